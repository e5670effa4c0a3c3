/- A part of the proofs of this seat: a small logic of walks, plain laws, and what some of the program's functions compute, shown by walks through their code. Conditions: the hypotheses that each theorem names. -/
import Derived.Test.YthcoaljmgkhglaaZOTop2
import Derived.Lib.AppendZeros
import Derived.WideKeyRuns
import Derived.Laws.IdiomStrings
import Derived.Test.YthcoaljmgkhglaaRows
import Derived.WalkKit
set_option linter.unusedSimpArgs false
set_option linter.unusedVariables false
set_option linter.unusedSectionVars false
namespace Go.Sx
open Go Go.RowKit
section
variable {r : Option Nat} {P : Program} {n : Nat} {D : List Deferred} {w0 : World} {F : List (Nat × Value)} {L : List Ent} {Q : Exit → Act → World → Prop}
def AgainD {σ : Type} (n : Nat) (Ds : σ → List Deferred) (w0 : World) (Fs : σ → List (Nat × Value)) (Ls : σ → List Ent) (I : σ → Prop) (μ : σ → Nat) (s : σ) : Act → World → Prop :=
  fun a w => ∃ s', I s' ∧ μ s' < μ s ∧ Fr n (Ds s') (Fs s') a ∧ Rep w0 w (Ls s')
def MeetD {σ : Type} (n : Nat) (Ds : σ → List Deferred) (w0 : World) (Fs : σ → List (Nat × Value)) (Ls : σ → List Ent) (I : σ → Prop) : Act → World → Prop :=
  fun a w => ∃ s, I s ∧ Fr n (Ds s) (Fs s) a ∧ Rep w0 w (Ls s)
theorem c_loopD {c : Code} {σ : Type} (Ds : σ → List Deferred) (Fs : σ → List (Nat × Value)) (Ls : σ → List Ent) (I : σ → Prop) (μ : σ → Nat) (s0 : σ) (hI : I s0) (hD : D = Ds s0) (hF : FSub (Fs s0) F) (hL : HSub (Ls s0) L)
    (round : ∀ s, I s → St n (Ds s) w0 (Fs s) (Ls s) (WC r P c (Exit.then (AgainD n Ds w0 Fs Ls I μ s) Q))) :
    St n D w0 F L (WC r P (.loop c) Q) := by
  intro a w ha hw b k cs hro hb hr
  have key : ∀ (m : Nat) (s : σ), μ s = m → I s → ∀ a w, Fr n (Ds s) (Fs s) a → Rep w0 w (Ls s) →
      ∃ e a' w', Q e a' w' ∧ ArrivesIn (Machine.fenced P (FR r)) P (lone (b.atR a (.code c :: .inLoop c :: k)) cs w) b k cs e a' w' := by
    intro m
    induction m using Nat.strongRecOn with
    | _ m ih =>
      intro s hm hIs a w ha hw
      obtain ⟨e, a₁, w₁, hq, harr⟩ := round s hIs a w ha hw b (.inLoop c :: k) cs hro hb hr
      cases e with
      | normal =>
        obtain ⟨s', hI', hlt, ha', hw'⟩ := hq
        obtain ⟨e₂, a₂, w₂, hq₂, harr₂⟩ := ih (μ s') (hm ▸ hlt) s' rfl hI' a₁ w₁ ha' hw'
        exact ⟨e₂, a₂, w₂, hq₂, .of_steps (StepsIn.trans harr (.one (fenced_calm hb hr rfl) stepR_inLoop)) harr₂⟩
      | exit id => exact ⟨_, a₁, w₁, hq, .pass (x := .inLoop c) rfl (fun _ _ => .inl (by simp)) harr⟩
      | goto l => exact ⟨_, a₁, w₁, hq, .pass (x := .inLoop c) rfl (fun _ _ => .inl (by simp)) harr⟩
      | ret => exact ⟨_, a₁, w₁, hq, .pass (x := .inLoop c) rfl (fun _ _ => .inl (by simp)) harr⟩
      | panic ch => exact ⟨_, a₁, w₁, hq, .pass (x := .inLoop c) rfl (fun _ _ => .inl (by simp)) harr⟩
      | outgrown => exact ⟨_, a₁, w₁, hq, .pass (x := .inLoop c) rfl (fun _ _ => .inl (by simp)) harr⟩
  subst hD
  obtain ⟨e, a', w', hq, harr⟩ := key _ s0 rfl hI a w (ha.sub hF) (hw.sub hL)
  exact ⟨e, a', w', hq, .of_steps (.one (fenced_calm hb hr rfl) stepR_loop) harr⟩
theorem l_againD {σ : Type} {Ds : σ → List Deferred} {Fs : σ → List (Nat × Value)} {Ls : σ → List Ent} {I : σ → Prop} {μ : σ → Nat} {s : σ} (s' : σ) (hI : I s') (hμ : μ s' < μ s) (hD : D = Ds s') (hF : FSub (Fs s') F) (hL : HSub (Ls s') L) :
    St n D w0 F L (AgainD n Ds w0 Fs Ls I μ s) :=
  fun _ _ ha hw => ⟨s', hI, hμ, hD ▸ ha.sub hF, hw.sub hL⟩
/-- Ways that meet behind some code. -/
theorem c_post {x : Code} {σ : Type} (Ds : σ → List Deferred) (Fs : σ → List (Nat × Value)) (Ls : σ → List Ent) (I : σ → Prop)
    (h1 : St n D w0 F L (WC r P x (Exit.then (MeetD n Ds w0 Fs Ls I) Q))) (h2 : ∀ s, I s → St n (Ds s) w0 (Fs s) (Ls s) (Q .normal)) : St n D w0 F L (WC r P x Q) := by
  refine h1.imp fun a w h => wpIn_mono h ?_
  intro e a' w' hq
  cases e with
  | normal => obtain ⟨s, hI, ha, hw⟩ := hq; exact h2 s hI a' w' ha hw
  | _ => exact hq
theorem l_meetD {σ : Type} {Ds : σ → List Deferred} {Fs : σ → List (Nat × Value)} {Ls : σ → List Ent} {I : σ → Prop} (s : σ) (hI : I s) (hD : D = Ds s) (hF : FSub (Fs s) F) (hL : HSub (Ls s) L) :
    St n D w0 F L (MeetD n Ds w0 Fs Ls I) :=
  fun _ _ ha hw => ⟨s, hI, hD ▸ ha.sub hF, hw.sub hL⟩
/-- The blocks of the loops over functions that have ended. -/
def MB (bds : List Nat) : List Ent := bds.map fun b => ⟨b, .deferred (some []), true⟩
def MBn (bds : List Nat) : List Ent := bds.map fun b => ⟨b, .deferred none, true⟩
theorem MB_own (bds : List Nat) : ∀ x ∈ MB bds, x.own = true := fun x hx => by
  obtain ⟨b, _, rfl⟩ := List.mem_map.1 hx; rfl
theorem MBn_own (bds : List Nat) : ∀ x ∈ MBn bds, x.own = true := fun x hx => by
  obtain ⟨b, _, rfl⟩ := List.mem_map.1 hx; rfl
theorem MB_cons (b : Nat) (bds : List Nat) : MB (b :: bds) = ⟨b, .deferred (some []), true⟩ :: MB bds := rfl
theorem RemL.cons {e : Ent} {M M1 M' N : List Ent} (h1 : Rem M e M1) (h2 : RemL M1 N M') : RemL M (e :: N) M' := h1.perm.trans (List.Perm.cons e h2)
theorem leaves_marks {fn : Func} {R : Ending → World → Prop} {tmps : Array Value} {v : Value} {w0 : World} {L0 : List Ent} : ∀ (bds : List Nat) (X : List Ent) (w : World), Rep w0 w (X ++ (MB bds ++ L0)) →
    (∀ w', Rep w0 w' (X ++ (MBn bds ++ L0)) → (results fn tmps).run P w' = .ok v w' ∧ R (.returned v) w') → LeavesInM (FR none) 0 P fn tmps R (bds.map mark) .returning w
  | [], X, w, hw, h => ⟨v, (h w hw).1, (h w hw).2⟩
  | b :: bds, X, w, hw, h => by
    have hw1 : Rep w0 w (X ++ (⟨b, .deferred (some []), true⟩ :: (MB bds ++ L0))) := hw
    have hu : Upd (X ++ (⟨b, .deferred (some []), true⟩ :: (MB bds ++ L0))) b (.deferred (some [])) (.deferred none) (X ++ (⟨b, .deferred none, true⟩ :: (MB bds ++ L0))) := Upd.right .hd
    have hw2 : Rep w0 (w.putObj b (.deferred none)) (X ++ (⟨b, .deferred none, true⟩ :: (MB bds ++ L0))) := hw1.upd hu
    refine ⟨by simp, .inl ⟨b, w.putObj b (.deferred none), rfl, run_takeDeferred (hw1.at hu.at), ?_⟩⟩
    refine leaves_marks bds (X ++ [⟨b, .deferred none, true⟩]) _ (by simpa using hw2) fun w' hw' => h w' ?_
    have : (X ++ [⟨b, .deferred none, true⟩]) ++ (MBn bds ++ L0) = X ++ (MBn (b :: bds) ++ L0) := by simp [MBn]
    rwa [this] at hw'
theorem r_Mk {fn : Func} {R : Ending → World → Prop} {v : Value} {bds : List Nat} {L0 : List Ent} (hr : RemL L (MB bds) L0) (hres : ∀ a w, Fr n (bds.map mark) F a → Rep w0 w (MBn bds ++ L0) → (results fn a.tmps).run P w = .ok v w)
    (h : ∀ w, Rep w0 w (MBn bds ++ L0) → R (.returned v) w) : St n (bds.map mark) w0 F L (BM P fn R .ret) :=
  fun a w ha hw => by
    show LeavesInM (FR none) 0 P fn a.tmps R a.defers .returning w
    rw [ha.defers]
    exact leaves_marks bds [] w (by simpa using hw.perm hr) fun w' hw' => ⟨hres a w' ha (by simpa using hw'), h w' (by simpa using hw')⟩
variable {ops : Array Oper} {d : Tmp} {ty : TypeId} {pos : String} {af : Array Edge} {rest : List Oper}
theorem o_cap {t e : TypeId} {x : Operand} {a0 : Option Addr} {len cap : Nat} (hU : TU P t (.slice e)) (hx : ev F x = some (.slice a0 len cap)) (hd : Nat.ble (d + 1) n = true)
    (h : St n D w0 ((d, .int .i64 cap) :: F) L (WL r P ops Q rest)) : St n D w0 F L (WL r P ops Q (⟨some d, .call ⟨.builtin .cap, #[x], #[t]⟩, ty, pos, af, none⟩ :: rest)) :=
  o_val rfl hd (fun a w ha _ => by simp [execOp, resolve, invoke, builtin, Builtin.cap_, ha.eval hx, run_under (TU.h (P := P) (t := t)), goInt]) h
theorem run_app2 {x y : Operand} {t tn : TypeId} {a : Act} {w w' : World} {u v res : Value} {g : Option (Nat × Bool)} (hx : a.eval x = u) (hy : a.eval y = v)
    (h : (Builtin.append_ #[t, tn] ty #[u, v]).run P w = .ok res w') :
    (execOp a.eval ⟨some d, .call ⟨.builtin .append, #[x, y], #[t, tn]⟩, ty, pos, af, g⟩).run P w = .ok (.value res) w' := by
  simp [execOp, resolve, invoke, builtin, hx, hy, h]
/-- Zeros appended to nothing. -/
theorem o_appZ {t tn e : TypeId} {k bytes : Nat} {z : Value} {x y : Operand} {kk kn : IntKind} {m : Nat} (hU : TU P t (.slice e)) (hN : TU P tn (.int kn)) (hE : TE P e k bytes z) (hzk : z.cells.size = k) (hk : 0 < k)
    (hx : ev F x = some (.slice none 0 0)) (hy : ev F y = some (.int kk m)) (hm : 0 < m ∧ (m : Int) ≤ 9223372036854775807 ∧ m * bytes ≤ 281474976710656) (hd : Nat.ble (d + 1) n = true)
    (h : ∀ b cap s, m ≤ cap → s.length = cap * k → St n D w0 ((d, .slice (some ⟨b, 0, none⟩) m cap) :: F) (⟨b, Ce s e, true⟩ :: L) (WL r P ops Q rest)) :
    St n D w0 F L (WL r P ops Q (⟨some d, .call ⟨.builtin .append, #[x, y], #[t, tn]⟩, ty, pos, af, none⟩ :: rest)) :=
  o_plain rfl rfl fun a w ha hw => by
    obtain ⟨i, hi, hz, hik, hib⟩ := hE.h
    subst hik hib
    have hrun := Go.Lib.run_append_nil_zeros (P := P) w t tn ty e i z kk kn hU.h hN.h hi hz m hm.1 hk hm.2.1 hm.2.2
    rw [run_app2 (ha.eval hx) (ha.eval hy) hrun]
    have hge := grownCap_ge w m 0 e
    have hce : Builtin.zeroCells z.cells m ++ Builtin.zeroCells z.cells (grownCap w m 0 e - m) = (Builtin.zeroCells z.cells m ++ Builtin.zeroCells z.cells (grownCap w m 0 e - m)).toList.toArray := by
      simp
    rw [hce]
    refine h _ _ _ hge ?_ _ _ (ha.put (Nat.le_of_ble_eq_true hd) _) (hw.drew.alloc (Ce (Builtin.zeroCells z.cells m ++ Builtin.zeroCells z.cells (grownCap w m 0 e - m)).toList e))
    rw [Array.length_toList, Array.size_append, size_zeroCells, size_zeroCells, hzk, ← Nat.add_mul]
    congr 1; omega
end
end Go.Sx
namespace Go.Sx
open Go Go.RowKit
/-! ## lists of pairs -/
section
variable {K V : Type} [DecidableEq K]
/-- The value at a key. -/
def asF (k : K) : List (K × V) → Option V
  | [] => none
  | p :: r => if p.1 = k then some p.2 else asF k r
/-- A value put at a key. -/
def putF (k : K) (v : V) : List (K × V) → List (K × V)
  | [] => [(k, v)]
  | p :: r => if p.1 = k then (k, v) :: r else p :: putF k v r
theorem asF_none {k : K} : ∀ {l : List (K × V)}, asF k l = none ↔ ∀ p ∈ l, p.1 ≠ k
  | [] => by simp [asF]
  | p :: r => by
    rw [asF]
    by_cases h : p.1 = k
    · simp [h]
    · simp [h, asF_none (l := r)]
theorem asF_some {k : K} {v : V} : ∀ {l : List (K × V)}, asF k l = some v → ∃ j : Nat, l[j]? = some (k, v)
  | p :: r, h => by
    rw [asF] at h
    by_cases e : p.1 = k
    · rw [if_pos e] at h; cases h; subst e; exact ⟨0, rfl⟩
    · rw [if_neg e] at h
      obtain ⟨j, hj⟩ := asF_some h
      exact ⟨j + 1, by simpa using hj⟩
theorem asF_at {k : K} {v : V} : ∀ {l : List (K × V)} {j : Nat}, (l.map Prod.fst).Nodup → l[j]? = some (k, v) → asF k l = some v
  | [], _, _, h => by simp at h
  | p :: r, 0, _, h => by simp at h; subst h; simp [asF]
  | p :: r, j + 1, hn, h => by
    rw [List.map_cons, List.nodup_cons] at hn
    have h' : r[j]? = some (k, v) := by simpa using h
    have hne : p.1 ≠ k := fun e => hn.1 (List.mem_map.2 ⟨(k, v), List.mem_of_getElem? h', e.symm⟩)
    rw [asF, if_neg hne]
    exact asF_at hn.2 h'
theorem putF_new {k : K} {v : V} : ∀ {l : List (K × V)}, asF k l = none → putF k v l = l ++ [(k, v)]
  | [], _ => rfl
  | p :: r, h => by
    rw [asF] at h
    by_cases e : p.1 = k
    · rw [if_pos e] at h; cases h
    · rw [if_neg e] at h
      rw [putF, if_neg e, putF_new h]; rfl
theorem putF_set {k : K} {u v : V} : ∀ {l : List (K × V)} {j : Nat}, (l.map Prod.fst).Nodup → l[j]? = some (k, u) → putF k v l = l.set j (k, v)
  | [], _, _, h => by simp at h
  | p :: r, 0, _, h => by simp at h; subst h; simp [putF]
  | p :: r, j + 1, hn, h => by
    rw [List.map_cons, List.nodup_cons] at hn
    have h' : r[j]? = some (k, u) := by simpa using h
    have hne : p.1 ≠ k := fun e => hn.1 (List.mem_map.2 ⟨(k, u), List.mem_of_getElem? h', e.symm⟩)
    rw [putF, if_neg hne, putF_set hn.2 h']; rfl
theorem asF_put (k x : K) (v : V) : ∀ l : List (K × V), asF x (putF k v l) = if k = x then some v else asF x l
  | [] => by simp [putF, asF]
  | p :: r => by
    rw [putF]
    by_cases e : p.1 = k
    · rw [if_pos e, asF, asF]
      by_cases ex : k = x
      · simp [ex]
      · simp [ex, show p.1 ≠ x from e ▸ ex]
    · rw [if_neg e, asF, asF, asF_put k x v r]
      by_cases ex : p.1 = x
      · have : k ≠ x := fun h => e (ex.trans h.symm)
        simp [ex, this]
      · simp [ex]
end
/-! ## what a map holds -/
/-- The entries of a list of pairs. -/
def MM {K V : Type} (κ : K → Value) (ν : V → Value) (l : List (K × V)) : List (Value × Value) := l.map fun p => (κ p.1, ν p.2)
/-- How a type of keys behaves at the keys that an encoding lays. -/
class KL (P : Program) (kt : TypeId) {K : Type} (κ : K → Value) : Prop where
  inj : ∀ a b, κ a = κ b → a = b
  check : ∀ (e : Bool) (w : World) (a : K), (Instr.checkKey e 10000 kt (κ a)).run P w = .ok () w
  find : ∀ (w : World) (a : K) (es : List MapEntry), (∀ e ∈ es, ∃ b, e.key = κ b) →
    ((Instr.findKey kt (κ a) es).run P w = .ok none w ∧ ∀ e ∈ es, e.key ≠ κ a) ∨ ∃ j e, (Instr.findKey kt (κ a) es).run P w = .ok (some (j, e.val)) w ∧ es[j]? = some e ∧ e.key = κ a
  stays : ∀ (w : World) (a : K), (Instr.keyThatStays (κ a) (κ a)).run P w = .ok (κ a) w
def kI (x : Int) : Value := .int .i64 x
def vB (x : Bool) : Value := .bool x
instance {P : Program} {kt : TypeId} [hV : TU P kt (.int .i64)] : KL P kt kI where
  inj := fun a b h => by cases h; rfl
  check := fun e w a => MapKept.run_checkKey (k := kI a) hV.h (show MapKept.IsKey (.int .i64) (.int .i64 a) from rfl) e 9999
  find := fun w a es hall => by
    rcases MapKept.findNow_spec (d := .int .i64) (k := kI a) (show MapKept.IsKey (.int .i64) (.int .i64 a) from rfl) es 0 (fun x hx => by obtain ⟨b, hb⟩ := hall x hx; rw [hb]; exact (rfl : IntKind.i64 = IntKind.i64)) with ⟨h1, h2⟩ | ⟨j, e, h1, h2, h3⟩
    · exact .inl ⟨MapKept.run_findKey hV.h h1, h2⟩
    · exact .inr ⟨j, e, by rw [Nat.zero_add] at h1; exact MapKept.run_findKey hV.h h1, h2, h3⟩
  stays := fun w a => MapKept.run_keyThatStays (d := .int .i64) (k := kI a) (show MapKept.IsKey (.int .i64) (.int .i64 a) from rfl)
theorem KL.out {P : Program} {kt : TypeId} {K V : Type} [DecidableEq K] {κ : K → Value} (h : KL P kt κ) {ν : V → Value} {l : List (K × V)} {k : K} (hk : asF k l = none) (w : World) : (Instr.findKey kt (κ k) (mkEs 0 (MM κ ν l))).run P w = .ok none w := by
  rcases h.find w k (mkEs 0 (MM κ ν l)) (fun e he => by
    obtain ⟨p, _, hp⟩ := List.mem_map.1 (mkEs_mem he)
    exact ⟨p.1, (congrArg Prod.fst hp).symm⟩) with ⟨h1, _⟩ | ⟨j, e, _, h2, h3⟩
  · exact h1
  · obtain ⟨p, hp, e1⟩ := List.mem_map.1 (mkEs_mem (List.mem_of_getElem? h2))
    exact absurd (h.inj _ _ ((congrArg Prod.fst e1).trans h3)) (asF_none.1 hk p hp)
theorem KL.at {P : Program} {kt : TypeId} {K V : Type} [DecidableEq K] {κ : K → Value} (h : KL P kt κ) {ν : V → Value} {l : List (K × V)} {k : K} {v : V} (hn : (l.map Prod.fst).Nodup) {j : Nat} (hj : l[j]? = some (k, v)) (w : World) :
    (Instr.findKey kt (κ k) (mkEs 0 (MM κ ν l))).run P w = .ok (some (j, ν v)) w := by
  have hget : (mkEs 0 (MM κ ν l))[j]? = some ⟨κ k, ν v, 0 + j⟩ := by rw [mkEs_get, MM, List.getElem?_map, hj]; rfl
  rcases h.find w k (mkEs 0 (MM κ ν l)) (fun e he => by
    obtain ⟨p, _, hp⟩ := List.mem_map.1 (mkEs_mem he)
    exact ⟨p.1, (congrArg Prod.fst hp).symm⟩) with ⟨_, h2⟩ | ⟨i, e, h1, h2, h3⟩
  · exact absurd rfl (h2 _ (List.mem_of_getElem? hget))
  · rw [h1]
    have h2' := h2
    rw [mkEs_get, MM, List.getElem?_map] at h2
    cases hl : l[i]? with
    | none => rw [hl] at h2; cases h2
    | some p =>
      rw [hl] at h2
      simp only [Option.map_some, Option.some.injEq] at h2
      have hp : p.1 = k := h.inj _ _ (by rw [← h3, ← h2])
      have hij : i = j := by
        have hi := List.getElem?_eq_some_iff.1 hl
        have hj' := List.getElem?_eq_some_iff.1 hj
        have q1 : (l.map Prod.fst)[i]'(by simpa using hi.1) = k := by simp [hi.2, hp]
        have q2 : (l.map Prod.fst)[j]'(by simpa using hj'.1) = k := by simp [hj'.2]
        have hpw := List.pairwise_iff_getElem.1 hn
        rcases Nat.lt_trichotomy i j with hlt | heq | hgt
        · exact absurd (q1.trans q2.symm) (hpw i j (by simpa using hi.1) (by simpa using hj'.1) hlt)
        · exact heq
        · exact absurd (q2.trans q1.symm) (hpw j i (by simpa using hj'.1) (by simpa using hi.1) hgt)
      subst hij
      rw [hl] at hj; cases hj
      rw [← h2]
theorem mapsM_get {K V : Type} {κ : K → Value} {ν : V → Value} {l : List (K × V)} {k : K} {v : V} {j : Nat} (hj : l[j]? = some (k, v)) : (mkEs 0 (MM κ ν l))[j]? = some ⟨κ k, ν v, j⟩ := by
  rw [mkEs_get, MM, List.getElem?_map, hj, Nat.zero_add]; rfl
theorem mapsM_set {K V : Type} {κ : K → Value} {ν : V → Value} {l : List (K × V)} {k : K} {u v : V} {j : Nat} (hj : l[j]? = some (k, u)) :
    MO (MM κ ν (l.set j (k, v))) = .map ((mkEs 0 (MM κ ν l)).toArray.modify j fun e => { e with key := κ k, val := ν v }) (MM κ ν l).length := by
  have hlt := (List.getElem?_eq_some_iff.1 hj).1
  have e1 : MM κ ν (l.set j (k, v)) = (MM κ ν l).set j (κ k, ν v) := by simp [MM, List.map_set]
  have hm : (MM κ ν l)[j]? = some (κ k, ν u) := by rw [MM, List.getElem?_map, hj]; rfl
  rw [e1]
  simp only [MO, List.length_set]
  congr 1
  apply Array.ext'
  simp only [Array.toList_modify]
  apply List.ext_getElem?
  intro i
  rw [mkEs_get, List.getElem?_modify, mkEs_get, List.getElem?_set]
  have hlt' : j < (MM κ ν l).length := (List.getElem?_eq_some_iff.1 hm).1
  by_cases e : j = i
  · subst e
    simp [hlt', hm]
  · simp [e]
theorem mapsM_push {K V : Type} {κ : K → Value} {ν : V → Value} {l : List (K × V)} {k : K} {v : V} : MO (MM κ ν (l ++ [(k, v)])) = .map ((mkEs 0 (MM κ ν l)).toArray.push ⟨κ k, ν v, (MM κ ν l).length⟩) ((MM κ ν l).length + 1) := by
  simp [MO, MM, mkEs_app, mkEs]
section
variable {r : Option Nat} {P : Program} {n : Nat} {D : List Deferred} {w0 : World} {F : List (Nat × Value)} {L L' : List Ent} {Q : Exit → Act → World → Prop} {ops : Array Oper}
variable {d : Tmp} {ty : TypeId} {pos : String} {af : Array Edge} {rest : List Oper} {K V : Type} [DecidableEq K]
theorem o_lookM_out {κ : K → Value} {ν : V → Value} {t kt e : TypeId} {x y : Operand} {b : Nat} {z : Value} {zl : List Value} {l : List (K × V)} {k : K} (hU : TU P t (.map kt e)) (hK : KL P kt κ) (hZ : TZ P e z zl) (hx : ev F x = some (.map (some b))) (hy : ev F y = some (κ k))
    (hk : Kn w0 L b (MO (MM κ ν l))) (ho : asF k l = none) (hd : Nat.ble (d + 1) n = true)
    (h : St n D w0 ((d, z) :: F) L (WL r P ops Q rest)) : St n D w0 F L (WL r P ops Q (⟨some d, .lookup t x y false, ty, pos, af, none⟩ :: rest)) :=
  o_val rfl hd (fun a w ha hw => by
    have hb := hk w hw
    have h1 := MapKept.run_getObj_map (P := P) hb
    simp [execOp, Instr.lookup, ha.eval hx, ha.eval hy, run_under (TU.h (P := P) (t := t)), h1, hK.check, hK.out ho w, TZ.h (P := P) (t := e)]) h
theorem o_lookM_in {κ : K → Value} {ν : V → Value} {t kt e : TypeId} {x y : Operand} {b : Nat} {l : List (K × V)} {k : K} {v : V} (hU : TU P t (.map kt e)) (hK : KL P kt κ) (hx : ev F x = some (.map (some b))) (hy : ev F y = some (κ k))
    (hk : Kn w0 L b (MO (MM κ ν l))) (hn : (l.map Prod.fst).Nodup) (ho : asF k l = some v) (hd : Nat.ble (d + 1) n = true)
    (h : St n D w0 ((d, ν v) :: F) L (WL r P ops Q rest)) : St n D w0 F L (WL r P ops Q (⟨some d, .lookup t x y false, ty, pos, af, none⟩ :: rest)) :=
  o_val rfl hd (fun a w ha hw => by
    have hb := hk w hw
    have h1 := MapKept.run_getObj_map (P := P) hb
    obtain ⟨j, hj⟩ := asF_some ho
    simp [execOp, Instr.lookup, ha.eval hx, ha.eval hy, run_under (TU.h (P := P) (t := t)), h1, hK.check, hK.at hn hj w]) h
theorem o_mapPut {κ : K → Value} {ν : V → Value} {t kt e : TypeId} {x y z : Operand} {b : Nat} {l : List (K × V)} {k : K} {v : V} (hU : TU P t (.map kt e)) (hK : KL P kt κ) (hx : ev F x = some (.map (some b))) (hy : ev F y = some (κ k)) (hz : ev F z = some (ν v))
    (hat : At L b (MO (MM κ ν l))) (hn : (l.map Prod.fst).Nodup) (hu : Upd L b (MO (MM κ ν l)) (MO (MM κ ν (putF k v l))) L')
    (h : St n D w0 F L' (WL r P ops Q rest)) : St n D w0 F L (WL r P ops Q (⟨none, .mapUpdate t x y z, ty, pos, af, none⟩ :: rest)) :=
  o_plain rfl rfl fun a w ha hw => by
    have hb := hw.at hu.at
    have h1 := MapKept.run_getObj_map (P := P) hb
    have hr : (execOp a.eval ⟨none, .mapUpdate t x y z, ty, pos, af, none⟩).run P w = .ok .skip { w with heap := w.heap.setIfInBounds b (MO (MM κ ν (putF k v l))) } := by
      cases ho : asF k l with
      | none =>
        rw [putF_new ho, mapsM_push]
        simp [execOp, Instr.mapUpdate, ha.eval hx, ha.eval hy, ha.eval hz, run_under (TU.h (P := P) (t := t)), h1, hK.check, hK.out ho w, MapKept.run_setObj_map _ hb]
      | some u =>
        obtain ⟨j, hj⟩ := asF_some ho
        rw [putF_set hn hj, mapsM_set hj]
        simp [execOp, Instr.mapUpdate, ha.eval hx, ha.eval hy, ha.eval hz, run_under (TU.h (P := P) (t := t)), h1, hK.check, hK.at hn hj w, MapKept.run_setObj_map _ hb, mapsM_get hj, hK.stays]
    rw [hr]
    obtain ⟨g1, g2⟩ := MapKept.heap_set (o' := MO (MM κ ν (putF k v l))) hb
    exact h _ _ (ha.put_none _) (hw.turn hu rfl rfl rfl (by simp) g1 g2)
/-- The entry at a key that is there. -/
theorem o_entry_in {κ : K → Value} {ν : V → Value} {t kt e : TypeId} {x y : Operand} {b : Nat} {l : List (K × V)} {k : K} {v : V} (j : Nat) (hU : TU P t (.map kt e)) (hK : KL P kt κ) (hx : ev F x = some (.map (some b))) (hy : ev F y = some (κ k))
    (hat : At L b (MO (MM κ ν l))) (hn : (l.map Prod.fst).Nodup) (hj : l[j]? = some (k, v)) (hu : Upd L b (MO (MM κ ν l)) (MO (MM κ ν l)) L') (hd : Nat.ble (d + 1) n = true)
    (h : St n D w0 ((d, .tuple #[ν v, .int .i64 j]) :: F) L' (WL r P ops Q rest)) : St n D w0 F L (WL r P ops Q (⟨some d, .mapEntry t x y, ty, pos, af, none⟩ :: rest)) :=
  o_plain rfl rfl fun a w ha hw => by
    have hb := hw.at hu.at
    have h1 := MapKept.run_getObj_map (P := P) hb
    have hset : ((mkEs 0 (MM κ ν l)).modify j fun e => { e with key := κ k }) = mkEs 0 (MM κ ν l) := by
      apply List.ext_getElem?
      intro i
      rw [List.getElem?_modify]
      by_cases e : j = i
      · subst e
        have hg : (mkEs 0 (MM κ ν l))[j]? = some ⟨κ k, ν v, j⟩ := mapsM_get hj
        simp [hg]
      · simp [e]
    have hr : (execOp a.eval ⟨some d, .mapEntry t x y, ty, pos, af, none⟩).run P w = .ok (.value (.tuple #[ν v, .int .i64 j])) { w with heap := w.heap.setIfInBounds b (MO (MM κ ν l)) } := by
      simp [execOp, Instr.mapEntry, ha.eval hx, ha.eval hy, run_under (TU.h (P := P) (t := t)), h1, hK.check, hK.at hn hj w, MapKept.run_setObj_map _ hb, mapsM_get (κ := κ) (ν := ν) hj, hK.stays, hset, goInt, MO]
    rw [hr]
    obtain ⟨g1, g2⟩ := MapKept.heap_set (o' := MO (MM κ ν l)) hb
    exact h _ _ (ha.put (Nat.le_of_ble_eq_true hd) _) (hw.turn hu rfl rfl rfl (by simp) g1 g2)
/-- The entry at a key that was not there. -/
theorem o_entry_out {κ : K → Value} {ν : V → Value} {t kt e : TypeId} {x y : Operand} {b : Nat} {z : Value} {zl : List Value} {l : List (K × V)} {k : K} (v : V) (hv : ν v = z) (hU : TU P t (.map kt e)) (hK : KL P kt κ) (hZ : TZ P e z zl) (hx : ev F x = some (.map (some b))) (hy : ev F y = some (κ k))
    (hat : At L b (MO (MM κ ν l))) (ho : asF k l = none) (hu : Upd L b (MO (MM κ ν l)) (MO (MM κ ν (l ++ [(k, v)]))) L') (hd : Nat.ble (d + 1) n = true)
    (h : St n D w0 ((d, .tuple #[z, .int .i64 l.length]) :: F) L' (WL r P ops Q rest)) : St n D w0 F L (WL r P ops Q (⟨some d, .mapEntry t x y, ty, pos, af, none⟩ :: rest)) :=
  o_plain rfl rfl fun a w ha hw => by
    have hb := hw.at hu.at
    have h1 := MapKept.run_getObj_map (P := P) hb
    have hr : (execOp a.eval ⟨some d, .mapEntry t x y, ty, pos, af, none⟩).run P w = .ok (.value (.tuple #[z, .int .i64 l.length])) { w with heap := w.heap.setIfInBounds b (MO (MM κ ν (l ++ [(k, v)]))) } := by
      have hlen : (MM κ ν l).length = l.length := by simp [MM]
      rw [mapsM_push, hv, ← hlen]
      simp [execOp, Instr.mapEntry, ha.eval hx, ha.eval hy, run_under (TU.h (P := P) (t := t)), h1, hK.check, hK.out ho w, MapKept.run_setObj_map _ hb, TZ.h (P := P) (t := e), goInt]
    rw [hr]
    obtain ⟨g1, g2⟩ := MapKept.heap_set (o' := MO (MM κ ν (l ++ [(k, v)]))) hb
    exact h _ _ (ha.put (Nat.le_of_ble_eq_true hd) _) (hw.turn hu rfl rfl rfl (by simp) g1 g2)
theorem mkEs_findIdx : ∀ (m : List (Value × Value)) (i j : Nat), j < m.length → ((mkEs i m).findIdx? fun e => (e.born : Int) == ((i + j : Nat) : Int)) = some j
  | [], i, j, h => by simp at h
  | p :: r, i, 0, _ => by simp [mkEs, List.findIdx?_cons]
  | p :: r, i, j + 1, h => by
    have ih := mkEs_findIdx r (i + 1) j (by simpa using h)
    have hne : ¬ ((i : Int) = ((i + (j + 1) : Nat) : Int)) := by omega
    rw [mkEs, List.findIdx?_cons]
    simp only [beq_iff_eq, hne, if_false]
    rw [show i + (j + 1) = i + 1 + j from by omega, ih]; rfl
/-- A value stored at an entry. -/
theorem o_entryStore {κ : K → Value} {ν : V → Value} {t : TypeId} {x y z : Operand} {b j : Nat} {l l2 : List (K × V)} (k : K) (u v : V) (hx : ev F x = some (.map (some b))) (hy : ev F y = some (.int .i64 j)) (hz : ev F z = some (ν v))
    (hat : At L b (MO (MM κ ν l))) (hj : l[j]? = some (k, u)) (hl : l.set j (k, v) = l2) (hu : Upd L b (MO (MM κ ν l)) (MO (MM κ ν l2)) L')
    (h : St n D w0 F L' (WL r P ops Q rest)) : St n D w0 F L (WL r P ops Q (⟨none, .entryStore t x y z, ty, pos, af, none⟩ :: rest)) := by
  subst hl
  exact o_plain rfl rfl fun a w ha hw => by
    have hb := hw.at hu.at
    have h1 := MapKept.run_getObj_map (P := P) hb
    have hlt : j < (MM κ ν l).length := by rw [MM, List.length_map]; exact (List.getElem?_eq_some_iff.1 hj).1
    have hidx := mkEs_findIdx (MM κ ν l) 0 j hlt
    rw [Nat.zero_add] at hidx
    have hsame : ((mkEs 0 (MM κ ν l)).toArray.modify j fun e => { e with val := ν v }) = ((mkEs 0 (MM κ ν l)).toArray.modify j fun e => { e with key := κ k, val := ν v }) := by
      apply Array.ext'
      simp only [Array.toList_modify]
      apply List.ext_getElem?
      intro i
      rw [List.getElem?_modify, List.getElem?_modify]
      by_cases e : j = i
      · subst e
        have hg : (mkEs 0 (MM κ ν l))[j]? = some ⟨κ k, ν u, j⟩ := mapsM_get hj
        simp [hg]
      · simp [e]
    have hr : (execOp a.eval ⟨none, .entryStore t x y z, ty, pos, af, none⟩).run P w = .ok .skip { w with heap := w.heap.setIfInBounds b (MO (MM κ ν (l.set j (k, v)))) } := by
      rw [mapsM_set hj, ← hsame]
      simp [execOp, Instr.entryStore, ha.eval hx, ha.eval hy, ha.eval hz, h1, asInt, asIntOf, hidx, MapKept.run_setObj_map _ hb]
    rw [hr]
    obtain ⟨g1, g2⟩ := MapKept.heap_set (o' := MO (MM κ ν (l.set j (k, v)))) hb
    exact h _ _ (ha.put_none _) (hw.turn hu rfl rfl rfl (by simp) g1 g2)
end
end Go.Sx
namespace Go.Sx
open Go Go.RowKit
def kP (p : Int × Int) : Value := .agg #[.int .i64 p.1, .int .i64 p.2]
theorem kP_inj {a b : Int × Int} (h : kP a = kP b) : a = b := by
  have h1 : #[Value.int .i64 a.1, .int .i64 a.2] = #[Value.int .i64 b.1, .int .i64 b.2] := Value.agg.inj h
  have h2 := congrArg Array.toList h1
  simp at h2
  exact Prod.ext h2.1 h2.2
theorem run_askP {P : Program} {kt : TypeId} (hQ : TQ P kt [.int .i64, .int .i64]) (w : World) (a : Int × Int) : ∀ (es : List MapEntry) (i : Nat), (∀ e ∈ es, ∃ b, e.key = kP b) →
    ((Instr.findAsking kt (kP a) es i).run P w = .ok none w ∧ ∀ e ∈ es, e.key ≠ kP a) ∨ ∃ j e, (Instr.findAsking kt (kP a) es i).run P w = .ok (some (i + j, e.val)) w ∧ es[j]? = some e ∧ e.key = kP a
  | [], i, _ => .inl ⟨by simp [Instr.findAsking], by simp⟩
  | e :: es, i, hall => by
    obtain ⟨b, hb⟩ := hall e (by simp)
    have hr : (Op.equal kt (kP a) e.key).run P w = .ok (B (a.1 = b.1 ∧ a.2 = b.2)) w := by
      rw [hb]
      exact run_equal_flat hQ (xs := [.int .i64 a.1, .int .i64 a.2]) (ys := [.int .i64 b.1, .int .i64 b.2]) (EqP.int EqP.int1) w
    by_cases hab : a.1 = b.1 ∧ a.2 = b.2
    · rw [B_true hab] at hr
      exact .inr ⟨0, e, by simp [Instr.findAsking, hr], rfl, by rw [hb, Prod.ext hab.1 hab.2]⟩
    · rw [B_false hab] at hr
      have hne : e.key ≠ kP a := fun h => hab (by
        have := kP_inj (hb.symm.trans h)
        subst this
        exact ⟨rfl, rfl⟩)
      rcases run_askP hQ w a es (i + 1) (fun y hy => hall y (by simp [hy])) with ⟨h1, h2⟩ | ⟨j, e', h1, h2, h3⟩
      · refine .inl ⟨by simp [Instr.findAsking, hr, h1], fun y hy => ?_⟩
        rcases List.mem_cons.1 hy with rfl | hy
        · exact hne
        · exact h2 y hy
      · exact .inr ⟨j + 1, e', by simp [Instr.findAsking, hr, h1, Nat.add_assoc, Nat.add_comm 1 j], by simpa using h2, h3⟩
instance {P : Program} {kt : TypeId} [hQ : TQ P kt [.int .i64, .int .i64]] : KL P kt kP where
  inj := fun a b h => kP_inj h
  check := fun e w a => by
    obtain ⟨fs, hu, hs, hg, hf⟩ := hQ.h
    obtain ⟨fl⟩ := fs
    cases fl with
    | nil => exact hf.elim
    | cons f1 fl =>
      obtain ⟨n1, o1, a1, u1, hf⟩ := hf
      cases fl with
      | nil => exact hf.elim
      | cons f2 fl =>
        obtain ⟨n2, o2, a2, u2, hf⟩ := hf
        cases fl with
        | cons _ _ => exact hf.elim
        | nil =>
          have m1 : f1.name ≠ "_" := by simpa using n1
          have m2 : f2.name ≠ "_" := by simpa using n2
          have p1 : (part f1.type #[Value.int .i64 a.1, .int .i64 a.2] f1.offset).run P w = .ok (.int .i64 a.1) w := by simp [part, a1, o1]
          have p2 : (part f2.type #[Value.int .i64 a.1, .int .i64 a.2] f2.offset).run P w = .ok (.int .i64 a.2) w := by simp [part, a2, o2]
          have c1 : (Instr.checkKey e 9999 f1.type (.int .i64 a.1)).run P w = .ok () w := MapKept.run_checkKey (k := .int .i64 a.1) u1 (show MapKept.IsKey (.int .i64) (.int .i64 a.1) from rfl) e 9998
          have c2 : (Instr.checkKey e 9999 f2.type (.int .i64 a.2)).run P w = .ok () w := MapKept.run_checkKey (k := .int .i64 a.2) u2 (show MapKept.IsKey (.int .i64) (.int .i64 a.2) from rfl) e 9998
          unfold Instr.checkKey kP
          simp [run_underlying hu, m1, m2, p1, p2, c1, c2, Result.andThen]
  find := fun w a es hall => by
    obtain ⟨fs, hu, hs, hg, hf⟩ := hQ.h
    rw [run_findKey_eq w (by rw [hu])]
    rcases run_askP hQ w a es 0 hall with h | ⟨j, e, h1, h2, h3⟩
    · exact .inl h
    · exact .inr ⟨j, e, by simpa using h1, h2, h3⟩
  stays := fun w a => by
    simp [Instr.keyThatStays, kP, Instr.sameBits]
section
variable {P : Program} {n : Nat} {D : List Deferred} {w0 : World} {F : List (Nat × Value)} {L L' : List Ent} {J J1 : Made} {Φ : Specs} {X : Act → World → Prop} {kq : Nat} {ops : Array Oper}
variable {d : Tmp} {ty : TypeId} {pos : String} {af : Array Edge} {rest : List Oper} {K V : Type} [DecidableEq K]
end
end Go.Sx
namespace Go.Sx
open Go Go.RowKit
section
variable {r : Option Nat} {P : Program} {n : Nat} {D : List Deferred} {w0 : World} {F : List (Nat × Value)} {L : List Ent} {Q : Exit → Act → World → Prop}
end
end Go.Sx
namespace Go.Sx
open Go Go.RowKit
theorem rV_ {P : Program} {n : Nat} {D : List Deferred} {w0 : World} {F : List (Nat × Value)} {L : List Ent} {r : ResultVar} {v : Value} (h : ResV P n D w0 F L r v := by ((focus ((first | exact rv_tmp rfl | (apply rv_cell; infer_instance; rfl; (first | exact Kn.old (by assumption) rfl | (apply Kn.oldA; assumption; ((focus (repeat (first | exact AO.nil | apply AO.cons | (apply AO.app; assumption)))) <;> fail)) | (apply Kn.apart; assumption; ((focus (repeat (first | exact Apart.nil | apply Apart.own | (apply Apart.given; assumption) | (apply Apart.app; assumption)))) <;> fail)) | (refine Kn.at ?_; ((focus (repeat (first | assumption | exact At.hd | refine At.tl ?_ | (refine At.left ?_; assumption) | refine At.right ?_))) <;> fail))); (repeat (first | exact Nth.z | apply Nth.s))) | (apply rv_cellA; infer_instance; infer_instance; rfl; (first | exact Kn.old (by assumption) rfl | (apply Kn.oldA; assumption; ((focus (repeat (first | exact AO.nil | apply AO.cons | (apply AO.app; assumption)))) <;> fail)) | (apply Kn.apart; assumption; ((focus (repeat (first | exact Apart.nil | apply Apart.own | (apply Apart.given; assumption) | (apply Apart.app; assumption)))) <;> fail)) | (refine Kn.at ?_; ((focus (repeat (first | assumption | exact At.hd | refine At.tl ?_ | (refine At.left ?_; assumption) | refine At.right ?_))) <;> fail))); rfl)))) <;> fail)) : ResV P n D w0 F L r v := h
theorem gG_ {c b : Bool} (h : c = b := by ((focus ((first | rfl | assumption | exact decide_eq_true (by first | assumption | omega) | exact B_true (by first | assumption | omega | decide) | rfl | assumption | exact decide_eq_false (by first | assumption | omega) | exact B_false (by first | assumption | omega | decide)))) <;> fail)) : c = b := h
theorem tT_ {t : Bool} (h : t = true := by ((focus ((first | rfl | assumption | exact decide_eq_true (by first | assumption | omega) | exact B_true (by first | assumption | omega | decide)))) <;> fail)) : t = true := h
theorem fF_ {t : Bool} (h : t = false := by ((focus ((first | rfl | assumption | exact decide_eq_false (by first | assumption | omega) | exact B_false (by first | assumption | omega | decide)))) <;> fail)) : t = false := h
theorem hS_ {L L1 : List Ent} (h : HSub L1 L := by ((focus (((try dsimp only); repeat (first | exact HSub.nil rfl | (apply HSub.take; (repeat (first | exact Rem.hd | apply Rem.tl | apply Rem.right))) | exact HSub.same | (apply HSub.takeL; ((focus (repeat (first | exact RemL.hd | exact RemL.all | exact RemL.nil | apply RemL.tl | apply RemL.right))) <;> fail)) | apply HSub.drop | (apply HSub.takeL; (focus ((repeat (first | exact RemL.hd | exact RemL.all | exact RemL.nil | apply RemL.tl | apply RemL.right))))) | (apply HSub.takeA; (first | exact RemL.hd | exact RemL.all); ((focus (repeat (first | exact AO.nil | apply AO.cons | (apply AO.app; assumption)))) <;> fail)) | (apply HSub.dropL; assumption) | (apply HSub.takeA; (focus ((repeat (first | exact RemL.hd | exact RemL.all | exact RemL.nil | apply RemL.tl | apply RemL.right)))); ((focus (repeat (first | exact AO.nil | apply AO.cons | (apply AO.app; assumption)))) <;> fail)) | (apply HSub.nilA; ((focus (repeat (first | exact AO.nil | apply AO.cons | (apply AO.app; assumption)))) <;> fail)))))) <;> fail)) : HSub L1 L := h
theorem kN_ {w0 : World} {L : List Ent} {b : Nat} {o : Obj} (h : Kn w0 L b o := by ((focus ((first | exact Kn.old (by assumption) rfl | (apply Kn.oldA; assumption; ((focus (repeat (first | exact AO.nil | apply AO.cons | (apply AO.app; assumption)))) <;> fail)) | (apply Kn.apart; assumption; ((focus (repeat (first | exact Apart.nil | apply Apart.own | (apply Apart.given; assumption) | (apply Apart.app; assumption)))) <;> fail)) | (refine Kn.at ?_; ((focus (repeat (first | assumption | exact At.hd | refine At.tl ?_ | (refine At.left ?_; assumption) | refine At.right ?_))) <;> fail))))) <;> fail)) : Kn w0 L b o := h
theorem uP_ {L L1 : List Ent} {b : Nat} {o o1 : Obj} (h : Upd L b o o1 L1 := by ((focus ((repeat (first | exact Upd.hd | apply Upd.tl | apply Upd.right)))) <;> fail)) : Upd L b o o1 L1 := h
theorem nT_ {k : Nat} {l : List Value} {v : Value} (h : Nth l k v := by ((focus ((repeat (first | exact Nth.z | apply Nth.s)))) <;> fail)) : Nth l k v := h
theorem sJ_ {J J1 : Made} {k : Nat} (h : SubJ k J1 J := by ((focus ((focus (repeat (first | (apply SubJ.keep; (decide +kernel)) | apply SubJ.drop | exact SubJ.nil))))) <;> fail)) : SubJ k J1 J := h
theorem eV_ {F : List (Nat × Value)} {l : List Value} {xs : List Operand} (h : Evs F xs l := by ((focus ((repeat (first | exact Evs.nil | apply Evs.cons rfl)))) <;> fail)) : Evs F xs l := h
theorem fS_ {F F1 : List (Nat × Value)} (h : FSub F1 F := by ((focus ((repeat (first | exact FSub.nil | refine FSub.cons rfl ?_)))) <;> fail)) : FSub F1 F := h
theorem aO_ {L : List Ent} (h : AO L := by ((focus (((focus (repeat (first | exact AO.nil | apply AO.cons | (apply AO.app; assumption)))) <;> fail))) <;> fail)) : AO L := h
theorem aT_ {L : List Ent} {b : Nat} {o : Obj} (h : At L b o := by ((focus (((focus (repeat (first | assumption | exact At.hd | refine At.tl ?_ | (refine At.left ?_; assumption) | refine At.right ?_))) <;> fail))) <;> fail)) : At L b o := h
theorem rL_ {L L1 L2 : List Ent} (h : RemL L L1 L2 := by ((focus ((repeat (first | exact RemL.hd | exact RemL.all | exact RemL.nil | apply RemL.tl | apply RemL.right)))) <;> fail)) : RemL L L1 L2 := h
end Go.Sx
namespace Go.Sx
open Go Go.RowKit
/-- Fields of one cell each: numbers, truths, texts. -/
inductive EqA : List TypeDesc → List Value → List Value → Prop
  | nil : EqA [] [] []
  | int {k k' : IntKind} {a c : Int} {ds : List TypeDesc} {xs ys : List Value} : EqA ds xs ys → EqA (.int k' :: ds) (.int k a :: xs) (.int k c :: ys)
  | bool {a c : Bool} {ds : List TypeDesc} {xs ys : List Value} : EqA ds xs ys → EqA (.bool :: ds) (.bool a :: xs) (.bool c :: ys)
  | str {a c : List UInt8} {ds : List TypeDesc} {xs ys : List Value} : EqA ds xs ys → EqA (.string :: ds) (str a :: xs) (str c :: ys)
def eq1 : Value → Value → Bool
  | .int _ a, .int _ c => a == c
  | .bool a, .bool c => a == c
  | .string a, .string c => a.toList == c.toList
  | _, _ => false
def eqA : List Value → List Value → Bool
  | u :: xs, v :: ys => eq1 u v && eqA xs ys
  | _, _ => true
theorem EqA.one {d : TypeDesc} {ds : List TypeDesc} {u v : Value} {xs ys : List Value} (h : EqA (d :: ds) (u :: xs) (v :: ys)) :
    EqA ds xs ys ∧ ∀ (P : Program) (fuel : Nat) (t : TypeId) (w : World), P.underlying t = some d → (Op.equalIn (fuel + 1) t u v).run P w = .ok (eq1 u v) w := by
  cases h with
  | @int k k' a c ds xs ys h' => exact ⟨h', fun P fuel t w hu => run_equalIn_int w fuel t k k' a c hu⟩
  | @bool a c ds xs ys h' => exact ⟨h', fun P fuel t w hu => run_equalIn_bool w fuel t a c hu⟩
  | @str a c ds xs ys h' => exact ⟨h', fun P fuel t w hu => run_equalIn_string w fuel t _ _ hu⟩
theorem run_eqFieldsA (fuel : Nat) : ∀ (fs : List Field) (ds : List TypeDesc) (P : Program) (i : Nat) (XS YS : List Value) (xs ys : List Value), Flat P i fs ds → EqA ds xs ys → (∀ j v, xs[j]? = some v → XS[i + j]? = some v) → (∀ j v, ys[j]? = some v → YS[i + j]? = some v) →
    ∀ w, (Op.eqFields (fuel + 1) XS.toArray YS.toArray fs).run P w = .ok (eqA xs ys) w
  | [], [], P, _, _, _, xs, ys, _, he, _, _, w => by cases he; simp [Op.eqFields, eqA]
  | [], _ :: _, _, _, _, _, _, _, hf, _, _, _, _ => hf.elim
  | _ :: _, [], _, _, _, _, _, _, hf, _, _, _, _ => hf.elim
  | f :: fs, d :: ds, P, i, XS, YS, xs, ys, hf, he, hx, hy, w => by
    obtain ⟨hn, ho, ha, hu, hr⟩ := hf
    have hn' : f.name ≠ "_" := by simpa using hn
    obtain ⟨u, xs', rfl⟩ : ∃ u xs', xs = u :: xs' := by cases he <;> exact ⟨_, _, rfl⟩
    obtain ⟨v, ys', rfl⟩ : ∃ v ys', ys = v :: ys' := by cases he <;> exact ⟨_, _, rfl⟩
    obtain ⟨he', hrun⟩ := he.one
    have hp1 : ∀ w, (part f.type XS.toArray f.offset).run P w = .ok u w := fun w => by
      have := hx 0 u rfl
      simp [part, ha, ho, show XS[i]? = some u from this]
    have hp2 : ∀ w, (part f.type YS.toArray f.offset).run P w = .ok v w := fun w => by
      have := hy 0 v rfl
      simp [part, ha, ho, show YS[i]? = some v from this]
    have ih := run_eqFieldsA fuel fs ds P (i + 1) XS YS xs' ys' hr he' (fun j v hj => by have := hx (j + 1) v (by simpa using hj); rwa [show i + (j + 1) = i + 1 + j from by omega] at this)
      (fun j v hj => by have := hy (j + 1) v (by simpa using hj); rwa [show i + (j + 1) = i + 1 + j from by omega] at this) w
    simp only [Op.eqFields, hn', if_true, ne_eq, not_false_eq_true, Sem.run_bind, hp1, hp2, hrun P fuel f.type _ hu, Result.andThen_ok, Sem.run_ite, ih]
    cases h : eq1 u v with
    | true => simp [eqA, h]
    | false => simp [eqA, h]
section
variable {r : Option Nat} {P : Program} {n : Nat} {D : List Deferred} {w0 : World} {F : List (Nat × Value)} {L : List Ent} {Q : Exit → Act → World → Prop} {ops : Array Oper}
variable {d : Tmp} {ty : TypeId} {pos : String} {af : Array Edge} {rest : List Oper}
theorem run_equal_flatA {t : TypeId} {ds : List TypeDesc} {xs ys : List Value} (hQ : TQ P t ds) (he : EqA ds xs ys) (w : World) : (Op.equal t (.agg xs.toArray) (.agg ys.toArray)).run P w = .ok (eqA xs ys) w := by
  obtain ⟨fs, hu, hs, hg, hf⟩ := hQ.h
  have hfo : P.fieldsOf t = fs := by simp [Program.fieldsOf, hu]
  show (Op.equalIn (9998 + 1 + 1) t _ _).run P w = _
  rw [run_equalIn_struct w (9998 + 1) t _ _ (by rw [hfo]; exact hu) hs, hfo]
  exact run_eqFieldsA 9998 fs.toList ds P 0 xs ys xs ys hf he (fun j v h => by simpa using h) (fun j v h => by simpa using h) w
/-- Structs of numbers, truths and texts, compared. -/
theorem o_eql_A {x y : Operand} {t u : TypeId} {ds : List TypeDesc} {xs ys : List Value} (hQ : TQ P t ds) (hx : ev F x = some (.agg xs.toArray)) (hy : ev F y = some (.agg ys.toArray)) (he : EqA ds xs ys) (hd : Nat.ble (d + 1) n = true)
    (h : St n D w0 ((d, .bool (eqA xs ys)) :: F) L (WL r P ops Q rest)) : St n D w0 F L (WL r P ops Q (⟨some d, .binOp .eql t x y u, ty, pos, af, none⟩ :: rest)) :=
  o_val rfl hd (fun a w ha _ => by
    obtain ⟨fs, hu, hs, hg, hf⟩ := hQ.h
    simp only [execOp, ha.eval hx, ha.eval hy, Sem.run_bind, run_eqGuard_agg w .eql t _ _ _ _ hg, Result.andThen_ok]
    rw [run_eql_struct]
    show (((Op.equal t (.agg xs.toArray) (.agg ys.toArray)).run P w).andThen _).andThen _ = _
    rw [run_equal_flatA hQ he]; rfl) h
/-- A text made of bytes. -/
theorem o_bytes_t {t s e : TypeId} {x : Operand} {b off k cap : Nat} (l : List UInt8) (hS : TU P s (.slice e)) (hE : TU P e (.int .u8)) (hT : TU P t .string) (hx : ev F x = some (.slice (some ⟨b, off, none⟩) k cap)) (hk : k = l.length)
    (hc : ∀ w, Rep w0 w L → ∀ j (hj : j < l.length), w.cell? ((⟨b, off, none⟩ : Addr).add j) = some (.int .u8 (l[j].toNat : Int))) (hd : Nat.ble (d + 1) n = true)
    (h : St n D w0 ((d, str l) :: F) L (WL r P ops Q rest)) : St n D w0 F L (WL r P ops Q (⟨some d, .convert s t x, ty, pos, af, none⟩ :: rest)) :=
  o_val rfl hd (fun a w ha hw => by
    subst hk
    have := run_convert_bytes_back (P := P) w s t e ⟨b, off, none⟩ cap l (TU.h (P := P) (t := s)) (TU.h (P := P) (t := e)) (TU.h (P := P) (t := t)) (hc w hw)
    simp [execOp, ha.eval hx, this, str]) h
end
end Go.Sx
namespace Go.Sx
open Go Go.RowKit
section
variable {r : Option Nat} {P : Program} {n : Nat} {D : List Deferred} {w0 : World} {F : List (Nat × Value)} {L L' : List Ent} {Q : Exit → Act → World → Prop} {ops : Array Oper}
variable {d : Tmp} {ty : TypeId} {pos : String} {af : Array Edge} {rest : List Oper}
/-- What holds in every world may be used. -/
theorem st_know {p : Prop} {X : Act → World → Prop} (hp : ∀ w, Rep w0 w L → p) (h : p → St n D w0 F L X) : St n D w0 F L X := fun a w ha hw => h (hp w hw) a w ha hw
theorem SV.cell {α : Type} {w : World} {k m c b off i j : Nat} {enc : α → List Value} {xs : List α} {x : α} {u : Value} (h : SV w k enc (.slice (some ⟨b, off, none⟩) m c) xs) (hx : xs[i]? = some x) (hj : (enc x)[j]? = some u) : w.cell? ⟨b, off + i * k + j, none⟩ = some u := by
  obtain ⟨_, _, e1, _, hop⟩ := h.open
  cases e1
  obtain ⟨b', off', cc, e, fz, e2, hk, hp⟩ := hop (by have := (List.getElem?_eq_some_iff.1 hx).1; omega)
  cases e2
  have := hp.get hx j u hj
  simp [World.cell?, hk, this]
theorem o_ldP {t : TypeId} {x : Operand} {b p : Nat} {v : Value} (hA : TA P t false) (hx : ev F x = some (.pointer (some ⟨b, p, none⟩))) (hc : ∀ w, Rep w0 w L → w.cell? ⟨b, p, none⟩ = some v)
    (hd : Nat.ble (d + 1) n = true) (h : St n D w0 ((d, v) :: F) L (WL r P ops Q rest)) : St n D w0 F L (WL r P ops Q (⟨some d, .load t x, ty, pos, af, none⟩ :: rest)) :=
  o_val rfl hd (fun a w ha hw => by
    simp [execOp, ha.eval hx, Instr.loadAt, Instr.sureAddr, loadVar, TA.h (P := P) (t := t), hc w hw]) h
theorem o_ldPV {t : TypeId} {k : Nat} {x : Operand} {b p : Nat} {l : List Value} (hA : TA P t true) (hS : TS P t k) (hx : ev F x = some (.pointer (some ⟨b, p, none⟩))) (hc : ∀ w, Rep w0 w L → ∀ j v, l[j]? = some v → w.cell? ⟨b, p + j, none⟩ = some v) (hl : l.length = k)
    (hd : Nat.ble (d + 1) n = true) (h : St n D w0 ((d, .agg l.toArray) :: F) L (WL r P ops Q rest)) : St n D w0 F L (WL r P ops Q (⟨some d, .load t x, ty, pos, af, none⟩ :: rest)) :=
  o_val rfl hd (fun a w ha hw => by
    subst hl
    have hc := run_loadCells_list (P := P) w ⟨b, p, none⟩ l (fun j v hj => by rw [add_none]; exact hc w hw j v hj)
    simp [execOp, ha.eval hx, Instr.loadAt, Instr.sureAddr, loadVar, TA.h (P := P) (t := t), TS.h (P := P) (t := t), hc]) h
end
end Go.Sx
namespace Go.Sx
open Go Go.RowKit
section
variable {P : Program} {n : Nat} {D : List Deferred} {w0 : World} {F : List (Nat × Value)} {L : List Ent} {J J1 : Made} {Φ : Specs} {X : Act → World → Prop} {kq : Nat} {ops : Array Oper}
variable {d : Tmp} {ty : TypeId} {pos : String} {af : Array Edge} {rest : List Oper}
theorem q_ldP {t : TypeId} {x : Operand} {b p : Nat} {v : Value} (hA : TA P t false) (hx : ev F x = some (.pointer (some ⟨b, p, none⟩))) (hΦ : Φ kq = none) (hJ : SubJ ((anc ops).getD kq 0) J1 J) (hc : ∀ w, Rep w0 w (ents J1 L) → w.cell? ⟨b, p, none⟩ = some v)
    (hd : Nat.ble (d + 1) n = true) (h : St n D w0 ((d, v) :: F) L (WQ P ops w0 L Φ X (kq + 1) J rest)) : St n D w0 F L (WQ P ops w0 L Φ X kq J (⟨some d, .load t x, ty, pos, af, none⟩ :: rest)) :=
  q_val rfl hd hΦ hJ (fun a w ha hw => by
    simp [execOp, ha.eval hx, Instr.loadAt, Instr.sureAddr, loadVar, TA.h (P := P) (t := t), hc w hw]) h
theorem q_ldPV {t : TypeId} {k : Nat} {x : Operand} {b p : Nat} {l : List Value} (hA : TA P t true) (hS : TS P t k) (hx : ev F x = some (.pointer (some ⟨b, p, none⟩))) (hΦ : Φ kq = none) (hJ : SubJ ((anc ops).getD kq 0) J1 J) (hc : ∀ w, Rep w0 w (ents J1 L) → ∀ j v, l[j]? = some v → w.cell? ⟨b, p + j, none⟩ = some v) (hl : l.length = k)
    (hd : Nat.ble (d + 1) n = true) (h : St n D w0 ((d, .agg l.toArray) :: F) L (WQ P ops w0 L Φ X (kq + 1) J rest)) : St n D w0 F L (WQ P ops w0 L Φ X kq J (⟨some d, .load t x, ty, pos, af, none⟩ :: rest)) :=
  q_val rfl hd hΦ hJ (fun a w ha hw => by
    subst hl
    have hc := run_loadCells_list (P := P) w ⟨b, p, none⟩ l (fun j v hj => by rw [add_none]; exact hc w hw j v hj)
    simp [execOp, ha.eval hx, Instr.loadAt, Instr.sureAddr, loadVar, TA.h (P := P) (t := t), TS.h (P := P) (t := t), hc]) h
end
theorem SV.cell1 {α : Type} {w : World} {k m c b off i : Nat} {enc : α → List Value} {xs : List α} {x : α} {u : Value} (h : SV w k enc (.slice (some ⟨b, off, none⟩) m c) xs) (hx : xs[i]? = some x) (hj : (enc x)[0]? = some u) : w.cell? ⟨b, off + i * k, none⟩ = some u := h.cell (j := 0) hx hj
end Go.Sx
namespace Go.Sx
open Go Go.RowKit
theorem SV.ptr {α : Type} {w : World} {k m c : Nat} {a : Option Addr} {enc : α → List Value} {xs : List α} {x : α} {i : Nat} (h : SV w k enc (.slice a m c) xs) (hx : xs[i]? = some x) : ∃ b off, a = some ⟨b, off, none⟩ := by
  obtain ⟨_, _, e1, _, hop⟩ := h.open
  cases e1
  obtain ⟨b, off, _, _, _, e2, _⟩ := hop (by have := (List.getElem?_eq_some_iff.1 hx).1; omega)
  exact ⟨b, off, e2⟩
theorem SV.sd {α : Type} {w : World} {k : Nat} {d : SD} {enc : α → List Value} {xs : List α} (h : SV w k enc (sdV d) xs) : ∃ a c, d = (a, xs.length, c) := by
  obtain ⟨a, n, c⟩ := d
  obtain ⟨_, _, e1, _, _⟩ := h.open
  cases e1
  exact ⟨a, c, rfl⟩
end Go.Sx
namespace Go.Proofs.Ythcoaljmgkhglaa
open Go Go.Sx Go.RowKit
theorem and1_64 (x : Int) (h : 0 ≤ x ∧ x ≤ 255) : IntKind.i64.wrap ((BitVec.ofInt IntKind.i64.bits x &&& BitVec.ofInt IntKind.i64.bits 1).toNat) = x % 2 := by
  obtain ⟨k, rfl⟩ := Int.eq_ofNat_of_zero_le h.1
  have hk : k < 256 := by omega
  have e : (BitVec.ofInt IntKind.i64.bits (k : Int) &&& BitVec.ofInt IntKind.i64.bits 1).toNat = k % 2 := by
    rw [BitVec.toNat_and]
    have e1 : (BitVec.ofInt IntKind.i64.bits (k : Int)).toNat = k := by
      show (BitVec.ofInt 64 (k : Int)).toNat = k
      simp; omega
    have e2 : (BitVec.ofInt IntKind.i64.bits 1).toNat = 1 := rfl
    rw [e1, e2, Nat.and_one_is_mod]
  rw [e, wrap_in (by omega) (by omega)]; omega
section
variable {P : Program} {n : Nat} {D : List Deferred} {w0 : World} {F : List (Nat × Value)} {L : List Ent} {J J1 : Made} {Φ : Specs} {X : Act → World → Prop} {kq : Nat} {ops : Array Oper} {Q : Exit → Act → World → Prop} {r : Option Nat}
variable {d : Tmp} {ty : TypeId} {pos : String} {af : Array Edge} {rest : List Oper}
variable {x y : Operand} {m l v : Int} {t u : TypeId} (hx : ev F x = some (.int .i64 m)) (hy : ev F y = some (.int .i64 l))
include hx hy
theorem o_subE (e : m - l = v) (hr : -9223372036854775808 ≤ v ∧ v ≤ 9223372036854775807) (hd : Nat.ble (d + 1) n = true) (h : St n D w0 ((d, .int .i64 v) :: F) L (WL r P ops Q rest)) : St n D w0 F L (WL r P ops Q (⟨some d, .binOp .sub t x y u, ty, pos, af, none⟩ :: rest)) := by subst e; exact o_sub hx hy hd hr h
theorem o_remE (e : m % l = v) (hr : 0 ≤ m ∧ 0 < l) (hd : Nat.ble (d + 1) n = true) (h : St n D w0 ((d, .int .i64 v) :: F) L (WL r P ops Q rest)) : St n D w0 F L (WL r P ops Q (⟨some d, .binOp .rem t x y u, ty, pos, af, none⟩ :: rest)) := by subst e; exact o_rem hx hy hd hr h
theorem o_quoE' (e : m / l = v) (hr : 0 ≤ m ∧ 0 < l ∧ m ≤ 9223372036854775807) (hd : Nat.ble (d + 1) n = true) (h : St n D w0 ((d, .int .i64 v) :: F) L (WL r P ops Q rest)) : St n D w0 F L (WL r P ops Q (⟨some d, .binOp .quo t x y u, ty, pos, af, none⟩ :: rest)) := by subst e; exact o_quo hx hy hd hr h
theorem q_remE (e : m % l = v) (hr : 0 ≤ m ∧ 0 < l) (hd : Nat.ble (d + 1) n = true) (h : St n D w0 ((d, .int .i64 v) :: F) L (WQ P ops w0 L Φ X (kq + 1) J rest)) : St n D w0 F L (WQ P ops w0 L Φ X kq J (⟨some d, .binOp .rem t x y u, ty, pos, af, none⟩ :: rest)) := by subst e; exact q_rem hx hy hd hr h
theorem q_quoE (e : m / l = v) (hr : 0 ≤ m ∧ 0 < l ∧ m ≤ 9223372036854775807) (hd : Nat.ble (d + 1) n = true) (h : St n D w0 ((d, .int .i64 v) :: F) L (WQ P ops w0 L Φ X (kq + 1) J rest)) : St n D w0 F L (WQ P ops w0 L Φ X kq J (⟨some d, .binOp .quo t x y u, ty, pos, af, none⟩ :: rest)) := by subst e; exact q_quo hx hy hd hr h
end
section
variable {P : Program} {n : Nat} {D : List Deferred} {w0 : World} {F : List (Nat × Value)} {L : List Ent} {J J1 : Made} {Φ : Specs} {X : Act → World → Prop} {kq : Nat} {ops : Array Oper} {Q : Exit → Act → World → Prop} {r : Option Nat}
variable {d : Tmp} {ty : TypeId} {pos : String} {af : Array Edge} {rest : List Oper}
theorem o_andE {x y : Operand} {m v : Int} {t u : TypeId} (hx : ev F x = some (.int .i64 m)) (hy : ev F y = some (.int .i64 1)) (e : m % 2 = v) (hr : 0 ≤ m ∧ m ≤ 255) (hd : Nat.ble (d + 1) n = true) (h : St n D w0 ((d, .int .i64 v) :: F) L (WL r P ops Q rest)) : St n D w0 F L (WL r P ops Q (⟨some d, .binOp .and t x y u, ty, pos, af, none⟩ :: rest)) :=
  o_and_w hx hy hd (by rw [and1_64 m hr, e]; exact h)
theorem o_conv8 {x : Operand} {m : Int} {s t : TypeId} {ds : TypeDesc} (hS : TU P s ds) (hT : TU P t (.int .i64)) (hx : ev F x = some (.int .u8 m)) (hr : 0 ≤ m ∧ m ≤ 255) (hd : Nat.ble (d + 1) n = true)
    (h : St n D w0 ((d, .int .i64 m) :: F) L (WL r P ops Q rest)) : St n D w0 F L (WL r P ops Q (⟨some d, .convert s t x, ty, pos, af, none⟩ :: rest)) :=
  o_conv (ds := ds) hx hd (by rw [wrap_in (by omega) (by omega)]; exact h)
theorem q_conv8 {x : Operand} {m : Int} {s t : TypeId} {ds : TypeDesc} (hS : TU P s ds) (hT : TU P t (.int .i64)) (hx : ev F x = some (.int .u8 m)) (hΦ : Φ kq = none) (hJ : SubJ ((anc ops).getD kq 0) J1 J) (hr : 0 ≤ m ∧ m ≤ 255) (hd : Nat.ble (d + 1) n = true)
    (h : St n D w0 ((d, .int .i64 m) :: F) L (WQ P ops w0 L Φ X (kq + 1) J rest)) : St n D w0 F L (WQ P ops w0 L Φ X kq J (⟨some d, .convert s t x, ty, pos, af, none⟩ :: rest)) :=
  q_conv (ds := ds) hx hΦ hJ hd (by rw [wrap_in (by omega) (by omega)]; exact h)
end
end Go.Proofs.Ythcoaljmgkhglaa
namespace Go.Proofs.Ythcoaljmgkhglaa
open Go Go.Sx Go.RowKit
def Shw (N : List Ent) (p : World → Prop) : Prop := ∀ (w0 w : World) (L L0 : List Ent), RemL L N L0 → Rep w0 w L → p w
theorem Shw.left {A B : List Ent} {p : World → Prop} (h : Shw A p) : Shw (A ++ B) p := fun w0 w L L0 hr hw => h w0 w L (B ++ L0) (List.Perm.trans hr (by rw [List.append_assoc])) hw
theorem Shw.right {A B : List Ent} {p : World → Prop} (h : Shw B p) : Shw (A ++ B) p := fun w0 w L L0 hr hw => h w0 w L (A ++ L0) (List.Perm.trans hr (by rw [List.append_assoc]; exact List.perm_append_comm_assoc _ _ _)) hw
theorem Shw.mono {N : List Ent} {p q : World → Prop} (h : Shw N p) (hpq : ∀ w, p w → q w) : Shw N q := fun w0 w L L0 hr hw => hpq w (h w0 w L L0 hr hw)
theorem Shw.and {N : List Ent} {p q : World → Prop} (h : Shw N p) (h' : Shw N q) : Shw N (fun w => p w ∧ q w) := fun w0 w L L0 hr hw => ⟨h w0 w L L0 hr hw, h' w0 w L L0 hr hw⟩
theorem Shw.ow {α : Type} {E : TypeId} {k : Nat} {enc : α → List Value} {v : Value} {xs : List α} {N : List Ent} (henc : ∀ x, (enc x).length = k) (h : OW E k enc v xs N) : Shw N (fun w => SV w k enc v xs) := fun w0 w L L0 hr hw => h.sv henc hr hw
theorem Shw.ll {α : Type} {E : TypeId} {k : Nat} {enc : α → List Value} {ss : List SD} {xss : List (List α)} {N : List Ent} (henc : ∀ x, (enc x).length = k) (h : LL E k enc ss xss N) : Shw N (fun w => SL w k enc ss xss) := fun w0 w L L0 hr hw => h.sl henc hr hw
def R2 {α β : Type} (R : World → α → β → Prop) (xs : List α) (ys : List β) (w : World) : Prop := ∀ (i : Nat) (a : α) (b : β), xs[i]? = some a → ys[i]? = some b → R w a b
theorem Shw.all {N : List Ent} {q : World → Prop} (h : Shw N q) {w0 w : World} (hw : Rep w0 w N) : q w := h w0 w N [] RemL.all hw
theorem own_app {A B : List Ent} (h1 : ∀ x ∈ A, x.own = true) (h2 : ∀ x ∈ B, x.own = true) : ∀ x ∈ A ++ B, x.own = true := fun x hx => (List.mem_append.1 hx).elim (h1 x) (h2 x)
end Go.Proofs.Ythcoaljmgkhglaa
namespace Go.Sx.Ref
structure Pt where
  id : Int
  town : Int
  street : Int
  number : Int
  letter : List UInt8
  unit : List UInt8
  box : Int
  seq : Int
structure Rg where
  town : Int
  street : Int
  low : Int
  high : Int
  par : Int
  code : List UInt8
  route : Int
def Rg.zero : Rg := ⟨0, 0, 0, 0, 0, [], 0⟩
def Pt.zero : Pt := ⟨0, 0, 0, 0, [], [], 0, 0⟩
def numF (p : Pt) : Int := if p.street = 0 then p.box else p.number
def hasF (g : Rg) (n : Int) : Bool :=
  if n < g.low ∨ g.high < n then false else
  if g.par = 0 then true else
  if g.par = 1 then decide (n % 2 = 1) else
  if g.par = 2 then decide (n % 2 = 0) else false
def nb (l : List UInt8) (i : Nat) : Int := if l.length = 0 then 0 else ((l.getD (i % l.length) 0).toNat : Int)
theorem nb_bd (l : List UInt8) (i : Nat) : 0 ≤ nb l i ∧ nb l i ≤ 255 := by
  unfold nb
  split
  · omega
  · have := (l.getD (i % l.length) 0).toNat_lt
    omega
/-- The ranges of a town and a street. -/
def ofKey (k : Int × Int) (rs : List Rg) : List Rg := rs.filter fun g => g.town = k.1 ∧ g.street = k.2
def onF (rs : List Rg) (route : Int) (p : Pt) : Bool := match (ofKey (p.town, p.street) rs).find? (hasF · (numF p)) with
  | some g => decide (g.route = route)
  | none => false
def stopsOf (rs : List Rg) (ps : List Pt) (route : Int) : List Pt := ps.filter (onF rs route)
def routeF (rs : List Rg) (ps : List Pt) (route : Int) : List Int := (stopsOf rs ps route).map Pt.id
/-- The order of the points of a file. -/
def Along (ps : List Pt) : Prop := ps.Pairwise fun a b => b.id < a.id ∧ a.seq < b.seq
theorem Along.stops {ps : List Pt} (h : Along ps) (rs : List Rg) (route : Int) : Along (stopsOf rs ps route) := List.Pairwise.filter _ h
end Go.Sx.Ref
namespace Go.Proofs.Ythcoaljmgkhglaa
open Go Go.Sx
instance : TU Try.prog 3 (.int .i64) := ⟨Try.underlying3⟩
instance : TS Try.prog 3 1 := ⟨fun w => by simp only [sizeOf, Sem.run_bind, Try.typeInfo3]; rfl⟩
instance : TA Try.prog 3 false := ⟨Try.isAgg3⟩
instance : TZ Try.prog 3 (.int .i64 (0)) [(.int .i64 (0))] := ⟨Try.zeroValue3, rfl⟩
instance : TS Try.prog 4 1 := ⟨fun w => by simp only [sizeOf, Sem.run_bind, Try.typeInfo4]; rfl⟩
instance : TA Try.prog 4 false := ⟨Try.isAgg4⟩
instance : TZ Try.prog 4 (.bool false) [(.bool false)] := ⟨Try.zeroValue4, rfl⟩
instance : TU Try.prog 5 (.int .u8) := ⟨Try.underlying5⟩
instance : TS Try.prog 5 1 := ⟨fun w => by simp only [sizeOf, Sem.run_bind, Try.typeInfo5]; rfl⟩
instance : TA Try.prog 5 false := ⟨Try.isAgg5⟩
instance : TZ Try.prog 5 (.int .u8 (0)) [(.int .u8 (0))] := ⟨Try.zeroValue5, rfl⟩
instance : TU Try.prog 9 .string := ⟨Try.underlying9⟩
instance : TS Try.prog 9 1 := ⟨fun w => by simp only [sizeOf, Sem.run_bind, Try.typeInfo9]; rfl⟩
instance : TA Try.prog 9 false := ⟨Try.isAgg9⟩
instance : TZ Try.prog 9 (.string ⟨#[]⟩) [(.string ⟨#[]⟩)] := ⟨Try.zeroValue9, rfl⟩
instance : TU Try.prog 22 (.slice 5) := ⟨Try.underlying22⟩
instance : TS Try.prog 22 1 := ⟨fun w => by simp only [sizeOf, Sem.run_bind, Try.typeInfo22]; rfl⟩
instance : TA Try.prog 22 false := ⟨Try.isAgg22⟩
instance : TU Try.prog 23 (.slice 74) := ⟨Try.underlying23⟩
instance : TS Try.prog 23 1 := ⟨fun w => by simp only [sizeOf, Sem.run_bind, Try.typeInfo23]; rfl⟩
instance : TA Try.prog 23 false := ⟨Try.isAgg23⟩
instance : TS Try.prog 25 4 := ⟨fun w => by simp only [sizeOf, Sem.run_bind, Try.typeInfo25]; rfl⟩
instance : TA Try.prog 25 true := ⟨Try.isAgg25⟩
instance : TU Try.prog 26 (.slice 70) := ⟨Try.underlying26⟩
instance : TS Try.prog 26 1 := ⟨fun w => by simp only [sizeOf, Sem.run_bind, Try.typeInfo26]; rfl⟩
instance : TA Try.prog 26 false := ⟨Try.isAgg26⟩
instance : TU Try.prog 27 (.slice 73) := ⟨Try.underlying27⟩
instance : TS Try.prog 27 1 := ⟨fun w => by simp only [sizeOf, Sem.run_bind, Try.typeInfo27]; rfl⟩
instance : TA Try.prog 27 false := ⟨Try.isAgg27⟩
instance : TU Try.prog 28 (.slice 37) := ⟨Try.underlying28⟩
instance : TS Try.prog 28 1 := ⟨fun w => by simp only [sizeOf, Sem.run_bind, Try.typeInfo28]; rfl⟩
instance : TA Try.prog 28 false := ⟨Try.isAgg28⟩
instance : TZ Try.prog 28 (.slice none 0 0) [(.slice none 0 0)] := ⟨Try.zeroValue28, rfl⟩
instance : TU Try.prog 29 (.slice 40) := ⟨Try.underlying29⟩
instance : TS Try.prog 29 1 := ⟨fun w => by simp only [sizeOf, Sem.run_bind, Try.typeInfo29]; rfl⟩
instance : TA Try.prog 29 false := ⟨Try.isAgg29⟩
instance : TS Try.prog 31 4 := ⟨fun w => by simp only [sizeOf, Sem.run_bind, Try.typeInfo31]; rfl⟩
instance : TA Try.prog 31 true := ⟨Try.isAgg31⟩
instance : TZ Try.prog 31 (.agg #[(.slice none 0 0), (.slice none 0 0), (.slice none 0 0), (.slice none 0 0)]) [(.slice none 0 0), (.slice none 0 0), (.slice none 0 0), (.slice none 0 0)] := ⟨Try.zeroValue31, rfl⟩
instance : TU Try.prog 34 (.slice 3) := ⟨Try.underlying34⟩
instance : TS Try.prog 34 1 := ⟨fun w => by simp only [sizeOf, Sem.run_bind, Try.typeInfo34]; rfl⟩
instance : TA Try.prog 34 false := ⟨Try.isAgg34⟩
instance : TS Try.prog 37 7 := ⟨fun w => by simp only [sizeOf, Sem.run_bind, Try.typeInfo37]; rfl⟩
instance : TA Try.prog 37 true := ⟨Try.isAgg37⟩
instance : TZ Try.prog 37 (.agg #[(.int .i64 (0)), (.int .i64 (0)), (.int .i64 (0)), (.int .i64 (0)), (.int .u8 (0)), (.string ⟨#[]⟩), (.int .i64 (0))]) [(.int .i64 (0)), (.int .i64 (0)), (.int .i64 (0)), (.int .i64 (0)), (.int .u8 (0)), (.string ⟨#[]⟩), (.int .i64 (0))] := ⟨Try.zeroValue37, rfl⟩
instance : TU Try.prog 38 (.map 3 3) := ⟨Try.underlying38⟩
instance : TS Try.prog 40 8 := ⟨fun w => by simp only [sizeOf, Sem.run_bind, Try.typeInfo40]; rfl⟩
instance : TA Try.prog 40 true := ⟨Try.isAgg40⟩
instance : TZ Try.prog 40 (.agg #[(.int .i64 (0)), (.int .i64 (0)), (.int .i64 (0)), (.int .i64 (0)), (.string ⟨#[]⟩), (.string ⟨#[]⟩), (.int .i64 (0)), (.int .i64 (0))]) [(.int .i64 (0)), (.int .i64 (0)), (.int .i64 (0)), (.int .i64 (0)), (.string ⟨#[]⟩), (.string ⟨#[]⟩), (.int .i64 (0)), (.int .i64 (0))] := ⟨Try.zeroValue40, rfl⟩
instance : TU Try.prog 43 (.slice 45) := ⟨Try.underlying43⟩
instance : TS Try.prog 45 4 := ⟨fun w => by simp only [sizeOf, Sem.run_bind, Try.typeInfo45]; rfl⟩
instance : TA Try.prog 45 true := ⟨Try.isAgg45⟩
instance : TZ Try.prog 45 (.agg #[(.int .i64 (0)), (.int .i64 (0)), (.bool false), (.bool false)]) [(.int .i64 (0)), (.int .i64 (0)), (.bool false), (.bool false)] := ⟨Try.zeroValue45, rfl⟩
instance : TU Try.prog 46 (.slice 48) := ⟨Try.underlying46⟩
instance : TA Try.prog 46 false := ⟨Try.isAgg46⟩
instance : TS Try.prog 48 2 := ⟨fun w => by simp only [sizeOf, Sem.run_bind, Try.typeInfo48]; rfl⟩
instance : TA Try.prog 48 true := ⟨Try.isAgg48⟩
instance : TZ Try.prog 48 (.agg #[(.int .i64 (0)), (.int .i64 (0))]) [(.int .i64 (0)), (.int .i64 (0))] := ⟨Try.zeroValue48, rfl⟩
instance : TU Try.prog 49 (.slice 97) := ⟨Try.underlying49⟩
instance : TS Try.prog 49 1 := ⟨fun w => by simp only [sizeOf, Sem.run_bind, Try.typeInfo49]; rfl⟩
instance : TA Try.prog 49 false := ⟨Try.isAgg49⟩
instance : TZ Try.prog 49 (.slice none 0 0) [(.slice none 0 0)] := ⟨Try.zeroValue49, rfl⟩
instance : TS Try.prog 51 4 := ⟨fun w => by simp only [sizeOf, Sem.run_bind, Try.typeInfo51]; rfl⟩
instance : TA Try.prog 51 true := ⟨Try.isAgg51⟩
instance : TZ Try.prog 51 (.agg #[(.slice none 0 0), (.slice none 0 0), (.slice none 0 0), (.slice none 0 0)]) [(.slice none 0 0), (.slice none 0 0), (.slice none 0 0), (.slice none 0 0)] := ⟨Try.zeroValue51, rfl⟩
instance : TU Try.prog 57 (.slice 34) := ⟨Try.underlying57⟩
instance : TS Try.prog 57 1 := ⟨fun w => by simp only [sizeOf, Sem.run_bind, Try.typeInfo57]; rfl⟩
instance : TA Try.prog 57 false := ⟨Try.isAgg57⟩
instance : TU Try.prog 58 (.slice 123) := ⟨Try.underlying58⟩
instance : TS Try.prog 58 1 := ⟨fun w => by simp only [sizeOf, Sem.run_bind, Try.typeInfo58]; rfl⟩
instance : TA Try.prog 58 false := ⟨Try.isAgg58⟩
instance : TS Try.prog 60 5 := ⟨fun w => by simp only [sizeOf, Sem.run_bind, Try.typeInfo60]; rfl⟩
instance : TA Try.prog 60 true := ⟨Try.isAgg60⟩
instance : TZ Try.prog 60 (.agg #[(.slice none 0 0), (.slice none 0 0), (.slice none 0 0), (.slice none 0 0), (.slice none 0 0)]) [(.slice none 0 0), (.slice none 0 0), (.slice none 0 0), (.slice none 0 0), (.slice none 0 0)] := ⟨Try.zeroValue60, rfl⟩
instance : TS Try.prog 62 11 := ⟨fun w => by simp only [sizeOf, Sem.run_bind, Try.typeInfo62]; rfl⟩
instance : TA Try.prog 62 true := ⟨Try.isAgg62⟩
instance : TZ Try.prog 62 (.agg #[(.slice none 0 0), (.slice none 0 0), (.slice none 0 0), (.slice none 0 0), (.slice none 0 0), (.slice none 0 0), (.slice none 0 0), (.slice none 0 0), (.slice none 0 0), (.slice none 0 0), (.slice none 0 0)]) [(.slice none 0 0), (.slice none 0 0), (.slice none 0 0), (.slice none 0 0), (.slice none 0 0), (.slice none 0 0), (.slice none 0 0), (.slice none 0 0), (.slice none 0 0), (.slice none 0 0), (.slice none 0 0)] := ⟨Try.zeroValue62, rfl⟩
instance : TU Try.prog 65 (.slice 60) := ⟨Try.underlying65⟩
instance : TU Try.prog 67 (.slice 9) := ⟨Try.underlying67⟩
instance : TS Try.prog 67 1 := ⟨fun w => by simp only [sizeOf, Sem.run_bind, Try.typeInfo67]; rfl⟩
instance : TA Try.prog 67 false := ⟨Try.isAgg67⟩
instance : TS Try.prog 70 5 := ⟨fun w => by simp only [sizeOf, Sem.run_bind, Try.typeInfo70]; rfl⟩
instance : TA Try.prog 70 true := ⟨Try.isAgg70⟩
instance : TZ Try.prog 70 (.agg #[(.int .i64 (0)), (.int .u8 (0)), (.string ⟨#[]⟩), (.string ⟨#[]⟩), (.slice none 0 0)]) [(.int .i64 (0)), (.int .u8 (0)), (.string ⟨#[]⟩), (.string ⟨#[]⟩), (.slice none 0 0)] := ⟨Try.zeroValue70, rfl⟩
instance : TS Try.prog 73 6 := ⟨fun w => by simp only [sizeOf, Sem.run_bind, Try.typeInfo73]; rfl⟩
instance : TA Try.prog 73 true := ⟨Try.isAgg73⟩
instance : TZ Try.prog 73 (.agg #[(.int .i64 (0)), (.int .i64 (0)), (.string ⟨#[]⟩), (.string ⟨#[]⟩), (.string ⟨#[]⟩), (.slice none 0 0)]) [(.int .i64 (0)), (.int .i64 (0)), (.string ⟨#[]⟩), (.string ⟨#[]⟩), (.string ⟨#[]⟩), (.slice none 0 0)] := ⟨Try.zeroValue73, rfl⟩
instance : TU Try.prog 74 (.int .u16) := ⟨Try.underlying74⟩
instance : TS Try.prog 74 1 := ⟨fun w => by simp only [sizeOf, Sem.run_bind, Try.typeInfo74]; rfl⟩
instance : TA Try.prog 74 false := ⟨Try.isAgg74⟩
instance : TU Try.prog 75 (.map 76 28) := ⟨Try.underlying75⟩
instance : TU Try.prog 76 (.array 2 3) := ⟨Try.underlying76⟩
instance : TS Try.prog 76 2 := ⟨fun w => by simp only [sizeOf, Sem.run_bind, Try.typeInfo76]; rfl⟩
instance : TA Try.prog 76 true := ⟨Try.isAgg76⟩
instance : TZ Try.prog 76 (.agg #[(.int .i64 (0)), (.int .i64 (0))]) [(.int .i64 (0)), (.int .i64 (0))] := ⟨Try.zeroValue76, rfl⟩
instance : TS Try.prog 97 4 := ⟨fun w => by simp only [sizeOf, Sem.run_bind, Try.typeInfo97]; rfl⟩
instance : TA Try.prog 97 true := ⟨Try.isAgg97⟩
instance : TZ Try.prog 97 (.agg #[(.int .i64 (0)), (.int .i64 (0)), (.int .i64 (0)), (.int .i64 (0))]) [(.int .i64 (0)), (.int .i64 (0)), (.int .i64 (0)), (.int .i64 (0))] := ⟨Try.zeroValue97, rfl⟩
instance : TU Try.prog 100 (.map 3 45) := ⟨Try.underlying100⟩
instance : TU Try.prog 102 (.map 3 97) := ⟨Try.underlying102⟩
instance : TU Try.prog 103 (.slice 105) := ⟨Try.underlying103⟩
instance : TS Try.prog 105 2 := ⟨fun w => by simp only [sizeOf, Sem.run_bind, Try.typeInfo105]; rfl⟩
instance : TA Try.prog 105 true := ⟨Try.isAgg105⟩
instance : TZ Try.prog 105 (.agg #[(.int .i64 (0)), (.int .i64 (0))]) [(.int .i64 (0)), (.int .i64 (0))] := ⟨Try.zeroValue105, rfl⟩
instance : TU Try.prog 111 (.map 3 4) := ⟨Try.underlying111⟩
instance : TZ Try.prog 117 (.agg #[(.slice none 0 0), (.slice none 0 0), (.slice none 0 0), (.slice none 0 0), (.slice none 0 0), (.slice none 0 0), (.slice none 0 0), (.int .i64 (0))]) [(.slice none 0 0), (.slice none 0 0), (.slice none 0 0), (.slice none 0 0), (.slice none 0 0), (.slice none 0 0), (.slice none 0 0), (.int .i64 (0))] := ⟨Try.zeroValue117, rfl⟩
instance : TS Try.prog 123 3 := ⟨fun w => by simp only [sizeOf, Sem.run_bind, Try.typeInfo123]; rfl⟩
instance : TA Try.prog 123 true := ⟨Try.isAgg123⟩
instance : TZ Try.prog 123 (.agg #[(.int .u8 (0)), (.int .i64 (0)), (.int .i64 (0))]) [(.int .u8 (0)), (.int .i64 (0)), (.int .i64 (0))] := ⟨Try.zeroValue123, rfl⟩
instance : TU Try.prog 125 (.int .u64) := ⟨Try.underlying125⟩
instance : TE Try.prog 3 1 8 (.int .i64 (0)) := ⟨⟨Try.t3, by kernel_rfl, rfl, rfl, rfl⟩⟩
instance : TE Try.prog 9 1 16 (.string ⟨#[]⟩) := ⟨⟨Try.t9, by kernel_rfl, rfl, rfl, rfl⟩⟩
instance : TE Try.prog 34 1 24 (.slice none 0 0) := ⟨⟨Try.t34, by kernel_rfl, rfl, rfl, rfl⟩⟩
instance : TE Try.prog 37 7 64 (.agg #[(.int .i64 (0)), (.int .i64 (0)), (.int .i64 (0)), (.int .i64 (0)), (.int .u8 (0)), (.string ⟨#[]⟩), (.int .i64 (0))]) := ⟨⟨Try.t37, by kernel_rfl, rfl, rfl, rfl⟩⟩
instance : TE Try.prog 40 8 80 (.agg #[(.int .i64 (0)), (.int .i64 (0)), (.int .i64 (0)), (.int .i64 (0)), (.string ⟨#[]⟩), (.string ⟨#[]⟩), (.int .i64 (0)), (.int .i64 (0))]) := ⟨⟨Try.t40, by kernel_rfl, rfl, rfl, rfl⟩⟩
instance : TE Try.prog 45 4 24 (.agg #[(.int .i64 (0)), (.int .i64 (0)), (.bool false), (.bool false)]) := ⟨⟨Try.t45, by kernel_rfl, rfl, rfl, rfl⟩⟩
instance : TE Try.prog 48 2 16 (.agg #[(.int .i64 (0)), (.int .i64 (0))]) := ⟨⟨Try.t48, by kernel_rfl, rfl, rfl, rfl⟩⟩
instance : TE Try.prog 70 5 72 (.agg #[(.int .i64 (0)), (.int .u8 (0)), (.string ⟨#[]⟩), (.string ⟨#[]⟩), (.slice none 0 0)]) := ⟨⟨Try.t70, by kernel_rfl, rfl, rfl, rfl⟩⟩
instance : TE Try.prog 73 6 88 (.agg #[(.int .i64 (0)), (.int .i64 (0)), (.string ⟨#[]⟩), (.string ⟨#[]⟩), (.string ⟨#[]⟩), (.slice none 0 0)]) := ⟨⟨Try.t73, by kernel_rfl, rfl, rfl, rfl⟩⟩
instance : TE Try.prog 97 4 32 (.agg #[(.int .i64 (0)), (.int .i64 (0)), (.int .i64 (0)), (.int .i64 (0))]) := ⟨⟨Try.t97, by kernel_rfl, rfl, rfl, rfl⟩⟩
instance : TE Try.prog 105 2 16 (.agg #[(.int .i64 (0)), (.int .i64 (0))]) := ⟨⟨Try.t105, by kernel_rfl, rfl, rfl, rfl⟩⟩
instance : TE Try.prog 123 3 24 (.agg #[(.int .u8 (0)), (.int .i64 (0)), (.int .i64 (0))]) := ⟨⟨Try.t123, by kernel_rfl, rfl, rfl, rfl⟩⟩
instance : TF Try.prog 25 0 0 := TF.mk' (k := 0) Try.underlying25 rfl rfl (TS.h (P := Try.prog) (t := 5))
instance : TF Try.prog 25 1 1 := TF.mk' (k := 0) Try.underlying25 rfl rfl (TS.h (P := Try.prog) (t := 5))
instance : TF Try.prog 25 2 2 := TF.mk' (k := 0) Try.underlying25 rfl rfl (TS.h (P := Try.prog) (t := 22))
instance : TF Try.prog 25 3 3 := TF.mk' (k := 0) Try.underlying25 rfl rfl (TS.h (P := Try.prog) (t := 23))
instance : TF Try.prog 31 0 0 := TF.mk' (k := 0) Try.underlying31 rfl rfl (TS.h (P := Try.prog) (t := 26))
instance : TF Try.prog 31 1 1 := TF.mk' (k := 0) Try.underlying31 rfl rfl (TS.h (P := Try.prog) (t := 27))
instance : TF Try.prog 31 2 2 := TF.mk' (k := 0) Try.underlying31 rfl rfl (TS.h (P := Try.prog) (t := 28))
instance : TF Try.prog 31 3 3 := TF.mk' (k := 0) Try.underlying31 rfl rfl (TS.h (P := Try.prog) (t := 29))
instance : TF Try.prog 37 0 0 := TF.mk' (k := 0) Try.underlying37 rfl rfl (TS.h (P := Try.prog) (t := 3))
instance : TF Try.prog 37 1 1 := TF.mk' (k := 0) Try.underlying37 rfl rfl (TS.h (P := Try.prog) (t := 3))
instance : TF Try.prog 37 2 2 := TF.mk' (k := 0) Try.underlying37 rfl rfl (TS.h (P := Try.prog) (t := 3))
instance : TF Try.prog 37 3 3 := TF.mk' (k := 0) Try.underlying37 rfl rfl (TS.h (P := Try.prog) (t := 3))
instance : TF Try.prog 37 4 4 := TF.mk' (k := 0) Try.underlying37 rfl rfl (TS.h (P := Try.prog) (t := 5))
instance : TF Try.prog 37 6 6 := TF.mk' (k := 0) Try.underlying37 rfl rfl (TS.h (P := Try.prog) (t := 3))
instance : TPl Try.prog 37 [(0, 1), (1, 1), (2, 1), (3, 1), (4, 1), (5, 1), (6, 1)] := ⟨_, Try.underlying37, fun w => by simp [TS.h (P := Try.prog) (t := 3), TS.h (P := Try.prog) (t := 5), TS.h (P := Try.prog) (t := 9)]⟩
instance : TF Try.prog 40 0 0 := TF.mk' (k := 0) Try.underlying40 rfl rfl (TS.h (P := Try.prog) (t := 3))
instance : TF Try.prog 40 1 1 := TF.mk' (k := 0) Try.underlying40 rfl rfl (TS.h (P := Try.prog) (t := 3))
instance : TF Try.prog 40 2 2 := TF.mk' (k := 0) Try.underlying40 rfl rfl (TS.h (P := Try.prog) (t := 3))
instance : TF Try.prog 40 3 3 := TF.mk' (k := 0) Try.underlying40 rfl rfl (TS.h (P := Try.prog) (t := 3))
instance : TF Try.prog 40 4 4 := TF.mk' (k := 0) Try.underlying40 rfl rfl (TS.h (P := Try.prog) (t := 9))
instance : TF Try.prog 40 5 5 := TF.mk' (k := 0) Try.underlying40 rfl rfl (TS.h (P := Try.prog) (t := 9))
instance : TF Try.prog 40 6 6 := TF.mk' (k := 0) Try.underlying40 rfl rfl (TS.h (P := Try.prog) (t := 3))
instance : TF Try.prog 40 7 7 := TF.mk' (k := 0) Try.underlying40 rfl rfl (TS.h (P := Try.prog) (t := 3))
instance : TPl Try.prog 40 [(0, 1), (1, 1), (2, 1), (3, 1), (4, 1), (5, 1), (6, 1), (7, 1)] := ⟨_, Try.underlying40, fun w => by simp [TS.h (P := Try.prog) (t := 3), TS.h (P := Try.prog) (t := 9)]⟩
instance : TF Try.prog 45 0 0 := TF.mk' (k := 0) Try.underlying45 rfl rfl (TS.h (P := Try.prog) (t := 3))
instance : TF Try.prog 45 1 1 := TF.mk' (k := 0) Try.underlying45 rfl rfl (TS.h (P := Try.prog) (t := 3))
instance : TFV Try.prog 45 1 1 1 false := TFV.mk' Try.underlying45 rfl rfl (TS.h (P := Try.prog) (t := 3)) (TA.h (P := Try.prog) (t := 3))
instance : TF Try.prog 45 2 2 := TF.mk' (k := 0) Try.underlying45 rfl rfl (TS.h (P := Try.prog) (t := 4))
instance : TF Try.prog 45 3 3 := TF.mk' (k := 0) Try.underlying45 rfl rfl (TS.h (P := Try.prog) (t := 4))
instance : TFV Try.prog 45 3 3 1 false := TFV.mk' Try.underlying45 rfl rfl (TS.h (P := Try.prog) (t := 4)) (TA.h (P := Try.prog) (t := 4))
instance : TPl Try.prog 45 [(0, 1), (1, 1), (2, 1), (3, 1)] := ⟨_, Try.underlying45, fun w => by simp [TS.h (P := Try.prog) (t := 3), TS.h (P := Try.prog) (t := 4)]⟩
instance : TF Try.prog 48 0 0 := TF.mk' (k := 0) Try.underlying48 rfl rfl (TS.h (P := Try.prog) (t := 3))
instance : TF Try.prog 48 1 1 := TF.mk' (k := 0) Try.underlying48 rfl rfl (TS.h (P := Try.prog) (t := 3))
instance : TPl Try.prog 48 [(0, 1), (1, 1)] := ⟨_, Try.underlying48, fun w => by simp [TS.h (P := Try.prog) (t := 3)]⟩
instance : TF Try.prog 51 0 0 := TF.mk' (k := 0) Try.underlying51 rfl rfl (TS.h (P := Try.prog) (t := 34))
instance : TF Try.prog 51 1 1 := TF.mk' (k := 0) Try.underlying51 rfl rfl (TS.h (P := Try.prog) (t := 49))
instance : TF Try.prog 51 2 2 := TF.mk' (k := 0) Try.underlying51 rfl rfl (TS.h (P := Try.prog) (t := 34))
instance : TF Try.prog 51 3 3 := TF.mk' (k := 0) Try.underlying51 rfl rfl (TS.h (P := Try.prog) (t := 34))
instance : TPl Try.prog 51 [(0, 1), (1, 1), (2, 1), (3, 1)] := ⟨_, Try.underlying51, fun w => by simp [TS.h (P := Try.prog) (t := 34), TS.h (P := Try.prog) (t := 49)]⟩
instance : TF Try.prog 60 0 0 := TF.mk' (k := 0) Try.underlying60 rfl rfl (TS.h (P := Try.prog) (t := 57))
instance : TF Try.prog 60 1 1 := TF.mk' (k := 0) Try.underlying60 rfl rfl (TS.h (P := Try.prog) (t := 34))
instance : TF Try.prog 60 2 2 := TF.mk' (k := 0) Try.underlying60 rfl rfl (TS.h (P := Try.prog) (t := 34))
instance : TF Try.prog 60 3 3 := TF.mk' (k := 0) Try.underlying60 rfl rfl (TS.h (P := Try.prog) (t := 34))
instance : TF Try.prog 60 4 4 := TF.mk' (k := 0) Try.underlying60 rfl rfl (TS.h (P := Try.prog) (t := 58))
instance : TPl Try.prog 60 [(0, 1), (1, 1), (2, 1), (3, 1), (4, 1)] := ⟨_, Try.underlying60, fun w => by simp [TS.h (P := Try.prog) (t := 34), TS.h (P := Try.prog) (t := 57), TS.h (P := Try.prog) (t := 58)]⟩
instance : TF Try.prog 62 0 0 := TF.mk' (k := 4) Try.underlying62 rfl rfl (TS.h (P := Try.prog) (t := 60))
instance : TF Try.prog 62 1 5 := TF.mk' (k := 4) Try.underlying62 rfl rfl (TS.h (P := Try.prog) (t := 60))
instance : TF Try.prog 62 2 10 := TF.mk' (k := 0) Try.underlying62 rfl rfl (TS.h (P := Try.prog) (t := 34))
instance : TPl Try.prog 62 [(0, 5), (5, 5), (10, 1)] := ⟨_, Try.underlying62, fun w => by simp [TS.h (P := Try.prog) (t := 34), TS.h (P := Try.prog) (t := 60)]⟩
instance : TF Try.prog 70 0 0 := TF.mk' (k := 0) Try.underlying70 rfl rfl (TS.h (P := Try.prog) (t := 3))
instance : TF Try.prog 70 1 1 := TF.mk' (k := 0) Try.underlying70 rfl rfl (TS.h (P := Try.prog) (t := 5))
instance : TF Try.prog 70 2 2 := TF.mk' (k := 0) Try.underlying70 rfl rfl (TS.h (P := Try.prog) (t := 9))
instance : TF Try.prog 70 3 3 := TF.mk' (k := 0) Try.underlying70 rfl rfl (TS.h (P := Try.prog) (t := 9))
instance : TF Try.prog 70 4 4 := TF.mk' (k := 0) Try.underlying70 rfl rfl (TS.h (P := Try.prog) (t := 67))
instance : TPl Try.prog 70 [(0, 1), (1, 1), (2, 1), (3, 1), (4, 1)] := ⟨_, Try.underlying70, fun w => by simp [TS.h (P := Try.prog) (t := 3), TS.h (P := Try.prog) (t := 5), TS.h (P := Try.prog) (t := 67), TS.h (P := Try.prog) (t := 9)]⟩
instance : TF Try.prog 73 0 0 := TF.mk' (k := 0) Try.underlying73 rfl rfl (TS.h (P := Try.prog) (t := 3))
instance : TF Try.prog 73 1 1 := TF.mk' (k := 0) Try.underlying73 rfl rfl (TS.h (P := Try.prog) (t := 3))
instance : TF Try.prog 73 2 2 := TF.mk' (k := 0) Try.underlying73 rfl rfl (TS.h (P := Try.prog) (t := 9))
instance : TF Try.prog 73 4 4 := TF.mk' (k := 0) Try.underlying73 rfl rfl (TS.h (P := Try.prog) (t := 9))
instance : TF Try.prog 73 5 5 := TF.mk' (k := 0) Try.underlying73 rfl rfl (TS.h (P := Try.prog) (t := 67))
instance : TPl Try.prog 73 [(0, 1), (1, 1), (2, 1), (3, 1), (4, 1), (5, 1)] := ⟨_, Try.underlying73, fun w => by simp [TS.h (P := Try.prog) (t := 3), TS.h (P := Try.prog) (t := 67), TS.h (P := Try.prog) (t := 9)]⟩
instance : TF Try.prog 97 0 0 := TF.mk' (k := 0) Try.underlying97 rfl rfl (TS.h (P := Try.prog) (t := 3))
instance : TF Try.prog 97 1 1 := TF.mk' (k := 0) Try.underlying97 rfl rfl (TS.h (P := Try.prog) (t := 3))
instance : TF Try.prog 97 2 2 := TF.mk' (k := 0) Try.underlying97 rfl rfl (TS.h (P := Try.prog) (t := 3))
instance : TF Try.prog 97 3 3 := TF.mk' (k := 0) Try.underlying97 rfl rfl (TS.h (P := Try.prog) (t := 3))
instance : TFV Try.prog 97 3 3 1 false := TFV.mk' Try.underlying97 rfl rfl (TS.h (P := Try.prog) (t := 3)) (TA.h (P := Try.prog) (t := 3))
instance : TPl Try.prog 97 [(0, 1), (1, 1), (2, 1), (3, 1)] := ⟨_, Try.underlying97, fun w => by simp [TS.h (P := Try.prog) (t := 3)]⟩
instance : TF Try.prog 105 0 0 := TF.mk' (k := 0) Try.underlying105 rfl rfl (TS.h (P := Try.prog) (t := 3))
instance : TF Try.prog 105 1 1 := TF.mk' (k := 0) Try.underlying105 rfl rfl (TS.h (P := Try.prog) (t := 3))
instance : TPl Try.prog 105 [(0, 1), (1, 1)] := ⟨_, Try.underlying105, fun w => by simp [TS.h (P := Try.prog) (t := 3)]⟩
instance : TF Try.prog 117 0 0 := TF.mk' (k := 4) Try.underlying117 rfl rfl (TS.h (P := Try.prog) (t := 60))
instance : TF Try.prog 117 1 5 := TF.mk' (k := 0) Try.underlying117 rfl rfl (TS.h (P := Try.prog) (t := 34))
instance : TF Try.prog 117 2 6 := TF.mk' (k := 0) Try.underlying117 rfl rfl (TS.h (P := Try.prog) (t := 34))
instance : TF Try.prog 117 3 7 := TF.mk' (k := 0) Try.underlying117 rfl rfl (TS.h (P := Try.prog) (t := 3))
instance : TPl Try.prog 117 [(0, 5), (5, 1), (6, 1), (7, 1)] := ⟨_, Try.underlying117, fun w => by simp [TS.h (P := Try.prog) (t := 3), TS.h (P := Try.prog) (t := 34), TS.h (P := Try.prog) (t := 60)]⟩
instance : TPl Try.prog 123 [(0, 1), (1, 1), (2, 1)] := ⟨_, Try.underlying123, fun w => by simp [TS.h (P := Try.prog) (t := 3), TS.h (P := Try.prog) (t := 5)]⟩
instance : TC Try.prog 4 Try.f4 := ⟨Try.func4, ⟨_, rfl⟩, by kernel_rfl⟩
instance : TC Try.prog 5 Try.f5 := ⟨Try.func5, ⟨_, rfl⟩, by kernel_rfl⟩
instance : TC Try.prog 6 Try.f6 := ⟨Try.func6, ⟨_, rfl⟩, by kernel_rfl⟩
instance : TC Try.prog 7 Try.f7 := ⟨Try.func7, ⟨_, rfl⟩, by kernel_rfl⟩
instance : TC Try.prog 8 Try.f8 := ⟨Try.func8, ⟨_, rfl⟩, by kernel_rfl⟩
instance : TC Try.prog 9 Try.f9 := ⟨Try.func9, ⟨_, rfl⟩, by kernel_rfl⟩
instance : TC Try.prog 10 Try.f10 := ⟨Try.func10, ⟨_, rfl⟩, by kernel_rfl⟩
instance : TC Try.prog 11 Try.f11 := ⟨Try.func11, ⟨_, rfl⟩, by kernel_rfl⟩
instance : TC Try.prog 12 Try.f12 := ⟨Try.func12, ⟨_, rfl⟩, by kernel_rfl⟩
instance : TC Try.prog 13 Try.f13 := ⟨Try.func13, ⟨_, rfl⟩, by kernel_rfl⟩
instance : TC Try.prog 14 Try.f14 := ⟨Try.func14, ⟨_, rfl⟩, by kernel_rfl⟩
instance : TC Try.prog 15 Try.f15 := ⟨Try.func15, ⟨_, rfl⟩, by kernel_rfl⟩
instance : TC Try.prog 16 Try.f16 := ⟨Try.func16, ⟨_, rfl⟩, by kernel_rfl⟩
instance : TC Try.prog 17 Try.f17 := ⟨Try.func17, ⟨_, rfl⟩, by kernel_rfl⟩
instance : TC Try.prog 18 Try.f18 := ⟨Try.func18, ⟨_, rfl⟩, by kernel_rfl⟩
instance : TC Try.prog 19 Try.f19 := ⟨Try.func19, ⟨_, rfl⟩, by kernel_rfl⟩
instance : TC Try.prog 20 Try.f20 := ⟨Try.func20, ⟨_, rfl⟩, by kernel_rfl⟩
instance : TC Try.prog 21 Try.f21 := ⟨Try.func21, ⟨_, rfl⟩, by kernel_rfl⟩
instance : TC Try.prog 22 Try.f22 := ⟨Try.func22, ⟨_, rfl⟩, by kernel_rfl⟩
instance : TC Try.prog 23 Try.f23 := ⟨Try.func23, ⟨_, rfl⟩, by kernel_rfl⟩
instance : TC Try.prog 24 Try.f24 := ⟨Try.func24, ⟨_, rfl⟩, by kernel_rfl⟩
instance : TC Try.prog 25 Try.f25 := ⟨Try.func25, ⟨_, rfl⟩, by kernel_rfl⟩
instance : TC Try.prog 26 Try.f26 := ⟨Try.func26, ⟨_, rfl⟩, by kernel_rfl⟩
instance : TC Try.prog 27 Try.f27 := ⟨Try.func27, ⟨_, rfl⟩, by kernel_rfl⟩
instance : TC Try.prog 28 Try.f28 := ⟨Try.func28, ⟨_, rfl⟩, by kernel_rfl⟩
instance : TC Try.prog 29 Try.f29 := ⟨Try.func29, ⟨_, rfl⟩, by kernel_rfl⟩
instance : TC Try.prog 30 Try.f30 := ⟨Try.func30, ⟨_, rfl⟩, by kernel_rfl⟩
instance : TC Try.prog 31 Try.f31 := ⟨Try.func31, ⟨_, rfl⟩, by kernel_rfl⟩
instance : TC Try.prog 32 Try.f32 := ⟨Try.func32, ⟨_, rfl⟩, by kernel_rfl⟩
instance : TC Try.prog 33 Try.f33 := ⟨Try.func33, ⟨_, rfl⟩, by kernel_rfl⟩
instance : TC Try.prog 34 Try.f34 := ⟨Try.func34, ⟨_, rfl⟩, by kernel_rfl⟩
instance : TC Try.prog 35 Try.f35 := ⟨Try.func35, ⟨_, rfl⟩, by kernel_rfl⟩
instance : TC Try.prog 36 Try.f36 := ⟨Try.func36, ⟨_, rfl⟩, by kernel_rfl⟩
instance : TC Try.prog 37 Try.f37 := ⟨Try.func37, ⟨_, rfl⟩, by kernel_rfl⟩
instance : TC Try.prog 38 Try.f38 := ⟨Try.func38, ⟨_, rfl⟩, by kernel_rfl⟩
instance : TC Try.prog 39 Try.f39 := ⟨Try.func39, ⟨_, rfl⟩, by kernel_rfl⟩
instance : TC Try.prog 40 Try.f40 := ⟨Try.func40, ⟨_, rfl⟩, by kernel_rfl⟩
end Go.Proofs.Ythcoaljmgkhglaa
namespace Go.Proofs.Ythcoaljmgkhglaa
open Go Go.Sx Go.RowKit
attribute [local irreducible] WL WC WQ St Exit.then Exit.inBlock bodyPost roundPost beginK YR RG BM Calls B
/-! ## the kit's functions on lists of numbers -/
end Go.Proofs.Ythcoaljmgkhglaa
namespace Go.Sx.Seq
structure Stop where
  id : Int
  vol : Int
deriving DecidableEq
structure Seat where
  stop : Int
  vol : Int
  first : Int
  second : Int
deriving DecidableEq
structure Plan where
  caps : List Int
  seats : List Seat
  first : List Int
  second : List Int
deriving DecidableEq
def Plan.zero : Plan := ⟨[], [], [], []⟩
/-! ## machines, routes -/
def machineOk (caps : List Int) : Prop := (1 ≤ caps.length ∧ caps.length ≤ 64) ∧ ∀ c ∈ caps, 1 ≤ c ∧ c ≤ 100000
instance (caps : List Int) : Decidable (machineOk caps) := by unfold machineOk; infer_instance
def Stop.ok (s : Stop) : Prop := (1 ≤ s.id ∧ s.id ≤ 999999) ∧ (1 ≤ s.vol ∧ s.vol ≤ 10000)
instance (s : Stop) : Decidable s.ok := by unfold Stop.ok; infer_instance
/-- The index of the first stop that is not valid, or has the ID of an earlier one. -/
def wrongF : List Int → Nat → List Stop → Option Nat
  | _, _, [] => none
  | met, i, s :: r => if s.ok ∧ s.id ∉ met then wrongF (met ++ [s.id]) (i + 1) r else some i
/-- These stops are a route behind those that were met. -/
def routeFrom (met : List Int) (l : List Stop) : Prop := (∀ s ∈ l, s.ok) ∧ (l.map Stop.id).Nodup ∧ ∀ s ∈ l, s.id ∉ met
theorem wrongF_none : ∀ {l : List Stop} {met : List Int} {i : Nat}, wrongF met i l = none ↔ routeFrom met l
  | [], met, i => by simp [wrongF, routeFrom]
  | s :: r, met, i => by
    rw [wrongF]
    by_cases h : s.ok ∧ s.id ∉ met
    · rw [if_pos h, wrongF_none]
      unfold routeFrom
      simp only [List.mem_cons, List.map_cons, List.nodup_cons, List.mem_append, List.mem_singleton, List.mem_map, List.not_mem_nil, or_false]
      constructor
      · rintro ⟨h1, h2, h3⟩
        refine ⟨?_, ⟨?_, h2⟩, ?_⟩
        · rintro x (rfl | hx)
          · exact h.1
          · exact h1 x hx
        · rintro ⟨x, hx, e⟩
          exact h3 x hx (.inr e)
        · rintro x (rfl | hx)
          · exact h.2
          · exact fun g => h3 x hx (.inl g)
      · rintro ⟨h1, ⟨h2, h3⟩, h4⟩
        refine ⟨fun x hx => h1 x (.inr hx), h3, fun x hx => ?_⟩
        rintro (g | g)
        · exact h4 x (.inr hx) g
        · exact h2 ⟨x, hx, g⟩
    · rw [if_neg h]
      constructor
      · intro g; cases g
      · rintro ⟨h1, _, h3⟩
        exact absurd ⟨h1 s List.mem_cons_self, h3 s List.mem_cons_self⟩ h
/-! ## loads -/
def addAt (l : List Int) (k : Nat) (v : Int) : List Int := l.set k (l.getD k 0 + v)
theorem addAt_len (l : List Int) (k : Nat) (v : Int) : (addAt l k v).length = l.length := by simp [addAt]
def loadsF (g : Seat → Int) (n : Nat) (seats : List Seat) : List Int := seats.foldl (fun l s => addAt l (g s).toNat s.vol) (List.replicate n 0)
theorem loadsF_nil (g : Seat → Int) (n : Nat) : loadsF g n [] = List.replicate n 0 := rfl
theorem loadsF_snoc (g : Seat → Int) (n : Nat) (l : List Seat) (s : Seat) : loadsF g n (l ++ [s]) = addAt (loadsF g n l) (g s).toNat s.vol := by simp [loadsF]
theorem loadsF_len (g : Seat → Int) (n : Nat) (l : List Seat) : (loadsF g n l).length = n := by
  unfold loadsF
  have : ∀ (l : List Seat) (a : List Int), (l.foldl (fun l s => addAt l (g s).toNat s.vol) a).length = a.length := by
    intro l
    induction l with
    | nil => intro a; rfl
    | cons s r ih => intro a; rw [List.foldl_cons, ih, addAt_len]
  rw [this]; simp
/-- The load of one stacker: the sum of its stops' volumes. -/
def loadOf (g : Seat → Int) (k : Nat) : List Seat → Int
  | [] => 0
  | s :: r => (if (g s).toNat = k then s.vol else 0) + loadOf g k r
theorem foldl_get (g : Seat → Int) (k : Nat) : ∀ (l : List Seat) (a : List Int), k < a.length → (l.foldl (fun l s => addAt l (g s).toNat s.vol) a)[k]? = some (a.getD k 0 + loadOf g k l)
  | [], a, h => by simp [loadOf, h]
  | s :: r, a, h => by
    rw [List.foldl_cons, foldl_get g k r _ (by rw [addAt_len]; exact h)]
    congr 1
    rw [loadOf]
    by_cases e : (g s).toNat = k
    · rw [if_pos e, e, addAt]
      simp [h]; omega
    · rw [if_neg e, addAt]
      simp only [List.getD_eq_getElem?_getD]
      rw [List.getElem?_set_ne e]; omega
theorem loadsF_get (g : Seat → Int) {n k : Nat} (h : k < n) (l : List Seat) : (loadsF g n l)[k]? = some (loadOf g k l) := by
  unfold loadsF
  rw [foldl_get g k l _ (by simpa using h)]
  congr 1
  simp [h]
theorem loadOf_bounds (g : Seat → Int) (k : Nat) : ∀ {l : List Seat}, (∀ s ∈ l, 0 ≤ s.vol ∧ s.vol ≤ 10000) → 0 ≤ loadOf g k l ∧ loadOf g k l ≤ 10000 * l.length
  | [], _ => by simp [loadOf]
  | s :: r, h => by
    have h1 := h s List.mem_cons_self
    have h2 := loadOf_bounds g k (l := r) (fun x hx => h x (List.mem_cons_of_mem _ hx))
    rw [loadOf, List.length_cons]
    split <;> omega
/-- The first stacker with a load above its capacity. -/
def overF : Nat → List Int → List Int → List Int → Option Nat
  | i, c :: cs, f :: fs, s :: ss => if c < f ∨ c < s then some i else overF (i + 1) cs fs ss
  | _, _, _, _ => none
/-! ## the rule for a limit -/
/-- Where a stop goes: the current stacker (its number, how many stops it has, its load), and the capacities from it on. -/
def place (limit : Nat) (v : Int) : Nat → Nat → Int → List Int → Option (Nat × Nat × Int × List Int)
  | _, _, _, [] => none
  | cur, held, load, c :: cs => if held < limit ∧ load + v ≤ c then some (cur, held, load, c :: cs) else place limit v (cur + 1) 0 0 cs
def alongF (limit : Nat) : List Stop → Nat → Nat → Int → List Int → List Seat
  | [], _, _, _, _ => []
  | s :: r, cur, held, load, cs => match place limit s.vol cur held load cs with
    | none => []
    | some (cur', held', load', cs') => ⟨s.id, s.vol, held', cur'⟩ :: alongF limit r cur' (held' + 1) (load' + s.vol) cs'
def rule (limit : Nat) (stops : List Stop) (caps : List Int) : List Seat := alongF limit stops 0 0 0 caps
theorem place_spec {limit : Nat} {v : Int} : ∀ {cs : List Int} {cur held : Nat} {load : Int} {cur' held' : Nat} {load' : Int} {cs' : List Int}, place limit v cur held load cs = some (cur', held', load', cs') →
    held' < limit ∧ cur ≤ cur' ∧ cs' = cs.drop (cur' - cur) ∧ cur' < cur + cs.length ∧ (∃ c, cs[cur' - cur]? = some c ∧ load' + v ≤ c) ∧ ((cur' = cur ∧ held' = held ∧ load' = load) ∨ (cur < cur' ∧ held' = 0 ∧ load' = 0))
  | [], cur, held, load, cur', held', load', cs', h => by cases h
  | c :: cs, cur, held, load, cur', held', load', cs', h => by
    rw [place] at h
    split at h
    · rename_i hc
      cases h
      refine ⟨hc.1, Nat.le_refl _, by simp, by simp, ⟨c, by simp, hc.2⟩, .inl ⟨rfl, rfl, rfl⟩⟩
    · obtain ⟨h1, h2, h3, h4, ⟨c', h5, h6⟩, h7⟩ := place_spec h
      have e : cur' - cur = (cur' - (cur + 1)) + 1 := by omega
      refine ⟨h1, by omega, ?_, by simp only [List.length_cons]; omega, ⟨c', ?_, h6⟩, ?_⟩
      · rw [h3, e]; rfl
      · rw [e]; exact h5
      · right
        rcases h7 with ⟨g1, g2, g3⟩ | ⟨g1, g2, g3⟩
        · exact ⟨by omega, g2, g3⟩
        · exact ⟨by omega, g2, g3⟩
theorem alongF_len {limit : Nat} : ∀ (l : List Stop) (cur held : Nat) (load : Int) (cs : List Int), (alongF limit l cur held load cs).length ≤ l.length
  | [], _, _, _, _ => by simp [alongF]
  | s :: r, cur, held, load, cs => by
    rw [alongF]
    split
    · simp
    · simp only [List.length_cons]
      have := alongF_len (limit := limit) r
      rename_i cur' held' load' cs' _
      have := this cur' (held' + 1) (load' + s.vol) cs'
      omega
theorem alongF_range {limit n : Nat} : ∀ (l : List Stop) (cur held : Nat) (load : Int) (cs : List Int), cur + cs.length = n → ∀ x ∈ alongF limit l cur held load cs,
    (0 ≤ x.first ∧ x.first < limit) ∧ ((cur : Int) ≤ x.second ∧ x.second < n) ∧ ∃ s ∈ l, x.stop = s.id ∧ x.vol = s.vol
  | [], _, _, _, _, _, x, hx => by simp [alongF] at hx
  | s :: r, cur, held, load, cs, hn, x, hx => by
    rw [alongF] at hx
    split at hx
    · cases hx
    · rename_i cur' held' load' cs' hp
      obtain ⟨h1, h2, h3, h4, _, h5⟩ := place_spec hp
      rcases List.mem_cons.1 hx with rfl | hx
      · simp only []
        exact ⟨by omega, by omega, s, List.mem_cons_self, rfl, rfl⟩
      · obtain ⟨g1, g2, t, g3, g4⟩ := alongF_range (n := n) r cur' (held' + 1) (load' + s.vol) cs' (by rw [h3, List.length_drop]; omega) x hx
        exact ⟨g1, by omega, t, List.mem_cons_of_mem _ g3, g4⟩
theorem rule_len (limit : Nat) (l : List Stop) (caps : List Int) : (rule limit l caps).length ≤ l.length := alongF_len _ _ _ _ _
theorem rule_range {limit : Nat} {l : List Stop} {caps : List Int} (hl : limit ≤ caps.length) (hs : ∀ s ∈ l, s.ok) : ∀ x ∈ rule limit l caps, (0 ≤ x.first ∧ x.first < caps.length) ∧ (0 ≤ x.second ∧ x.second < caps.length) ∧ (0 ≤ x.vol ∧ x.vol ≤ 10000) := fun x hx => by
  obtain ⟨h1, h2, s, h3, _, h4⟩ := alongF_range (n := caps.length) l 0 0 0 caps (by simp) x hx
  have := hs s h3
  unfold Stop.ok at this
  refine ⟨by omega, by omega, by omega⟩
def limits (stops : List Stop) (caps : List Int) : Nat → Plan × Int
  | 0 => (.zero, 4)
  | L + 1 =>
    let seats := rule (L + 1) stops caps
    if seats.length < stops.length then limits stops caps L else
    match overF 0 caps (loadsF Seat.first caps.length seats) (loadsF Seat.second caps.length seats) with
    | none => (⟨caps, seats, loadsF Seat.first caps.length seats, loadsF Seat.second caps.length seats⟩, 0)
    | some _ => limits stops caps L
def makeF (stops : List Stop) (caps : List Int) : Plan × Int :=
  if ¬ machineOk caps then (.zero, 280) else
  if 1000 < stops.length then (.zero, 5) else
  match wrongF [] 0 stops with
  | some _ => (.zero, 281)
  | none =>
    if stops = [] then (⟨caps, [], List.replicate caps.length 0, List.replicate caps.length 0⟩, 0) else
    limits stops caps (min caps.length stops.length)
/-! ## Check -/
def misF (n : Nat) : Option Seat → Nat → List Seat → Option Nat
  | _, _, [] => none
  | p, i, s :: r =>
    if ¬ ((0 ≤ s.first ∧ s.first < n) ∧ (0 ≤ s.second ∧ s.second < n)) then some i else
    match p with
    | none => misF n (some s) (i + 1) r
    | some q => if s.second < q.second ∨ (s.second = q.second ∧ s.first ≤ q.first) then some i else misF n (some s) (i + 1) r
theorem misF_in {n : Nat} {p : Option Seat} {i : Nat} {s : Seat} {r : List Seat} (h : ¬ ((0 ≤ s.first ∧ s.first < n) ∧ (0 ≤ s.second ∧ s.second < n))) : misF n p i (s :: r) = some i := by
  unfold misF; rw [if_pos h]
theorem misF_first {n : Nat} {i : Nat} {s : Seat} {r : List Seat} (h : (0 ≤ s.first ∧ s.first < n) ∧ (0 ≤ s.second ∧ s.second < n)) : misF n none i (s :: r) = misF n (some s) (i + 1) r := by
  rw [misF]; rw [if_neg (fun g => g h)]
theorem misF_next {n : Nat} {i : Nat} {q s : Seat} {r : List Seat} (h : (0 ≤ s.first ∧ s.first < n) ∧ (0 ≤ s.second ∧ s.second < n)) : misF n (some q) i (s :: r) = if s.second < q.second ∨ (s.second = q.second ∧ s.first ≤ q.first) then some i else misF n (some s) (i + 1) r := by
  rw [misF]; rw [if_neg (fun g => g h)]
theorem misF_range {n : Nat} : ∀ {l : List Seat} {p : Option Seat} {i : Nat}, misF n p i l = none → ∀ s ∈ l, (0 ≤ s.first ∧ s.first < n) ∧ (0 ≤ s.second ∧ s.second < n)
  | [], _, _, _, s, hs => by cases hs
  | x :: r, p, i, h, s, hs => by
    by_cases hx : (0 ≤ x.first ∧ x.first < n) ∧ (0 ≤ x.second ∧ x.second < n)
    · rcases List.mem_cons.1 hs with rfl | hs
      · exact hx
      · cases p with
        | none => rw [misF_first hx] at h; exact misF_range h s hs
        | some q =>
          rw [misF_next hx] at h
          split at h
          · cases h
          · exact misF_range h s hs
    · rw [misF_in hx] at h; cases h
def Seat.asStop (s : Seat) : Stop := ⟨s.stop, s.vol⟩
/-- The first stacker whose load is not the one that is given. -/
def diffF : Nat → List Int → List Int → List Int → List Int → Option Nat
  | i, f :: fs, s :: ss, f' :: fs', s' :: ss' => if f ≠ f' ∨ s ≠ s' then some i else diffF (i + 1) fs ss fs' ss'
  | _, _, _, _, _ => none
def checkF (p : Plan) : Nat × Int :=
  if ¬ machineOk p.caps then (0, 280) else
  if 1000 < p.seats.length then (0, 5) else
  match wrongF [] 0 (p.seats.map Seat.asStop) with
  | some i => (i, 281)
  | none =>
    match misF p.caps.length none 0 p.seats with
    | some i => (i, 282)
    | none =>
      if p.first.length ≠ p.caps.length ∨ p.second.length ≠ p.caps.length then (0, 283) else
      match diffF 0 p.first p.second (loadsF Seat.first p.caps.length p.seats) (loadsF Seat.second p.caps.length p.seats) with
      | some i => (i, 283)
      | none =>
        match overF 0 p.caps (loadsF Seat.first p.caps.length p.seats) (loadsF Seat.second p.caps.length p.seats) with
        | some i => (i, 4)
        | none => (0, 0)
def findF (l : List Seat) (stop : Int) : Option Seat := l.find? (fun s => s.stop == stop)
/-! ## Sort -/
def feedF (seats : List Seat) : List Int → List Int → Int
  | _, [] => 0
  | fed, x :: r => match findF seats x with
    | none => 6
    | some s => if s.vol ≤ fed.count x then 4 else feedF seats (fed ++ [x]) r
/-- The stackers after a pass: those of the list whose stacker it is. -/
def passF (n : Nat) (key : Nat → Nat) (fed : List Nat) : List (List Nat) := (List.range n).map fun k => fed.filter fun i => key i = k
structure Run where
  first : List (List Nat)
  second : List (List Nat)
  order : List Nat
deriving DecidableEq
def Run.zero : Run := ⟨[], [], []⟩
def keyF (seats : List Seat) (items : List Int) (g : Seat → Int) (i : Nat) : Nat := (((items[i]?).bind (findF seats)).elim 0 g).toNat
def runF (p : Plan) (items : List Int) : Run :=
  let first := passF p.caps.length (keyF p.seats items Seat.first) (List.range items.length)
  let second := passF p.caps.length (keyF p.seats items Seat.second) first.flatten
  ⟨first, second, second.flatten⟩
def sortF (p : Plan) (items : List Int) : Run × Int :=
  if (checkF p).2 ≠ 0 then (.zero, (checkF p).2) else
  if 2000 < items.length then (.zero, 5) else
  if feedF p.seats [] items ≠ 0 then (.zero, feedF p.seats [] items) else
  (runF p items, 0)
end Go.Sx.Seq
