/- A part of the proofs of this seat: a small logic of walks, plain laws, and what some of the program's functions compute, shown by walks through their code. Conditions: the hypotheses that each theorem names. -/
import Derived.Test.YtkhaemjoekfhiaaZPRoutes2
import Derived.Lib.AppendZeros
import Derived.WideKeyRuns
import Derived.Test.YtkhaemjoekfhiaaRows
import Derived.WalkKit
set_option linter.unusedSimpArgs false
set_option linter.unusedVariables false
set_option linter.unusedSectionVars false
namespace Go.Sx
open Go Go.RowKit
section
variable {r : Option Nat} {P : Program} {n : Nat} {D : List Deferred} {w0 : World} {F : List (Nat × Value)} {L : List Ent} {Q : Exit → Act → World → Prop}
def AgainD {σ : Type} (n : Nat) (Ds : σ → List Deferred) (w0 : World) (Fs : σ → List (Nat × Value)) (Ls : σ → List Ent) (I : σ → Prop) (μ : σ → Nat) (s : σ) : Act → World → Prop :=
  fun a w => ∃ s', I s' ∧ μ s' < μ s ∧ Fr n (Ds s') (Fs s') a ∧ Rep w0 w (Ls s')
def MeetD {σ : Type} (n : Nat) (Ds : σ → List Deferred) (w0 : World) (Fs : σ → List (Nat × Value)) (Ls : σ → List Ent) (I : σ → Prop) : Act → World → Prop :=
  fun a w => ∃ s, I s ∧ Fr n (Ds s) (Fs s) a ∧ Rep w0 w (Ls s)
theorem c_loopD {c : Code} {σ : Type} (Ds : σ → List Deferred) (Fs : σ → List (Nat × Value)) (Ls : σ → List Ent) (I : σ → Prop) (μ : σ → Nat) (s0 : σ) (hI : I s0) (hD : D = Ds s0) (hF : FSub (Fs s0) F) (hL : HSub (Ls s0) L)
    (round : ∀ s, I s → St n (Ds s) w0 (Fs s) (Ls s) (WC r P c (Exit.then (AgainD n Ds w0 Fs Ls I μ s) Q))) :
    St n D w0 F L (WC r P (.loop c) Q) := by
  intro a w ha hw b k cs hro hb hr
  have key : ∀ (m : Nat) (s : σ), μ s = m → I s → ∀ a w, Fr n (Ds s) (Fs s) a → Rep w0 w (Ls s) →
      ∃ e a' w', Q e a' w' ∧ ArrivesIn (Machine.fenced P (FR r)) P (lone (b.atR a (.code c :: .inLoop c :: k)) cs w) b k cs e a' w' := by
    intro m
    induction m using Nat.strongRecOn with
    | _ m ih =>
      intro s hm hIs a w ha hw
      obtain ⟨e, a₁, w₁, hq, harr⟩ := round s hIs a w ha hw b (.inLoop c :: k) cs hro hb hr
      cases e with
      | normal =>
        obtain ⟨s', hI', hlt, ha', hw'⟩ := hq
        obtain ⟨e₂, a₂, w₂, hq₂, harr₂⟩ := ih (μ s') (hm ▸ hlt) s' rfl hI' a₁ w₁ ha' hw'
        exact ⟨e₂, a₂, w₂, hq₂, .of_steps (StepsIn.trans harr (.one (fenced_calm hb hr rfl) stepR_inLoop)) harr₂⟩
      | exit id => exact ⟨_, a₁, w₁, hq, .pass (x := .inLoop c) rfl (fun _ _ => .inl (by simp)) harr⟩
      | goto l => exact ⟨_, a₁, w₁, hq, .pass (x := .inLoop c) rfl (fun _ _ => .inl (by simp)) harr⟩
      | ret => exact ⟨_, a₁, w₁, hq, .pass (x := .inLoop c) rfl (fun _ _ => .inl (by simp)) harr⟩
      | panic ch => exact ⟨_, a₁, w₁, hq, .pass (x := .inLoop c) rfl (fun _ _ => .inl (by simp)) harr⟩
      | outgrown => exact ⟨_, a₁, w₁, hq, .pass (x := .inLoop c) rfl (fun _ _ => .inl (by simp)) harr⟩
  subst hD
  obtain ⟨e, a', w', hq, harr⟩ := key _ s0 rfl hI a w (ha.sub hF) (hw.sub hL)
  exact ⟨e, a', w', hq, .of_steps (.one (fenced_calm hb hr rfl) stepR_loop) harr⟩
theorem l_againD {σ : Type} {Ds : σ → List Deferred} {Fs : σ → List (Nat × Value)} {Ls : σ → List Ent} {I : σ → Prop} {μ : σ → Nat} {s : σ} (s' : σ) (hI : I s') (hμ : μ s' < μ s) (hD : D = Ds s') (hF : FSub (Fs s') F) (hL : HSub (Ls s') L) :
    St n D w0 F L (AgainD n Ds w0 Fs Ls I μ s) :=
  fun _ _ ha hw => ⟨s', hI, hμ, hD ▸ ha.sub hF, hw.sub hL⟩
/-- Ways that meet behind some code. -/
theorem c_post {x : Code} {σ : Type} (Ds : σ → List Deferred) (Fs : σ → List (Nat × Value)) (Ls : σ → List Ent) (I : σ → Prop)
    (h1 : St n D w0 F L (WC r P x (Exit.then (MeetD n Ds w0 Fs Ls I) Q))) (h2 : ∀ s, I s → St n (Ds s) w0 (Fs s) (Ls s) (Q .normal)) : St n D w0 F L (WC r P x Q) := by
  refine h1.imp fun a w h => wpIn_mono h ?_
  intro e a' w' hq
  cases e with
  | normal => obtain ⟨s, hI, ha, hw⟩ := hq; exact h2 s hI a' w' ha hw
  | _ => exact hq
theorem l_meetD {σ : Type} {Ds : σ → List Deferred} {Fs : σ → List (Nat × Value)} {Ls : σ → List Ent} {I : σ → Prop} (s : σ) (hI : I s) (hD : D = Ds s) (hF : FSub (Fs s) F) (hL : HSub (Ls s) L) :
    St n D w0 F L (MeetD n Ds w0 Fs Ls I) :=
  fun _ _ ha hw => ⟨s, hI, hD ▸ ha.sub hF, hw.sub hL⟩
/-- The blocks of the loops over functions that have ended. -/
def MB (bds : List Nat) : List Ent := bds.map fun b => ⟨b, .deferred (some []), true⟩
def MBn (bds : List Nat) : List Ent := bds.map fun b => ⟨b, .deferred none, true⟩
theorem MB_own (bds : List Nat) : ∀ x ∈ MB bds, x.own = true := fun x hx => by
  obtain ⟨b, _, rfl⟩ := List.mem_map.1 hx; rfl
theorem MBn_own (bds : List Nat) : ∀ x ∈ MBn bds, x.own = true := fun x hx => by
  obtain ⟨b, _, rfl⟩ := List.mem_map.1 hx; rfl
theorem MB_cons (b : Nat) (bds : List Nat) : MB (b :: bds) = ⟨b, .deferred (some []), true⟩ :: MB bds := rfl
theorem RemL.cons {e : Ent} {M M1 M' N : List Ent} (h1 : Rem M e M1) (h2 : RemL M1 N M') : RemL M (e :: N) M' := h1.perm.trans (List.Perm.cons e h2)
theorem leaves_marks {fn : Func} {R : Ending → World → Prop} {tmps : Array Value} {v : Value} {w0 : World} {L0 : List Ent} : ∀ (bds : List Nat) (X : List Ent) (w : World), Rep w0 w (X ++ (MB bds ++ L0)) →
    (∀ w', Rep w0 w' (X ++ (MBn bds ++ L0)) → (results fn tmps).run P w' = .ok v w' ∧ R (.returned v) w') → LeavesInM (FR none) 0 P fn tmps R (bds.map mark) .returning w
  | [], X, w, hw, h => ⟨v, (h w hw).1, (h w hw).2⟩
  | b :: bds, X, w, hw, h => by
    have hw1 : Rep w0 w (X ++ (⟨b, .deferred (some []), true⟩ :: (MB bds ++ L0))) := hw
    have hu : Upd (X ++ (⟨b, .deferred (some []), true⟩ :: (MB bds ++ L0))) b (.deferred (some [])) (.deferred none) (X ++ (⟨b, .deferred none, true⟩ :: (MB bds ++ L0))) := Upd.right .hd
    have hw2 : Rep w0 (w.putObj b (.deferred none)) (X ++ (⟨b, .deferred none, true⟩ :: (MB bds ++ L0))) := hw1.upd hu
    refine ⟨by simp, .inl ⟨b, w.putObj b (.deferred none), rfl, run_takeDeferred (hw1.at hu.at), ?_⟩⟩
    refine leaves_marks bds (X ++ [⟨b, .deferred none, true⟩]) _ (by simpa using hw2) fun w' hw' => h w' ?_
    have : (X ++ [⟨b, .deferred none, true⟩]) ++ (MBn bds ++ L0) = X ++ (MBn (b :: bds) ++ L0) := by simp [MBn]
    rwa [this] at hw'
theorem r_Mk {fn : Func} {R : Ending → World → Prop} {v : Value} {bds : List Nat} {L0 : List Ent} (hr : RemL L (MB bds) L0) (hres : ∀ a w, Fr n (bds.map mark) F a → Rep w0 w (MBn bds ++ L0) → (results fn a.tmps).run P w = .ok v w)
    (h : ∀ w, Rep w0 w (MBn bds ++ L0) → R (.returned v) w) : St n (bds.map mark) w0 F L (BM P fn R .ret) :=
  fun a w ha hw => by
    show LeavesInM (FR none) 0 P fn a.tmps R a.defers .returning w
    rw [ha.defers]
    exact leaves_marks bds [] w (by simpa using hw.perm hr) fun w' hw' => ⟨hres a w' ha (by simpa using hw'), h w' (by simpa using hw')⟩
variable {ops : Array Oper} {d : Tmp} {ty : TypeId} {pos : String} {af : Array Edge} {rest : List Oper}
end
end Go.Sx
namespace Go.Sx
open Go Go.RowKit
/-! ## lists of pairs -/
section
variable {K V : Type} [DecidableEq K]
/-- The value at a key. -/
def asF (k : K) : List (K × V) → Option V
  | [] => none
  | p :: r => if p.1 = k then some p.2 else asF k r
/-- A value put at a key. -/
def putF (k : K) (v : V) : List (K × V) → List (K × V)
  | [] => [(k, v)]
  | p :: r => if p.1 = k then (k, v) :: r else p :: putF k v r
theorem asF_none {k : K} : ∀ {l : List (K × V)}, asF k l = none ↔ ∀ p ∈ l, p.1 ≠ k
  | [] => by simp [asF]
  | p :: r => by
    rw [asF]
    by_cases h : p.1 = k
    · simp [h]
    · simp [h, asF_none (l := r)]
theorem asF_some {k : K} {v : V} : ∀ {l : List (K × V)}, asF k l = some v → ∃ j : Nat, l[j]? = some (k, v)
  | p :: r, h => by
    rw [asF] at h
    by_cases e : p.1 = k
    · rw [if_pos e] at h; cases h; subst e; exact ⟨0, rfl⟩
    · rw [if_neg e] at h
      obtain ⟨j, hj⟩ := asF_some h
      exact ⟨j + 1, by simpa using hj⟩
theorem asF_mem {k : K} {v : V} {l : List (K × V)} (h : asF k l = some v) : (k, v) ∈ l := by
  obtain ⟨j, hj⟩ := asF_some h
  exact List.mem_of_getElem? hj
theorem asF_at {k : K} {v : V} : ∀ {l : List (K × V)} {j : Nat}, (l.map Prod.fst).Nodup → l[j]? = some (k, v) → asF k l = some v
  | [], _, _, h => by simp at h
  | p :: r, 0, _, h => by simp at h; subst h; simp [asF]
  | p :: r, j + 1, hn, h => by
    rw [List.map_cons, List.nodup_cons] at hn
    have h' : r[j]? = some (k, v) := by simpa using h
    have hne : p.1 ≠ k := fun e => hn.1 (List.mem_map.2 ⟨(k, v), List.mem_of_getElem? h', e.symm⟩)
    rw [asF, if_neg hne]
    exact asF_at hn.2 h'
theorem asF_app {k : K} : ∀ {l r : List (K × V)}, asF k (l ++ r) = (asF k l).or (asF k r)
  | [], r => by simp [asF]
  | p :: l, r => by
    rw [List.cons_append, asF, asF]
    by_cases e : p.1 = k
    · simp [e]
    · simp [e, asF_app (l := l)]
theorem putF_new {k : K} {v : V} : ∀ {l : List (K × V)}, asF k l = none → putF k v l = l ++ [(k, v)]
  | [], _ => rfl
  | p :: r, h => by
    rw [asF] at h
    by_cases e : p.1 = k
    · rw [if_pos e] at h; cases h
    · rw [if_neg e] at h
      rw [putF, if_neg e, putF_new h]; rfl
theorem putF_set {k : K} {u v : V} : ∀ {l : List (K × V)} {j : Nat}, (l.map Prod.fst).Nodup → l[j]? = some (k, u) → putF k v l = l.set j (k, v)
  | [], _, _, h => by simp at h
  | p :: r, 0, _, h => by simp at h; subst h; simp [putF]
  | p :: r, j + 1, hn, h => by
    rw [List.map_cons, List.nodup_cons] at hn
    have h' : r[j]? = some (k, u) := by simpa using h
    have hne : p.1 ≠ k := fun e => hn.1 (List.mem_map.2 ⟨(k, u), List.mem_of_getElem? h', e.symm⟩)
    rw [putF, if_neg hne, putF_set hn.2 h']; rfl
theorem asF_put (k x : K) (v : V) : ∀ l : List (K × V), asF x (putF k v l) = if k = x then some v else asF x l
  | [] => by simp [putF, asF]
  | p :: r => by
    rw [putF]
    by_cases e : p.1 = k
    · rw [if_pos e, asF, asF]
      by_cases ex : k = x
      · simp [ex]
      · simp [ex, show p.1 ≠ x from e ▸ ex]
    · rw [if_neg e, asF, asF, asF_put k x v r]
      by_cases ex : p.1 = x
      · have : k ≠ x := fun h => e (ex.trans h.symm)
        simp [ex, this]
      · simp [ex]
theorem putF_keys {k : K} {v : V} : ∀ {l : List (K × V)} {x : K}, x ∈ (putF k v l).map Prod.fst ↔ x = k ∨ x ∈ l.map Prod.fst
  | [], x => by simp [putF]
  | p :: r, x => by
    rw [putF]
    by_cases e : p.1 = k
    · rw [if_pos e]; simp [e]
    · rw [if_neg e, List.map_cons, List.mem_cons, putF_keys, List.map_cons, List.mem_cons]
      constructor
      · rintro (h | h | h)
        · exact .inr (.inl h)
        · exact .inl h
        · exact .inr (.inr h)
      · rintro (h | h | h)
        · exact .inr (.inl h)
        · exact .inl h
        · exact .inr (.inr h)
theorem putF_nodup {k : K} {v : V} : ∀ {l : List (K × V)}, (l.map Prod.fst).Nodup → ((putF k v l).map Prod.fst).Nodup
  | [], _ => by simp [putF]
  | p :: r, h => by
    rw [List.map_cons, List.nodup_cons] at h
    rw [putF]
    by_cases e : p.1 = k
    · rw [if_pos e, List.map_cons, List.nodup_cons]
      exact ⟨e ▸ h.1, h.2⟩
    · rw [if_neg e, List.map_cons, List.nodup_cons]
      refine ⟨fun hx => ?_, putF_nodup h.2⟩
      rcases putF_keys.1 hx with hx | hx
      · exact e hx
      · exact h.1 hx
end
/-! ## what a map holds -/
/-- The entries of a list of pairs. -/
def MM {K V : Type} (κ : K → Value) (ν : V → Value) (l : List (K × V)) : List (Value × Value) := l.map fun p => (κ p.1, ν p.2)
/-- How a type of keys behaves at the keys that an encoding lays. -/
class KL (P : Program) (kt : TypeId) {K : Type} (κ : K → Value) : Prop where
  inj : ∀ a b, κ a = κ b → a = b
  check : ∀ (e : Bool) (w : World) (a : K), (Instr.checkKey e 10000 kt (κ a)).run P w = .ok () w
  find : ∀ (w : World) (a : K) (es : List MapEntry), (∀ e ∈ es, ∃ b, e.key = κ b) →
    ((Instr.findKey kt (κ a) es).run P w = .ok none w ∧ ∀ e ∈ es, e.key ≠ κ a) ∨ ∃ j e, (Instr.findKey kt (κ a) es).run P w = .ok (some (j, e.val)) w ∧ es[j]? = some e ∧ e.key = κ a
  stays : ∀ (w : World) (a : K), (Instr.keyThatStays (κ a) (κ a)).run P w = .ok (κ a) w
def kI (x : Int) : Value := .int .i64 x
def vB (x : Bool) : Value := .bool x
instance {P : Program} {kt : TypeId} [hV : TU P kt (.int .i64)] : KL P kt kI where
  inj := fun a b h => by cases h; rfl
  check := fun e w a => MapKept.run_checkKey (k := kI a) hV.h (show MapKept.IsKey (.int .i64) (.int .i64 a) from rfl) e 9999
  find := fun w a es hall => by
    rcases MapKept.findNow_spec (d := .int .i64) (k := kI a) (show MapKept.IsKey (.int .i64) (.int .i64 a) from rfl) es 0 (fun x hx => by obtain ⟨b, hb⟩ := hall x hx; rw [hb]; exact (rfl : IntKind.i64 = IntKind.i64)) with ⟨h1, h2⟩ | ⟨j, e, h1, h2, h3⟩
    · exact .inl ⟨MapKept.run_findKey hV.h h1, h2⟩
    · exact .inr ⟨j, e, by rw [Nat.zero_add] at h1; exact MapKept.run_findKey hV.h h1, h2, h3⟩
  stays := fun w a => MapKept.run_keyThatStays (d := .int .i64) (k := kI a) (show MapKept.IsKey (.int .i64) (.int .i64 a) from rfl)
theorem KL.out {P : Program} {kt : TypeId} {K V : Type} [DecidableEq K] {κ : K → Value} (h : KL P kt κ) {ν : V → Value} {l : List (K × V)} {k : K} (hk : asF k l = none) (w : World) : (Instr.findKey kt (κ k) (mkEs 0 (MM κ ν l))).run P w = .ok none w := by
  rcases h.find w k (mkEs 0 (MM κ ν l)) (fun e he => by
    obtain ⟨p, _, hp⟩ := List.mem_map.1 (mkEs_mem he)
    exact ⟨p.1, (congrArg Prod.fst hp).symm⟩) with ⟨h1, _⟩ | ⟨j, e, _, h2, h3⟩
  · exact h1
  · obtain ⟨p, hp, e1⟩ := List.mem_map.1 (mkEs_mem (List.mem_of_getElem? h2))
    exact absurd (h.inj _ _ ((congrArg Prod.fst e1).trans h3)) (asF_none.1 hk p hp)
theorem KL.at {P : Program} {kt : TypeId} {K V : Type} [DecidableEq K] {κ : K → Value} (h : KL P kt κ) {ν : V → Value} {l : List (K × V)} {k : K} {v : V} (hn : (l.map Prod.fst).Nodup) {j : Nat} (hj : l[j]? = some (k, v)) (w : World) :
    (Instr.findKey kt (κ k) (mkEs 0 (MM κ ν l))).run P w = .ok (some (j, ν v)) w := by
  have hget : (mkEs 0 (MM κ ν l))[j]? = some ⟨κ k, ν v, 0 + j⟩ := by rw [mkEs_get, MM, List.getElem?_map, hj]; rfl
  rcases h.find w k (mkEs 0 (MM κ ν l)) (fun e he => by
    obtain ⟨p, _, hp⟩ := List.mem_map.1 (mkEs_mem he)
    exact ⟨p.1, (congrArg Prod.fst hp).symm⟩) with ⟨_, h2⟩ | ⟨i, e, h1, h2, h3⟩
  · exact absurd rfl (h2 _ (List.mem_of_getElem? hget))
  · rw [h1]
    have h2' := h2
    rw [mkEs_get, MM, List.getElem?_map] at h2
    cases hl : l[i]? with
    | none => rw [hl] at h2; cases h2
    | some p =>
      rw [hl] at h2
      simp only [Option.map_some, Option.some.injEq] at h2
      have hp : p.1 = k := h.inj _ _ (by rw [← h3, ← h2])
      have hij : i = j := by
        have hi := List.getElem?_eq_some_iff.1 hl
        have hj' := List.getElem?_eq_some_iff.1 hj
        have q1 : (l.map Prod.fst)[i]'(by simpa using hi.1) = k := by simp [hi.2, hp]
        have q2 : (l.map Prod.fst)[j]'(by simpa using hj'.1) = k := by simp [hj'.2]
        have hpw := List.pairwise_iff_getElem.1 hn
        rcases Nat.lt_trichotomy i j with hlt | heq | hgt
        · exact absurd (q1.trans q2.symm) (hpw i j (by simpa using hi.1) (by simpa using hj'.1) hlt)
        · exact heq
        · exact absurd (q2.trans q1.symm) (hpw j i (by simpa using hj'.1) (by simpa using hi.1) hgt)
      subst hij
      rw [hl] at hj; cases hj
      rw [← h2]
theorem mapsM_get {K V : Type} {κ : K → Value} {ν : V → Value} {l : List (K × V)} {k : K} {v : V} {j : Nat} (hj : l[j]? = some (k, v)) : (mkEs 0 (MM κ ν l))[j]? = some ⟨κ k, ν v, j⟩ := by
  rw [mkEs_get, MM, List.getElem?_map, hj, Nat.zero_add]; rfl
theorem mapsM_set {K V : Type} {κ : K → Value} {ν : V → Value} {l : List (K × V)} {k : K} {u v : V} {j : Nat} (hj : l[j]? = some (k, u)) :
    MO (MM κ ν (l.set j (k, v))) = .map ((mkEs 0 (MM κ ν l)).toArray.modify j fun e => { e with key := κ k, val := ν v }) (MM κ ν l).length := by
  have hlt := (List.getElem?_eq_some_iff.1 hj).1
  have e1 : MM κ ν (l.set j (k, v)) = (MM κ ν l).set j (κ k, ν v) := by simp [MM, List.map_set]
  have hm : (MM κ ν l)[j]? = some (κ k, ν u) := by rw [MM, List.getElem?_map, hj]; rfl
  rw [e1]
  simp only [MO, List.length_set]
  congr 1
  apply Array.ext'
  simp only [Array.toList_modify]
  apply List.ext_getElem?
  intro i
  rw [mkEs_get, List.getElem?_modify, mkEs_get, List.getElem?_set]
  have hlt' : j < (MM κ ν l).length := (List.getElem?_eq_some_iff.1 hm).1
  by_cases e : j = i
  · subst e
    simp [hlt', hm]
  · simp [e]
theorem mapsM_push {K V : Type} {κ : K → Value} {ν : V → Value} {l : List (K × V)} {k : K} {v : V} : MO (MM κ ν (l ++ [(k, v)])) = .map ((mkEs 0 (MM κ ν l)).toArray.push ⟨κ k, ν v, (MM κ ν l).length⟩) ((MM κ ν l).length + 1) := by
  simp [MO, MM, mkEs_app, mkEs]
section
variable {r : Option Nat} {P : Program} {n : Nat} {D : List Deferred} {w0 : World} {F : List (Nat × Value)} {L L' : List Ent} {Q : Exit → Act → World → Prop} {ops : Array Oper}
variable {d : Tmp} {ty : TypeId} {pos : String} {af : Array Edge} {rest : List Oper} {K V : Type} [DecidableEq K]
theorem o_lookM_out {κ : K → Value} {ν : V → Value} {t kt e : TypeId} {x y : Operand} {b : Nat} {z : Value} {zl : List Value} {l : List (K × V)} {k : K} (hU : TU P t (.map kt e)) (hK : KL P kt κ) (hZ : TZ P e z zl) (hx : ev F x = some (.map (some b))) (hy : ev F y = some (κ k))
    (hk : Kn w0 L b (MO (MM κ ν l))) (ho : asF k l = none) (hd : Nat.ble (d + 1) n = true)
    (h : St n D w0 ((d, z) :: F) L (WL r P ops Q rest)) : St n D w0 F L (WL r P ops Q (⟨some d, .lookup t x y false, ty, pos, af, none⟩ :: rest)) :=
  o_val rfl hd (fun a w ha hw => by
    have hb := hk w hw
    have h1 := MapKept.run_getObj_map (P := P) hb
    simp [execOp, Instr.lookup, ha.eval hx, ha.eval hy, run_under (TU.h (P := P) (t := t)), h1, hK.check, hK.out ho w, TZ.h (P := P) (t := e)]) h
theorem o_lookM_in {κ : K → Value} {ν : V → Value} {t kt e : TypeId} {x y : Operand} {b : Nat} {l : List (K × V)} {k : K} {v : V} (hU : TU P t (.map kt e)) (hK : KL P kt κ) (hx : ev F x = some (.map (some b))) (hy : ev F y = some (κ k))
    (hk : Kn w0 L b (MO (MM κ ν l))) (hn : (l.map Prod.fst).Nodup) (ho : asF k l = some v) (hd : Nat.ble (d + 1) n = true)
    (h : St n D w0 ((d, ν v) :: F) L (WL r P ops Q rest)) : St n D w0 F L (WL r P ops Q (⟨some d, .lookup t x y false, ty, pos, af, none⟩ :: rest)) :=
  o_val rfl hd (fun a w ha hw => by
    have hb := hk w hw
    have h1 := MapKept.run_getObj_map (P := P) hb
    obtain ⟨j, hj⟩ := asF_some ho
    simp [execOp, Instr.lookup, ha.eval hx, ha.eval hy, run_under (TU.h (P := P) (t := t)), h1, hK.check, hK.at hn hj w]) h
theorem o_lookMT_out {κ : K → Value} {ν : V → Value} {t kt e : TypeId} {x y : Operand} {b : Nat} {z : Value} {zl : List Value} {l : List (K × V)} {k : K} (hU : TU P t (.map kt e)) (hK : KL P kt κ) (hZ : TZ P e z zl) (hx : ev F x = some (.map (some b))) (hy : ev F y = some (κ k))
    (hk : Kn w0 L b (MO (MM κ ν l))) (ho : asF k l = none) (hd : Nat.ble (d + 1) n = true)
    (h : St n D w0 ((d, .tuple #[z, .bool false]) :: F) L (WL r P ops Q rest)) : St n D w0 F L (WL r P ops Q (⟨some d, .lookup t x y true, ty, pos, af, none⟩ :: rest)) :=
  o_val rfl hd (fun a w ha hw => by
    have hb := hk w hw
    have h1 := MapKept.run_getObj_map (P := P) hb
    simp [execOp, Instr.lookup, ha.eval hx, ha.eval hy, run_under (TU.h (P := P) (t := t)), h1, hK.check, hK.out ho w, TZ.h (P := P) (t := e)]) h
theorem o_lookMT_in {κ : K → Value} {ν : V → Value} {t kt e : TypeId} {x y : Operand} {b : Nat} {l : List (K × V)} {k : K} {v : V} (hU : TU P t (.map kt e)) (hK : KL P kt κ) (hx : ev F x = some (.map (some b))) (hy : ev F y = some (κ k))
    (hk : Kn w0 L b (MO (MM κ ν l))) (hn : (l.map Prod.fst).Nodup) (ho : asF k l = some v) (hd : Nat.ble (d + 1) n = true)
    (h : St n D w0 ((d, .tuple #[ν v, .bool true]) :: F) L (WL r P ops Q rest)) : St n D w0 F L (WL r P ops Q (⟨some d, .lookup t x y true, ty, pos, af, none⟩ :: rest)) :=
  o_val rfl hd (fun a w ha hw => by
    have hb := hk w hw
    have h1 := MapKept.run_getObj_map (P := P) hb
    obtain ⟨j, hj⟩ := asF_some ho
    simp [execOp, Instr.lookup, ha.eval hx, ha.eval hy, run_under (TU.h (P := P) (t := t)), h1, hK.check, hK.at hn hj w]) h
theorem o_mapPut {κ : K → Value} {ν : V → Value} {t kt e : TypeId} {x y z : Operand} {b : Nat} {l : List (K × V)} {k : K} {v : V} (hU : TU P t (.map kt e)) (hK : KL P kt κ) (hx : ev F x = some (.map (some b))) (hy : ev F y = some (κ k)) (hz : ev F z = some (ν v))
    (hat : At L b (MO (MM κ ν l))) (hn : (l.map Prod.fst).Nodup) (hu : Upd L b (MO (MM κ ν l)) (MO (MM κ ν (putF k v l))) L')
    (h : St n D w0 F L' (WL r P ops Q rest)) : St n D w0 F L (WL r P ops Q (⟨none, .mapUpdate t x y z, ty, pos, af, none⟩ :: rest)) :=
  o_plain rfl rfl fun a w ha hw => by
    have hb := hw.at hu.at
    have h1 := MapKept.run_getObj_map (P := P) hb
    have hr : (execOp a.eval ⟨none, .mapUpdate t x y z, ty, pos, af, none⟩).run P w = .ok .skip { w with heap := w.heap.setIfInBounds b (MO (MM κ ν (putF k v l))) } := by
      cases ho : asF k l with
      | none =>
        rw [putF_new ho, mapsM_push]
        simp [execOp, Instr.mapUpdate, ha.eval hx, ha.eval hy, ha.eval hz, run_under (TU.h (P := P) (t := t)), h1, hK.check, hK.out ho w, MapKept.run_setObj_map _ hb]
      | some u =>
        obtain ⟨j, hj⟩ := asF_some ho
        rw [putF_set hn hj, mapsM_set hj]
        simp [execOp, Instr.mapUpdate, ha.eval hx, ha.eval hy, ha.eval hz, run_under (TU.h (P := P) (t := t)), h1, hK.check, hK.at hn hj w, MapKept.run_setObj_map _ hb, mapsM_get hj, hK.stays]
    rw [hr]
    obtain ⟨g1, g2⟩ := MapKept.heap_set (o' := MO (MM κ ν (putF k v l))) hb
    exact h _ _ (ha.put_none _) (hw.turn hu rfl rfl rfl (by simp) g1 g2)
/-- The entry at a key that is there. -/
theorem o_entry_in {κ : K → Value} {ν : V → Value} {t kt e : TypeId} {x y : Operand} {b : Nat} {l : List (K × V)} {k : K} {v : V} (j : Nat) (hU : TU P t (.map kt e)) (hK : KL P kt κ) (hx : ev F x = some (.map (some b))) (hy : ev F y = some (κ k))
    (hat : At L b (MO (MM κ ν l))) (hn : (l.map Prod.fst).Nodup) (hj : l[j]? = some (k, v)) (hu : Upd L b (MO (MM κ ν l)) (MO (MM κ ν l)) L') (hd : Nat.ble (d + 1) n = true)
    (h : St n D w0 ((d, .tuple #[ν v, .int .i64 j]) :: F) L' (WL r P ops Q rest)) : St n D w0 F L (WL r P ops Q (⟨some d, .mapEntry t x y, ty, pos, af, none⟩ :: rest)) :=
  o_plain rfl rfl fun a w ha hw => by
    have hb := hw.at hu.at
    have h1 := MapKept.run_getObj_map (P := P) hb
    have hset : ((mkEs 0 (MM κ ν l)).modify j fun e => { e with key := κ k }) = mkEs 0 (MM κ ν l) := by
      apply List.ext_getElem?
      intro i
      rw [List.getElem?_modify]
      by_cases e : j = i
      · subst e
        have hg : (mkEs 0 (MM κ ν l))[j]? = some ⟨κ k, ν v, j⟩ := mapsM_get hj
        simp [hg]
      · simp [e]
    have hr : (execOp a.eval ⟨some d, .mapEntry t x y, ty, pos, af, none⟩).run P w = .ok (.value (.tuple #[ν v, .int .i64 j])) { w with heap := w.heap.setIfInBounds b (MO (MM κ ν l)) } := by
      simp [execOp, Instr.mapEntry, ha.eval hx, ha.eval hy, run_under (TU.h (P := P) (t := t)), h1, hK.check, hK.at hn hj w, MapKept.run_setObj_map _ hb, mapsM_get (κ := κ) (ν := ν) hj, hK.stays, hset, goInt, MO]
    rw [hr]
    obtain ⟨g1, g2⟩ := MapKept.heap_set (o' := MO (MM κ ν l)) hb
    exact h _ _ (ha.put (Nat.le_of_ble_eq_true hd) _) (hw.turn hu rfl rfl rfl (by simp) g1 g2)
/-- The entry at a key that was not there. -/
theorem o_entry_out {κ : K → Value} {ν : V → Value} {t kt e : TypeId} {x y : Operand} {b : Nat} {z : Value} {zl : List Value} {l : List (K × V)} {k : K} (v : V) (hv : ν v = z) (hU : TU P t (.map kt e)) (hK : KL P kt κ) (hZ : TZ P e z zl) (hx : ev F x = some (.map (some b))) (hy : ev F y = some (κ k))
    (hat : At L b (MO (MM κ ν l))) (ho : asF k l = none) (hu : Upd L b (MO (MM κ ν l)) (MO (MM κ ν (l ++ [(k, v)]))) L') (hd : Nat.ble (d + 1) n = true)
    (h : St n D w0 ((d, .tuple #[z, .int .i64 l.length]) :: F) L' (WL r P ops Q rest)) : St n D w0 F L (WL r P ops Q (⟨some d, .mapEntry t x y, ty, pos, af, none⟩ :: rest)) :=
  o_plain rfl rfl fun a w ha hw => by
    have hb := hw.at hu.at
    have h1 := MapKept.run_getObj_map (P := P) hb
    have hr : (execOp a.eval ⟨some d, .mapEntry t x y, ty, pos, af, none⟩).run P w = .ok (.value (.tuple #[z, .int .i64 l.length])) { w with heap := w.heap.setIfInBounds b (MO (MM κ ν (l ++ [(k, v)]))) } := by
      have hlen : (MM κ ν l).length = l.length := by simp [MM]
      rw [mapsM_push, hv, ← hlen]
      simp [execOp, Instr.mapEntry, ha.eval hx, ha.eval hy, run_under (TU.h (P := P) (t := t)), h1, hK.check, hK.out ho w, MapKept.run_setObj_map _ hb, TZ.h (P := P) (t := e), goInt]
    rw [hr]
    obtain ⟨g1, g2⟩ := MapKept.heap_set (o' := MO (MM κ ν (l ++ [(k, v)]))) hb
    exact h _ _ (ha.put (Nat.le_of_ble_eq_true hd) _) (hw.turn hu rfl rfl rfl (by simp) g1 g2)
theorem mkEs_findIdx : ∀ (m : List (Value × Value)) (i j : Nat), j < m.length → ((mkEs i m).findIdx? fun e => (e.born : Int) == ((i + j : Nat) : Int)) = some j
  | [], i, j, h => by simp at h
  | p :: r, i, 0, _ => by simp [mkEs, List.findIdx?_cons]
  | p :: r, i, j + 1, h => by
    have ih := mkEs_findIdx r (i + 1) j (by simpa using h)
    have hne : ¬ ((i : Int) = ((i + (j + 1) : Nat) : Int)) := by omega
    rw [mkEs, List.findIdx?_cons]
    simp only [beq_iff_eq, hne, if_false]
    rw [show i + (j + 1) = i + 1 + j from by omega, ih]; rfl
/-- A value stored at an entry. -/
theorem o_entryStore {κ : K → Value} {ν : V → Value} {t : TypeId} {x y z : Operand} {b j : Nat} {l l2 : List (K × V)} (k : K) (u v : V) (hx : ev F x = some (.map (some b))) (hy : ev F y = some (.int .i64 j)) (hz : ev F z = some (ν v))
    (hat : At L b (MO (MM κ ν l))) (hj : l[j]? = some (k, u)) (hl : l.set j (k, v) = l2) (hu : Upd L b (MO (MM κ ν l)) (MO (MM κ ν l2)) L')
    (h : St n D w0 F L' (WL r P ops Q rest)) : St n D w0 F L (WL r P ops Q (⟨none, .entryStore t x y z, ty, pos, af, none⟩ :: rest)) := by
  subst hl
  exact o_plain rfl rfl fun a w ha hw => by
    have hb := hw.at hu.at
    have h1 := MapKept.run_getObj_map (P := P) hb
    have hlt : j < (MM κ ν l).length := by rw [MM, List.length_map]; exact (List.getElem?_eq_some_iff.1 hj).1
    have hidx := mkEs_findIdx (MM κ ν l) 0 j hlt
    rw [Nat.zero_add] at hidx
    have hsame : ((mkEs 0 (MM κ ν l)).toArray.modify j fun e => { e with val := ν v }) = ((mkEs 0 (MM κ ν l)).toArray.modify j fun e => { e with key := κ k, val := ν v }) := by
      apply Array.ext'
      simp only [Array.toList_modify]
      apply List.ext_getElem?
      intro i
      rw [List.getElem?_modify, List.getElem?_modify]
      by_cases e : j = i
      · subst e
        have hg : (mkEs 0 (MM κ ν l))[j]? = some ⟨κ k, ν u, j⟩ := mapsM_get hj
        simp [hg]
      · simp [e]
    have hr : (execOp a.eval ⟨none, .entryStore t x y z, ty, pos, af, none⟩).run P w = .ok .skip { w with heap := w.heap.setIfInBounds b (MO (MM κ ν (l.set j (k, v)))) } := by
      rw [mapsM_set hj, ← hsame]
      simp [execOp, Instr.entryStore, ha.eval hx, ha.eval hy, ha.eval hz, h1, asInt, asIntOf, hidx, MapKept.run_setObj_map _ hb]
    rw [hr]
    obtain ⟨g1, g2⟩ := MapKept.heap_set (o' := MO (MM κ ν (l.set j (k, v)))) hb
    exact h _ _ (ha.put_none _) (hw.turn hu rfl rfl rfl (by simp) g1 g2)
end
end Go.Sx
namespace Go.Sx
open Go Go.RowKit
def kP (p : Int × Int) : Value := .agg #[.int .i64 p.1, .int .i64 p.2]
theorem kP_inj {a b : Int × Int} (h : kP a = kP b) : a = b := by
  have h1 : #[Value.int .i64 a.1, .int .i64 a.2] = #[Value.int .i64 b.1, .int .i64 b.2] := Value.agg.inj h
  have h2 := congrArg Array.toList h1
  simp at h2
  exact Prod.ext h2.1 h2.2
theorem run_askP {P : Program} {kt : TypeId} (hQ : TQ P kt [.int .i64, .int .i64]) (w : World) (a : Int × Int) : ∀ (es : List MapEntry) (i : Nat), (∀ e ∈ es, ∃ b, e.key = kP b) →
    ((Instr.findAsking kt (kP a) es i).run P w = .ok none w ∧ ∀ e ∈ es, e.key ≠ kP a) ∨ ∃ j e, (Instr.findAsking kt (kP a) es i).run P w = .ok (some (i + j, e.val)) w ∧ es[j]? = some e ∧ e.key = kP a
  | [], i, _ => .inl ⟨by simp [Instr.findAsking], by simp⟩
  | e :: es, i, hall => by
    obtain ⟨b, hb⟩ := hall e (by simp)
    have hr : (Op.equal kt (kP a) e.key).run P w = .ok (B (a.1 = b.1 ∧ a.2 = b.2)) w := by
      rw [hb]
      exact run_equal_flat hQ (xs := [.int .i64 a.1, .int .i64 a.2]) (ys := [.int .i64 b.1, .int .i64 b.2]) (EqP.int EqP.int1) w
    by_cases hab : a.1 = b.1 ∧ a.2 = b.2
    · rw [B_true hab] at hr
      exact .inr ⟨0, e, by simp [Instr.findAsking, hr], rfl, by rw [hb, Prod.ext hab.1 hab.2]⟩
    · rw [B_false hab] at hr
      have hne : e.key ≠ kP a := fun h => hab (by
        have := kP_inj (hb.symm.trans h)
        subst this
        exact ⟨rfl, rfl⟩)
      rcases run_askP hQ w a es (i + 1) (fun y hy => hall y (by simp [hy])) with ⟨h1, h2⟩ | ⟨j, e', h1, h2, h3⟩
      · refine .inl ⟨by simp [Instr.findAsking, hr, h1], fun y hy => ?_⟩
        rcases List.mem_cons.1 hy with rfl | hy
        · exact hne
        · exact h2 y hy
      · exact .inr ⟨j + 1, e', by simp [Instr.findAsking, hr, h1, Nat.add_assoc, Nat.add_comm 1 j], by simpa using h2, h3⟩
instance {P : Program} {kt : TypeId} [hQ : TQ P kt [.int .i64, .int .i64]] : KL P kt kP where
  inj := fun a b h => kP_inj h
  check := fun e w a => by
    obtain ⟨fs, hu, hs, hg, hf⟩ := hQ.h
    obtain ⟨fl⟩ := fs
    cases fl with
    | nil => exact hf.elim
    | cons f1 fl =>
      obtain ⟨n1, o1, a1, u1, hf⟩ := hf
      cases fl with
      | nil => exact hf.elim
      | cons f2 fl =>
        obtain ⟨n2, o2, a2, u2, hf⟩ := hf
        cases fl with
        | cons _ _ => exact hf.elim
        | nil =>
          have m1 : f1.name ≠ "_" := by simpa using n1
          have m2 : f2.name ≠ "_" := by simpa using n2
          have p1 : (part f1.type #[Value.int .i64 a.1, .int .i64 a.2] f1.offset).run P w = .ok (.int .i64 a.1) w := by simp [part, a1, o1]
          have p2 : (part f2.type #[Value.int .i64 a.1, .int .i64 a.2] f2.offset).run P w = .ok (.int .i64 a.2) w := by simp [part, a2, o2]
          have c1 : (Instr.checkKey e 9999 f1.type (.int .i64 a.1)).run P w = .ok () w := MapKept.run_checkKey (k := .int .i64 a.1) u1 (show MapKept.IsKey (.int .i64) (.int .i64 a.1) from rfl) e 9998
          have c2 : (Instr.checkKey e 9999 f2.type (.int .i64 a.2)).run P w = .ok () w := MapKept.run_checkKey (k := .int .i64 a.2) u2 (show MapKept.IsKey (.int .i64) (.int .i64 a.2) from rfl) e 9998
          unfold Instr.checkKey kP
          simp [run_underlying hu, m1, m2, p1, p2, c1, c2, Result.andThen]
  find := fun w a es hall => by
    obtain ⟨fs, hu, hs, hg, hf⟩ := hQ.h
    rw [run_findKey_eq w (by rw [hu])]
    rcases run_askP hQ w a es 0 hall with h | ⟨j, e, h1, h2, h3⟩
    · exact .inl h
    · exact .inr ⟨j, e, by simpa using h1, h2, h3⟩
  stays := fun w a => by
    simp [Instr.keyThatStays, kP, Instr.sameBits]
section
variable {P : Program} {n : Nat} {D : List Deferred} {w0 : World} {F : List (Nat × Value)} {L L' : List Ent} {J J1 : Made} {Φ : Specs} {X : Act → World → Prop} {kq : Nat} {ops : Array Oper}
variable {d : Tmp} {ty : TypeId} {pos : String} {af : Array Edge} {rest : List Oper} {K V : Type} [DecidableEq K]
theorem q_lookM_out {κ : K → Value} {ν : V → Value} {t kt e : TypeId} {x y : Operand} {b : Nat} {z : Value} {zl : List Value} {l : List (K × V)} {k : K} (hU : TU P t (.map kt e)) (hK : KL P kt κ) (hZ : TZ P e z zl) (hx : ev F x = some (.map (some b))) (hΦ : Φ kq = none) (hJ : SubJ ((anc ops).getD kq 0) J1 J) (hy : ev F y = some (κ k))
    (hk : Kn w0 (ents J1 L) b (MO (MM κ ν l))) (ho : asF k l = none) (hd : Nat.ble (d + 1) n = true)
    (h : St n D w0 ((d, z) :: F) L (WQ P ops w0 L Φ X (kq + 1) J rest)) : St n D w0 F L (WQ P ops w0 L Φ X kq J (⟨some d, .lookup t x y false, ty, pos, af, none⟩ :: rest)) :=
  q_val rfl hd hΦ hJ (fun a w ha hw => by
    have hb := hk w hw
    have h1 := MapKept.run_getObj_map (P := P) hb
    simp [execOp, Instr.lookup, ha.eval hx, ha.eval hy, run_under (TU.h (P := P) (t := t)), h1, hK.check, hK.out ho w, TZ.h (P := P) (t := e)]) h
theorem q_lookM_in {κ : K → Value} {ν : V → Value} {t kt e : TypeId} {x y : Operand} {b : Nat} {l : List (K × V)} {k : K} {v : V} (hU : TU P t (.map kt e)) (hK : KL P kt κ) (hx : ev F x = some (.map (some b))) (hΦ : Φ kq = none) (hJ : SubJ ((anc ops).getD kq 0) J1 J) (hy : ev F y = some (κ k))
    (hk : Kn w0 (ents J1 L) b (MO (MM κ ν l))) (hn : (l.map Prod.fst).Nodup) (ho : asF k l = some v) (hd : Nat.ble (d + 1) n = true)
    (h : St n D w0 ((d, ν v) :: F) L (WQ P ops w0 L Φ X (kq + 1) J rest)) : St n D w0 F L (WQ P ops w0 L Φ X kq J (⟨some d, .lookup t x y false, ty, pos, af, none⟩ :: rest)) :=
  q_val rfl hd hΦ hJ (fun a w ha hw => by
    have hb := hk w hw
    have h1 := MapKept.run_getObj_map (P := P) hb
    obtain ⟨j, hj⟩ := asF_some ho
    simp [execOp, Instr.lookup, ha.eval hx, ha.eval hy, run_under (TU.h (P := P) (t := t)), h1, hK.check, hK.at hn hj w]) h
theorem q_lookMT_out {κ : K → Value} {ν : V → Value} {t kt e : TypeId} {x y : Operand} {b : Nat} {z : Value} {zl : List Value} {l : List (K × V)} {k : K} (hU : TU P t (.map kt e)) (hK : KL P kt κ) (hZ : TZ P e z zl) (hx : ev F x = some (.map (some b))) (hΦ : Φ kq = none) (hJ : SubJ ((anc ops).getD kq 0) J1 J) (hy : ev F y = some (κ k))
    (hk : Kn w0 (ents J1 L) b (MO (MM κ ν l))) (ho : asF k l = none) (hd : Nat.ble (d + 1) n = true)
    (h : St n D w0 ((d, .tuple #[z, .bool false]) :: F) L (WQ P ops w0 L Φ X (kq + 1) J rest)) : St n D w0 F L (WQ P ops w0 L Φ X kq J (⟨some d, .lookup t x y true, ty, pos, af, none⟩ :: rest)) :=
  q_val rfl hd hΦ hJ (fun a w ha hw => by
    have hb := hk w hw
    have h1 := MapKept.run_getObj_map (P := P) hb
    simp [execOp, Instr.lookup, ha.eval hx, ha.eval hy, run_under (TU.h (P := P) (t := t)), h1, hK.check, hK.out ho w, TZ.h (P := P) (t := e)]) h
theorem q_lookMT_in {κ : K → Value} {ν : V → Value} {t kt e : TypeId} {x y : Operand} {b : Nat} {l : List (K × V)} {k : K} {v : V} (hU : TU P t (.map kt e)) (hK : KL P kt κ) (hx : ev F x = some (.map (some b))) (hΦ : Φ kq = none) (hJ : SubJ ((anc ops).getD kq 0) J1 J) (hy : ev F y = some (κ k))
    (hk : Kn w0 (ents J1 L) b (MO (MM κ ν l))) (hn : (l.map Prod.fst).Nodup) (ho : asF k l = some v) (hd : Nat.ble (d + 1) n = true)
    (h : St n D w0 ((d, .tuple #[ν v, .bool true]) :: F) L (WQ P ops w0 L Φ X (kq + 1) J rest)) : St n D w0 F L (WQ P ops w0 L Φ X kq J (⟨some d, .lookup t x y true, ty, pos, af, none⟩ :: rest)) :=
  q_val rfl hd hΦ hJ (fun a w ha hw => by
    have hb := hk w hw
    have h1 := MapKept.run_getObj_map (P := P) hb
    obtain ⟨j, hj⟩ := asF_some ho
    simp [execOp, Instr.lookup, ha.eval hx, ha.eval hy, run_under (TU.h (P := P) (t := t)), h1, hK.check, hK.at hn hj w]) h
end
end Go.Sx
namespace Go.Sx
open Go Go.RowKit
section
variable {r : Option Nat} {P : Program} {n : Nat} {D : List Deferred} {w0 : World} {F : List (Nat × Value)} {L : List Ent} {Q : Exit → Act → World → Prop}
end
end Go.Sx
namespace Go.Sx
open Go Go.RowKit
theorem rV_ {P : Program} {n : Nat} {D : List Deferred} {w0 : World} {F : List (Nat × Value)} {L : List Ent} {r : ResultVar} {v : Value} (h : ResV P n D w0 F L r v := by ((focus ((first | exact rv_tmp rfl | (apply rv_cell; infer_instance; rfl; (first | exact Kn.old (by assumption) rfl | (apply Kn.oldA; assumption; ((focus (repeat (first | exact AO.nil | apply AO.cons | (apply AO.app; assumption)))) <;> fail)) | (apply Kn.apart; assumption; ((focus (repeat (first | exact Apart.nil | apply Apart.own | (apply Apart.given; assumption) | (apply Apart.app; assumption)))) <;> fail)) | (refine Kn.at ?_; ((focus (repeat (first | assumption | exact At.hd | refine At.tl ?_ | (refine At.left ?_; assumption) | refine At.right ?_))) <;> fail))); (repeat (first | exact Nth.z | apply Nth.s))) | (apply rv_cellA; infer_instance; infer_instance; rfl; (first | exact Kn.old (by assumption) rfl | (apply Kn.oldA; assumption; ((focus (repeat (first | exact AO.nil | apply AO.cons | (apply AO.app; assumption)))) <;> fail)) | (apply Kn.apart; assumption; ((focus (repeat (first | exact Apart.nil | apply Apart.own | (apply Apart.given; assumption) | (apply Apart.app; assumption)))) <;> fail)) | (refine Kn.at ?_; ((focus (repeat (first | assumption | exact At.hd | refine At.tl ?_ | (refine At.left ?_; assumption) | refine At.right ?_))) <;> fail))); rfl)))) <;> fail)) : ResV P n D w0 F L r v := h
theorem gG_ {c b : Bool} (h : c = b := by ((focus ((first | rfl | assumption | exact decide_eq_true (by first | assumption | omega) | exact B_true (by first | assumption | omega | decide) | rfl | assumption | exact decide_eq_false (by first | assumption | omega) | exact B_false (by first | assumption | omega | decide)))) <;> fail)) : c = b := h
theorem tT_ {t : Bool} (h : t = true := by ((focus ((first | rfl | assumption | exact decide_eq_true (by first | assumption | omega) | exact B_true (by first | assumption | omega | decide)))) <;> fail)) : t = true := h
theorem fF_ {t : Bool} (h : t = false := by ((focus ((first | rfl | assumption | exact decide_eq_false (by first | assumption | omega) | exact B_false (by first | assumption | omega | decide)))) <;> fail)) : t = false := h
theorem hS_ {L L1 : List Ent} (h : HSub L1 L := by ((focus (((try dsimp only); repeat (first | exact HSub.nil rfl | (apply HSub.take; (repeat (first | exact Rem.hd | apply Rem.tl | apply Rem.right))) | exact HSub.same | (apply HSub.takeL; ((focus (repeat (first | exact RemL.hd | exact RemL.all | exact RemL.nil | apply RemL.tl | apply RemL.right))) <;> fail)) | apply HSub.drop | (apply HSub.takeL; (focus ((repeat (first | exact RemL.hd | exact RemL.all | exact RemL.nil | apply RemL.tl | apply RemL.right))))) | (apply HSub.takeA; (first | exact RemL.hd | exact RemL.all); ((focus (repeat (first | exact AO.nil | apply AO.cons | (apply AO.app; assumption)))) <;> fail)) | (apply HSub.dropL; assumption) | (apply HSub.takeA; (focus ((repeat (first | exact RemL.hd | exact RemL.all | exact RemL.nil | apply RemL.tl | apply RemL.right)))); ((focus (repeat (first | exact AO.nil | apply AO.cons | (apply AO.app; assumption)))) <;> fail)) | (apply HSub.nilA; ((focus (repeat (first | exact AO.nil | apply AO.cons | (apply AO.app; assumption)))) <;> fail)))))) <;> fail)) : HSub L1 L := h
theorem kN_ {w0 : World} {L : List Ent} {b : Nat} {o : Obj} (h : Kn w0 L b o := by ((focus ((first | exact Kn.old (by assumption) rfl | (apply Kn.oldA; assumption; ((focus (repeat (first | exact AO.nil | apply AO.cons | (apply AO.app; assumption)))) <;> fail)) | (apply Kn.apart; assumption; ((focus (repeat (first | exact Apart.nil | apply Apart.own | (apply Apart.given; assumption) | (apply Apart.app; assumption)))) <;> fail)) | (refine Kn.at ?_; ((focus (repeat (first | assumption | exact At.hd | refine At.tl ?_ | (refine At.left ?_; assumption) | refine At.right ?_))) <;> fail))))) <;> fail)) : Kn w0 L b o := h
theorem uP_ {L L1 : List Ent} {b : Nat} {o o1 : Obj} (h : Upd L b o o1 L1 := by ((focus ((repeat (first | exact Upd.hd | apply Upd.tl | apply Upd.right)))) <;> fail)) : Upd L b o o1 L1 := h
theorem nT_ {k : Nat} {l : List Value} {v : Value} (h : Nth l k v := by ((focus ((repeat (first | exact Nth.z | apply Nth.s)))) <;> fail)) : Nth l k v := h
theorem sJ_ {J J1 : Made} {k : Nat} (h : SubJ k J1 J := by ((focus ((focus (repeat (first | (apply SubJ.keep; (decide +kernel)) | apply SubJ.drop | exact SubJ.nil))))) <;> fail)) : SubJ k J1 J := h
theorem eV_ {F : List (Nat × Value)} {l : List Value} {xs : List Operand} (h : Evs F xs l := by ((focus ((repeat (first | exact Evs.nil | apply Evs.cons rfl)))) <;> fail)) : Evs F xs l := h
theorem fS_ {F F1 : List (Nat × Value)} (h : FSub F1 F := by ((focus ((repeat (first | exact FSub.nil | refine FSub.cons rfl ?_)))) <;> fail)) : FSub F1 F := h
theorem aO_ {L : List Ent} (h : AO L := by ((focus (((focus (repeat (first | exact AO.nil | apply AO.cons | (apply AO.app; assumption)))) <;> fail))) <;> fail)) : AO L := h
theorem aT_ {L : List Ent} {b : Nat} {o : Obj} (h : At L b o := by ((focus (((focus (repeat (first | assumption | exact At.hd | refine At.tl ?_ | (refine At.left ?_; assumption) | refine At.right ?_))) <;> fail))) <;> fail)) : At L b o := h
theorem rL_ {L L1 L2 : List Ent} (h : RemL L L1 L2 := by ((focus ((repeat (first | exact RemL.hd | exact RemL.all | exact RemL.nil | apply RemL.tl | apply RemL.right)))) <;> fail)) : RemL L L1 L2 := h
end Go.Sx
namespace Go.Proofs.Ytkhaemjoekfhiaa
open Go Go.Sx
instance : TU Try.prog 3 (.int .i64) := ⟨Try.underlying3⟩
instance : TS Try.prog 3 1 := ⟨fun w => by simp only [sizeOf, Sem.run_bind, Try.typeInfo3]; rfl⟩
instance : TA Try.prog 3 false := ⟨Try.isAgg3⟩
instance : TZ Try.prog 3 (.int .i64 (0)) [(.int .i64 (0))] := ⟨Try.zeroValue3, rfl⟩
instance : TS Try.prog 4 1 := ⟨fun w => by simp only [sizeOf, Sem.run_bind, Try.typeInfo4]; rfl⟩
instance : TA Try.prog 4 false := ⟨Try.isAgg4⟩
instance : TZ Try.prog 4 (.bool false) [(.bool false)] := ⟨Try.zeroValue4, rfl⟩
instance : TU Try.prog 5 (.int .u8) := ⟨Try.underlying5⟩
instance : TS Try.prog 5 1 := ⟨fun w => by simp only [sizeOf, Sem.run_bind, Try.typeInfo5]; rfl⟩
instance : TA Try.prog 5 false := ⟨Try.isAgg5⟩
instance : TU Try.prog 22 (.slice 5) := ⟨Try.underlying22⟩
instance : TU Try.prog 25 (.slice 61) := ⟨Try.underlying25⟩
instance : TS Try.prog 25 1 := ⟨fun w => by simp only [sizeOf, Sem.run_bind, Try.typeInfo25]; rfl⟩
instance : TA Try.prog 25 false := ⟨Try.isAgg25⟩
instance : TU Try.prog 26 (.slice 38) := ⟨Try.underlying26⟩
instance : TS Try.prog 26 1 := ⟨fun w => by simp only [sizeOf, Sem.run_bind, Try.typeInfo26]; rfl⟩
instance : TA Try.prog 26 false := ⟨Try.isAgg26⟩
instance : TU Try.prog 27 (.slice 58) := ⟨Try.underlying27⟩
instance : TS Try.prog 27 1 := ⟨fun w => by simp only [sizeOf, Sem.run_bind, Try.typeInfo27]; rfl⟩
instance : TA Try.prog 27 false := ⟨Try.isAgg27⟩
instance : TS Try.prog 29 3 := ⟨fun w => by simp only [sizeOf, Sem.run_bind, Try.typeInfo29]; rfl⟩
instance : TA Try.prog 29 true := ⟨Try.isAgg29⟩
instance : TZ Try.prog 29 (.agg #[(.slice none 0 0), (.slice none 0 0), (.slice none 0 0)]) [(.slice none 0 0), (.slice none 0 0), (.slice none 0 0)] := ⟨Try.zeroValue29, rfl⟩
instance : TU Try.prog 31 (.slice 50) := ⟨Try.underlying31⟩
instance : TA Try.prog 31 false := ⟨Try.isAgg31⟩
instance : TS Try.prog 32 1 := ⟨fun w => by simp only [sizeOf, Sem.run_bind, Try.typeInfo32]; rfl⟩
instance : TA Try.prog 32 false := ⟨Try.isAgg32⟩
instance : TZ Try.prog 32 (.int .i64 (0)) [(.int .i64 (0))] := ⟨Try.zeroValue32, rfl⟩
instance : TS Try.prog 38 3 := ⟨fun w => by simp only [sizeOf, Sem.run_bind, Try.typeInfo38]; rfl⟩
instance : TA Try.prog 38 true := ⟨Try.isAgg38⟩
instance : TZ Try.prog 38 (.agg #[(.int .i64 (0)), (.int .i64 (0)), (.int .i64 (0))]) [(.int .i64 (0)), (.int .i64 (0)), (.int .i64 (0))] := ⟨Try.zeroValue38, rfl⟩
instance : TS Try.prog 40 3 := ⟨fun w => by simp only [sizeOf, Sem.run_bind, Try.typeInfo40]; rfl⟩
instance : TA Try.prog 40 true := ⟨Try.isAgg40⟩
instance : TZ Try.prog 40 (.agg #[(.int .u8 (0)), (.int .i64 (0)), (.int .i64 (0))]) [(.int .u8 (0)), (.int .i64 (0)), (.int .i64 (0))] := ⟨Try.zeroValue40, rfl⟩
instance : TU Try.prog 43 (.slice 3) := ⟨Try.underlying43⟩
instance : TS Try.prog 43 1 := ⟨fun w => by simp only [sizeOf, Sem.run_bind, Try.typeInfo43]; rfl⟩
instance : TA Try.prog 43 false := ⟨Try.isAgg43⟩
instance : TZ Try.prog 43 (.slice none 0 0) [(.slice none 0 0)] := ⟨Try.zeroValue43, rfl⟩
instance : TU Try.prog 44 (.slice 68) := ⟨Try.underlying44⟩
instance : TS Try.prog 44 1 := ⟨fun w => by simp only [sizeOf, Sem.run_bind, Try.typeInfo44]; rfl⟩
instance : TA Try.prog 44 false := ⟨Try.isAgg44⟩
instance : TU Try.prog 45 (.slice 43) := ⟨Try.underlying45⟩
instance : TS Try.prog 45 1 := ⟨fun w => by simp only [sizeOf, Sem.run_bind, Try.typeInfo45]; rfl⟩
instance : TA Try.prog 45 false := ⟨Try.isAgg45⟩
instance : TU Try.prog 46 (.slice 164) := ⟨Try.underlying46⟩
instance : TS Try.prog 46 1 := ⟨fun w => by simp only [sizeOf, Sem.run_bind, Try.typeInfo46]; rfl⟩
instance : TA Try.prog 46 false := ⟨Try.isAgg46⟩
instance : TS Try.prog 48 5 := ⟨fun w => by simp only [sizeOf, Sem.run_bind, Try.typeInfo48]; rfl⟩
instance : TA Try.prog 48 true := ⟨Try.isAgg48⟩
instance : TZ Try.prog 48 (.agg #[(.slice none 0 0), (.slice none 0 0), (.slice none 0 0), (.slice none 0 0), (.slice none 0 0)]) [(.slice none 0 0), (.slice none 0 0), (.slice none 0 0), (.slice none 0 0), (.slice none 0 0)] := ⟨Try.zeroValue48, rfl⟩
instance : TS Try.prog 50 10 := ⟨fun w => by simp only [sizeOf, Sem.run_bind, Try.typeInfo50]; rfl⟩
instance : TA Try.prog 50 true := ⟨Try.isAgg50⟩
instance : TZ Try.prog 50 (.agg #[(.int .i64 (0)), (.int .i64 (0)), (.int .i64 (0)), (.slice none 0 0), (.slice none 0 0), (.slice none 0 0), (.slice none 0 0), (.slice none 0 0), (.slice none 0 0), (.slice none 0 0)]) [(.int .i64 (0)), (.int .i64 (0)), (.int .i64 (0)), (.slice none 0 0), (.slice none 0 0), (.slice none 0 0), (.slice none 0 0), (.slice none 0 0), (.slice none 0 0), (.slice none 0 0)] := ⟨Try.zeroValue50, rfl⟩
instance : TU Try.prog 55 (.slice 64) := ⟨Try.underlying55⟩
instance : TS Try.prog 55 1 := ⟨fun w => by simp only [sizeOf, Sem.run_bind, Try.typeInfo55]; rfl⟩
instance : TA Try.prog 55 false := ⟨Try.isAgg55⟩
instance : TU Try.prog 56 (.slice 76) := ⟨Try.underlying56⟩
instance : TS Try.prog 56 1 := ⟨fun w => by simp only [sizeOf, Sem.run_bind, Try.typeInfo56]; rfl⟩
instance : TA Try.prog 56 false := ⟨Try.isAgg56⟩
instance : TS Try.prog 58 6 := ⟨fun w => by simp only [sizeOf, Sem.run_bind, Try.typeInfo58]; rfl⟩
instance : TA Try.prog 58 true := ⟨Try.isAgg58⟩
instance : TZ Try.prog 58 (.agg #[(.int .i64 (0)), (.int .i64 (0)), (.int .i64 (0)), (.slice none 0 0), (.slice none 0 0), (.slice none 0 0)]) [(.int .i64 (0)), (.int .i64 (0)), (.int .i64 (0)), (.slice none 0 0), (.slice none 0 0), (.slice none 0 0)] := ⟨Try.zeroValue58, rfl⟩
instance : TU Try.prog 59 (.slice 70) := ⟨Try.underlying59⟩
instance : TS Try.prog 59 1 := ⟨fun w => by simp only [sizeOf, Sem.run_bind, Try.typeInfo59]; rfl⟩
instance : TA Try.prog 59 false := ⟨Try.isAgg59⟩
instance : TS Try.prog 61 5 := ⟨fun w => by simp only [sizeOf, Sem.run_bind, Try.typeInfo61]; rfl⟩
instance : TA Try.prog 61 true := ⟨Try.isAgg61⟩
instance : TZ Try.prog 61 (.agg #[(.int .i64 (0)), (.int .i64 (0)), (.int .i64 (0)), (.slice none 0 0), (.slice none 0 0)]) [(.int .i64 (0)), (.int .i64 (0)), (.int .i64 (0)), (.slice none 0 0), (.slice none 0 0)] := ⟨Try.zeroValue61, rfl⟩
instance : TS Try.prog 64 2 := ⟨fun w => by simp only [sizeOf, Sem.run_bind, Try.typeInfo64]; rfl⟩
instance : TA Try.prog 64 true := ⟨Try.isAgg64⟩
instance : TZ Try.prog 64 (.agg #[(.int .i64 (0)), (.int .i64 (0))]) [(.int .i64 (0)), (.int .i64 (0))] := ⟨Try.zeroValue64, rfl⟩
instance : TS Try.prog 68 3 := ⟨fun w => by simp only [sizeOf, Sem.run_bind, Try.typeInfo68]; rfl⟩
instance : TA Try.prog 68 true := ⟨Try.isAgg68⟩
instance : TZ Try.prog 68 (.agg #[(.int .i64 (0)), (.int .i64 (0)), (.int .i64 (0))]) [(.int .i64 (0)), (.int .i64 (0)), (.int .i64 (0))] := ⟨Try.zeroValue68, rfl⟩
instance : TS Try.prog 70 2 := ⟨fun w => by simp only [sizeOf, Sem.run_bind, Try.typeInfo70]; rfl⟩
instance : TA Try.prog 70 true := ⟨Try.isAgg70⟩
instance : TZ Try.prog 70 (.agg #[(.int .i64 (0)), (.int .i64 (0))]) [(.int .i64 (0)), (.int .i64 (0))] := ⟨Try.zeroValue70, rfl⟩
instance : TU Try.prog 72 (.map 3 3) := ⟨Try.underlying72⟩
instance : TS Try.prog 72 1 := ⟨fun w => by simp only [sizeOf, Sem.run_bind, Try.typeInfo72]; rfl⟩
instance : TA Try.prog 72 false := ⟨Try.isAgg72⟩
instance : TZ Try.prog 72 (.map none) [(.map none)] := ⟨Try.zeroValue72, rfl⟩
instance : TS Try.prog 76 2 := ⟨fun w => by simp only [sizeOf, Sem.run_bind, Try.typeInfo76]; rfl⟩
instance : TA Try.prog 76 true := ⟨Try.isAgg76⟩
instance : TZ Try.prog 76 (.agg #[(.int .i64 (0)), (.int .i64 (0))]) [(.int .i64 (0)), (.int .i64 (0))] := ⟨Try.zeroValue76, rfl⟩
instance : TU Try.prog 81 (.slice 83) := ⟨Try.underlying81⟩
instance : TA Try.prog 81 false := ⟨Try.isAgg81⟩
instance : TS Try.prog 83 2 := ⟨fun w => by simp only [sizeOf, Sem.run_bind, Try.typeInfo83]; rfl⟩
instance : TA Try.prog 83 true := ⟨Try.isAgg83⟩
instance : TZ Try.prog 83 (.agg #[(.int .i64 (0)), (.int .i64 (0))]) [(.int .i64 (0)), (.int .i64 (0))] := ⟨Try.zeroValue83, rfl⟩
instance : TU Try.prog 84 (.slice 90) := ⟨Try.underlying84⟩
instance : TS Try.prog 84 1 := ⟨fun w => by simp only [sizeOf, Sem.run_bind, Try.typeInfo84]; rfl⟩
instance : TA Try.prog 84 false := ⟨Try.isAgg84⟩
instance : TZ Try.prog 84 (.slice none 0 0) [(.slice none 0 0)] := ⟨Try.zeroValue84, rfl⟩
instance : TS Try.prog 86 4 := ⟨fun w => by simp only [sizeOf, Sem.run_bind, Try.typeInfo86]; rfl⟩
instance : TA Try.prog 86 true := ⟨Try.isAgg86⟩
instance : TZ Try.prog 86 (.agg #[(.slice none 0 0), (.slice none 0 0), (.slice none 0 0), (.slice none 0 0)]) [(.slice none 0 0), (.slice none 0 0), (.slice none 0 0), (.slice none 0 0)] := ⟨Try.zeroValue86, rfl⟩
instance : TS Try.prog 90 4 := ⟨fun w => by simp only [sizeOf, Sem.run_bind, Try.typeInfo90]; rfl⟩
instance : TA Try.prog 90 true := ⟨Try.isAgg90⟩
instance : TZ Try.prog 90 (.agg #[(.int .i64 (0)), (.int .i64 (0)), (.int .i64 (0)), (.int .i64 (0))]) [(.int .i64 (0)), (.int .i64 (0)), (.int .i64 (0)), (.int .i64 (0))] := ⟨Try.zeroValue90, rfl⟩
instance : TU Try.prog 93 (.map 3 61) := ⟨Try.underlying93⟩
instance : TS Try.prog 93 1 := ⟨fun w => by simp only [sizeOf, Sem.run_bind, Try.typeInfo93]; rfl⟩
instance : TA Try.prog 93 false := ⟨Try.isAgg93⟩
instance : TU Try.prog 94 (.map 64 43) := ⟨Try.underlying94⟩
instance : TS Try.prog 94 1 := ⟨fun w => by simp only [sizeOf, Sem.run_bind, Try.typeInfo94]; rfl⟩
instance : TA Try.prog 94 false := ⟨Try.isAgg94⟩
instance : TS Try.prog 96 5 := ⟨fun w => by simp only [sizeOf, Sem.run_bind, Try.typeInfo96]; rfl⟩
instance : TZ Try.prog 96 (.agg #[(.map none), (.map none), (.map none), (.map none), (.map none)]) [(.map none), (.map none), (.map none), (.map none), (.map none)] := ⟨Try.zeroValue96, rfl⟩
instance : TU Try.prog 98 (.map 64 4) := ⟨Try.underlying98⟩
instance : TS Try.prog 98 1 := ⟨fun w => by simp only [sizeOf, Sem.run_bind, Try.typeInfo98]; rfl⟩
instance : TA Try.prog 98 false := ⟨Try.isAgg98⟩
instance : TS Try.prog 100 3 := ⟨fun w => by simp only [sizeOf, Sem.run_bind, Try.typeInfo100]; rfl⟩
instance : TZ Try.prog 100 (.agg #[(.map none), (.map none), (.map none)]) [(.map none), (.map none), (.map none)] := ⟨Try.zeroValue100, rfl⟩
instance : TU Try.prog 102 (.map 3 4) := ⟨Try.underlying102⟩
instance : TS Try.prog 127 4 := ⟨fun w => by simp only [sizeOf, Sem.run_bind, Try.typeInfo127]; rfl⟩
instance : TA Try.prog 127 true := ⟨Try.isAgg127⟩
instance : TZ Try.prog 127 (.agg #[(.int .i64 (0)), (.int .i64 (0)), (.int .i64 (0)), (.int .i64 (0))]) [(.int .i64 (0)), (.int .i64 (0)), (.int .i64 (0)), (.int .i64 (0))] := ⟨Try.zeroValue127, rfl⟩
instance : TU Try.prog 128 (.slice 127) := ⟨Try.underlying128⟩
instance : TA Try.prog 128 false := ⟨Try.isAgg128⟩
instance : TU Try.prog 132 (.slice 150) := ⟨Try.underlying132⟩
instance : TS Try.prog 150 2 := ⟨fun w => by simp only [sizeOf, Sem.run_bind, Try.typeInfo150]; rfl⟩
instance : TA Try.prog 150 true := ⟨Try.isAgg150⟩
instance : TZ Try.prog 150 (.agg #[(.int .i64 (0)), (.int .i64 (0))]) [(.int .i64 (0)), (.int .i64 (0))] := ⟨Try.zeroValue150, rfl⟩
instance : TU Try.prog 151 (.map 3 127) := ⟨Try.underlying151⟩
instance : TZ Try.prog 161 (.agg #[(.slice none 0 0), (.slice none 0 0), (.slice none 0 0), (.slice none 0 0), (.slice none 0 0), (.slice none 0 0), (.slice none 0 0), (.int .i64 (0))]) [(.slice none 0 0), (.slice none 0 0), (.slice none 0 0), (.slice none 0 0), (.slice none 0 0), (.slice none 0 0), (.slice none 0 0), (.int .i64 (0))] := ⟨Try.zeroValue161, rfl⟩
instance : TS Try.prog 164 3 := ⟨fun w => by simp only [sizeOf, Sem.run_bind, Try.typeInfo164]; rfl⟩
instance : TA Try.prog 164 true := ⟨Try.isAgg164⟩
instance : TZ Try.prog 164 (.agg #[(.int .u8 (0)), (.int .i64 (0)), (.int .i64 (0))]) [(.int .u8 (0)), (.int .i64 (0)), (.int .i64 (0))] := ⟨Try.zeroValue164, rfl⟩
instance : TE Try.prog 3 1 8 (.int .i64 (0)) := ⟨⟨Try.t3, by kernel_rfl, rfl, rfl, rfl⟩⟩
instance : TE Try.prog 38 3 24 (.agg #[(.int .i64 (0)), (.int .i64 (0)), (.int .i64 (0))]) := ⟨⟨Try.t38, by kernel_rfl, rfl, rfl, rfl⟩⟩
instance : TE Try.prog 43 1 24 (.slice none 0 0) := ⟨⟨Try.t43, by kernel_rfl, rfl, rfl, rfl⟩⟩
instance : TE Try.prog 50 10 192 (.agg #[(.int .i64 (0)), (.int .i64 (0)), (.int .i64 (0)), (.slice none 0 0), (.slice none 0 0), (.slice none 0 0), (.slice none 0 0), (.slice none 0 0), (.slice none 0 0), (.slice none 0 0)]) := ⟨⟨Try.t50, by kernel_rfl, rfl, rfl, rfl⟩⟩
instance : TE Try.prog 64 2 16 (.agg #[(.int .i64 (0)), (.int .i64 (0))]) := ⟨⟨Try.t64, by kernel_rfl, rfl, rfl, rfl⟩⟩
instance : TE Try.prog 68 3 24 (.agg #[(.int .i64 (0)), (.int .i64 (0)), (.int .i64 (0))]) := ⟨⟨Try.t68, by kernel_rfl, rfl, rfl, rfl⟩⟩
instance : TE Try.prog 76 2 16 (.agg #[(.int .i64 (0)), (.int .i64 (0))]) := ⟨⟨Try.t76, by kernel_rfl, rfl, rfl, rfl⟩⟩
instance : TE Try.prog 83 2 16 (.agg #[(.int .i64 (0)), (.int .i64 (0))]) := ⟨⟨Try.t83, by kernel_rfl, rfl, rfl, rfl⟩⟩
instance : TE Try.prog 90 4 32 (.agg #[(.int .i64 (0)), (.int .i64 (0)), (.int .i64 (0)), (.int .i64 (0))]) := ⟨⟨Try.t90, by kernel_rfl, rfl, rfl, rfl⟩⟩
instance : TE Try.prog 150 2 16 (.agg #[(.int .i64 (0)), (.int .i64 (0))]) := ⟨⟨Try.t150, by kernel_rfl, rfl, rfl, rfl⟩⟩
instance : TE Try.prog 164 3 24 (.agg #[(.int .u8 (0)), (.int .i64 (0)), (.int .i64 (0))]) := ⟨⟨Try.t164, by kernel_rfl, rfl, rfl, rfl⟩⟩
instance : TF Try.prog 29 0 0 := TF.mk' (k := 0) Try.underlying29 rfl rfl (TS.h (P := Try.prog) (t := 25))
instance : TF Try.prog 29 1 1 := TF.mk' (k := 0) Try.underlying29 rfl rfl (TS.h (P := Try.prog) (t := 26))
instance : TF Try.prog 29 2 2 := TF.mk' (k := 0) Try.underlying29 rfl rfl (TS.h (P := Try.prog) (t := 27))
instance : TPl Try.prog 29 [(0, 1), (1, 1), (2, 1)] := ⟨_, Try.underlying29, fun w => by simp [TS.h (P := Try.prog) (t := 25), TS.h (P := Try.prog) (t := 26), TS.h (P := Try.prog) (t := 27)]⟩
instance : TF Try.prog 38 0 0 := TF.mk' (k := 0) Try.underlying38 rfl rfl (TS.h (P := Try.prog) (t := 3))
instance : TF Try.prog 38 1 1 := TF.mk' (k := 0) Try.underlying38 rfl rfl (TS.h (P := Try.prog) (t := 3))
instance : TF Try.prog 38 2 2 := TF.mk' (k := 0) Try.underlying38 rfl rfl (TS.h (P := Try.prog) (t := 3))
instance : TPl Try.prog 38 [(0, 1), (1, 1), (2, 1)] := ⟨_, Try.underlying38, fun w => by simp [TS.h (P := Try.prog) (t := 3)]⟩
instance : TQ Try.prog 40 [.int .u8, .int .i64, .int .i64] := ⟨⟨_, Try.underlying40, by kernel_rfl, by kernel_rfl, ⟨by decide, rfl, Try.isAgg5, Try.underlying5, ⟨by decide, rfl, Try.isAgg3, Try.underlying3, ⟨by decide, rfl, Try.isAgg3, Try.underlying3, trivial⟩⟩⟩⟩⟩
instance : TPl Try.prog 40 [(0, 1), (1, 1), (2, 1)] := ⟨_, Try.underlying40, fun w => by simp [TS.h (P := Try.prog) (t := 3), TS.h (P := Try.prog) (t := 5)]⟩
instance : TF Try.prog 48 0 0 := TF.mk' (k := 0) Try.underlying48 rfl rfl (TS.h (P := Try.prog) (t := 45))
instance : TF Try.prog 48 1 1 := TF.mk' (k := 0) Try.underlying48 rfl rfl (TS.h (P := Try.prog) (t := 43))
instance : TF Try.prog 48 2 2 := TF.mk' (k := 0) Try.underlying48 rfl rfl (TS.h (P := Try.prog) (t := 43))
instance : TF Try.prog 48 3 3 := TF.mk' (k := 0) Try.underlying48 rfl rfl (TS.h (P := Try.prog) (t := 43))
instance : TF Try.prog 48 4 4 := TF.mk' (k := 0) Try.underlying48 rfl rfl (TS.h (P := Try.prog) (t := 46))
instance : TPl Try.prog 48 [(0, 1), (1, 1), (2, 1), (3, 1), (4, 1)] := ⟨_, Try.underlying48, fun w => by simp [TS.h (P := Try.prog) (t := 43), TS.h (P := Try.prog) (t := 45), TS.h (P := Try.prog) (t := 46)]⟩
instance : TF Try.prog 50 0 0 := TF.mk' (k := 0) Try.underlying50 rfl rfl (TS.h (P := Try.prog) (t := 3))
instance : TF Try.prog 50 1 1 := TF.mk' (k := 0) Try.underlying50 rfl rfl (TS.h (P := Try.prog) (t := 3))
instance : TF Try.prog 50 2 2 := TF.mk' (k := 0) Try.underlying50 rfl rfl (TS.h (P := Try.prog) (t := 3))
instance : TF Try.prog 50 3 3 := TF.mk' (k := 0) Try.underlying50 rfl rfl (TS.h (P := Try.prog) (t := 43))
instance : TF Try.prog 50 4 4 := TF.mk' (k := 0) Try.underlying50 rfl rfl (TS.h (P := Try.prog) (t := 44))
instance : TF Try.prog 50 5 5 := TF.mk' (k := 4) Try.underlying50 rfl rfl (TS.h (P := Try.prog) (t := 48))
instance : TPl Try.prog 50 [(0, 1), (1, 1), (2, 1), (3, 1), (4, 1), (5, 5)] := ⟨_, Try.underlying50, fun w => by simp [TS.h (P := Try.prog) (t := 3), TS.h (P := Try.prog) (t := 43), TS.h (P := Try.prog) (t := 44), TS.h (P := Try.prog) (t := 48)]⟩
instance : TF Try.prog 58 0 0 := TF.mk' (k := 0) Try.underlying58 rfl rfl (TS.h (P := Try.prog) (t := 3))
instance : TF Try.prog 58 1 1 := TF.mk' (k := 0) Try.underlying58 rfl rfl (TS.h (P := Try.prog) (t := 3))
instance : TF Try.prog 58 2 2 := TF.mk' (k := 0) Try.underlying58 rfl rfl (TS.h (P := Try.prog) (t := 3))
instance : TF Try.prog 58 3 3 := TF.mk' (k := 0) Try.underlying58 rfl rfl (TS.h (P := Try.prog) (t := 55))
instance : TF Try.prog 58 4 4 := TF.mk' (k := 0) Try.underlying58 rfl rfl (TS.h (P := Try.prog) (t := 56))
instance : TF Try.prog 58 5 5 := TF.mk' (k := 0) Try.underlying58 rfl rfl (TS.h (P := Try.prog) (t := 43))
instance : TPl Try.prog 58 [(0, 1), (1, 1), (2, 1), (3, 1), (4, 1), (5, 1)] := ⟨_, Try.underlying58, fun w => by simp [TS.h (P := Try.prog) (t := 3), TS.h (P := Try.prog) (t := 43), TS.h (P := Try.prog) (t := 55), TS.h (P := Try.prog) (t := 56)]⟩
instance : TF Try.prog 61 0 0 := TF.mk' (k := 0) Try.underlying61 rfl rfl (TS.h (P := Try.prog) (t := 3))
instance : TF Try.prog 61 1 1 := TF.mk' (k := 0) Try.underlying61 rfl rfl (TS.h (P := Try.prog) (t := 3))
instance : TF Try.prog 61 2 2 := TF.mk' (k := 0) Try.underlying61 rfl rfl (TS.h (P := Try.prog) (t := 3))
instance : TF Try.prog 61 3 3 := TF.mk' (k := 0) Try.underlying61 rfl rfl (TS.h (P := Try.prog) (t := 43))
instance : TF Try.prog 61 4 4 := TF.mk' (k := 0) Try.underlying61 rfl rfl (TS.h (P := Try.prog) (t := 59))
instance : TPl Try.prog 61 [(0, 1), (1, 1), (2, 1), (3, 1), (4, 1)] := ⟨_, Try.underlying61, fun w => by simp [TS.h (P := Try.prog) (t := 3), TS.h (P := Try.prog) (t := 43), TS.h (P := Try.prog) (t := 59)]⟩
instance : TF Try.prog 64 0 0 := TF.mk' (k := 0) Try.underlying64 rfl rfl (TS.h (P := Try.prog) (t := 3))
instance : TF Try.prog 64 1 1 := TF.mk' (k := 0) Try.underlying64 rfl rfl (TS.h (P := Try.prog) (t := 3))
instance : TQ Try.prog 64 [.int .i64, .int .i64] := ⟨⟨_, Try.underlying64, by kernel_rfl, by kernel_rfl, ⟨by decide, rfl, Try.isAgg3, Try.underlying3, ⟨by decide, rfl, Try.isAgg3, Try.underlying3, trivial⟩⟩⟩⟩
instance : TPl Try.prog 64 [(0, 1), (1, 1)] := ⟨_, Try.underlying64, fun w => by simp [TS.h (P := Try.prog) (t := 3)]⟩
instance : TF Try.prog 68 1 1 := TF.mk' (k := 0) Try.underlying68 rfl rfl (TS.h (P := Try.prog) (t := 3))
instance : TF Try.prog 68 2 2 := TF.mk' (k := 0) Try.underlying68 rfl rfl (TS.h (P := Try.prog) (t := 3))
instance : TQ Try.prog 68 [.int .i64, .int .i64, .int .i64] := ⟨⟨_, Try.underlying68, by kernel_rfl, by kernel_rfl, ⟨by decide, rfl, Try.isAgg3, Try.underlying3, ⟨by decide, rfl, Try.isAgg3, Try.underlying3, ⟨by decide, rfl, Try.isAgg3, Try.underlying3, trivial⟩⟩⟩⟩⟩
instance : TPl Try.prog 68 [(0, 1), (1, 1), (2, 1)] := ⟨_, Try.underlying68, fun w => by simp [TS.h (P := Try.prog) (t := 3)]⟩
instance : TF Try.prog 70 0 0 := TF.mk' (k := 0) Try.underlying70 rfl rfl (TS.h (P := Try.prog) (t := 3))
instance : TF Try.prog 70 1 1 := TF.mk' (k := 0) Try.underlying70 rfl rfl (TS.h (P := Try.prog) (t := 3))
instance : TPl Try.prog 70 [(0, 1), (1, 1)] := ⟨_, Try.underlying70, fun w => by simp [TS.h (P := Try.prog) (t := 3)]⟩
instance : TF Try.prog 76 0 0 := TF.mk' (k := 0) Try.underlying76 rfl rfl (TS.h (P := Try.prog) (t := 3))
instance : TF Try.prog 76 1 1 := TF.mk' (k := 0) Try.underlying76 rfl rfl (TS.h (P := Try.prog) (t := 3))
instance : TPl Try.prog 76 [(0, 1), (1, 1)] := ⟨_, Try.underlying76, fun w => by simp [TS.h (P := Try.prog) (t := 3)]⟩
instance : TF Try.prog 83 0 0 := TF.mk' (k := 0) Try.underlying83 rfl rfl (TS.h (P := Try.prog) (t := 3))
instance : TF Try.prog 83 1 1 := TF.mk' (k := 0) Try.underlying83 rfl rfl (TS.h (P := Try.prog) (t := 3))
instance : TPl Try.prog 83 [(0, 1), (1, 1)] := ⟨_, Try.underlying83, fun w => by simp [TS.h (P := Try.prog) (t := 3)]⟩
instance : TF Try.prog 86 1 1 := TF.mk' (k := 0) Try.underlying86 rfl rfl (TS.h (P := Try.prog) (t := 84))
instance : TPl Try.prog 86 [(0, 1), (1, 1), (2, 1), (3, 1)] := ⟨_, Try.underlying86, fun w => by simp [TS.h (P := Try.prog) (t := 43), TS.h (P := Try.prog) (t := 84)]⟩
instance : TF Try.prog 90 0 0 := TF.mk' (k := 0) Try.underlying90 rfl rfl (TS.h (P := Try.prog) (t := 3))
instance : TF Try.prog 90 1 1 := TF.mk' (k := 0) Try.underlying90 rfl rfl (TS.h (P := Try.prog) (t := 3))
instance : TF Try.prog 90 2 2 := TF.mk' (k := 0) Try.underlying90 rfl rfl (TS.h (P := Try.prog) (t := 3))
instance : TF Try.prog 90 3 3 := TF.mk' (k := 0) Try.underlying90 rfl rfl (TS.h (P := Try.prog) (t := 3))
instance : TPl Try.prog 90 [(0, 1), (1, 1), (2, 1), (3, 1)] := ⟨_, Try.underlying90, fun w => by simp [TS.h (P := Try.prog) (t := 3)]⟩
instance : TF Try.prog 96 0 0 := TF.mk' (k := 0) Try.underlying96 rfl rfl (TS.h (P := Try.prog) (t := 93))
instance : TF Try.prog 96 1 1 := TF.mk' (k := 0) Try.underlying96 rfl rfl (TS.h (P := Try.prog) (t := 72))
instance : TF Try.prog 96 2 2 := TF.mk' (k := 0) Try.underlying96 rfl rfl (TS.h (P := Try.prog) (t := 94))
instance : TF Try.prog 96 3 3 := TF.mk' (k := 0) Try.underlying96 rfl rfl (TS.h (P := Try.prog) (t := 72))
instance : TF Try.prog 96 4 4 := TF.mk' (k := 0) Try.underlying96 rfl rfl (TS.h (P := Try.prog) (t := 72))
instance : TPl Try.prog 96 [(0, 1), (1, 1), (2, 1), (3, 1), (4, 1)] := ⟨_, Try.underlying96, fun w => by simp [TS.h (P := Try.prog) (t := 72), TS.h (P := Try.prog) (t := 93), TS.h (P := Try.prog) (t := 94)]⟩
instance : TF Try.prog 100 0 0 := TF.mk' (k := 0) Try.underlying100 rfl rfl (TS.h (P := Try.prog) (t := 72))
instance : TF Try.prog 100 1 1 := TF.mk' (k := 0) Try.underlying100 rfl rfl (TS.h (P := Try.prog) (t := 72))
instance : TF Try.prog 100 2 2 := TF.mk' (k := 0) Try.underlying100 rfl rfl (TS.h (P := Try.prog) (t := 98))
instance : TPl Try.prog 100 [(0, 1), (1, 1), (2, 1)] := ⟨_, Try.underlying100, fun w => by simp [TS.h (P := Try.prog) (t := 72), TS.h (P := Try.prog) (t := 98)]⟩
instance : TF Try.prog 127 0 0 := TF.mk' (k := 0) Try.underlying127 rfl rfl (TS.h (P := Try.prog) (t := 3))
instance : TF Try.prog 127 1 1 := TF.mk' (k := 0) Try.underlying127 rfl rfl (TS.h (P := Try.prog) (t := 3))
instance : TF Try.prog 127 2 2 := TF.mk' (k := 0) Try.underlying127 rfl rfl (TS.h (P := Try.prog) (t := 3))
instance : TF Try.prog 127 3 3 := TF.mk' (k := 0) Try.underlying127 rfl rfl (TS.h (P := Try.prog) (t := 3))
instance : TPl Try.prog 127 [(0, 1), (1, 1), (2, 1), (3, 1)] := ⟨_, Try.underlying127, fun w => by simp [TS.h (P := Try.prog) (t := 3)]⟩
instance : TF Try.prog 150 0 0 := TF.mk' (k := 0) Try.underlying150 rfl rfl (TS.h (P := Try.prog) (t := 3))
instance : TF Try.prog 150 1 1 := TF.mk' (k := 0) Try.underlying150 rfl rfl (TS.h (P := Try.prog) (t := 3))
instance : TPl Try.prog 150 [(0, 1), (1, 1)] := ⟨_, Try.underlying150, fun w => by simp [TS.h (P := Try.prog) (t := 3)]⟩
instance : TF Try.prog 161 0 0 := TF.mk' (k := 4) Try.underlying161 rfl rfl (TS.h (P := Try.prog) (t := 48))
instance : TF Try.prog 161 1 5 := TF.mk' (k := 0) Try.underlying161 rfl rfl (TS.h (P := Try.prog) (t := 43))
instance : TF Try.prog 161 2 6 := TF.mk' (k := 0) Try.underlying161 rfl rfl (TS.h (P := Try.prog) (t := 43))
instance : TF Try.prog 161 3 7 := TF.mk' (k := 0) Try.underlying161 rfl rfl (TS.h (P := Try.prog) (t := 3))
instance : TPl Try.prog 161 [(0, 5), (5, 1), (6, 1), (7, 1)] := ⟨_, Try.underlying161, fun w => by simp [TS.h (P := Try.prog) (t := 3), TS.h (P := Try.prog) (t := 43), TS.h (P := Try.prog) (t := 48)]⟩
instance : TPl Try.prog 164 [(0, 1), (1, 1), (2, 1)] := ⟨_, Try.underlying164, fun w => by simp [TS.h (P := Try.prog) (t := 3), TS.h (P := Try.prog) (t := 5)]⟩
instance : TC Try.prog 11 Try.f11 := ⟨Try.func11, ⟨_, rfl⟩, by kernel_rfl⟩
instance : TC Try.prog 12 Try.f12 := ⟨Try.func12, ⟨_, rfl⟩, by kernel_rfl⟩
instance : TC Try.prog 13 Try.f13 := ⟨Try.func13, ⟨_, rfl⟩, by kernel_rfl⟩
instance : TC Try.prog 16 Try.f16 := ⟨Try.func16, ⟨_, rfl⟩, by kernel_rfl⟩
instance : TC Try.prog 20 Try.f20 := ⟨Try.func20, ⟨_, rfl⟩, by kernel_rfl⟩
instance : TC Try.prog 24 Try.f24 := ⟨Try.func24, ⟨_, rfl⟩, by kernel_rfl⟩
instance : TC Try.prog 25 Try.f25 := ⟨Try.func25, ⟨_, rfl⟩, by kernel_rfl⟩
instance : TC Try.prog 26 Try.f26 := ⟨Try.func26, ⟨_, rfl⟩, by kernel_rfl⟩
instance : TC Try.prog 27 Try.f27 := ⟨Try.func27, ⟨_, rfl⟩, by kernel_rfl⟩
instance : TC Try.prog 28 Try.f28 := ⟨Try.func28, ⟨_, rfl⟩, by kernel_rfl⟩
instance : TC Try.prog 29 Try.f29 := ⟨Try.func29, ⟨_, rfl⟩, by kernel_rfl⟩
instance : TC Try.prog 30 Try.f30 := ⟨Try.func30, ⟨_, rfl⟩, by kernel_rfl⟩
instance : TC Try.prog 31 Try.f31 := ⟨Try.func31, ⟨_, rfl⟩, by kernel_rfl⟩
instance : TC Try.prog 32 Try.f32 := ⟨Try.func32, ⟨_, rfl⟩, by kernel_rfl⟩
instance : TC Try.prog 33 Try.f33 := ⟨Try.func33, ⟨_, rfl⟩, by kernel_rfl⟩
instance : TC Try.prog 34 Try.f34 := ⟨Try.func34, ⟨_, rfl⟩, by kernel_rfl⟩
instance : TC Try.prog 35 Try.f35 := ⟨Try.func35, ⟨_, rfl⟩, by kernel_rfl⟩
instance : TC Try.prog 36 Try.f36 := ⟨Try.func36, ⟨_, rfl⟩, by kernel_rfl⟩
instance : TC Try.prog 37 Try.f37 := ⟨Try.func37, ⟨_, rfl⟩, by kernel_rfl⟩
instance : TC Try.prog 38 Try.f38 := ⟨Try.func38, ⟨_, rfl⟩, by kernel_rfl⟩
instance : TC Try.prog 39 Try.f39 := ⟨Try.func39, ⟨_, rfl⟩, by kernel_rfl⟩
instance : TC Try.prog 40 Try.f40 := ⟨Try.func40, ⟨_, rfl⟩, by kernel_rfl⟩
instance : TC Try.prog 41 Try.f41 := ⟨Try.func41, ⟨_, rfl⟩, by kernel_rfl⟩
instance : TC Try.prog 42 Try.f42 := ⟨Try.func42, ⟨_, rfl⟩, by kernel_rfl⟩
instance : TC Try.prog 43 Try.f43 := ⟨Try.func43, ⟨_, rfl⟩, by kernel_rfl⟩
instance : TC Try.prog 44 Try.f44 := ⟨Try.func44, ⟨_, rfl⟩, by kernel_rfl⟩
instance : TC Try.prog 45 Try.f45 := ⟨Try.func45, ⟨_, rfl⟩, by kernel_rfl⟩
instance : TC Try.prog 46 Try.f46 := ⟨Try.func46, ⟨_, rfl⟩, by kernel_rfl⟩
instance : TC Try.prog 47 Try.f47 := ⟨Try.func47, ⟨_, rfl⟩, by kernel_rfl⟩
instance : TC Try.prog 48 Try.f48 := ⟨Try.func48, ⟨_, rfl⟩, by kernel_rfl⟩
instance : TC Try.prog 49 Try.f49 := ⟨Try.func49, ⟨_, rfl⟩, by kernel_rfl⟩
instance : TC Try.prog 50 Try.f50 := ⟨Try.func50, ⟨_, rfl⟩, by kernel_rfl⟩
instance : TC Try.prog 51 Try.f51 := ⟨Try.func51, ⟨_, rfl⟩, by kernel_rfl⟩
instance : TC Try.prog 52 Try.f52 := ⟨Try.func52, ⟨_, rfl⟩, by kernel_rfl⟩
instance : TC Try.prog 53 Try.f53 := ⟨Try.func53, ⟨_, rfl⟩, by kernel_rfl⟩
instance : TC Try.prog 54 Try.f54 := ⟨Try.func54, ⟨_, rfl⟩, by kernel_rfl⟩
instance : TC Try.prog 55 Try.f55 := ⟨Try.func55, ⟨_, rfl⟩, by kernel_rfl⟩
instance : TC Try.prog 57 Try.f57 := ⟨Try.func57, ⟨_, rfl⟩, by kernel_rfl⟩
instance : TC Try.prog 58 Try.f58 := ⟨Try.func58, ⟨_, rfl⟩, by kernel_rfl⟩
instance : TC Try.prog 59 Try.f59 := ⟨Try.func59, ⟨_, rfl⟩, by kernel_rfl⟩
instance : TC Try.prog 60 Try.f60 := ⟨Try.func60, ⟨_, rfl⟩, by kernel_rfl⟩
instance : TC Try.prog 62 Try.f62 := ⟨Try.func62, ⟨_, rfl⟩, by kernel_rfl⟩
instance : TC Try.prog 63 Try.f63 := ⟨Try.func63, ⟨_, rfl⟩, by kernel_rfl⟩
instance : TC Try.prog 64 Try.f64 := ⟨Try.func64, ⟨_, rfl⟩, by kernel_rfl⟩
instance : TC Try.prog 65 Try.f65 := ⟨Try.func65, ⟨_, rfl⟩, by kernel_rfl⟩
instance : TC Try.prog 66 Try.f66 := ⟨Try.func66, ⟨_, rfl⟩, by kernel_rfl⟩
instance : TC Try.prog 67 Try.f67 := ⟨Try.func67, ⟨_, rfl⟩, by kernel_rfl⟩
end Go.Proofs.Ytkhaemjoekfhiaa
namespace Go.Proofs.Ytkhaemjoekfhiaa
open Go Go.Sx Go.RowKit
attribute [local irreducible] WL WC WQ St Exit.then Exit.inBlock bodyPost roundPost beginK YR RG BM Calls B
/-! ## the kit's functions on lists of numbers -/
set_option maxHeartbeats 1000000 in
theorem sameInts_calls {va vb : Value} {xs ys : List Int} (w : World) (ha : SV w 1 encI va xs) (hb : SV w 1 encI vb ys) : Calls Try.prog 20 #[va, vb] w fun e w' => e = .returned (.bool (B (xs = ys))) ∧ Below w.heap.size w w' := by
  obtain ⟨a0, ca, rfl, hca, ha⟩ := ha.open
  obtain ⟨b0, cb, rfl, hcb, hb⟩ := hb.open
  by_cases hl : xs.length = ys.length
  case neg =>
    refine f_enter2 Try.func20 rfl Try.ntmps20 rfl (Rep.start w) ?_
    repeat' (first | ((with_reducible first | apply o_move | apply o_assign); exact rfl; exact rfl) | ((with_reducible first | apply o_lss | apply o_neq); exact rfl; exact rfl; exact rfl) | ((with_reducible apply o_len); infer_instance; exact rfl; exact rfl) | ((with_reducible first | apply c_seq | apply c_block | apply c_region | apply c_nil | apply c_ret | apply c_exit | apply c_skip)) | ((with_reducible apply c_cond_t); exact rfl; exact tT_) | ((with_reducible first | apply e_then | apply e_then_ret | apply e_then_exit | apply e_in | apply e_in_ret | apply e_in_same)))
    apply r_body; apply res1 Try.results20; exact rV_; intro w' hw
    rw [B_false (fun h => hl (by rw [h]))]
    exact ⟨rfl, hw.below (by simp)⟩
  refine f_enter2 Try.func20 rfl Try.ntmps20 rfl (Rep.start w) ?_
  repeat' (first | ((with_reducible first | apply o_move | apply o_assign); exact rfl; exact rfl) | ((with_reducible first | apply o_lss | apply o_neq); exact rfl; exact rfl; exact rfl) | ((with_reducible apply o_len); infer_instance; exact rfl; exact rfl) | ((with_reducible first | apply c_seq | apply c_block | apply c_region | apply c_nil | apply c_ret | apply c_exit | apply c_skip)) | ((with_reducible apply c_cond_f); exact rfl; exact fF_) | ((with_reducible first | apply e_then | apply e_then_ret | apply e_then_exit | apply e_in | apply e_in_ret | apply e_in_same)))
  apply c_loop (σ := Nat) (Fs := fun i => [(5, .int .i64 i), (0, .slice a0 xs.length ca), (1, .slice b0 ys.length cb), (4, .bool false)])
    (Ls := fun i => []) (I := fun i => i ≤ xs.length ∧ xs.take i = ys.take i) (μ := fun i => xs.length - i) (s0 := 0)
  · exact ⟨Nat.zero_le _, by simp⟩
  · exact fS_
  · exact hS_
  rintro i ⟨hi, heq⟩
  by_cases hlt : i < xs.length
  · obtain ⟨x, hx⟩ : ∃ x, xs[i]? = some x := ⟨_, List.getElem?_eq_getElem hlt⟩
    obtain ⟨y, hy⟩ : ∃ y, ys[i]? = some y := ⟨_, List.getElem?_eq_getElem (by omega)⟩
    obtain ⟨b, off, c, e, fz, rfl, hk, hp⟩ := ha (by omega)
    obtain ⟨b', off', c', e', fz', rfl, hk', hp'⟩ := hb (by omega)
    have h1 := hp.one hx rfl
    have h2 := hp'.one hy rfl
    by_cases hxy : x = y
    · repeat' (first | ((with_reducible first | apply o_move | apply o_assign); exact rfl; exact rfl) | ((with_reducible first | apply o_lss | apply o_neq); exact rfl; exact rfl; exact rfl) | ((with_reducible apply o_add); exact rfl; exact rfl; exact rfl; (constructor <;> omega)) | ((with_reducible apply o_len); infer_instance; exact rfl; exact rfl) | ((with_reducible first | apply c_seq | apply c_block | apply c_region | apply c_nil | apply c_ret | apply c_exit | apply c_skip)) | ((with_reducible apply c_cond_t); exact rfl; exact tT_) | ((with_reducible apply c_cond_f); exact rfl; exact fF_) | ((with_reducible first | apply e_then | apply e_then_ret | apply e_then_exit | apply e_in | apply e_in_ret | apply e_in_same)) | ((with_reducible apply c_regionD0 (id := 6) []); kernel_rfl; kernel_rfl) | ((with_reducible apply q_nil); try simp only [ents, List.cons_append, List.nil_append]) | ((with_reducible first | apply q_move | apply q_assign); exact rfl; exact rfl) | ((with_reducible apply gdq_load); first | refine wq_load (h := ?_) | refine wq_loadAll (h := ?_) | refine wq_loadC (h := ?_) | refine wq_ldF (h := ?_)) | ((with_reducible first | apply q_lss | apply q_neq); exact rfl; exact rfl; exact rfl) | ((with_reducible apply q_idx); infer_instance; infer_instance; exact rfl; exact rfl; (first | exact rfl | omega); exact rfl; (first | assumption | omega | decide)))
      refine l_again (i + 1) ⟨by omega, ?_⟩ (by omega) ?_ ?_
      · rw [List.take_add_one, List.take_add_one, heq, hx, hy, hxy]
      · exact fS_
      · exact hS_
    · repeat' (first | ((with_reducible first | apply o_move | apply o_assign); exact rfl; exact rfl) | ((with_reducible first | apply o_lss | apply o_neq); exact rfl; exact rfl; exact rfl) | ((with_reducible apply o_len); infer_instance; exact rfl; exact rfl) | ((with_reducible first | apply c_seq | apply c_block | apply c_region | apply c_nil | apply c_ret | apply c_exit | apply c_skip)) | ((with_reducible apply c_cond_t); exact rfl; exact tT_) | ((with_reducible first | apply e_then | apply e_then_ret | apply e_then_exit | apply e_in | apply e_in_ret | apply e_in_same)) | ((with_reducible apply c_regionD0 (id := 6) []); kernel_rfl; kernel_rfl) | ((with_reducible apply q_nil); try simp only [ents, List.cons_append, List.nil_append]) | ((with_reducible first | apply q_move | apply q_assign); exact rfl; exact rfl) | ((with_reducible apply gdq_load); first | refine wq_load (h := ?_) | refine wq_loadAll (h := ?_) | refine wq_loadC (h := ?_) | refine wq_ldF (h := ?_)) | ((with_reducible first | apply q_lss | apply q_neq); exact rfl; exact rfl; exact rfl) | ((with_reducible apply q_idx); infer_instance; infer_instance; exact rfl; exact rfl; (first | exact rfl | omega); exact rfl; (first | assumption | omega | decide)))
      apply r_body; apply res1 Try.results20; exact rV_; intro w' hw
      rw [B_false (fun h => hxy (by rw [h, hy] at hx; cases hx; rfl))]
      exact ⟨rfl, hw.below (by simp)⟩
  · repeat' (first | ((with_reducible first | apply o_move | apply o_assign); exact rfl; exact rfl) | ((with_reducible first | apply o_lss | apply o_neq); exact rfl; exact rfl; exact rfl) | ((with_reducible apply o_len); infer_instance; exact rfl; exact rfl) | ((with_reducible first | apply c_seq | apply c_block | apply c_region | apply c_nil | apply c_ret | apply c_exit | apply c_skip)) | ((with_reducible apply c_cond_f); exact rfl; exact fF_) | ((with_reducible first | apply e_then | apply e_then_ret | apply e_then_exit | apply e_in | apply e_in_ret | apply e_in_same)))
    apply r_body; apply res1 Try.results20; exact rV_; intro w' hw
    have : xs = ys := by rw [List.take_of_length_le (by omega), List.take_of_length_le (by omega)] at heq; exact heq
    rw [B_true this]
    exact ⟨rfl, hw.below (by simp)⟩
end Go.Proofs.Ytkhaemjoekfhiaa
namespace Go.Proofs.Ytkhaemjoekfhiaa
open Go Go.Sx Go.RowKit
@[reducible] def ptr (b : Nat) : Value := .pointer (some ⟨b, 0, none⟩)
@[reducible] def slc (b n : Nat) : Value := .slice (some ⟨b, 0, none⟩) n n
theorem take_snoc {α : Type} {l : List α} {i : Nat} {x : α} (h : l[i]? = some x) : l.take (i + 1) = l.take i ++ [x] := by rw [List.take_add_one, h]; rfl
theorem drop_at {α : Type} {l : List α} {i : Nat} {x : α} (h : l[i]? = some x) : l.drop i = x :: l.drop (i + 1) := by
  obtain ⟨hlt, rfl⟩ := List.getElem?_eq_some_iff.1 h
  exact (List.getElem_cons_drop (h := hlt)).symm
theorem take_all {α : Type} {p : α → Prop} {l : List α} {i : Nat} {x : α} (h : l[i]? = some x) (hp : ∀ y ∈ l.take i, p y) (hx : p x) : ∀ y ∈ l.take (i + 1), p y := by
  rw [take_snoc h]
  intro y hy
  rcases List.mem_append.1 hy with h | h
  · exact hp y h
  · simp at h; subst h; exact hx
theorem zeros_row (n : Nat) : (List.replicate n [Value.int .i64 0]).flatten = (List.replicate n (0 : Int)).flatMap encI ++ [] := by
  rw [List.append_nil]
  induction n with
  | zero => rfl
  | succ n ih => rw [List.replicate_succ, List.replicate_succ, List.flatten_cons, List.flatMap_cons, ih]; rfl
end Go.Proofs.Ytkhaemjoekfhiaa
namespace Go.Sx.Seq
structure Stop where
  id : Int
  vol : Int
deriving DecidableEq
structure Seat where
  stop : Int
  vol : Int
  first : Int
  second : Int
deriving DecidableEq
structure Plan where
  caps : List Int
  seats : List Seat
  first : List Int
  second : List Int
deriving DecidableEq
def Plan.zero : Plan := ⟨[], [], [], []⟩
/-! ## machines, routes -/
def machineOk (caps : List Int) : Prop := (1 ≤ caps.length ∧ caps.length ≤ 64) ∧ ∀ c ∈ caps, 1 ≤ c ∧ c ≤ 100000
instance (caps : List Int) : Decidable (machineOk caps) := by unfold machineOk; infer_instance
def Stop.ok (s : Stop) : Prop := (1 ≤ s.id ∧ s.id ≤ 999999) ∧ (1 ≤ s.vol ∧ s.vol ≤ 10000)
instance (s : Stop) : Decidable s.ok := by unfold Stop.ok; infer_instance
/-- The index of the first stop that is not valid, or has the ID of an earlier one. -/
def wrongF : List Int → Nat → List Stop → Option Nat
  | _, _, [] => none
  | met, i, s :: r => if s.ok ∧ s.id ∉ met then wrongF (met ++ [s.id]) (i + 1) r else some i
/-- These stops are a route behind those that were met. -/
def routeFrom (met : List Int) (l : List Stop) : Prop := (∀ s ∈ l, s.ok) ∧ (l.map Stop.id).Nodup ∧ ∀ s ∈ l, s.id ∉ met
theorem wrongF_none : ∀ {l : List Stop} {met : List Int} {i : Nat}, wrongF met i l = none ↔ routeFrom met l
  | [], met, i => by simp [wrongF, routeFrom]
  | s :: r, met, i => by
    rw [wrongF]
    by_cases h : s.ok ∧ s.id ∉ met
    · rw [if_pos h, wrongF_none]
      unfold routeFrom
      simp only [List.mem_cons, List.map_cons, List.nodup_cons, List.mem_append, List.mem_singleton, List.mem_map, List.not_mem_nil, or_false]
      constructor
      · rintro ⟨h1, h2, h3⟩
        refine ⟨?_, ⟨?_, h2⟩, ?_⟩
        · rintro x (rfl | hx)
          · exact h.1
          · exact h1 x hx
        · rintro ⟨x, hx, e⟩
          exact h3 x hx (.inr e)
        · rintro x (rfl | hx)
          · exact h.2
          · exact fun g => h3 x hx (.inl g)
      · rintro ⟨h1, ⟨h2, h3⟩, h4⟩
        refine ⟨fun x hx => h1 x (.inr hx), h3, fun x hx => ?_⟩
        rintro (g | g)
        · exact h4 x (.inr hx) g
        · exact h2 ⟨x, hx, g⟩
    · rw [if_neg h]
      constructor
      · intro g; cases g
      · rintro ⟨h1, _, h3⟩
        exact absurd ⟨h1 s List.mem_cons_self, h3 s List.mem_cons_self⟩ h
/-! ## loads -/
def addAt (l : List Int) (k : Nat) (v : Int) : List Int := l.set k (l.getD k 0 + v)
theorem addAt_len (l : List Int) (k : Nat) (v : Int) : (addAt l k v).length = l.length := by simp [addAt]
def loadsF (g : Seat → Int) (n : Nat) (seats : List Seat) : List Int := seats.foldl (fun l s => addAt l (g s).toNat s.vol) (List.replicate n 0)
theorem loadsF_nil (g : Seat → Int) (n : Nat) : loadsF g n [] = List.replicate n 0 := rfl
theorem loadsF_snoc (g : Seat → Int) (n : Nat) (l : List Seat) (s : Seat) : loadsF g n (l ++ [s]) = addAt (loadsF g n l) (g s).toNat s.vol := by simp [loadsF]
theorem loadsF_len (g : Seat → Int) (n : Nat) (l : List Seat) : (loadsF g n l).length = n := by
  unfold loadsF
  have : ∀ (l : List Seat) (a : List Int), (l.foldl (fun l s => addAt l (g s).toNat s.vol) a).length = a.length := by
    intro l
    induction l with
    | nil => intro a; rfl
    | cons s r ih => intro a; rw [List.foldl_cons, ih, addAt_len]
  rw [this]; simp
/-- The load of one stacker: the sum of its stops' volumes. -/
def loadOf (g : Seat → Int) (k : Nat) : List Seat → Int
  | [] => 0
  | s :: r => (if (g s).toNat = k then s.vol else 0) + loadOf g k r
theorem foldl_get (g : Seat → Int) (k : Nat) : ∀ (l : List Seat) (a : List Int), k < a.length → (l.foldl (fun l s => addAt l (g s).toNat s.vol) a)[k]? = some (a.getD k 0 + loadOf g k l)
  | [], a, h => by simp [loadOf, h]
  | s :: r, a, h => by
    rw [List.foldl_cons, foldl_get g k r _ (by rw [addAt_len]; exact h)]
    congr 1
    rw [loadOf]
    by_cases e : (g s).toNat = k
    · rw [if_pos e, e, addAt]
      simp [h]; omega
    · rw [if_neg e, addAt]
      simp only [List.getD_eq_getElem?_getD]
      rw [List.getElem?_set_ne e]; omega
theorem loadsF_get (g : Seat → Int) {n k : Nat} (h : k < n) (l : List Seat) : (loadsF g n l)[k]? = some (loadOf g k l) := by
  unfold loadsF
  rw [foldl_get g k l _ (by simpa using h)]
  congr 1
  simp [h]
theorem loadOf_bounds (g : Seat → Int) (k : Nat) : ∀ {l : List Seat}, (∀ s ∈ l, 0 ≤ s.vol ∧ s.vol ≤ 10000) → 0 ≤ loadOf g k l ∧ loadOf g k l ≤ 10000 * l.length
  | [], _ => by simp [loadOf]
  | s :: r, h => by
    have h1 := h s List.mem_cons_self
    have h2 := loadOf_bounds g k (l := r) (fun x hx => h x (List.mem_cons_of_mem _ hx))
    rw [loadOf, List.length_cons]
    split <;> omega
/-- The first stacker with a load above its capacity. -/
def overF : Nat → List Int → List Int → List Int → Option Nat
  | i, c :: cs, f :: fs, s :: ss => if c < f ∨ c < s then some i else overF (i + 1) cs fs ss
  | _, _, _, _ => none
/-! ## the rule for a limit -/
/-- Where a stop goes: the current stacker (its number, how many stops it has, its load), and the capacities from it on. -/
def place (limit : Nat) (v : Int) : Nat → Nat → Int → List Int → Option (Nat × Nat × Int × List Int)
  | _, _, _, [] => none
  | cur, held, load, c :: cs => if held < limit ∧ load + v ≤ c then some (cur, held, load, c :: cs) else place limit v (cur + 1) 0 0 cs
def alongF (limit : Nat) : List Stop → Nat → Nat → Int → List Int → List Seat
  | [], _, _, _, _ => []
  | s :: r, cur, held, load, cs => match place limit s.vol cur held load cs with
    | none => []
    | some (cur', held', load', cs') => ⟨s.id, s.vol, held', cur'⟩ :: alongF limit r cur' (held' + 1) (load' + s.vol) cs'
def rule (limit : Nat) (stops : List Stop) (caps : List Int) : List Seat := alongF limit stops 0 0 0 caps
theorem place_spec {limit : Nat} {v : Int} : ∀ {cs : List Int} {cur held : Nat} {load : Int} {cur' held' : Nat} {load' : Int} {cs' : List Int}, place limit v cur held load cs = some (cur', held', load', cs') →
    held' < limit ∧ cur ≤ cur' ∧ cs' = cs.drop (cur' - cur) ∧ cur' < cur + cs.length ∧ (∃ c, cs[cur' - cur]? = some c ∧ load' + v ≤ c) ∧ ((cur' = cur ∧ held' = held ∧ load' = load) ∨ (cur < cur' ∧ held' = 0 ∧ load' = 0))
  | [], cur, held, load, cur', held', load', cs', h => by cases h
  | c :: cs, cur, held, load, cur', held', load', cs', h => by
    rw [place] at h
    split at h
    · rename_i hc
      cases h
      refine ⟨hc.1, Nat.le_refl _, by simp, by simp, ⟨c, by simp, hc.2⟩, .inl ⟨rfl, rfl, rfl⟩⟩
    · obtain ⟨h1, h2, h3, h4, ⟨c', h5, h6⟩, h7⟩ := place_spec h
      have e : cur' - cur = (cur' - (cur + 1)) + 1 := by omega
      refine ⟨h1, by omega, ?_, by simp only [List.length_cons]; omega, ⟨c', ?_, h6⟩, ?_⟩
      · rw [h3, e]; rfl
      · rw [e]; exact h5
      · right
        rcases h7 with ⟨g1, g2, g3⟩ | ⟨g1, g2, g3⟩
        · exact ⟨by omega, g2, g3⟩
        · exact ⟨by omega, g2, g3⟩
theorem alongF_len {limit : Nat} : ∀ (l : List Stop) (cur held : Nat) (load : Int) (cs : List Int), (alongF limit l cur held load cs).length ≤ l.length
  | [], _, _, _, _ => by simp [alongF]
  | s :: r, cur, held, load, cs => by
    rw [alongF]
    split
    · simp
    · simp only [List.length_cons]
      have := alongF_len (limit := limit) r
      rename_i cur' held' load' cs' _
      have := this cur' (held' + 1) (load' + s.vol) cs'
      omega
theorem alongF_range {limit n : Nat} : ∀ (l : List Stop) (cur held : Nat) (load : Int) (cs : List Int), cur + cs.length = n → ∀ x ∈ alongF limit l cur held load cs,
    (0 ≤ x.first ∧ x.first < limit) ∧ ((cur : Int) ≤ x.second ∧ x.second < n) ∧ ∃ s ∈ l, x.stop = s.id ∧ x.vol = s.vol
  | [], _, _, _, _, _, x, hx => by simp [alongF] at hx
  | s :: r, cur, held, load, cs, hn, x, hx => by
    rw [alongF] at hx
    split at hx
    · cases hx
    · rename_i cur' held' load' cs' hp
      obtain ⟨h1, h2, h3, h4, _, h5⟩ := place_spec hp
      rcases List.mem_cons.1 hx with rfl | hx
      · simp only []
        exact ⟨by omega, by omega, s, List.mem_cons_self, rfl, rfl⟩
      · obtain ⟨g1, g2, t, g3, g4⟩ := alongF_range (n := n) r cur' (held' + 1) (load' + s.vol) cs' (by rw [h3, List.length_drop]; omega) x hx
        exact ⟨g1, by omega, t, List.mem_cons_of_mem _ g3, g4⟩
theorem rule_len (limit : Nat) (l : List Stop) (caps : List Int) : (rule limit l caps).length ≤ l.length := alongF_len _ _ _ _ _
theorem rule_range {limit : Nat} {l : List Stop} {caps : List Int} (hl : limit ≤ caps.length) (hs : ∀ s ∈ l, s.ok) : ∀ x ∈ rule limit l caps, (0 ≤ x.first ∧ x.first < caps.length) ∧ (0 ≤ x.second ∧ x.second < caps.length) ∧ (0 ≤ x.vol ∧ x.vol ≤ 10000) := fun x hx => by
  obtain ⟨h1, h2, s, h3, _, h4⟩ := alongF_range (n := caps.length) l 0 0 0 caps (by simp) x hx
  have := hs s h3
  unfold Stop.ok at this
  refine ⟨by omega, by omega, by omega⟩
def limits (stops : List Stop) (caps : List Int) : Nat → Plan × Int
  | 0 => (.zero, 4)
  | L + 1 =>
    let seats := rule (L + 1) stops caps
    if seats.length < stops.length then limits stops caps L else
    match overF 0 caps (loadsF Seat.first caps.length seats) (loadsF Seat.second caps.length seats) with
    | none => (⟨caps, seats, loadsF Seat.first caps.length seats, loadsF Seat.second caps.length seats⟩, 0)
    | some _ => limits stops caps L
def makeF (stops : List Stop) (caps : List Int) : Plan × Int :=
  if ¬ machineOk caps then (.zero, 280) else
  if 1000 < stops.length then (.zero, 5) else
  match wrongF [] 0 stops with
  | some _ => (.zero, 281)
  | none =>
    if stops = [] then (⟨caps, [], List.replicate caps.length 0, List.replicate caps.length 0⟩, 0) else
    limits stops caps (min caps.length stops.length)
/-! ## Check -/
def misF (n : Nat) : Option Seat → Nat → List Seat → Option Nat
  | _, _, [] => none
  | p, i, s :: r =>
    if ¬ ((0 ≤ s.first ∧ s.first < n) ∧ (0 ≤ s.second ∧ s.second < n)) then some i else
    match p with
    | none => misF n (some s) (i + 1) r
    | some q => if s.second < q.second ∨ (s.second = q.second ∧ s.first ≤ q.first) then some i else misF n (some s) (i + 1) r
theorem misF_first {n : Nat} {i : Nat} {s : Seat} {r : List Seat} (h : (0 ≤ s.first ∧ s.first < n) ∧ (0 ≤ s.second ∧ s.second < n)) : misF n none i (s :: r) = misF n (some s) (i + 1) r := by
  rw [misF]; rw [if_neg (fun g => g h)]
theorem misF_next {n : Nat} {i : Nat} {q s : Seat} {r : List Seat} (h : (0 ≤ s.first ∧ s.first < n) ∧ (0 ≤ s.second ∧ s.second < n)) : misF n (some q) i (s :: r) = if s.second < q.second ∨ (s.second = q.second ∧ s.first ≤ q.first) then some i else misF n (some s) (i + 1) r := by
  rw [misF]; rw [if_neg (fun g => g h)]
def Seat.asStop (s : Seat) : Stop := ⟨s.stop, s.vol⟩
/-- The first stacker whose load is not the one that is given. -/
def diffF : Nat → List Int → List Int → List Int → List Int → Option Nat
  | i, f :: fs, s :: ss, f' :: fs', s' :: ss' => if f ≠ f' ∨ s ≠ s' then some i else diffF (i + 1) fs ss fs' ss'
  | _, _, _, _, _ => none
def checkF (p : Plan) : Nat × Int :=
  if ¬ machineOk p.caps then (0, 280) else
  if 1000 < p.seats.length then (0, 5) else
  match wrongF [] 0 (p.seats.map Seat.asStop) with
  | some i => (i, 281)
  | none =>
    match misF p.caps.length none 0 p.seats with
    | some i => (i, 282)
    | none =>
      if p.first.length ≠ p.caps.length ∨ p.second.length ≠ p.caps.length then (0, 283) else
      match diffF 0 p.first p.second (loadsF Seat.first p.caps.length p.seats) (loadsF Seat.second p.caps.length p.seats) with
      | some i => (i, 283)
      | none =>
        match overF 0 p.caps (loadsF Seat.first p.caps.length p.seats) (loadsF Seat.second p.caps.length p.seats) with
        | some i => (i, 4)
        | none => (0, 0)
def findF (l : List Seat) (stop : Int) : Option Seat := l.find? (fun s => s.stop == stop)
/-! ## Sort -/
def feedF (seats : List Seat) : List Int → List Int → Int
  | _, [] => 0
  | fed, x :: r => match findF seats x with
    | none => 6
    | some s => if s.vol ≤ fed.count x then 4 else feedF seats (fed ++ [x]) r
/-- The stackers after a pass: those of the list whose stacker it is. -/
def passF (n : Nat) (key : Nat → Nat) (fed : List Nat) : List (List Nat) := (List.range n).map fun k => fed.filter fun i => key i = k
structure Run where
  first : List (List Nat)
  second : List (List Nat)
  order : List Nat
deriving DecidableEq
def Run.zero : Run := ⟨[], [], []⟩
def keyF (seats : List Seat) (items : List Int) (g : Seat → Int) (i : Nat) : Nat := (((items[i]?).bind (findF seats)).elim 0 g).toNat
def runF (p : Plan) (items : List Int) : Run :=
  let first := passF p.caps.length (keyF p.seats items Seat.first) (List.range items.length)
  let second := passF p.caps.length (keyF p.seats items Seat.second) first.flatten
  ⟨first, second, second.flatten⟩
def sortF (p : Plan) (items : List Int) : Run × Int :=
  if (checkF p).2 ≠ 0 then (.zero, (checkF p).2) else
  if 2000 < items.length then (.zero, 5) else
  if feedF p.seats [] items ≠ 0 then (.zero, feedF p.seats [] items) else
  (runF p items, 0)
end Go.Sx.Seq
namespace Go.Sx.Srt
open Go.Sx.Seq (addAt addAt_len)
structure Fd where
  item : Int
  st : Int
deriving DecidableEq
structure Ev where
  kind : Int
  item : Int
  st : Int
deriving DecidableEq
/-- A machine while it is played. -/
structure M where
  stackers : List (List Int)
  swept : List Int
  over : List Int
  rej : List Int
  evs : List Ev
  held : List Int
  left : Int
def M.new (n : Nat) (sweeps : Int) : M := ⟨List.replicate n [], List.replicate n 0, [], [], [], List.replicate n 0, sweeps⟩
def putAt (l : List (List Int)) (k : Nat) (x : Int) : List (List Int) := l.set k (l.getD k [] ++ [x])
theorem putAt_len (l : List (List Int)) (k : Nat) (x : Int) : (putAt l k x).length = l.length := by simp [putAt]
def stack (m : M) (f : Fd) : M := { m with stackers := putAt m.stackers f.st.toNat f.item, held := addAt m.held f.st.toNat 1 }
def note (m : M) (l : List Ev) : M := { m with evs := m.evs ++ l }
def takeF (caps : List Int) (m : M) (f : Fd) : M :=
  if f.st < 0 then note { m with rej := m.rej ++ [f.item] } [⟨4, f.item, -1⟩] else
  if m.held.getD f.st.toNat 0 < caps.getD f.st.toNat 0 then stack (note m [⟨1, f.item, f.st⟩]) f else
  if 0 < m.left then stack (note { m with left := m.left - 1, held := m.held.set f.st.toNat 0, swept := addAt m.swept f.st.toNat 1 } [⟨2, f.item, f.st⟩, ⟨1, f.item, f.st⟩]) f else
  note { m with over := m.over ++ [f.item] } [⟨3, f.item, f.st⟩]
def playF (caps : List Int) (sweeps : Int) (feeds : List Fd) : M := feeds.foldl (takeF caps) (M.new caps.length sweeps)
theorem playF_snoc (caps : List Int) (sweeps : Int) (l : List Fd) (f : Fd) : playF caps sweeps (l ++ [f]) = takeF caps (playF caps sweeps l) f := by simp [playF]
theorem playF_nil (caps : List Int) (sweeps : Int) : playF caps sweeps [] = M.new caps.length sweeps := rfl
/-- What is kept while a machine with n stackers is played, whatever is fed. -/
structure Sz (n : Nat) (m : M) : Prop where
  st : m.stackers.length = n
  sw : m.swept.length = n
  hd : m.held.length = n
theorem Sz.new (n : Nat) (s : Int) : Sz n (M.new n s) := ⟨by simp [M.new], by simp [M.new], by simp [M.new]⟩
theorem Sz.take {n : Nat} {m : M} (h : Sz n m) (caps : List Int) (f : Fd) : Sz n (takeF caps m f) := by
  have h1 := h.st; have h2 := h.sw; have h3 := h.hd
  unfold takeF
  split
  · exact ⟨h1, h2, h3⟩
  · split
    · exact ⟨by simp [stack, note, putAt_len, h1], by simp [stack, note, h2], by simp [stack, note, addAt_len, h3]⟩
    · split
      · exact ⟨by simp [stack, note, putAt_len, h1], by simp [stack, note, addAt_len, h2], by simp [stack, note, addAt_len, h3]⟩
      · exact ⟨h1, h2, h3⟩
theorem playF_sz (caps : List Int) (s : Int) (l : List Fd) : Sz caps.length (playF caps s l) := by
  unfold playF
  have : ∀ (l : List Fd) (m : M), Sz caps.length m → Sz caps.length (l.foldl (takeF caps) m) := by
    intro l
    induction l with
    | nil => exact fun m h => h
    | cons f r ih => exact fun m h => ih _ (h.take caps f)
  exact this l _ (Sz.new _ _)
/-! ## what is rejected -/
def capsOk (caps : List Int) : Prop := (1 ≤ caps.length ∧ caps.length ≤ 64) ∧ ∀ c ∈ caps, 1 ≤ c ∧ c ≤ 100000
instance (caps : List Int) : Decidable (capsOk caps) := by unfold capsOk; infer_instance
def Fd.ok (n : Nat) (f : Fd) : Prop := (1 ≤ f.item ∧ f.item ≤ 999999) ∧ (-1 ≤ f.st ∧ f.st < n)
instance (n : Nat) (f : Fd) : Decidable (f.ok n) := by unfold Fd.ok; infer_instance
/-- Whether some feed is not valid, or has the item of an earlier one. -/
def badF (n : Nat) : List Int → List Fd → Bool
  | _, [] => false
  | met, f :: r => if f.ok n ∧ f.item ∉ met then badF n (met ++ [f.item]) r else true
def fedF (n : Nat) (l : List Fd) : Int := if 2000 < l.length then 5 else if badF n [] l = true then 291 else 0
def runF (caps : List Int) (sweeps : Int) (l : List Fd) : M × Int :=
  if ¬ capsOk caps then (M.new 0 0, 290) else
  if sweeps < 0 ∨ 1000 < sweeps then (M.new 0 0, 2) else
  if fedF caps.length l ≠ 0 then (M.new 0 0, fedF caps.length l) else
  (playF caps sweeps l, 0)
def needF (caps : List Int) (l : List Fd) : Int × Int :=
  if ¬ capsOk caps then (0, 290) else
  if fedF caps.length l ≠ 0 then (0, fedF caps.length l) else
  ((playF caps l.length l).swept.sum, 0)
/-- Feeds that are valid. -/
structure FdsOk (n : Nat) (l : List Fd) : Prop where
  ok : ∀ f ∈ l, f.ok n
  nd : (l.map Fd.item).Nodup
  len : l.length ≤ 2000
theorem badF_false {n : Nat} : ∀ {l : List Fd} {met : List Int}, badF n met l = false ↔ (∀ f ∈ l, f.ok n) ∧ (l.map Fd.item).Nodup ∧ ∀ f ∈ l, f.item ∉ met
  | [], met => by simp [badF]
  | f :: r, met => by
    rw [badF]
    by_cases h : f.ok n ∧ f.item ∉ met
    · rw [if_pos h, badF_false]
      simp only [List.mem_cons, List.map_cons, List.nodup_cons, List.mem_append, List.mem_map, List.not_mem_nil, or_false]
      constructor
      · rintro ⟨h1, h2, h3⟩
        refine ⟨?_, ⟨?_, h2⟩, ?_⟩
        · rintro x (rfl | hx)
          · exact h.1
          · exact h1 x hx
        · rintro ⟨x, hx, e⟩
          exact h3 x hx (.inr e)
        · rintro x (rfl | hx)
          · exact h.2
          · exact fun g => h3 x hx (.inl g)
      · rintro ⟨h1, ⟨h2, h3⟩, h4⟩
        refine ⟨fun x hx => h1 x (.inr hx), h3, fun x hx => ?_⟩
        rintro (g | g)
        · exact h4 x (.inr hx) g
        · exact h2 ⟨x, hx, g⟩
    · rw [if_neg h]
      constructor
      · intro g; cases g
      · rintro ⟨h1, _, h3⟩
        exact absurd ⟨h1 f List.mem_cons_self, h3 f List.mem_cons_self⟩ h
theorem FdsOk.fed {n : Nat} {l : List Fd} (h : FdsOk n l) : fedF n l = 0 := by
  unfold fedF
  rw [if_neg (by have := h.len; omega), badF_false.2 ⟨h.ok, h.nd, by simp⟩]
  rfl
theorem runF_ok {caps : List Int} {s : Int} {l : List Fd} (hc : capsOk caps) (hs : 0 ≤ s ∧ s ≤ 1000) (hl : FdsOk caps.length l) : runF caps s l = (playF caps s l, 0) := by
  unfold runF
  rw [if_neg (by simp [hc]), if_neg (by omega), if_neg (by rw [hl.fed]; simp)]
def leaveF (m : M) : List Int := m.stackers.flatten
end Go.Sx.Srt
namespace Go.Sx.Srt
open Go.Sx.Seq (addAt addAt_len)
theorem getD_set {α : Type} (l : List α) (k j : Nat) (v d : α) : (l.set k v).getD j d = if k = j ∧ k < l.length then v else l.getD j d := by
  simp only [List.getD_eq_getElem?_getD, List.getElem?_set]
  by_cases e : k = j
  · subst e
    by_cases h : k < l.length
    · simp [h]
    · simp [h]
  · simp [e]
theorem getD_in {α : Type} {l : List α} {k : Nat} {d : α} (h : k < l.length) : l[k]? = some (l.getD k d) := by simp [h]
theorem sum_set (l : List Int) (k : Nat) (v : Int) (h : k < l.length) : (l.set k v).sum = l.sum - l.getD k 0 + v := by
  induction l generalizing k with
  | nil => simp at h
  | cons a l ih =>
    cases k with
    | zero => simp; omega
    | succ k =>
      have := ih k (by simpa using h)
      simp only [List.set_cons_succ, List.sum_cons, List.getD_cons_succ]
      omega
theorem sum_addAt (l : List Int) (k : Nat) (v : Int) (h : k < l.length) : (addAt l k v).sum = l.sum + v := by
  unfold addAt; rw [sum_set _ _ _ h]; omega
theorem addAt_getD (l : List Int) (k j : Nat) (v : Int) : (addAt l k v).getD j 0 = l.getD j 0 + if k = j ∧ k < l.length then v else 0 := by
  unfold addAt
  rw [getD_set]
  split
  · rename_i h; rw [h.1]
  · omega
theorem putAt_getD (l : List (List Int)) (k j : Nat) (x : Int) : (putAt l k x).getD j [] = l.getD j [] ++ if k = j ∧ k < l.length then [x] else [] := by
  unfold putAt
  rw [getD_set]
  split
  · rename_i h; rw [h.1]
  · simp
theorem putAt_flatten (l : List (List Int)) (k : Nat) (x : Int) (h : k < l.length) : (putAt l k x).flatten.Perm (l.flatten ++ [x]) := by
  induction l generalizing k with
  | nil => simp at h
  | cons a l ih =>
    cases k with
    | zero =>
      simp only [putAt, List.set_cons_zero, List.flatten_cons, List.getD_cons_zero, List.append_assoc]
      exact List.Perm.append_left _ List.perm_append_comm
    | succ k =>
      have := ih k (by simpa using h)
      simp only [putAt, List.set_cons_succ, List.flatten_cons, List.getD_cons_succ, List.append_assoc] at this ⊢
      exact List.Perm.append_left _ this
/-- The four ways of a feed. -/
theorem take_cases (caps : List Int) (m : M) (f : Fd) :
    (f.st < 0 ∧ takeF caps m f = note { m with rej := m.rej ++ [f.item] } [⟨4, f.item, -1⟩]) ∨
    (0 ≤ f.st ∧ m.held.getD f.st.toNat 0 < caps.getD f.st.toNat 0 ∧ takeF caps m f = stack (note m [⟨1, f.item, f.st⟩]) f) ∨
    (0 ≤ f.st ∧ ¬ m.held.getD f.st.toNat 0 < caps.getD f.st.toNat 0 ∧ 0 < m.left ∧ takeF caps m f = stack (note { m with left := m.left - 1, held := m.held.set f.st.toNat 0, swept := addAt m.swept f.st.toNat 1 } [⟨2, f.item, f.st⟩, ⟨1, f.item, f.st⟩]) f) ∨
    (0 ≤ f.st ∧ ¬ m.held.getD f.st.toNat 0 < caps.getD f.st.toNat 0 ∧ ¬ 0 < m.left ∧ takeF caps m f = note { m with over := m.over ++ [f.item] } [⟨3, f.item, f.st⟩]) := by
  unfold takeF
  by_cases h1 : f.st < 0
  · exact .inl ⟨h1, by rw [if_pos h1]⟩
  · by_cases h2 : m.held.getD f.st.toNat 0 < caps.getD f.st.toNat 0
    · exact .inr (.inl ⟨by omega, h2, by rw [if_neg h1, if_pos h2]⟩)
    · by_cases h3 : 0 < m.left
      · exact .inr (.inr (.inl ⟨by omega, h2, h3, by rw [if_neg h1, if_neg h2, if_pos h3]⟩))
      · exact .inr (.inr (.inr ⟨by omega, h2, h3, by rw [if_neg h1, if_neg h2, if_neg h3]⟩))
/-! ## the numbers -/
structure Inv (caps : List Int) (s : Int) (m : M) : Prop extends Sz caps.length m where
  len : ∀ k, k < caps.length → ((m.stackers.getD k []).length : Int) = caps.getD k 0 * m.swept.getD k 0 + m.held.getD k 0
  held : ∀ k, k < caps.length → 0 ≤ m.held.getD k 0 ∧ m.held.getD k 0 ≤ caps.getD k 0
  swept : ∀ k, k < caps.length → 0 ≤ m.swept.getD k 0
  more : ∀ k, k < caps.length → 0 < m.swept.getD k 0 → 1 ≤ m.held.getD k 0
  left : m.left = s - m.swept.sum
  left0 : 0 ≤ m.left
  over : m.over ≠ [] → m.left = 0
theorem Inv.new {caps : List Int} {s : Int} (hc : ∀ c ∈ caps, 1 ≤ c) (hs : 0 ≤ s) : Inv caps s (M.new caps.length s) := by
  have hz : ∀ k, k < caps.length → (List.replicate caps.length (0 : Int)).getD k 0 = 0 := fun k h => by simp [h]
  have hcap : ∀ k, k < caps.length → 1 ≤ caps.getD k 0 := fun k h => by
    have := hc _ (List.getElem_mem h)
    simpa [h] using this
  refine ⟨Sz.new _ _, ?_, ?_, ?_, ?_, ?_, hs, ?_⟩
  · intro k hk
    simp only [M.new, hz k hk]
    simp [hk]
  · intro k hk
    simp only [M.new, hz k hk]
    have := hcap k hk
    omega
  · intro k hk; simp only [M.new, hz k hk]; omega
  · intro k hk; simp only [M.new, hz k hk]; omega
  · simp only [M.new]
    have : (List.replicate caps.length (0 : Int)).sum = 0 := by
      induction caps.length with
      | zero => rfl
      | succ n ih => simp [List.replicate_succ, ih]
    omega
  · intro h; exact absurd rfl h
theorem Inv.take {caps : List Int} {s : Int} {m : M} {f : Fd} (h : Inv caps s m) (hc : ∀ c ∈ caps, 1 ≤ c) (hf : f.st < caps.length) : Inv caps s (takeF caps m f) := by
  have hsz := h.toSz.take caps f
  have e1 := h.st
  have e2 := h.sw
  have e3 := h.hd
  rcases take_cases caps m f with ⟨_, e⟩ | ⟨h0, h1, e⟩ | ⟨h0, h1, h2, e⟩ | ⟨h0, h1, h2, e⟩
  · rw [e] at hsz ⊢
    exact ⟨hsz, h.len, h.held, h.swept, h.more, h.left, h.left0, h.over⟩
  · rw [e] at hsz ⊢
    have hk : f.st.toNat < caps.length := by omega
    refine ⟨hsz, fun k hk' => ?_, fun k hk' => ?_, h.swept, fun k hk' hp => ?_, h.left, h.left0, h.over⟩
    · have := h.len k hk'
      simp only [stack, note, putAt_getD, addAt_getD, e1, e3]
      by_cases g : f.st.toNat = k
      · subst g; simp only [hk', and_self, if_true, true_and, List.length_append, List.length_cons, List.length_nil]; omega
      · simp only [g, false_and, if_false, List.append_nil, Int.add_zero]; omega
    · have := h.held k hk'
      simp only [stack, note, addAt_getD, e3]
      by_cases g : f.st.toNat = k
      · subst g; simp only [hk', and_self, if_true, true_and, List.length_append, List.length_cons, List.length_nil]; omega
      · simp only [g, false_and, if_false, List.append_nil, Int.add_zero]; omega
    · have := h.more k hk' hp
      have := h.held k hk'
      simp only [stack, note, addAt_getD, e3]
      split <;> omega
  · rw [e] at hsz ⊢
    have hk : f.st.toNat < caps.length := by omega
    have hcap : 1 ≤ caps.getD f.st.toNat 0 := by
      have := hc _ (List.getElem_mem hk)
      simpa [hk] using this
    refine ⟨hsz, fun k hk' => ?_, fun k hk' => ?_, fun k hk' => ?_, fun k hk' hp => ?_, ?_, ?_, ?_⟩
    · have := h.len k hk'
      simp only [stack, note, putAt_getD, addAt_getD, e1, e2, e3, List.length_set, getD_set]
      by_cases g : f.st.toNat = k
      · subst g
        have hh := h.held _ hk'
        have hq : m.held.getD f.st.toNat 0 = caps.getD f.st.toNat 0 := by omega
        simp only [hk', and_self, if_true, List.length_append, List.length_cons, List.length_nil, true_and, Int.mul_add]
        rw [hq] at this
        omega
      · simp only [g, false_and, if_false, List.append_nil, Int.add_zero]; omega
    · have := h.held k hk'
      simp only [stack, note, addAt_getD, e3, List.length_set, getD_set]
      by_cases g : f.st.toNat = k
      · subst g; simp only [hk', and_self, if_true, true_and, List.length_append, List.length_cons, List.length_nil]; omega
      · simp only [g, false_and, if_false, List.append_nil, Int.add_zero]; omega
    · have := h.swept k hk'
      simp only [stack, note, addAt_getD, e2]
      split <;> omega
    · simp only [stack, note, addAt_getD, e2, e3, List.length_set, getD_set] at hp ⊢
      by_cases g : f.st.toNat = k
      · subst g; simp only [hk', and_self, if_true, true_and]; omega
      · simp only [g, false_and, if_false, Int.add_zero] at hp ⊢; exact h.more k hk' hp
    · have := h.left
      simp only [stack, note]
      rw [sum_addAt _ _ _ (by omega)]
      omega
    · simp only [stack, note]; omega
    · intro ho
      have := h.over ho
      simp only [stack, note]; omega
  · rw [e] at hsz ⊢
    exact ⟨hsz, h.len, h.held, h.swept, h.more, h.left, h.left0, fun _ => by have := h.left0; simp only [note]; omega⟩
/-! ## what comes later lies behind -/
structure Ext (is : List Int) (m m' : M) : Prop where
  st : ∀ k, ∃ t, m'.stackers.getD k [] = m.stackers.getD k [] ++ t ∧ t.Sublist is
  ov : ∃ t, m'.over = m.over ++ t ∧ t.Sublist is
  rj : ∃ t, m'.rej = m.rej ++ t ∧ t.Sublist is
  ev : ∃ t, m'.evs = m.evs ++ t
theorem Ext.refl (m : M) : Ext [] m m := ⟨fun k => ⟨[], by simp, List.Sublist.refl _⟩, ⟨[], by simp, List.Sublist.refl _⟩, ⟨[], by simp, List.Sublist.refl _⟩, ⟨[], by simp⟩⟩
theorem Ext.trans {a b : List Int} {m m' m'' : M} (h : Ext a m m') (h' : Ext b m' m'') : Ext (a ++ b) m m'' := by
  refine ⟨fun k => ?_, ?_, ?_, ?_⟩
  · obtain ⟨t, e, s⟩ := h.st k
    obtain ⟨t', e', s'⟩ := h'.st k
    exact ⟨t ++ t', by rw [e', e, List.append_assoc], s.append s'⟩
  · obtain ⟨t, e, s⟩ := h.ov
    obtain ⟨t', e', s'⟩ := h'.ov
    exact ⟨t ++ t', by rw [e', e, List.append_assoc], s.append s'⟩
  · obtain ⟨t, e, s⟩ := h.rj
    obtain ⟨t', e', s'⟩ := h'.rj
    exact ⟨t ++ t', by rw [e', e, List.append_assoc], s.append s'⟩
  · obtain ⟨t, e⟩ := h.ev
    obtain ⟨t', e'⟩ := h'.ev
    exact ⟨t ++ t', by rw [e', e, List.append_assoc]⟩
theorem Ext.take (caps : List Int) (m : M) (f : Fd) : Ext [f.item] m (takeF caps m f) := by
  have s0 : ∀ x : Int, List.Sublist [] [x] := fun x => List.nil_sublist _
  have hput : ∀ k, ∃ t, (putAt m.stackers f.st.toNat f.item).getD k [] = m.stackers.getD k [] ++ t ∧ t.Sublist [f.item] := fun k => by
    rw [putAt_getD]
    refine ⟨_, rfl, ?_⟩
    split
    · exact List.Sublist.refl _
    · exact s0 _
  rcases take_cases caps m f with ⟨_, e⟩ | ⟨_, _, e⟩ | ⟨_, _, _, e⟩ | ⟨_, _, _, e⟩ <;> rw [e]
  · exact ⟨fun k => ⟨[], by simp [note], s0 _⟩, ⟨[], by simp [note], s0 _⟩, ⟨_, rfl, List.Sublist.refl _⟩, ⟨_, rfl⟩⟩
  · exact ⟨hput, ⟨[], by simp [note, stack], s0 _⟩, ⟨[], by simp [note, stack], s0 _⟩, ⟨_, rfl⟩⟩
  · exact ⟨hput, ⟨[], by simp [note, stack], s0 _⟩, ⟨[], by simp [note, stack], s0 _⟩, ⟨_, rfl⟩⟩
  · exact ⟨fun k => ⟨[], by simp [note], s0 _⟩, ⟨_, rfl, List.Sublist.refl _⟩, ⟨[], by simp [note], s0 _⟩, ⟨_, rfl⟩⟩
/-! ## nothing is lost -/
def allOf (m : M) : List Int := m.stackers.flatten ++ (m.over ++ m.rej)
theorem take_all {caps : List Int} {m : M} {f : Fd} (h : Sz caps.length m) (hf : f.st < caps.length) : (allOf (takeF caps m f)).Perm (allOf m ++ [f.item]) := by
  have e1 := h.st
  have hput : 0 ≤ f.st → ((putAt m.stackers f.st.toNat f.item).flatten ++ (m.over ++ m.rej)).Perm (m.stackers.flatten ++ (m.over ++ m.rej) ++ [f.item]) := fun h0 => by
    refine (List.Perm.append_right _ (putAt_flatten m.stackers f.st.toNat f.item (by omega))).trans ?_
    rw [List.append_assoc, List.append_assoc]
    exact List.Perm.append_left _ List.perm_append_comm
  rcases take_cases caps m f with ⟨_, e⟩ | ⟨h0, _, e⟩ | ⟨h0, _, _, e⟩ | ⟨_, _, _, e⟩ <;> rw [e]
  · simp only [allOf, note, List.append_assoc]
    exact List.Perm.refl _
  · exact hput h0
  · exact hput h0
  · simp only [allOf, note, List.append_assoc]
    exact List.Perm.append_left _ (List.Perm.append_left _ List.perm_append_comm)
theorem playF_all {caps : List Int} {s : Int} {l : List Fd} (hl : ∀ f ∈ l, f.st < caps.length) : (allOf (playF caps s l)).Perm (l.map Fd.item) := by
  have : ∀ n, n ≤ l.length → (allOf (playF caps s (l.take n))).Perm ((l.take n).map Fd.item) := by
    intro n
    induction n with
    | zero =>
      intro _
      have hz : ∀ n : Nat, (List.replicate n ([] : List Int)).flatten = [] := fun n => by simp
      simp [playF, allOf, M.new, hz]
    | succ n ih =>
      intro hn
      have hx := List.getElem?_eq_getElem (show n < l.length by omega)
      rw [List.take_add_one, hx]
      simp only [Option.toList, playF_snoc, List.map_append, List.map_cons, List.map_nil]
      exact (take_all (playF_sz _ _ _) (hl _ (List.getElem_mem _))).trans (List.Perm.append_right _ (ih (by omega)))
  have := this l.length (Nat.le_refl _)
  rwa [List.take_length] at this
end Go.Sx.Srt
namespace Go.Sx.Srt
open Go.Sx.Seq (addAt addAt_len)
structure Bd (k : Nat) (m : M) : Prop where
  ov : m.over.length ≤ k
  rj : m.rej.length ≤ k
  ev : m.evs.length ≤ 2 * k
  st : ∀ j, (m.stackers.getD j []).length ≤ k
  hd : ∀ j, 0 ≤ m.held.getD j 0 ∧ m.held.getD j 0 ≤ k
  sw : ∀ j, 0 ≤ m.swept.getD j 0 ∧ m.swept.getD j 0 ≤ k
  lf : -9223372036854775808 ≤ m.left ∧ m.left ≤ 9223372036854775807
theorem getD_rep {α : Type} (n j : Nat) (a : α) : (List.replicate n a).getD j a = a := by
  by_cases h : j < n <;> simp [h]
theorem Bd.new (n : Nat) {s : Int} (hs : -9223372036854775808 ≤ s ∧ s ≤ 9223372036854775807) : Bd 0 (M.new n s) :=
  ⟨Nat.le_refl _, Nat.le_refl _, Nat.le_refl _, fun j => by simp only [M.new, getD_rep]; simp, fun j => by simp only [M.new, getD_rep]; omega, fun j => by simp only [M.new, getD_rep]; omega, hs⟩
theorem Bd.take {k : Nat} {m : M} (h : Bd k m) (caps : List Int) (f : Fd) : Bd (k + 1) (takeF caps m f) := by
  obtain ⟨h1, h2, h3, h4, h5, h6, h7⟩ := h
  have hp : ∀ j, ((putAt m.stackers f.st.toNat f.item).getD j []).length ≤ k + 1 := fun j => by
    have := h4 j
    rw [putAt_getD, List.length_append]; split <;> simp only [List.length_cons, List.length_nil] <;> omega
  have ha : ∀ (l : List Int), (∀ j, 0 ≤ l.getD j 0 ∧ l.getD j 0 ≤ k) → ∀ j, 0 ≤ (addAt l f.st.toNat 1).getD j 0 ∧ (addAt l f.st.toNat 1).getD j 0 ≤ ((k + 1 : Nat) : Int) := fun l hl j => by
    have := hl j
    rw [addAt_getD]; split <;> omega
  have hs : ∀ j, 0 ≤ (m.held.set f.st.toNat 0).getD j 0 ∧ (m.held.set f.st.toNat 0).getD j 0 ≤ k := fun j => by
    have := h5 j
    rw [getD_set]; split <;> omega
  rcases take_cases caps m f with ⟨_, e⟩ | ⟨_, _, e⟩ | ⟨_, _, _, e⟩ | ⟨_, _, _, e⟩ <;> rw [e]
  · exact ⟨by simp [note]; omega, by simp [note]; omega, by simp [note]; omega, fun j => by have := h4 j; simp only [note]; omega, fun j => by have := h5 j; simp only [note]; omega, fun j => by have := h6 j; simp only [note]; omega, h7⟩
  · exact ⟨by simp [note, stack]; omega, by simp [note, stack]; omega, by simp [note, stack]; omega, hp, ha _ h5, fun j => by have := h6 j; simp only [note, stack]; omega, h7⟩
  · exact ⟨by simp [note, stack]; omega, by simp [note, stack]; omega, by simp [note, stack]; omega, hp, ha _ hs, ha _ h6, by simp only [note, stack]; omega⟩
  · exact ⟨by simp [note]; omega, by simp [note]; omega, by simp [note]; omega, fun j => by have := h4 j; simp only [note]; omega, fun j => by have := h5 j; simp only [note]; omega, fun j => by have := h6 j; simp only [note]; omega, h7⟩
theorem playF_bd (caps : List Int) {s : Int} (hs : -9223372036854775808 ≤ s ∧ s ≤ 9223372036854775807) : ∀ l : List Fd, Bd l.length (playF caps s l) := by
  have : ∀ (l : List Fd) (k : Nat) (m : M), Bd k m → Bd (k + l.length) (l.foldl (takeF caps) m) := by
    intro l
    induction l with
    | nil => exact fun k m h => h
    | cons f r ih =>
      intro k m h
      have := ih (k + 1) _ (h.take caps f)
      simp only [List.length_cons, List.foldl_cons]
      rwa [show k + (r.length + 1) = k + 1 + r.length from by omega]
  intro l
  have := this l 0 _ (Bd.new caps.length hs)
  rwa [Nat.zero_add] at this
end Go.Sx.Srt
