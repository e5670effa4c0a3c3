/- Loops in whose rounds the list of deferred calls grows (a range over a function in a loop), and the end of such a function; appends of zeros; maps with a value written anew. -/
import Derived.Test.YteilhjglohahoaaSxH
import Derived.Lib.AppendZeros
namespace Go.Sx
open Go Go.RowKit
set_option linter.unusedVariables false
section
variable {r : Option Nat} {P : Program} {n : Nat} {D : List Deferred} {w0 : World} {F : List (Nat × Value)} {L : List Ent} {Q : Exit → Act → World → Prop}

def AgainD {σ : Type} (n : Nat) (Ds : σ → List Deferred) (w0 : World) (Fs : σ → List (Nat × Value)) (Ls : σ → List Ent) (I : σ → Prop) (μ : σ → Nat) (s : σ) : Act → World → Prop :=
  fun a w => ∃ s', I s' ∧ μ s' < μ s ∧ Fr n (Ds s') (Fs s') a ∧ Rep w0 w (Ls s')
def MeetD {σ : Type} (n : Nat) (Ds : σ → List Deferred) (w0 : World) (Fs : σ → List (Nat × Value)) (Ls : σ → List Ent) (I : σ → Prop) : Act → World → Prop :=
  fun a w => ∃ s, I s ∧ Fr n (Ds s) (Fs s) a ∧ Rep w0 w (Ls s)
theorem c_loopD {c : Code} {σ : Type} (Ds : σ → List Deferred) (Fs : σ → List (Nat × Value)) (Ls : σ → List Ent) (I : σ → Prop) (μ : σ → Nat) (s0 : σ) (hI : I s0) (hD : D = Ds s0) (hF : FSub (Fs s0) F) (hL : HSub (Ls s0) L)
    (round : ∀ s, I s → St n (Ds s) w0 (Fs s) (Ls s) (WC r P c (Exit.then (AgainD n Ds w0 Fs Ls I μ s) Q))) :
    St n D w0 F L (WC r P (.loop c) Q) := by
  intro a w ha hw b k cs hro hb hr
  have key : ∀ (m : Nat) (s : σ), μ s = m → I s → ∀ a w, Fr n (Ds s) (Fs s) a → Rep w0 w (Ls s) →
      ∃ e a' w', Q e a' w' ∧ ArrivesIn (Machine.fenced P (FR r)) P (lone (b.atR a (.code c :: .inLoop c :: k)) cs w) b k cs e a' w' := by
    intro m
    induction m using Nat.strongRecOn with
    | _ m ih =>
      intro s hm hIs a w ha hw
      obtain ⟨e, a₁, w₁, hq, harr⟩ := round s hIs a w ha hw b (.inLoop c :: k) cs hro hb hr
      cases e with
      | normal =>
        obtain ⟨s', hI', hlt, ha', hw'⟩ := hq
        obtain ⟨e₂, a₂, w₂, hq₂, harr₂⟩ := ih (μ s') (hm ▸ hlt) s' rfl hI' a₁ w₁ ha' hw'
        exact ⟨e₂, a₂, w₂, hq₂, .of_steps (StepsIn.trans harr (.one (fenced_calm hb hr rfl) stepR_inLoop)) harr₂⟩
      | exit id => exact ⟨_, a₁, w₁, hq, .pass (x := .inLoop c) rfl (fun _ _ => .inl (by simp)) harr⟩
      | goto l => exact ⟨_, a₁, w₁, hq, .pass (x := .inLoop c) rfl (fun _ _ => .inl (by simp)) harr⟩
      | ret => exact ⟨_, a₁, w₁, hq, .pass (x := .inLoop c) rfl (fun _ _ => .inl (by simp)) harr⟩
      | panic ch => exact ⟨_, a₁, w₁, hq, .pass (x := .inLoop c) rfl (fun _ _ => .inl (by simp)) harr⟩
      | outgrown => exact ⟨_, a₁, w₁, hq, .pass (x := .inLoop c) rfl (fun _ _ => .inl (by simp)) harr⟩
  subst hD
  obtain ⟨e, a', w', hq, harr⟩ := key _ s0 rfl hI a w (ha.sub hF) (hw.sub hL)
  exact ⟨e, a', w', hq, .of_steps (.one (fenced_calm hb hr rfl) stepR_loop) harr⟩
theorem l_againD {σ : Type} {Ds : σ → List Deferred} {Fs : σ → List (Nat × Value)} {Ls : σ → List Ent} {I : σ → Prop} {μ : σ → Nat} {s : σ} (s' : σ) (hI : I s') (hμ : μ s' < μ s) (hD : D = Ds s') (hF : FSub (Fs s') F) (hL : HSub (Ls s') L) :
    St n D w0 F L (AgainD n Ds w0 Fs Ls I μ s) :=
  fun _ _ ha hw => ⟨s', hI, hμ, hD ▸ ha.sub hF, hw.sub hL⟩
/-- Ways that meet behind some code. -/
theorem c_post {x : Code} {σ : Type} (Ds : σ → List Deferred) (Fs : σ → List (Nat × Value)) (Ls : σ → List Ent) (I : σ → Prop)
    (h1 : St n D w0 F L (WC r P x (Exit.then (MeetD n Ds w0 Fs Ls I) Q))) (h2 : ∀ s, I s → St n (Ds s) w0 (Fs s) (Ls s) (Q .normal)) : St n D w0 F L (WC r P x Q) := by
  refine h1.imp fun a w h => wpIn_mono h ?_
  intro e a' w' hq
  cases e with
  | normal => obtain ⟨s, hI, ha, hw⟩ := hq; exact h2 s hI a' w' ha hw
  | _ => exact hq
theorem l_meetD {σ : Type} {Ds : σ → List Deferred} {Fs : σ → List (Nat × Value)} {Ls : σ → List Ent} {I : σ → Prop} (s : σ) (hI : I s) (hD : D = Ds s) (hF : FSub (Fs s) F) (hL : HSub (Ls s) L) :
    St n D w0 F L (MeetD n Ds w0 Fs Ls I) :=
  fun _ _ ha hw => ⟨s, hI, hD ▸ ha.sub hF, hw.sub hL⟩

/-- The blocks of the loops over functions that have ended. -/
def MB (bds : List Nat) : List Ent := bds.map fun b => ⟨b, .deferred (some []), true⟩
def MBn (bds : List Nat) : List Ent := bds.map fun b => ⟨b, .deferred none, true⟩
theorem MB_own (bds : List Nat) : ∀ x ∈ MB bds, x.own = true := fun x hx => by
  obtain ⟨b, _, rfl⟩ := List.mem_map.1 hx; rfl
theorem MBn_own (bds : List Nat) : ∀ x ∈ MBn bds, x.own = true := fun x hx => by
  obtain ⟨b, _, rfl⟩ := List.mem_map.1 hx; rfl
theorem MB_cons (b : Nat) (bds : List Nat) : MB (b :: bds) = ⟨b, .deferred (some []), true⟩ :: MB bds := rfl
theorem RemL.cons {e : Ent} {M M1 M' N : List Ent} (h1 : Rem M e M1) (h2 : RemL M1 N M') : RemL M (e :: N) M' := h1.perm.trans (List.Perm.cons e h2)
theorem leaves_marks {fn : Func} {R : Ending → World → Prop} {tmps : Array Value} {v : Value} {w0 : World} {L0 : List Ent} : ∀ (bds : List Nat) (X : List Ent) (w : World), Rep w0 w (X ++ (MB bds ++ L0)) →
    (∀ w', Rep w0 w' (X ++ (MBn bds ++ L0)) → (results fn tmps).run P w' = .ok v w' ∧ R (.returned v) w') → LeavesInM (FR none) 0 P fn tmps R (bds.map mark) .returning w
  | [], X, w, hw, h => ⟨v, (h w hw).1, (h w hw).2⟩
  | b :: bds, X, w, hw, h => by
    have hw1 : Rep w0 w (X ++ (⟨b, .deferred (some []), true⟩ :: (MB bds ++ L0))) := hw
    have hu : Upd (X ++ (⟨b, .deferred (some []), true⟩ :: (MB bds ++ L0))) b (.deferred (some [])) (.deferred none) (X ++ (⟨b, .deferred none, true⟩ :: (MB bds ++ L0))) := Upd.right .hd
    have hw2 : Rep w0 (w.putObj b (.deferred none)) (X ++ (⟨b, .deferred none, true⟩ :: (MB bds ++ L0))) := hw1.upd hu
    refine ⟨by simp, .inl ⟨b, w.putObj b (.deferred none), rfl, run_takeDeferred (hw1.at hu.at), ?_⟩⟩
    refine leaves_marks bds (X ++ [⟨b, .deferred none, true⟩]) _ (by simpa using hw2) fun w' hw' => h w' ?_
    have : (X ++ [⟨b, .deferred none, true⟩]) ++ (MBn bds ++ L0) = X ++ (MBn (b :: bds) ++ L0) := by simp [MBn]
    rwa [this] at hw'
theorem r_Mk {fn : Func} {R : Ending → World → Prop} {v : Value} {bds : List Nat} {L0 : List Ent} (hr : RemL L (MB bds) L0) (hres : ∀ a w, Fr n (bds.map mark) F a → Rep w0 w (MBn bds ++ L0) → (results fn a.tmps).run P w = .ok v w)
    (h : ∀ w, Rep w0 w (MBn bds ++ L0) → R (.returned v) w) : St n (bds.map mark) w0 F L (BM P fn R .ret) :=
  fun a w ha hw => by
    show LeavesInM (FR none) 0 P fn a.tmps R a.defers .returning w
    rw [ha.defers]
    exact leaves_marks bds [] w (by simpa using hw.perm hr) fun w' hw' => ⟨hres a w' ha (by simpa using hw'), h w' (by simpa using hw')⟩
variable {ops : Array Oper} {d : Tmp} {ty : TypeId} {pos : String} {af : Array Edge} {rest : List Oper}
theorem o_lenM {t k e : TypeId} {x : Operand} {b : Nat} {m : List (Value × Value)} (hU : TU P t (.map k e)) (hx : ev F x = some (.map (some b))) (hk : Kn w0 L b (MO m)) (hd : Nat.ble (d + 1) n = true)
    (h : St n D w0 ((d, .int .i64 m.length) :: F) L (WL r P ops Q rest)) : St n D w0 F L (WL r P ops Q (⟨some d, .call ⟨.builtin .len, #[x], #[t]⟩, ty, pos, af, none⟩ :: rest)) :=
  o_val rfl hd (fun a w ha hw => by
    have h1 := MapKept.run_getObj_map (P := P) (hk w hw)
    simp [execOp, resolve, invoke, builtin, Builtin.len_, ha.eval hx, run_under (TU.h (P := P) (t := t)), goInt, h1, mkEs_len]) h
theorem o_cap {t e : TypeId} {x : Operand} {a0 : Option Addr} {len cap : Nat} (hU : TU P t (.slice e)) (hx : ev F x = some (.slice a0 len cap)) (hd : Nat.ble (d + 1) n = true)
    (h : St n D w0 ((d, .int .i64 cap) :: F) L (WL r P ops Q rest)) : St n D w0 F L (WL r P ops Q (⟨some d, .call ⟨.builtin .cap, #[x], #[t]⟩, ty, pos, af, none⟩ :: rest)) :=
  o_val rfl hd (fun a w ha _ => by simp [execOp, resolve, invoke, builtin, Builtin.cap_, ha.eval hx, run_under (TU.h (P := P) (t := t)), goInt]) h
theorem run_app2 {x y : Operand} {t tn : TypeId} {a : Act} {w w' : World} {u v res : Value} {g : Option (Nat × Bool)} (hx : a.eval x = u) (hy : a.eval y = v)
    (h : (Builtin.append_ #[t, tn] ty #[u, v]).run P w = .ok res w') :
    (execOp a.eval ⟨some d, .call ⟨.builtin .append, #[x, y], #[t, tn]⟩, ty, pos, af, g⟩).run P w = .ok (.value res) w' := by
  simp [execOp, resolve, invoke, builtin, hx, hy, h]
/-- Zeros appended to nothing. -/
theorem o_appZ {t tn e : TypeId} {k bytes : Nat} {z : Value} {x y : Operand} {kk kn : IntKind} {m : Nat} (hU : TU P t (.slice e)) (hN : TU P tn (.int kn)) (hE : TE P e k bytes z) (hzk : z.cells.size = k) (hk : 0 < k)
    (hx : ev F x = some (.slice none 0 0)) (hy : ev F y = some (.int kk m)) (hm : 0 < m ∧ (m : Int) ≤ 9223372036854775807 ∧ m * bytes ≤ 281474976710656) (hd : Nat.ble (d + 1) n = true)
    (h : ∀ b cap s, m ≤ cap → s.length = cap * k → St n D w0 ((d, .slice (some ⟨b, 0, none⟩) m cap) :: F) (⟨b, Ce s e, true⟩ :: L) (WL r P ops Q rest)) :
    St n D w0 F L (WL r P ops Q (⟨some d, .call ⟨.builtin .append, #[x, y], #[t, tn]⟩, ty, pos, af, none⟩ :: rest)) :=
  o_plain rfl rfl fun a w ha hw => by
    obtain ⟨i, hi, hz, hik, hib⟩ := hE.h
    subst hik hib
    have hrun := Go.Lib.run_append_nil_zeros (P := P) w t tn ty e i z kk kn hU.h hN.h hi hz m hm.1 hk hm.2.1 hm.2.2
    rw [run_app2 (ha.eval hx) (ha.eval hy) hrun]
    have hge := grownCap_ge w m 0 e
    have hce : Builtin.zeroCells z.cells m ++ Builtin.zeroCells z.cells (grownCap w m 0 e - m) = (Builtin.zeroCells z.cells m ++ Builtin.zeroCells z.cells (grownCap w m 0 e - m)).toList.toArray := by
      simp
    rw [hce]
    refine h _ _ _ hge ?_ _ _ (ha.put (Nat.le_of_ble_eq_true hd) _) (hw.drew.alloc (Ce (Builtin.zeroCells z.cells m ++ Builtin.zeroCells z.cells (grownCap w m 0 e - m)).toList e))
    rw [Array.length_toList, Array.size_append, size_zeroCells, size_zeroCells, hzk, ← Nat.add_mul]
    congr 1; omega
end
end Go.Sx
