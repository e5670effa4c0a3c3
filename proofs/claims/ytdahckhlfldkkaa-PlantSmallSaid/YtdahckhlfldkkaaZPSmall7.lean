/- A part of the proofs of this seat: a small logic of walks, plain laws, and what some of the program's functions compute, shown by walks through their code. Conditions: the hypotheses that each theorem names. -/
import Derived.Test.YtdahckhlfldkkaaZPSmall3
import Derived.Test.YtdahckhlfldkkaaZPSmall6
set_option linter.unusedSimpArgs false
set_option linter.unusedVariables false
set_option linter.unusedSectionVars false
namespace Go.Proofs.Ytdahckhlfldkkaa
open Go Go.Sx Go.RowKit
section
variable {P : Program} {n : Nat} {D : List Deferred} {w0 : World} {F : List (Nat × Value)} {L L' : List Ent} {J J1 : Made} {Φ : zf2} {X : Act → World → Prop} {kq : Nat} {ops : Array Oper}
variable {d : Tmp} {ty : TypeId} {pos : String} {af : Array Edge} {rest : List Oper} {K V : Type} [DecidableEq K]
theorem zR1 {Q : Exit → Act → World → Prop} {r : Option Nat} {x y : Operand} {m l v : Int} {t u : TypeId} (hx : ev F x = some (.int .i64 m)) (hy : ev F y = some (.int .i64 l)) (e : m / l = v) (hr : 0 ≤ m ∧ 0 < l ∧ m ≤ 9223372036854775807) (hd : Nat.ble (d + 1) n = true)
    (h : St n D w0 ((d, .int .i64 v) :: F) L (WL r P ops Q rest)) : St n D w0 F L (WL r P ops Q (⟨some d, .binOp .quo t x y u, ty, pos, af, none⟩ :: rest)) := yH0 hx hy hd hr (by rw [e]; exact h)
theorem ye9 {κ : K → Value} {ν : V → Value} {t kt e : TypeId} {x y : Operand} {b : Nat} {z : Value} {zl : List Value} {l : List (K × V)} {k : K} {v : Value} (hU : TU P t (.map kt e)) (hK : KL P kt κ) (hZ : TZ P e z zl) (hx : ev F x = some (.map (some b))) (hΦ : Φ kq = none) (hJ : SubJ ((anc ops).getD kq 0) J1 J) (hy : ev F y = some (κ k))
    (hk : Kn w0 (za9 J1 L) b (MO (MM κ ν l))) (hn : (l.map Prod.fst).Nodup) (hv : ((asF k l).map ν).getD z = v) (hd : Nat.ble (d + 1) n = true)
    (h : St n D w0 ((d, v) :: F) L (WQ P ops w0 L Φ X (kq + 1) J rest)) : St n D w0 F L (WQ P ops w0 L Φ X kq J (⟨some d, .lookup t x y false, ty, pos, af, none⟩ :: rest)) := by
  cases ho : asF k l with
  | none => rw [ho] at hv; subst hv; exact zC2 hU hK hZ hx hΦ hJ hy hk ho hd h
  | some u => rw [ho] at hv; subst hv; exact zp7 hU hK hx hΦ hJ hy hk hn ho hd h
end
attribute [local irreducible] WL WC WQ WR WB WF QB St Exit.then Exit.inBlock Exit.noGoto bodyPost roundPost zc1 YR RG BM Calls B zc7 ze3
theorem yh2 (h : Plt.Hall) (r : Int) (acc : List Int) : Plt.za4 h r acc [] = some (r, acc) := rfl
theorem zU5 {h : Plt.Hall} {r s2 : Int} {acc : List Int} {l : List (Int × Int)} : Plt.za4 h r acc ((0, s2) :: l) = Plt.za4 h r (acc ++ h.row (0, s2)) l := by rw [Plt.za4, if_neg (by simp)]
theorem yb4 {h : Plt.Hall} {r s1 s2 : Int} {acc : List Int} {l : List (Int × Int)} (h0 : s1 ≠ 0) (he : asF s1 h.ends = none) : Plt.za4 h r acc ((s1, s2) :: l) = none := by rw [Plt.za4, if_pos h0, he]
theorem yb5 {h : Plt.Hall} {r s1 s2 e : Int} {acc : List Int} {l : List (Int × Int)} (h0 : s1 ≠ 0) (he : asF s1 h.ends = some e) : Plt.za4 h r acc ((s1, s2) :: l) = Plt.za4 h (max r e) (acc ++ h.row (s1, s2)) l := by rw [Plt.za4, if_pos h0, he]
theorem yf7 {h : Plt.Hall} {m : Plt.zb6} {stops : List (Int × Int)} {y : Plt.za3} (ht : Plt.za4 h (max y.rel ((asF m.id h.free).getD 0)) [] y.src = none) : Plt.zd0 h m stops y = (Plt.missed y, h) := by unfold Plt.zd0; rw [ht]
def yz0 (m : Srt.M) (k : Int) (v : Value) (N : List Ent) : Prop := ∃ a1 c1 a2 c2 a3 c3 a4 c4 a5 c5 ss N1 M1 N2 N3 N4 N5, v = .tuple #[.agg #[.slice a1 m.stackers.length c1, .slice a2 m.swept.length c2, .slice a3 m.over.length c3, .slice a4 m.rej.length c4, .slice a5 m.evs.length c5], .int .i64 k] ∧
  OW 44 1 encS (.slice a1 m.stackers.length c1) ss N1 ∧ LL 3 1 encI ss m.stackers M1 ∧ OW 3 1 encI (.slice a2 m.swept.length c2) m.swept N2 ∧ OW 3 1 encI (.slice a3 m.over.length c3) m.over N3 ∧ OW 3 1 encI (.slice a4 m.rej.length c4) m.rej N4 ∧ OW 173 3 zp1 (.slice a5 m.evs.length c5) m.evs N5 ∧
  N = N1 ++ (M1 ++ (N2 ++ (N3 ++ (N4 ++ N5)))) ∧ (∀ x ∈ N1, x.own = true) ∧ (∀ x ∈ M1, x.own = true) ∧ (∀ x ∈ N2, x.own = true) ∧ (∀ x ∈ N3, x.own = true) ∧ (∀ x ∈ N4, x.own = true) ∧ ∀ x ∈ N5, x.own = true
theorem zS5 {cv fv : Value} {caps : List Int} {s k : Int} {l : List Srt.Fd} {m : Srt.M} (he : Srt.zd0 caps s l = (m, k)) (w : World) (h : SV w 1 encI cv caps) (hl : SV w 2 zo0 fv l) : Calls Try.prog 50 #[cv, .int .i64 s, fv] w fun e w' => ∃ v N, e = .returned v ∧ yz0 m k v N ∧ Rep w w' N ∧ ∀ x ∈ N, x.own = true :=
  (zX4 w h hl).mono fun e w' ⟨v, N, h1, h2, h3, h4⟩ => by
    rw [he] at h2
    obtain ⟨pv, rfl, ⟨a1, c1, a2, c2, a3, c3, a4, c4, a5, c5, ss, N1, M1, N2, N3, N4, N5, rfl, g1, g2, g3, g4, g5, g6, rfl⟩, _⟩ := h2
    exact ⟨_, _, h1, ⟨a1, c1, a2, c2, a3, c3, a4, c4, a5, c5, ss, N1, M1, N2, N3, N4, N5, rfl, g1, g2, g3, g4, g5, g6, rfl, g1.own, g2.own, g3.own, g4.own, g5.own, g6.own⟩, h3, h4⟩
theorem hrunφ.done {bh bm bs bi be bf : Nat} {ml : List (Int × MD)} {stops : List (Int × Int)} {NX : List Ent} {h : Plt.Hall} {its : List ((Int × Int) × SD)} {y : Plt.za3} {m : Plt.zb6} {items : List Int} {start fin : Int} {sl : List (Int × Int)} {res : Srt.M} {ai asl x3 x4 x5 x6 x7 : Option Addr} {ci csl y3 y4 y5 y6 y7 : Nat} {ss : List SD} {NI NSL N1 M1 N2 N3 N4 N5 : List Ent}
    (hin : (its.map Prod.fst).Nodup) (hrow : ∀ s sd, asF s its = some sd → Shw NX (fun w => SV w 1 encI (sdV sd) (h.row s))) (hrow0 : ∀ s, asF s its = none → h.row s = [])
    (hI : OW 3 1 encI (.slice ai items.length ci) items NI) (hSl : OW 76 3 zj8 (.slice asl (Plt.zd6 y.id sl).length csl) (Plt.zd6 y.id sl) NSL) (g1 : OW 44 1 encS (.slice x3 res.stackers.length y3) ss N1) (g2 : LL 3 1 encI ss res.stackers M1) (g3 : OW 3 1 encI (.slice x4 res.swept.length y4) res.swept N2) (g4 : OW 3 1 encI (.slice x5 res.over.length y5) res.over N3) (g5 : OW 3 1 encI (.slice x6 res.rej.length y6) res.rej N4) (g6 : OW 173 3 zp1 (.slice x7 res.evs.length y7) res.evs N5) :
    hrunφ bh bm bs bi be bf ml stops NX (⟨y.id, start, fin, items, sl, res⟩, ⟨Plt.zf1 y.id 0 res.stackers h.rows, ze8 y.id fin h.ends, ze8 m.id fin h.free⟩) (zA5 ⟨y.id, start, fin, (ai, items.length, ci), (asl, (Plt.zd6 y.id sl).length, csl), (x3, res.stackers.length, y3), (x4, res.swept.length, y4), (x5, res.over.length, y5), (x6, res.rej.length, y6), (x7, res.evs.length, y7)⟩)
      (zq7 bh bm bs bi be bf ml stops (Plt.zf1 y.id 0 ss its) (ze8 y.id fin h.ends) (ze8 m.id fin h.free) ++ ((NI ++ (NSL ++ (N1 ++ (M1 ++ (N2 ++ (N3 ++ (N4 ++ N5))))))) ++ NX)) := by
  have hlen := g2.len
  have sI : Shw (NI ++ (NSL ++ (N1 ++ (M1 ++ (N2 ++ (N3 ++ (N4 ++ N5))))))) _ := Shw.left (Shw.ow j8 hI)
  have sS : Shw (NI ++ (NSL ++ (N1 ++ (M1 ++ (N2 ++ (N3 ++ (N4 ++ N5))))))) _ := Shw.right (Shw.left (Shw.ow ze9 hSl))
  have s1 : Shw (NI ++ (NSL ++ (N1 ++ (M1 ++ (N2 ++ (N3 ++ (N4 ++ N5))))))) _ := Shw.right (Shw.right (Shw.left (Shw.ow zl1 g1)))
  have s2 : Shw (NI ++ (NSL ++ (N1 ++ (M1 ++ (N2 ++ (N3 ++ (N4 ++ N5))))))) _ := Shw.right (Shw.right (Shw.right (Shw.left (Shw.ll j8 g2))))
  have s3 : Shw (NI ++ (NSL ++ (N1 ++ (M1 ++ (N2 ++ (N3 ++ (N4 ++ N5))))))) _ := Shw.right (Shw.right (Shw.right (Shw.right (Shw.left (Shw.ow j8 g3)))))
  have s6 : Shw (NI ++ (NSL ++ (N1 ++ (M1 ++ (N2 ++ (N3 ++ (N4 ++ N5))))))) _ := Shw.right (Shw.right (Shw.right (Shw.right (Shw.right (Shw.right (Shw.right (Shw.ow ze4 g6)))))))
  have s4 : Shw (NI ++ (NSL ++ (N1 ++ (M1 ++ (N2 ++ (N3 ++ (N4 ++ N5))))))) _ := Shw.right (Shw.right (Shw.right (Shw.right (Shw.right (Shw.left (Shw.ow j8 g4))))))
  have s5 : Shw (NI ++ (NSL ++ (N1 ++ (M1 ++ (N2 ++ (N3 ++ (N4 ++ N5))))))) _ := Shw.right (Shw.right (Shw.right (Shw.right (Shw.right (Shw.right (Shw.left (Shw.ow j8 g5)))))))
  refine ⟨_, _, _, rfl, rfl, zc9 hI.own (zc9 hSl.own (zc9 g1.own (zc9 g2.own (zc9 g3.own (zc9 g4.own (zc9 g5.own g6.own)))))), Plt.zm7 _ _ _ _ hin, fun w0 w L L0 hr hw => ⟨rfl, rfl, rfl, sI _ _ _ _ hr hw, sS _ _ _ _ hr hw, ⟨ss, s1 _ _ _ _ hr hw, s2 _ _ _ _ hr hw⟩, s4 _ _ _ _ hr hw, s5 _ _ _ _ hr hw, s3 _ _ _ _ hr hw, s6 _ _ _ _ hr hw⟩, ?_, ?_⟩
  · rintro ⟨i, n⟩ sd hs
    unfold Plt.Hall.row
    dsimp only
    rw [Plt.zt8] at hs ⊢
    rw [← hlen]
    by_cases hc : i = y.id ∧ ((0 : Nat) : Int) ≤ n ∧ n < ((0 : Nat) : Int) + ss.length
    · rw [if_pos hc] at hs ⊢
      refine Shw.left (s2.mono fun w hsl => ?_)
      obtain ⟨hi, h1, h2⟩ := hc
      have hlt : (n - ((0 : Nat) : Int)).toNat < res.stackers.length := by omega
      have hx : res.stackers[(n - ((0 : Nat) : Int)).toNat]? = some res.stackers[(n - ((0 : Nat) : Int)).toNat] := List.getElem?_eq_getElem hlt
      rw [hx, Option.getD_some]
      exact hsl.2 _ _ _ hs hx
    · rw [if_neg hc] at hs ⊢
      exact Shw.right (hrow _ _ hs)
  · rintro ⟨i, n⟩ hs
    unfold Plt.Hall.row
    dsimp only
    rw [Plt.zt8] at hs ⊢
    rw [← hlen]
    by_cases hc : i = y.id ∧ ((0 : Nat) : Int) ≤ n ∧ n < ((0 : Nat) : Int) + ss.length
    · rw [if_pos hc] at hs
      have hlt : (n - ((0 : Nat) : Int)).toNat < ss.length := by omega
      rw [List.getElem?_eq_getElem hlt] at hs
      cases hs
    · rw [if_neg hc] at hs ⊢
      exact hrow0 _ hs
def tailF (h : Plt.Hall) (m : Plt.zb6) (y : Plt.za3) (items : List Int) (start fin : Int) (sl : List (Int × Int)) (res : Srt.M × Int) : Plt.Run × Plt.Hall :=
  if res.2 ≠ 0 then (Plt.missed y, h) else (⟨y.id, start, fin, items, sl, res.1⟩, ⟨Plt.zf1 y.id 0 res.1.stackers h.rows, ze8 y.id fin h.ends, ze8 m.id fin h.free⟩)
theorem runF_idle {h : Plt.Hall} {m : Plt.zb6} {stops : List (Int × Int)} {y : Plt.za3} {ready : Int} (ht : Plt.za4 h (max y.rel ((asF m.id h.free).getD 0)) [] y.src = some (ready, [])) : Plt.zd0 h m stops y = tailF h m y [] ready ready [] (Srt.zd0 m.caps m.sweeps []) := by
  unfold Plt.zd0 tailF; rw [ht]; simp
theorem runF_late {h : Plt.Hall} {m : Plt.zb6} {stops : List (Int × Int)} {y : Plt.za3} {ready : Int} {items : List Int} (ht : Plt.za4 h (max y.rel ((asF m.id h.free).getD 0)) [] y.src = some (ready, items)) (hne : items ≠ [])
    (hl : Plt.g9 ready (Plt.zb3 items.length m.rate) m.shifts = [] ∨ Plt.zb8 (Plt.g9 ready (Plt.zb3 items.length m.rate) m.shifts) < Plt.zb3 items.length m.rate) : Plt.zd0 h m stops y = (Plt.missed y, h) := by
  unfold Plt.zd0; rw [ht]; simp only [hne, if_false, ne_eq, not_false_eq_true, true_and]; rw [if_pos hl]
theorem runF_busy {h : Plt.Hall} {m : Plt.zb6} {stops : List (Int × Int)} {y : Plt.za3} {ready : Int} {items : List Int} (ht : Plt.za4 h (max y.rel ((asF m.id h.free).getD 0)) [] y.src = some (ready, items)) (hne : items ≠ [])
    (hl : ¬ (Plt.g9 ready (Plt.zb3 items.length m.rate) m.shifts = [] ∨ Plt.zb8 (Plt.g9 ready (Plt.zb3 items.length m.rate) m.shifts) < Plt.zb3 items.length m.rate)) :
    Plt.zd0 h m stops y = tailF h m y items ((Plt.g9 ready (Plt.zb3 items.length m.rate) m.shifts).headD (0, 0)).1 ((Plt.g9 ready (Plt.zb3 items.length m.rate) m.shifts).getLastD (0, 0)).2 (Plt.g9 ready (Plt.zb3 items.length m.rate) m.shifts) (Srt.zd0 m.caps m.sweeps (items.map (Plt.zb9 stops y))) := by
  unfold Plt.zd0 tailF; rw [ht]; simp only [hne, if_false, ne_eq, not_false_eq_true, true_and]; rw [if_neg hl]
theorem slices_bd {rel : Int} : ∀ {l : List Plt.Sh} {left : Int}, 0 ≤ left → 0 ≤ rel → (∀ s ∈ l, 0 ≤ s.f ∧ s.f < s.t ∧ s.t ≤ 1051898399) → ∀ s ∈ Plt.g9 rel left l, 0 ≤ s.1 ∧ s.1 ≤ s.2 ∧ s.2 ≤ 1051898399
  | [], _, _, _, _, s, h => by simp [Plt.g9] at h
  | a :: l, left, hl, hr, ha, s, h => by
    have h1 := ha a List.mem_cons_self
    rw [Plt.g9] at h
    split at h
    · exact slices_bd hl hr (fun x hx => ha x (List.mem_cons_of_mem _ hx)) s h
    · rcases List.mem_cons.1 h with rfl | h
      · dsimp only; omega
      · exact slices_bd (by omega) hr (fun x hx => ha x (List.mem_cons_of_mem _ hx)) s h
theorem slices_len {rel : Int} : ∀ (l : List Plt.Sh) (left : Int), (Plt.g9 rel left l).length ≤ l.length
  | [], _ => by simp [Plt.g9]
  | a :: l, left => by
    rw [Plt.g9]
    split
    · exact Nat.le_succ_of_le (slices_len l _)
    · rw [List.length_cons, List.length_cons]; exact Nat.succ_le_succ (slices_len l _)
theorem yd0 {v : Value} {id : Int} {l : List (Int × Int)} {k : Int} (hk : Plt.zb8 l = k) (hr : ∀ s ∈ l, 0 ≤ s.1 ∧ s.1 ≤ s.2 ∧ s.2 ≤ 1051898399) (hn : l.length ≤ 100000) (w : World) (h : SV w 3 zj8 v (Plt.zd6 id l)) :
    Calls Try.prog 56 #[v] w fun e w' => e = .returned (.int .i64 k) ∧ Below w.heap.size w w' := by subst hk; exact yc9 hr hn w h
set_option maxHeartbeats 16000000 in
set_option maxRecDepth 100000 in
theorem yj6 {w0 w : World} {L0 NX : List Ent} {bh bm bs bi be bf : Nat} {ml : List (Int × MD)} {stops : List (Int × Int)} {its : List ((Int × Int) × SD)} {h : Plt.Hall} {y : Plt.za3} {d : PD} {m : Plt.zb6} {md : MD}
    (hL0 : ∀ x ∈ L0, x.own = true) (oX : ∀ x ∈ NX, x.own = true) (hw : Rep w0 w ((zq7 bh bm bs bi be bf ml stops its h.ends h.free ++ NX) ++ L0)) (hy : PassV w0 d y)
    (hml : (ml.map Prod.fst).Nodup) (hmd : asF y.mach ml = some md) (hmv : MachV w0 md m) (hsn : (stops.map Prod.fst).Nodup) (hin : (its.map Prod.fst).Nodup) (hen : (h.ends.map Prod.fst).Nodup) (hfn : (h.free.map Prod.fst).Nodup)
    (hrow : ∀ s sd, asF s its = some sd → Shw NX (fun w => SV w 1 encI (sdV sd) (h.row s))) (hrow0 : ∀ s, asF s its = none → h.row s = [])
    (hrate : 1 ≤ m.rate ∧ m.rate ≤ 1000) (hlen : ∀ k, ((y.src.take k).flatMap h.row).length ≤ 100000) (hnew : asF y.id h.ends = none)
    (hal : ∀ ready items, Plt.za4 h (max y.rel ((asF m.id h.free).getD 0)) [] y.src = some (ready, items) → items ≠ [] → Plt.zb7 [⟨y.id, ready, 1051898399, Plt.zb3 items.length m.rate⟩] m.shifts = (0, 0)) :
    Calls Try.prog 39 #[ptr bh, .agg #[.int .i64 d.id, .int .i64 d.mach, .int .i64 d.rel, sdV d.src, sdV d.table, sdV d.unread]] w fun e w' => ∃ r G', e = .returned r ∧ hrunφ bh bm bs bi be bf ml stops NX (Plt.zd0 h m stops y) r G' ∧ Rep w0 w' (G' ++ L0) := by
  have hyV := hy
  obtain ⟨id, ma, re, ⟨a1, n1, c1⟩, ⟨a2, n2, c2⟩, ⟨a3, n3, c3⟩⟩ := d
  obtain ⟨e1, e2, e3, hs, hr, hu⟩ := hy
  dsimp only [sdV] at e1 e2 e3 hs hr hu hyV ⊢
  subst e1 e2 e3
  obtain ⟨_, _, e1, hc1, hop1⟩ := hs.open
  cases e1
  obtain ⟨mid, sw, ra, ⟨x1, k1, z1⟩, ⟨x2, k2, z2⟩⟩ := md
  obtain ⟨e1, e2, e3, hmc, hms⟩ := hmv
  dsimp only [sdV] at e1 e2 e3 hmc hms
  subst e1 e2 e3
  have hmiss := hrunφ.missed (bh := bh) (bm := bm) (bs := bs) (bi := bi) (be := be) (bf := bf) (ml := ml) (stops := stops) (y := y) hin hrow hrow0
  rw [← List.append_nil L0] at hw ⊢
  unfold zq7 at hw
  simp only [List.cons_append, List.nil_append, List.append_assoc] at hw
  obtain ⟨fr, hfr⟩ : ∃ fr, (asF m.id h.free).getD 0 = fr := ⟨_, rfl⟩
  obtain ⟨rd0, hrd0⟩ : ∃ rd0, max y.rel fr = rd0 := ⟨_, rfl⟩
  have hmax : (if y.rel < fr then fr else y.rel) = rd0 := by rw [← hrd0]; split <;> omega
  rw [hfr, hrd0] at hal
  have htk0 : Plt.za4 h (max y.rel ((asF m.id h.free).getD 0)) [] y.src = Plt.za4 h rd0 [] y.src := by rw [hfr, hrd0]
  have hfv : ((asF m.id h.free).map kI).getD (.int .i64 0) = .int .i64 fr := by rw [← hfr]; cases asF m.id h.free <;> rfl
  refine zj3 Try.func39 rfl Try.ntmps39 rfl (hw) ?_
  repeat' (first | ((apply zp7 (κ := kI) (ν := vM) (k := y.mach) (v := (⟨m.id, m.sweeps, m.rate, (x1, k1, z1), (x2, k2, z2)⟩ : MD))); infer_instance; infer_instance; exact rfl; exact rfl; exact sJ_; exact rfl; exact kN_; assumption; assumption; exact rfl) | ((apply ye9 (κ := kI) (ν := kI) (k := m.id) (v := .int .i64 fr)); infer_instance; infer_instance; infer_instance; exact rfl; exact rfl; exact sJ_; exact rfl; exact kN_; assumption; exact hfv; exact rfl) | ((apply yJ5 (v := rd0)); exact rfl; exact rfl; exact sJ_; exact rfl; exact hmax; exact rfl) | ((first | apply w9 | apply y8 | apply x8 | apply p4 | apply n0); exact rfl; exact rfl) | (apply w7; first | refine u9 (h := ?_) | refine y9 (h := ?_) | refine w8 (h := ?_) | refine q6 (h := ?_) | refine q0 (h := ?_)) | (apply o7; exact rfl; intro _) | (apply zc5; exact rfl; exact rfl; exact rfl; intro _) | (apply q7; first | refine q8 (h := ?_) | refine q9 (h := ?_)) | (apply g7; first | refine a8 (h := ?_)) | (apply o9; infer_instance; exact rfl; exact rfl) | ((first | apply s9 | apply x9 | apply z8 | apply s7 | apply s8 | apply w4 | apply z9 | apply w5)) | ((first | apply w6 | apply z6 | apply z0 | apply p5 | apply y0 | apply z7)) | ((apply p6 (id := 2) []); kernel_rfl; kernel_rfl) | ((apply p6 (id := 3) []); kernel_rfl; kernel_rfl) | (apply za6; try simp only [za9, List.cons_append, List.nil_append]) | ((first | apply i9 | apply n9 | apply m5); exact rfl; exact rfl) | (apply m0; first | refine k8 (h := ?_) | refine p7 (h := ?_) | refine m6 (h := ?_) | refine d8 (h := ?_) | refine d7 (h := ?_)) | (apply zb1; refine zb5 (h := ?_)) | (apply zs3; first | refine zq0 (h := ?_)) | (apply zD9; exact rfl; intro _))
  rename_i b3 b4 b5 b6
  apply j9 (σ := Nat × Int × List Int × (Option Addr × Nat) × List Ent) (Fs := fun t => [(44, .int .i64 t.1), (43, .int .i64 y.src.length), (42, .slice a1 y.src.length c1), (8, .slice t.2.2.2.1.1 t.2.2.1.length t.2.2.2.1.2), (7, .int .i64 t.2.1), (6, ptr b6), (5, ptr b5), (4, ptr b4), (3, ptr b3), (0, ptr bh)])
    (Ls := fun t => ⟨b6, Ce [.int .i64 m.id, .int .i64 m.sweeps, .int .i64 m.rate, .slice x1 k1 z1, .slice x2 k2 z2] 67, true⟩ :: ⟨b5, Ce [.int .i64 y.id, .int .i64 (-1), .int .i64 (-1), .slice none 0 0, .slice none 0 0, .slice none 0 0, .slice none 0 0, .slice none 0 0, .slice none 0 0, .slice none 0 0] 74, true⟩ :: ⟨b4, Ce [.int .i64 0, .int .i64 0, .int .i64 0, .slice none 0 0, .slice none 0 0, .slice none 0 0, .slice none 0 0, .slice none 0 0, .slice none 0 0, .slice none 0 0] 74, true⟩ :: ⟨b3, Ce [.int .i64 y.id, .int .i64 y.mach, .int .i64 y.rel, .slice a1 y.src.length c1, .slice a2 n2 c2, .slice a3 n3 c3] 49, true⟩ :: ⟨bh, Ce [.map (some bm), .map (some bs), .map (some bi), .map (some be), .map (some bf)] 136, true⟩ :: ⟨bm, MO (MM kI vM ml), true⟩ :: ⟨bs, MO (MM kI kI stops), true⟩ :: ⟨bi, MO (MM kP sdV its), true⟩ :: ⟨be, MO (MM kI kI h.ends), true⟩ :: ⟨bf, MO (MM kI kI h.free), true⟩ :: (NX ++ (t.2.2.2.2 ++ (L0 ++ []))))
    (I := fun t => t.1 ≤ y.src.length ∧ t.2.2.1 = (y.src.take t.1).flatMap h.row ∧ Plt.za4 h rd0 [] y.src = Plt.za4 h t.2.1 t.2.2.1 (y.src.drop t.1) ∧ OW 3 1 encI (.slice t.2.2.2.1.1 t.2.2.1.length t.2.2.2.1.2) t.2.2.1 t.2.2.2.2)
    (μ := fun t => y.src.length - t.1) (s0 := (0, rd0, [], (none, 0), []))
  · exact ⟨Nat.zero_le _, by simp, rfl, OW.nil⟩
  · exact fS_
  · exact hS_
  rintro ⟨i, ready, items, ⟨ai, ci⟩, NI⟩ ⟨hi, hit, htk, hI⟩
  dsimp only at hi hit htk hI ⊢
  have oI := hI.own
  have hil := hlen i
  rw [← hit] at hil
  by_cases hlt : i < y.src.length
  · obtain ⟨⟨s1, s2⟩, hx⟩ : ∃ s, y.src[i]? = some s := ⟨_, List.getElem?_eq_getElem hlt⟩
    obtain ⟨b, off, cc, e, fz, rfl, hk, hpt⟩ := hop1 (by omega)
    have g1 : ∀ j u, ([.int .i64 s1, .int .i64 s2] : List Value)[j]? = some u → cc[off + i * 2 + j]? = some u := hpt.get hx
    rw [drop_at hx] at htk
    have hit2 : items ++ h.row (s1, s2) = (y.src.take (i + 1)).flatMap h.row := by rw [take_snoc hx, List.flatMap_append, ← hit]; simp
    have hil2 := hlen (i + 1)
    rw [← hit2, List.length_append] at hil2
    have hcase : (s1 ≠ 0 ∧ asF s1 h.ends = none) ∨ ∃ rd2, (s1 = 0 ∧ rd2 = ready ∨ s1 ≠ 0 ∧ ∃ en, asF s1 h.ends = some en ∧ (if ready < en then en else ready) = rd2) ∧ Plt.za4 h rd0 [] y.src = Plt.za4 h rd2 (items ++ h.row (s1, s2)) (y.src.drop (i + 1)) := by
      by_cases h0 : s1 = 0
      · subst h0
        exact .inr ⟨ready, .inl ⟨rfl, rfl⟩, by rw [htk, zU5]⟩
      · cases he : asF s1 h.ends with
        | none => exact .inl ⟨h0, rfl⟩
        | some en =>
          refine .inr ⟨max ready en, .inr ⟨h0, en, rfl, ?_⟩, by rw [htk, yb5 h0 he]⟩
          split <;> omega
    rcases hcase with ⟨h0, he⟩ | ⟨rd2, hrd, htk2⟩
    · have hm2 := yf7 (stops := stops) (htk0.trans (htk.trans (yb4 h0 he)))
      rw [hm2]
      as_aux_lemma =>
        repeat' (first | (apply v8; exact rfl; exact dT_) | ((apply zk2 (κ := kI) (ν := kI) (k := s1)); infer_instance; infer_instance; infer_instance; exact rfl; exact rfl; exact sJ_; exact rfl; exact kN_; assumption; exact rfl) | ((first | apply w9 | apply y8 | apply x8 | apply p4 | apply n0); exact rfl; exact rfl) | (apply w7; first | refine u9 (h := ?_) | refine y9 (h := ?_) | refine w8 (h := ?_) | refine q6 (h := ?_) | refine q0 (h := ?_)) | ((first | apply p3 | apply o8 | apply l0 | apply l8 | apply p0 | apply zp4); exact rfl; exact rfl; exact rfl) | (apply zd5; exact rfl; exact rfl) | (apply o7; exact rfl; intro _) | (apply q7; first | refine q8 (h := ?_) | refine q9 (h := ?_)) | (apply m8; infer_instance; infer_instance; exact rfl; exact rfl; (first | exact rfl | omega); exact rfl; (first | assumption | omega | decide)) | ((first | apply s9 | apply x9 | apply z8 | apply s7 | apply s8 | apply w4 | apply z9 | apply w5)) | (apply v8; exact rfl; exact tT_) | ((first | apply w6 | apply z6 | apply z0 | apply p5 | apply y0 | apply z7)) | ((apply p6 (id := 9) []); kernel_rfl; kernel_rfl) | (apply za6; try simp only [za9, List.cons_append, List.nil_append]) | ((first | apply i9 | apply n9 | apply m5); exact rfl; exact rfl) | (apply m0; first | refine k8 (h := ?_) | refine p7 (h := ?_) | refine m6 (h := ?_) | refine d8 (h := ?_) | refine d7 (h := ?_)) | ((first | apply ze6 | apply zh4 | apply zi4 | apply zr1 | apply ze2); exact rfl; exact rfl; exact rfl) | (apply zb1; refine zb5 (h := ?_)))
        apply p8; apply zb0 Try.results39; exact rV_; intro w' hw
        exact ⟨_, _, rfl, hmiss, hw.sub (by unfold zq7; simp only [List.cons_append, List.nil_append, List.append_assoc]; exact hS_)⟩
    · clear htk hal
      have hnext : ∀ (a : Option Addr) (c : Nat) (N : List Ent), OW 3 1 encI (.slice a (items ++ h.row (s1, s2)).length c) (items ++ h.row (s1, s2)) N → i + 1 ≤ y.src.length ∧ items ++ h.row (s1, s2) = (y.src.take (i + 1)).flatMap h.row ∧ Plt.za4 h rd0 [] y.src = Plt.za4 h rd2 (items ++ h.row (s1, s2)) (y.src.drop (i + 1)) ∧ OW 3 1 encI (.slice a (items ++ h.row (s1, s2)).length c) (items ++ h.row (s1, s2)) N := fun a c N hh => ⟨by omega, hit2, htk2, hh⟩
      clear hit hit2 htk2
      generalize hRR : h.row (s1, s2) = RR at hnext hil2
      cases ho : asF (s1, s2) its with
      | none =>
        have hR0 : RR = [] := by rw [← hRR]; exact hrow0 _ ho
        rcases hrd with ⟨h0, rfl⟩ | ⟨h0, en, he, hmax2⟩
        all_goals
          as_aux_lemma =>
            repeat' (first | (apply v8; exact rfl; exact dT_) | (apply v9; exact rfl; exact dF_) | ((apply zi5 (κ := kI) (ν := kI) (k := s1) (v := en)); infer_instance; infer_instance; exact rfl; exact rfl; exact sJ_; exact rfl; exact kN_; assumption; assumption; exact rfl) | ((apply zC2 (κ := kP) (ν := sdV) (k := (s1, s2))); infer_instance; infer_instance; infer_instance; exact rfl; exact rfl; exact sJ_; exact rfl; exact kN_; assumption; exact rfl) | ((apply yx3 (v := rd2)); exact rfl; exact rfl; exact hmax2; exact rfl) | (apply zc4 (enc := encI); infer_instance; infer_instance; infer_instance; exact rfl; exact j8; exact zg4; exact rfl; exact rfl; exact rfl; assumption; exact rL_; (exact fun w hw => (show SV w 1 encI (.slice none 0 0) RR by rw [hR0]; exact SV.nil)); (first | decide | (constructor <;> (try simp only [List.length_cons, List.length_nil]) <;> omega) | (constructor <;> simp <;> omega)); intro a_ cp_ N_ hO_; have oN_ := hO_.own; (try simp only [List.nil_append, List.append_assoc] at hO_); (try simp only [List.append_eq, List.append_assoc, List.cons_append, List.nil_append])) | ((first | apply w9 | apply y8 | apply x8 | apply p4 | apply n0); exact rfl; exact rfl) | (apply w7; first | refine u9 (h := ?_) | refine y9 (h := ?_) | refine w8 (h := ?_) | refine q6 (h := ?_) | refine q0 (h := ?_)) | ((first | apply p3 | apply o8 | apply l0 | apply l8 | apply p0 | apply zp4); exact rfl; exact rfl; exact rfl) | (apply zd5; exact rfl; exact rfl) | ((first | apply j0 | apply ze5); exact rfl; exact rfl; exact rfl; (constructor <;> omega)) | (apply o7; exact rfl; intro _) | (apply q7; first | refine q8 (h := ?_) | refine q9 (h := ?_)) | (apply m8; infer_instance; infer_instance; exact rfl; exact rfl; (first | exact rfl | omega); exact rfl; (first | assumption | omega | decide)) | ((first | apply s9 | apply x9 | apply z8 | apply s7 | apply s8 | apply w4 | apply z9 | apply w5)) | (apply v9; exact rfl; exact fF_) | ((first | apply w6 | apply z6 | apply z0 | apply p5 | apply y0 | apply z7)) | ((apply p6 (id := 9) []); kernel_rfl; kernel_rfl) | ((apply zg0 (id := 13) [] 7); kernel_rfl; kernel_rfl; simp only [List.take_succ_cons, List.take_zero, List.drop_succ_cons, List.drop_zero]) | (apply za6; try simp only [za9, List.cons_append, List.nil_append]) | ((first | apply i9 | apply n9 | apply m5); exact rfl; exact rfl) | (apply m0; first | refine k8 (h := ?_) | refine p7 (h := ?_) | refine m6 (h := ?_) | refine d8 (h := ?_) | refine d7 (h := ?_)) | ((first | apply ze6 | apply zh4 | apply zi4 | apply zr1 | apply ze2); exact rfl; exact rfl; exact rfl) | (apply zb1; refine zb5 (h := ?_)))
            refine o0 (i + 1, rd2, items ++ RR, (a_, cp_), N_) (hnext _ _ _ hO_) (by dsimp only; omega) ?_ ?_
            · exact fS_
            · exact hS_
      | some sd =>
        have hsd := hrow _ _ ho
        rw [hRR] at hsd
        obtain ⟨sa, sn, sc⟩ := sd
        rcases hrd with ⟨h0, rfl⟩ | ⟨h0, en, he, hmax2⟩
        all_goals
          as_aux_lemma =>
            repeat' (first | (apply v8; exact rfl; exact dT_) | (apply v9; exact rfl; exact dF_) | ((apply zi5 (κ := kI) (ν := kI) (k := s1) (v := en)); infer_instance; infer_instance; exact rfl; exact rfl; exact sJ_; exact rfl; exact kN_; assumption; assumption; exact rfl) | ((apply zp7 (κ := kP) (ν := sdV) (k := (s1, s2)) (v := (sa, sn, sc))); infer_instance; infer_instance; exact rfl; exact rfl; exact sJ_; exact rfl; exact kN_; assumption; assumption; exact rfl) | ((apply yx3 (v := rd2)); exact rfl; exact rfl; exact hmax2; exact rfl) | (apply zc4 (enc := encI); infer_instance; infer_instance; infer_instance; exact rfl; exact j8; exact zg4; exact rfl; exact rfl; exact rfl; assumption; exact rL_; (exact fun w hw => (hsd _ _ _ _ (by exact rL_) hw)); (first | decide | (constructor <;> (try simp only [List.length_cons, List.length_nil]) <;> omega) | (constructor <;> simp <;> omega)); intro a_ cp_ N_ hO_; have oN_ := hO_.own; (try simp only [List.nil_append, List.append_assoc] at hO_); (try simp only [List.append_eq, List.append_assoc, List.cons_append, List.nil_append])) | ((first | apply w9 | apply y8 | apply x8 | apply p4 | apply n0); exact rfl; exact rfl) | (apply w7; first | refine u9 (h := ?_) | refine y9 (h := ?_) | refine w8 (h := ?_) | refine q6 (h := ?_) | refine q0 (h := ?_)) | ((first | apply p3 | apply o8 | apply l0 | apply l8 | apply p0 | apply zp4); exact rfl; exact rfl; exact rfl) | (apply zd5; exact rfl; exact rfl) | ((first | apply j0 | apply ze5); exact rfl; exact rfl; exact rfl; (constructor <;> omega)) | (apply o7; exact rfl; intro _) | (apply q7; first | refine q8 (h := ?_) | refine q9 (h := ?_)) | (apply m8; infer_instance; infer_instance; exact rfl; exact rfl; (first | exact rfl | omega); exact rfl; (first | assumption | omega | decide)) | ((first | apply s9 | apply x9 | apply z8 | apply s7 | apply s8 | apply w4 | apply z9 | apply w5)) | (apply v9; exact rfl; exact fF_) | ((first | apply w6 | apply z6 | apply z0 | apply p5 | apply y0 | apply z7)) | ((apply p6 (id := 9) []); kernel_rfl; kernel_rfl) | ((apply zg0 (id := 13) [] 7); kernel_rfl; kernel_rfl; simp only [List.take_succ_cons, List.take_zero, List.drop_succ_cons, List.drop_zero]) | (apply za6; try simp only [za9, List.cons_append, List.nil_append]) | ((first | apply i9 | apply n9 | apply m5); exact rfl; exact rfl) | (apply m0; first | refine k8 (h := ?_) | refine p7 (h := ?_) | refine m6 (h := ?_) | refine d8 (h := ?_) | refine d7 (h := ?_)) | ((first | apply ze6 | apply zh4 | apply zi4 | apply zr1 | apply ze2); exact rfl; exact rfl; exact rfl) | (apply zb1; refine zb5 (h := ?_)))
            refine o0 (i + 1, rd2, items ++ RR, (a_, cp_), N_) (hnext _ _ _ hO_) (by dsimp only; omega) ?_ ?_
            · exact fS_
            · exact hS_
  obtain rfl : i = y.src.length := by omega
  rw [List.drop_length, yh2] at htk
  clear hop1
  have htk2 := htk0.trans htk
  repeat' (first | (apply v9; exact rfl; exact dF_) | ((first | apply w9 | apply y8 | apply x8 | apply p4 | apply n0); exact rfl; exact rfl) | (apply w7; first | refine u9 (h := ?_) | refine y9 (h := ?_) | refine w8 (h := ?_) | refine q6 (h := ?_) | refine q0 (h := ?_)) | ((first | apply p3 | apply o8 | apply l0 | apply l8 | apply p0 | apply zp4); exact rfl; exact rfl; exact rfl) | (apply o7; exact rfl; intro _) | (apply q7; first | refine q8 (h := ?_) | refine q9 (h := ?_)) | (apply g7; first | refine a8 (h := ?_)) | (apply o9; infer_instance; exact rfl; exact rfl) | ((first | apply s9 | apply x9 | apply z8 | apply s7 | apply s8 | apply w4 | apply z9 | apply w5)) | ((first | apply w6 | apply z6 | apply z0 | apply p5 | apply y0 | apply z7)))
  rename_i b13
  apply zP0 (σ := Int × Int × List (Int × Int) × (Option Addr × Nat) × List Ent) (Ds := fun _ => []) (Fs := fun t => [(13, ptr b13), (8, .slice ai items.length ci), (6, ptr b6), (5, ptr b5), (4, ptr b4), (3, ptr b3), (0, ptr bh)])
    (Ls := fun t => ⟨b13, Ce [.int .i64 y.id, .int .i64 t.1, .int .i64 t.2.1, .slice ai items.length ci, .slice t.2.2.2.1.1 (Plt.zd6 y.id t.2.2.1).length t.2.2.2.1.2, .slice none 0 0, .slice none 0 0, .slice none 0 0, .slice none 0 0, .slice none 0 0] 74, true⟩ :: ⟨b6, Ce [.int .i64 m.id, .int .i64 m.sweeps, .int .i64 m.rate, .slice x1 k1 z1, .slice x2 k2 z2] 67, true⟩ :: ⟨b5, Ce [.int .i64 y.id, .int .i64 (-1), .int .i64 (-1), .slice none 0 0, .slice none 0 0, .slice none 0 0, .slice none 0 0, .slice none 0 0, .slice none 0 0, .slice none 0 0] 74, true⟩ :: ⟨b4, Ce [.int .i64 0, .int .i64 0, .int .i64 0, .slice none 0 0, .slice none 0 0, .slice none 0 0, .slice none 0 0, .slice none 0 0, .slice none 0 0, .slice none 0 0] 74, true⟩ :: ⟨b3, Ce [.int .i64 y.id, .int .i64 y.mach, .int .i64 y.rel, .slice a1 y.src.length c1, .slice a2 n2 c2, .slice a3 n3 c3] 49, true⟩ :: ⟨bh, Ce [.map (some bm), .map (some bs), .map (some bi), .map (some be), .map (some bf)] 136, true⟩ :: ⟨bm, MO (MM kI vM ml), true⟩ :: ⟨bs, MO (MM kI kI stops), true⟩ :: ⟨bi, MO (MM kP sdV its), true⟩ :: ⟨be, MO (MM kI kI h.ends), true⟩ :: ⟨bf, MO (MM kI kI h.free), true⟩ :: (NX ++ (NI ++ (t.2.2.2.2 ++ (L0 ++ [])))))
    (I := fun t => Plt.zd0 h m stops y = tailF h m y items t.1 t.2.1 t.2.2.1 (Srt.zd0 m.caps m.sweeps (items.map (Plt.zb9 stops y))) ∧ OW 76 3 zj8 (.slice t.2.2.2.1.1 (Plt.zd6 y.id t.2.2.1).length t.2.2.2.1.2) (Plt.zd6 y.id t.2.2.1) t.2.2.2.2)
  · by_cases hne : items = []
    · have h0 : items.length = 0 := by rw [hne]; rfl
      have hidle := runF_idle (stops := stops) (by rw [htk2, hne])
      as_aux_lemma =>
        repeat' (first | (apply v9; exact rfl; exact dF_) | ((first | apply s9 | apply x9 | apply z8 | apply s7 | apply s8 | apply w4 | apply z9 | apply w5)) | ((first | apply w6 | apply z6 | apply z0 | apply p5 | apply y0 | apply z7)))
        refine zq2 (ready, ready, [], (none, 0), []) ⟨by rw [hidle, hne]; rfl, OW.nil⟩ rfl ?_ ?_
        · exact fS_
        · exact hS_
    have hne0 : 0 < items.length := List.length_pos_iff.2 hne
    have hal' := hal ready items htk hne
    obtain ⟨hjok, hsll, hshr⟩ := Plt.zy4 hal'
    unfold Plt.Job.ok at hjok
    dsimp only at hjok
    have hlate := runF_late (stops := stops) htk2 hne
    have hbusy := runF_busy (stops := stops) htk2 hne
    obtain ⟨nd, hnd⟩ : ∃ nd, Plt.zb3 items.length m.rate = nd := ⟨_, rfl⟩
    rw [hnd] at hal' hjok hlate hbusy
    unfold Plt.zb3 at hnd
    have hsb := slices_bd (rel := ready) (left := nd) (l := m.shifts) (by omega) (by omega) hshr
    have hsl2 := slices_len (rel := ready) m.shifts nd
    have hmk := fun (w : World) (jv sv : Value) => yg8 (jv := jv) (sv := sv) hal' w
    dsimp only at hmk
    generalize Plt.g9 ready nd m.shifts = sl at hlate hbusy hsb hsl2 hmk
    by_cases hs0 : sl = []
    · rw [hlate (.inl hs0)]
      have hl0 : (Plt.zd6 y.id sl).length = 0 := by rw [hs0]; rfl
      rw [Plt.zj6] at hl0
      as_aux_lemma =>
        repeat' (first | (apply v8; exact rfl; exact dT_) | (apply n8; exact rfl; exact dT_; exact rfl; exact rfl) | (apply p9; exact rfl; exact dF_; exact rfl; exact rfl) | (apply k9; exact rfl; exact dF_) | (apply za5; exact rfl; exact dT_; exact rfl) | ((apply zR1 (v := nd)); exact rfl; exact rfl; exact hnd; omega; exact rfl) | ((first | ((apply f5 (f := 55)); exact rfl) | ((apply d6 (f := 55)); exact rfl; exact rfl; exact sJ_)); exact eV_; exact (fun w hw => hmk w _ _ (SV.lit [⟨y.id, ready, 1051898399, nd⟩] zF8 hw (by exact aT_) rfl rfl (Nat.le_of_ble_eq_true rfl)) (hms.keep hw (by exact aO_))); rintro v NS_ ⟨as_, cs_, rfl, hSl, oSl⟩ <;> (try simp only [List.cons_append, List.nil_append])) | ((first | apply w9 | apply y8 | apply x8 | apply p4 | apply n0); exact rfl; exact rfl) | (apply w7; first | refine u9 (h := ?_) | refine y9 (h := ?_) | refine w8 (h := ?_) | refine q6 (h := ?_) | refine q0 (h := ?_)) | ((first | apply p3 | apply o8 | apply l0 | apply l8 | apply p0 | apply zp4); exact rfl; exact rfl; exact rfl) | ((first | apply j0 | apply ze5); exact rfl; exact rfl; exact rfl; (constructor <;> omega)) | (apply q7; first | refine q8 (h := ?_) | refine q9 (h := ?_)) | (apply g7; first | refine a8 (h := ?_)) | (apply o9; infer_instance; exact rfl; exact rfl) | (apply m9; refine l9 (h := fun _ => ?_)) | ((first | apply s9 | apply x9 | apply z8 | apply s7 | apply s8 | apply w4 | apply z9 | apply w5)) | (apply v8; exact rfl; exact tT_) | ((first | apply w6 | apply z6 | apply z0 | apply p5 | apply y0 | apply z7)))
        apply p8; apply zb0 Try.results39; exact rV_; intro w' hw
        exact ⟨_, _, rfl, hmiss, hw.sub (by unfold zq7; simp only [List.cons_append, List.nil_append, List.append_assoc]; exact hS_)⟩
    obtain ⟨sp, hsp⟩ : ∃ sp, Plt.zb8 sl = sp := ⟨_, rfl⟩
    rw [hsp] at hlate hbusy
    have hl3 := Plt.zj6 y.id sl
    have hpos : 0 < sl.length := List.length_pos_iff.2 hs0
    by_cases hlt : sp < nd
    · rw [hlate (.inr hlt)]
      as_aux_lemma =>
        repeat' (first | (apply v8; exact rfl; exact dT_) | (apply p9; exact rfl; exact dF_; exact rfl; exact rfl) | (apply k9; exact rfl; exact dF_) | ((apply zR1 (v := nd)); exact rfl; exact rfl; exact hnd; omega; exact rfl) | ((first | ((apply f5 (f := 55)); exact rfl) | ((apply d6 (f := 55)); exact rfl; exact rfl; exact sJ_)); exact eV_; exact (fun w hw => hmk w _ _ (SV.lit [⟨y.id, ready, 1051898399, nd⟩] zF8 hw (by exact aT_) rfl rfl (Nat.le_of_ble_eq_true rfl)) (hms.keep hw (by exact aO_))); rintro v NS_ ⟨as_, cs_, rfl, hSl, oSl⟩ <;> (try simp only [List.cons_append, List.nil_append])) | ((first | ((apply t8 (f := 56)); exact rfl) | ((apply t9 (f := 56)); exact rfl; kernel_rfl; exact rfl; exact sJ_)); exact eV_; exact (fun w hw => yd0 hsp hsb (by omega) w (hSl.sv ze9 (by exact rL_) hw))) | ((first | apply w9 | apply y8 | apply x8 | apply p4 | apply n0); exact rfl; exact rfl) | (apply w7; first | refine u9 (h := ?_) | refine y9 (h := ?_) | refine w8 (h := ?_) | refine q6 (h := ?_) | refine q0 (h := ?_)) | ((first | apply p3 | apply o8 | apply l0 | apply l8 | apply p0 | apply zp4); exact rfl; exact rfl; exact rfl) | ((first | apply j0 | apply ze5); exact rfl; exact rfl; exact rfl; (constructor <;> omega)) | (apply q7; first | refine q8 (h := ?_) | refine q9 (h := ?_)) | (apply g7; first | refine a8 (h := ?_)) | (apply o9; infer_instance; exact rfl; exact rfl) | (apply m9; refine l9 (h := fun _ => ?_)) | ((first | apply s9 | apply x9 | apply z8 | apply s7 | apply s8 | apply w4 | apply z9 | apply w5)) | ((first | apply w6 | apply z6 | apply z0 | apply p5 | apply y0 | apply z7)))
        apply p8; apply zb0 Try.results39; exact rV_; intro w' hw
        exact ⟨_, _, rfl, hmiss, hw.sub (by unfold zq7; simp only [List.cons_append, List.nil_append, List.append_assoc]; exact hS_)⟩
    have hb := hbusy (fun hh => hh.elim hs0 hlt)
    obtain ⟨lk, hlk⟩ : ∃ lk, sl.length = lk + 1 := ⟨sl.length - 1, by omega⟩
    obtain ⟨⟨f0, t0⟩, hf0⟩ : ∃ s, sl[0]? = some s := ⟨_, List.getElem?_eq_getElem hpos⟩
    obtain ⟨⟨f1, t1⟩, hf1⟩ : ∃ s, sl[lk]? = some s := ⟨_, List.getElem?_eq_getElem (by omega)⟩
    have eh : sl.headD (0, 0) = (f0, t0) := by cases sl with
      | nil => exact absurd rfl hs0
      | cons a r => simpa using hf0
    have el : sl.getLastD (0, 0) = (f1, t1) := by
      rw [List.getLastD_eq_getLast?, List.getLast?_eq_getElem?, show sl.length - 1 = lk from by omega, hf1]; rfl
    rw [eh, el] at hb
    dsimp only at hb
    repeat' (first | (apply v8; exact rfl; exact dT_) | (apply v9; exact rfl; exact dF_) | (apply p9; exact rfl; exact dF_; exact rfl; exact rfl) | (apply k9; exact rfl; exact dF_) | ((apply zR1 (v := nd)); exact rfl; exact rfl; exact hnd; omega; exact rfl) | ((first | ((apply f5 (f := 55)); exact rfl) | ((apply d6 (f := 55)); exact rfl; exact rfl; exact sJ_)); exact eV_; exact (fun w hw => hmk w _ _ (SV.lit [⟨y.id, ready, 1051898399, nd⟩] zF8 hw (by exact aT_) rfl rfl (Nat.le_of_ble_eq_true rfl)) (hms.keep hw (by exact aO_))); rintro v NS_ ⟨as_, cs_, rfl, hSl, oSl⟩ <;> (try simp only [List.cons_append, List.nil_append])) | ((first | ((apply t8 (f := 56)); exact rfl) | ((apply t9 (f := 56)); exact rfl; kernel_rfl; exact rfl; exact sJ_)); exact eV_; exact (fun w hw => yd0 hsp hsb (by omega) w (hSl.sv ze9 (by exact rL_) hw))) | ((first | apply w9 | apply y8 | apply x8 | apply p4 | apply n0); exact rfl; exact rfl) | (apply w7; first | refine u9 (h := ?_) | refine y9 (h := ?_) | refine w8 (h := ?_) | refine q6 (h := ?_) | refine q0 (h := ?_)) | ((first | apply p3 | apply o8 | apply l0 | apply l8 | apply p0 | apply zp4); exact rfl; exact rfl; exact rfl) | ((first | apply j0 | apply ze5); exact rfl; exact rfl; exact rfl; (constructor <;> omega)) | (apply g7; first | refine a8 (h := ?_)) | (apply o9; infer_instance; exact rfl; exact rfl) | (apply m9; refine l9 (h := fun _ => ?_)) | ((first | apply s9 | apply x9 | apply z8 | apply s7 | apply s8 | apply w4 | apply z9 | apply w5)) | ((first | apply w6 | apply z6 | apply z0 | apply p5 | apply y0 | apply z7)))
    obtain ⟨bsl, ssl, rfl, rfl⟩ := OW.some hSl (by omega)
    have gF : ∀ j u, ([.int .i64 y.id, .int .i64 f0, .int .i64 t0] : List Value)[j]? = some u → ((Plt.zd6 y.id sl).flatMap zj8 ++ ssl).toArray[0 + 0 * 3 + j]? = some u := (Pat.flat ze9 (Plt.zd6 y.id sl) ssl).get (zI8 hf0)
    have gF1 : ((Plt.zd6 y.id sl).flatMap zj8 ++ ssl).toArray[1]? = some (.int .i64 f0) := gF 1 _ rfl
    have gL : ∀ j u, ([.int .i64 y.id, .int .i64 f1, .int .i64 t1] : List Value)[j]? = some u → ((Plt.zd6 y.id sl).flatMap zj8 ++ ssl).toArray[0 + lk * 3 + j]? = some u := (Pat.flat ze9 (Plt.zd6 y.id sl) ssl).get (zI8 hf1)
    simp only [List.cons_append, List.nil_append]
    as_aux_lemma =>
      repeat' (first | ((apply ym6 (m := 0)); infer_instance; infer_instance; exact rfl; exact rfl; omega; exact rfl; omega) | ((apply ym6 (m := lk)); infer_instance; infer_instance; exact rfl; exact rfl; omega; exact rfl; omega) | ((apply zw1 (id := 21) (⟨bsl, Ce ((Plt.zd6 y.id sl).flatMap zj8 ++ ssl) 76, true⟩ :: []) 18); kernel_rfl; kernel_rfl; exact hS_) | ((apply i8 (fq := 17) (m := 0) (k := 0) (m' := 1)); kernel_rfl; exact rfl; kernel_rfl) | ((apply i8 (fq := 16) (m := 1) (k := 1) (m' := 3)); kernel_rfl; exact rfl; kernel_rfl) | ((apply i8 (fq := 15) (m := 3) (k := 2) (m' := 7)); kernel_rfl; exact rfl; kernel_rfl) | ((apply i8 (fq := 14) (m := 7) (k := 3) (m' := 15)); kernel_rfl; exact rfl; kernel_rfl) | ((apply i8 (fq := 13) (m := 15) (k := 4) (m' := 31)); kernel_rfl; exact rfl; kernel_rfl) | ((apply i8 (fq := 12) (m := 31) (k := 5) (m' := 63)); kernel_rfl; exact rfl; kernel_rfl) | ((apply i8 (fq := 11) (m := 63) (k := 6) (m' := 127)); kernel_rfl; exact rfl; kernel_rfl) | ((apply i8 (fq := 10) (m := 127) (k := 7) (m' := 255)); kernel_rfl; exact rfl; kernel_rfl) | ((apply i8 (fq := 9) (m := 255) (k := 8) (m' := 511)); kernel_rfl; exact rfl; kernel_rfl) | ((apply i8 (fq := 8) (m := 511) (k := 9) (m' := 1023)); kernel_rfl; exact rfl; kernel_rfl) | ((apply i8 (fq := 7) (m := 1023) (k := 10) (m' := 2047)); kernel_rfl; exact rfl; kernel_rfl) | ((apply i8 (fq := 6) (m := 2047) (k := 11) (m' := 4095)); kernel_rfl; exact rfl; kernel_rfl) | ((apply i8 (fq := 5) (m := 4095) (k := 12) (m' := 8191)); kernel_rfl; exact rfl; kernel_rfl) | ((apply zd7 (fq := 4) (m := 8191) (k1 := 13) (m1 := 16383)); kernel_rfl; exact rfl; kernel_rfl) | ((apply i8 (fq := 3) (m := 16383) (k := 14) (m' := 32767)); kernel_rfl; exact rfl; kernel_rfl) | ((apply zd7 (fq := 2) (m := 32767) (k1 := 15) (m1 := 65535)); kernel_rfl; exact rfl; kernel_rfl) | ((apply i8 (fq := 1) (m := 65535) (k := 16) (m' := 131071)); kernel_rfl; exact rfl; kernel_rfl) | ((apply zd7 (fq := 0) (m := 131071) (k1 := 17) (m1 := 262143)); kernel_rfl; exact rfl; kernel_rfl) | (apply zO6; kernel_rfl) | (apply yt9; exact hS_) | ((first | apply zO7 | apply zA8 | apply zF4); exact rfl; exact rfl) | ((first | apply ym5); exact rfl; exact rfl) | ((first | apply yG6); exact rfl; exact rfl; exact rfl; (constructor <;> omega)) | (apply yG5; infer_instance; exact rfl; exact rfl) | (apply ym8; infer_instance; exact rfl; exact kN_; assumption; exact rfl) | (apply yG4; infer_instance; exact rfl; exact kN_; assumption; exact nT_; exact rfl) | (apply q7; first | refine q8 (h := ?_) | refine q9 (h := ?_)) | ((first | apply s9 | apply x9 | apply z8 | apply s7 | apply s8 | apply w4 | apply z9 | apply w5)) | ((first | apply w6 | apply z6 | apply z0 | apply p5 | apply y0 | apply z7)))
      refine zq2 (f0, t1, sl, (some ⟨bsl, 0, none⟩, cs_), [⟨bsl, Ce ((Plt.zd6 y.id sl).flatMap zj8 ++ ssl) 76, true⟩]) ⟨hb, by dsimp only; rw [hl3]; exact hSl⟩ rfl ?_ ?_
      · exact fS_
      · dsimp only; rw [hl3]; simp only [List.cons_append, List.nil_append]; exact hS_
  rintro ⟨start, fin, sl, ⟨asl, csl⟩, NSL⟩ ⟨hrun, hSl⟩
  dsimp only at hrun hSl ⊢
  have oSl := hSl.own
  clear hal htk htk2 htk0 hrd0 hmax hfr
  rw [hrun]
  clear hrun
  have hl3 := Plt.zj6 y.id sl
  obtain ⟨⟨res, kk⟩, hres⟩ : ∃ r, Srt.zd0 m.caps m.sweeps (items.map (Plt.zb9 stops y)) = r := ⟨_, rfl⟩
  rw [hres]
  by_cases hk0 : kk = 0
  case neg =>
    have et : tailF h m y items start fin sl (res, kk) = (Plt.missed y, h) := by unfold tailF; rw [if_pos hk0]
    rw [et]
    as_aux_lemma =>
      repeat' (first | (apply v8; exact rfl; exact dT_) | ((apply p6 (id := 22) [(7, fun v N => ∃ a c, v = .slice a items.length c ∧ OW 186 2 zo0 (.slice a items.length c) (items.map (Plt.zb9 stops y)) N ∧ ∀ x ∈ N, x.own = true), (8, yz0 res kk)]); kernel_rfl; kernel_rfl) | ((first | ((apply f5 (f := 57)); exact rfl) | ((apply d6 (f := 57)); exact rfl; exact rfl; exact sJ_)); exact eV_; exact (fun w hw => zI0 w (hw.at (by exact aT_)) (hw.at (by exact aT_)) hsn (hyV.keep hw (by exact aO_)) (hI.sv j8 (by exact rL_) hw) (by omega)); rintro v NF ⟨af, cf, rfl, hF, oF⟩ <;> (try simp only [List.cons_append, List.nil_append])) | ((first | ((apply f5 (f := 50)); exact rfl) | ((apply d6 (f := 50)); exact rfl; exact rfl; exact sJ_)); exact eV_; exact (fun w hw => zS5 hres w (hmc.keep hw (by exact aO_)) (hF.sv zl0 (by exact rL_) hw)); rintro v NR ⟨x3, y3, x4, y4, x5, y5, x6, y6, x7, y7, ss, N1, M1, N2, N3, N4, N5, rfl, g1, g2, g3, g4, g5, g6, rfl, o1, o2, o3, o4, o5, o6⟩ <;> (try simp only [List.cons_append, List.nil_append, List.append_assoc])) | ((first | apply w9 | apply y8 | apply x8 | apply p4 | apply n0); exact rfl; exact rfl) | (apply w7; first | refine u9 (h := ?_) | refine y9 (h := ?_) | refine w8 (h := ?_) | refine q6 (h := ?_) | refine q0 (h := ?_)) | ((first | apply p3 | apply o8 | apply l0 | apply l8 | apply p0 | apply zp4); exact rfl; exact rfl; exact rfl) | (apply q7; first | refine q8 (h := ?_) | refine q9 (h := ?_)) | ((first | apply s9 | apply x9 | apply z8 | apply s7 | apply s8 | apply w4 | apply z9 | apply w5)) | ((first | apply w6 | apply z6 | apply z0 | apply p5 | apply y0 | apply z7)) | (apply za6; try simp only [za9, List.cons_append, List.nil_append]) | ((first | apply i9 | apply n9 | apply m5); exact rfl; exact rfl) | (apply m0; first | refine k8 (h := ?_) | refine p7 (h := ?_) | refine m6 (h := ?_) | refine d8 (h := ?_) | refine d7 (h := ?_)) | ((first | apply ze6 | apply zh4 | apply zi4 | apply zr1 | apply ze2); exact rfl; exact rfl; exact rfl) | (apply zs3; first | refine zq0 (h := ?_)) | (apply zD9; exact rfl; intro _))
      apply p8; apply zb0 Try.results39; exact rV_; intro w' hw
      exact ⟨_, _, rfl, hmiss, hw.sub (by unfold zq7; simp only [List.cons_append, List.nil_append, List.append_assoc]; exact hS_)⟩
  subst hk0
  have et : tailF h m y items start fin sl (res, 0) = (⟨y.id, start, fin, items, sl, res⟩, ⟨Plt.zf1 y.id 0 res.stackers h.rows, ze8 y.id fin h.ends, ze8 m.id fin h.free⟩) := by unfold tailF; rw [if_neg (by simp)]
  rw [et]
  clear et
  repeat' (first | (apply v9; exact rfl; exact dF_) | ((apply p6 (id := 22) [(7, fun v N => ∃ a c, v = .slice a items.length c ∧ OW 186 2 zo0 (.slice a items.length c) (items.map (Plt.zb9 stops y)) N ∧ ∀ x ∈ N, x.own = true), (8, yz0 res 0)]); kernel_rfl; kernel_rfl) | ((first | ((apply f5 (f := 57)); exact rfl) | ((apply d6 (f := 57)); exact rfl; exact rfl; exact sJ_)); exact eV_; exact (fun w hw => zI0 w (hw.at (by exact aT_)) (hw.at (by exact aT_)) hsn (hyV.keep hw (by exact aO_)) (hI.sv j8 (by exact rL_) hw) (by omega)); rintro v NF ⟨af, cf, rfl, hF, oF⟩ <;> (try simp only [List.cons_append, List.nil_append])) | ((first | ((apply f5 (f := 50)); exact rfl) | ((apply d6 (f := 50)); exact rfl; exact rfl; exact sJ_)); exact eV_; exact (fun w hw => zS5 hres w (hmc.keep hw (by exact aO_)) (hF.sv zl0 (by exact rL_) hw)); rintro v NR ⟨x3, y3, x4, y4, x5, y5, x6, y6, x7, y7, ss, N1, M1, N2, N3, N4, N5, rfl, g1, g2, g3, g4, g5, g6, rfl, o1, o2, o3, o4, o5, o6⟩ <;> (try simp only [List.cons_append, List.nil_append, List.append_assoc])) | ((first | apply w9 | apply y8 | apply x8 | apply p4 | apply n0); exact rfl; exact rfl) | (apply w7; first | refine u9 (h := ?_) | refine y9 (h := ?_) | refine w8 (h := ?_) | refine q6 (h := ?_) | refine q0 (h := ?_)) | ((first | apply p3 | apply o8 | apply l0 | apply l8 | apply p0 | apply zp4); exact rfl; exact rfl; exact rfl) | (apply q7; first | refine q8 (h := ?_) | refine q9 (h := ?_)) | (apply o9; infer_instance; exact rfl; exact rfl) | ((first | apply s9 | apply x9 | apply z8 | apply s7 | apply s8 | apply w4 | apply z9 | apply w5)) | ((first | apply w6 | apply z6 | apply z0 | apply p5 | apply y0 | apply z7)) | (apply za6; try simp only [za9, List.cons_append, List.nil_append]) | ((first | apply i9 | apply n9 | apply m5); exact rfl; exact rfl) | (apply m0; first | refine k8 (h := ?_) | refine p7 (h := ?_) | refine m6 (h := ?_) | refine d8 (h := ?_) | refine d7 (h := ?_)) | ((first | apply ze6 | apply zh4 | apply zi4 | apply zr1 | apply ze2); exact rfl; exact rfl; exact rfl) | (apply zs3; first | refine zq0 (h := ?_)) | (apply zD9; exact rfl; intro _))
  have hssl := g2.len
  have hgb : res.stackers.length ≤ 9223372036854775807 := by
    obtain ⟨_, _, e, hgb, -⟩ := g1.open
    rw [← hssl]; exact hgb.2
  simp only [List.append_assoc, List.cons_append, List.nil_append]
  apply j9 (σ := Nat) (Fs := fun k => [(155, .int .i64 k), (154, .int .i64 res.stackers.length), (153, .slice x3 res.stackers.length y3), (13, ptr b13), (6, ptr b6), (4, ptr b4), (3, ptr b3), (0, ptr bh)])
    (Ls := fun k => ⟨b13, Ce [.int .i64 y.id, .int .i64 start, .int .i64 fin, .slice ai items.length ci, .slice asl (Plt.zd6 y.id sl).length csl, .slice x3 res.stackers.length y3, .slice x4 res.swept.length y4, .slice x5 res.over.length y5, .slice x6 res.rej.length y6, .slice x7 res.evs.length y7] 74, true⟩ :: ⟨b6, Ce [.int .i64 m.id, .int .i64 m.sweeps, .int .i64 m.rate, .slice x1 k1 z1, .slice x2 k2 z2] 67, true⟩ :: ⟨b4, Ce [.int .i64 0, .int .i64 0, .int .i64 0, .slice none 0 0, .slice none 0 0, .slice none 0 0, .slice none 0 0, .slice none 0 0, .slice none 0 0, .slice none 0 0] 74, true⟩ :: ⟨b3, Ce [.int .i64 y.id, .int .i64 y.mach, .int .i64 y.rel, .slice a1 y.src.length c1, .slice a2 n2 c2, .slice a3 n3 c3] 49, true⟩ :: ⟨bh, Ce [.map (some bm), .map (some bs), .map (some bi), .map (some be), .map (some bf)] 136, true⟩ :: ⟨bm, MO (MM kI vM ml), true⟩ :: ⟨bs, MO (MM kI kI stops), true⟩ :: ⟨bi, MO (MM kP sdV (Plt.zf1 y.id 0 (ss.take k) its)), true⟩ :: ⟨be, MO (MM kI kI h.ends), true⟩ :: ⟨bf, MO (MM kI kI h.free), true⟩ :: (NX ++ (NI ++ (NSL ++ (N1 ++ (M1 ++ (N2 ++ (N3 ++ (N4 ++ (N5 ++ (L0 ++ [])))))))))))
    (I := fun k => k ≤ ss.length) (μ := fun k => ss.length - k) (s0 := 0)
  · exact Nat.zero_le _
  · exact fS_
  · simp only [List.take_zero, Plt.zf1]; exact hS_
  intro k hk
  have hk : k ≤ ss.length := hk
  by_cases hlt : k < ss.length
  · obtain ⟨⟨sa, sn, sc⟩, hx⟩ : ∃ s, ss[k]? = some s := ⟨_, List.getElem?_eq_getElem hlt⟩
    obtain ⟨br, sr, rfl, rfl⟩ := OW.some g1 (by omega)
    have gS : (ss.flatMap encS ++ sr).toArray[0 + k * 1]? = some (.slice sa sn sc) := (Pat.flat zl1 ss sr).one hx rfl
    have hput : Plt.zf1 y.id 0 (ss.take (k + 1)) its = ze8 (y.id, (k : Int)) (sa, sn, sc) (Plt.zf1 y.id 0 (ss.take k) its) := by
      rw [take_snoc hx, Plt.zI4, List.length_take, Nat.min_eq_left (by omega), Nat.zero_add]
    have hnod := Plt.zm7 y.id (ss.take k) 0 its hin
    simp only [List.cons_append, List.nil_append]
    as_aux_lemma =>
      repeat' (first | (apply v8; exact rfl; exact dT_) | ((apply zg0 (id := 29) [] 9); kernel_rfl; kernel_rfl; simp only [List.take_succ_cons, List.take_zero, List.drop_succ_cons, List.drop_zero]) | ((apply zm6 (κ := kP) (ν := sdV) (k := (y.id, (k : Int))) (v := (sa, sn, sc))); infer_instance; infer_instance; exact rfl; exact rfl; exact rfl; exact aT_; assumption; exact uP_) | ((first | apply w9 | apply y8 | apply x8 | apply p4 | apply n0); exact rfl; exact rfl) | (apply w7; first | refine u9 (h := ?_) | refine y9 (h := ?_) | refine w8 (h := ?_) | refine q6 (h := ?_) | refine q0 (h := ?_)) | ((first | apply p3 | apply o8 | apply l0 | apply l8 | apply p0 | apply zp4); exact rfl; exact rfl; exact rfl) | ((first | apply j0 | apply ze5); exact rfl; exact rfl; exact rfl; (constructor <;> omega)) | (apply m8; infer_instance; infer_instance; exact rfl; exact rfl; (first | exact rfl | omega); exact rfl; (first | assumption | omega | decide)) | ((first | apply s9 | apply x9 | apply z8 | apply s7 | apply s8 | apply w4 | apply z9 | apply w5)) | ((first | apply w6 | apply z6 | apply z0 | apply p5 | apply y0 | apply z7)) | (apply za6; try simp only [za9, List.cons_append, List.nil_append]) | ((first | apply i9 | apply n9 | apply m5); exact rfl; exact rfl) | (apply m0; first | refine k8 (h := ?_) | refine p7 (h := ?_) | refine m6 (h := ?_) | refine d8 (h := ?_) | refine d7 (h := ?_)) | (apply zx1; first | refine zD2 (h := ?_)) | (apply zb1; refine zb5 (h := ?_)))
      refine o0 (k + 1) (by omega) (by omega) ?_ ?_
      · exact fS_
      · (try dsimp only); rw [hput]; exact hS_
  obtain rfl : k = ss.length := by omega
  rw [List.take_length]
  have hE1 : (h.ends ++ [(y.id, (0 : Int))])[h.ends.length]? = some (y.id, 0) := by simp
  have hE2 : (h.ends ++ [(y.id, (0 : Int))]).set h.ends.length (y.id, fin) = ze8 y.id fin h.ends := by rw [zl4 hnew]; simp
  have hfin := hrunφ.done (bh := bh) (bm := bm) (bs := bs) (bi := bi) (be := be) (bf := bf) (ml := ml) (stops := stops) (m := m) (start := start) (fin := fin) hin hrow hrow0 hI hSl g1 g2 g3 g4 g5 g6
  cases ho : asF m.id h.free with
  | none =>
    have hF1 : (h.free ++ [(m.id, (0 : Int))])[h.free.length]? = some (m.id, 0) := by simp
    have hF2 : (h.free ++ [(m.id, (0 : Int))]).set h.free.length (m.id, fin) = ze8 m.id fin h.free := by rw [zl4 ho]; simp
    as_aux_lemma =>
      repeat' (first | (apply v9; exact rfl; exact dF_) | ((apply zv0 (κ := kI) (ν := kI) (k := y.id) (v := (0 : Int)) (z := .int .i64 0)); exact rfl; infer_instance; infer_instance; infer_instance; exact rfl; exact rfl; exact aT_; exact hnew; exact uP_; exact rfl) | ((apply zl9 (κ := kI) (ν := kI) (j := h.ends.length) (l := h.ends ++ [(y.id, (0 : Int))]) (l2 := ze8 y.id fin h.ends) y.id 0 fin); exact rfl; exact rfl; exact rfl; exact aT_; exact hE1; exact hE2; exact uP_) | ((apply zv0 (κ := kI) (ν := kI) (k := m.id) (v := (0 : Int)) (z := .int .i64 0)); exact rfl; infer_instance; infer_instance; infer_instance; exact rfl; exact rfl; exact aT_; exact ho; exact uP_; exact rfl) | ((apply zl9 (κ := kI) (ν := kI) (j := h.free.length) (l := h.free ++ [(m.id, (0 : Int))]) (l2 := ze8 m.id fin h.free) m.id 0 fin); exact rfl; exact rfl; exact rfl; exact aT_; exact hF1; exact hF2; exact uP_) | ((apply zw1 (id := 31) (⟨b13, Ce [.int .i64 y.id, .int .i64 start, .int .i64 fin, .slice ai items.length ci, .slice asl (Plt.zd6 y.id sl).length csl, .slice x3 res.stackers.length y3, .slice x4 res.swept.length y4, .slice x5 res.over.length y5, .slice x6 res.rej.length y6, .slice x7 res.evs.length y7] 74, true⟩ :: ⟨b6, Ce [.int .i64 m.id, .int .i64 m.sweeps, .int .i64 m.rate, .slice x1 k1 z1, .slice x2 k2 z2] 67, true⟩ :: ⟨b3, Ce [.int .i64 y.id, .int .i64 y.mach, .int .i64 y.rel, .slice a1 y.src.length c1, .slice a2 n2 c2, .slice a3 n3 c3] 49, true⟩ :: ⟨bh, Ce [.map (some bm), .map (some bs), .map (some bi), .map (some be), .map (some bf)] 136, true⟩ :: []) 22); kernel_rfl; kernel_rfl; exact hS_) | ((apply i8 (fq := 21) (m := 0) (k := 0) (m' := 1)); kernel_rfl; exact rfl; kernel_rfl) | ((apply i8 (fq := 20) (m := 1) (k := 1) (m' := 3)); kernel_rfl; exact rfl; kernel_rfl) | ((apply i8 (fq := 19) (m := 3) (k := 2) (m' := 7)); kernel_rfl; exact rfl; kernel_rfl) | ((apply i8 (fq := 18) (m := 7) (k := 3) (m' := 15)); kernel_rfl; exact rfl; kernel_rfl) | ((apply i8 (fq := 17) (m := 15) (k := 4) (m' := 31)); kernel_rfl; exact rfl; kernel_rfl) | ((apply i8 (fq := 16) (m := 31) (k := 5) (m' := 63)); kernel_rfl; exact rfl; kernel_rfl) | ((apply i8 (fq := 15) (m := 63) (k := 6) (m' := 127)); kernel_rfl; exact rfl; kernel_rfl) | ((apply i8 (fq := 14) (m := 127) (k := 7) (m' := 255)); kernel_rfl; exact rfl; kernel_rfl) | ((apply i8 (fq := 13) (m := 255) (k := 8) (m' := 511)); kernel_rfl; exact rfl; kernel_rfl) | ((apply i8 (fq := 12) (m := 511) (k := 9) (m' := 1023)); kernel_rfl; exact rfl; kernel_rfl) | ((apply i8 (fq := 11) (m := 1023) (k := 10) (m' := 2047)); kernel_rfl; exact rfl; kernel_rfl) | ((apply i8 (fq := 10) (m := 2047) (k := 11) (m' := 4095)); kernel_rfl; exact rfl; kernel_rfl) | ((apply i8 (fq := 9) (m := 4095) (k := 12) (m' := 8191)); kernel_rfl; exact rfl; kernel_rfl) | ((apply i8 (fq := 8) (m := 8191) (k := 13) (m' := 16383)); kernel_rfl; exact rfl; kernel_rfl) | ((apply i8 (fq := 7) (m := 16383) (k := 14) (m' := 32767)); kernel_rfl; exact rfl; kernel_rfl) | ((apply i8 (fq := 6) (m := 32767) (k := 15) (m' := 65535)); kernel_rfl; exact rfl; kernel_rfl) | ((apply zd7 (fq := 5) (m := 65535) (k1 := 16) (m1 := 131071)); kernel_rfl; exact rfl; kernel_rfl) | ((apply i8 (fq := 4) (m := 131071) (k := 17) (m' := 262143)); kernel_rfl; exact rfl; kernel_rfl) | ((apply zd7 (fq := 3) (m := 262143) (k1 := 18) (m1 := 524287)); kernel_rfl; exact rfl; kernel_rfl) | ((apply zd7 (fq := 2) (m := 524287) (k1 := 19) (m1 := 1048575)); kernel_rfl; exact rfl; kernel_rfl) | ((apply i8 (fq := 1) (m := 1048575) (k := 20) (m' := 2097151)); kernel_rfl; exact rfl; kernel_rfl) | ((apply zd7 (fq := 0) (m := 2097151) (k1 := 21) (m1 := 4194303)); kernel_rfl; exact rfl; kernel_rfl) | (apply zO6; kernel_rfl) | (apply yt9; exact hS_) | ((first | apply zO7 | apply zA8 | apply zF4); exact rfl; exact rfl) | (apply yu0; infer_instance; exact rfl; exact kN_; exact nT_; exact rfl) | ((first | apply zU9); exact rfl; exact rfl; exact rfl) | (apply w7; first | refine u9 (h := ?_) | refine y9 (h := ?_) | refine w8 (h := ?_) | refine q6 (h := ?_) | refine q0 (h := ?_)) | ((first | apply p3 | apply o8 | apply l0 | apply l8 | apply p0 | apply zp4); exact rfl; exact rfl; exact rfl) | (apply q7; first | refine q8 (h := ?_) | refine q9 (h := ?_)) | ((first | apply s9 | apply x9 | apply z8 | apply s7 | apply s8 | apply w4 | apply z9 | apply w5)) | ((first | apply w6 | apply z6 | apply z0 | apply p5 | apply y0 | apply z7)))
      apply p8; apply zb0 Try.results39; exact rV_; intro w' hw
      exact ⟨_, _, rfl, hfin, hw.sub (by unfold zq7; simp only [List.cons_append, List.nil_append, List.append_assoc]; exact hS_)⟩
  | some fv =>
    obtain ⟨jf, hF1⟩ := zm4 ho
    have hF2 : h.free.set jf (m.id, fin) = ze8 m.id fin h.free := (zI3 hfn hF1).symm
    as_aux_lemma =>
      repeat' (first | (apply v9; exact rfl; exact dF_) | ((apply zv0 (κ := kI) (ν := kI) (k := y.id) (v := (0 : Int)) (z := .int .i64 0)); exact rfl; infer_instance; infer_instance; infer_instance; exact rfl; exact rfl; exact aT_; exact hnew; exact uP_; exact rfl) | ((apply zl9 (κ := kI) (ν := kI) (j := h.ends.length) (l := h.ends ++ [(y.id, (0 : Int))]) (l2 := ze8 y.id fin h.ends) y.id 0 fin); exact rfl; exact rfl; exact rfl; exact aT_; exact hE1; exact hE2; exact uP_) | ((apply zQ9 (κ := kI) (ν := kI) (k := m.id) (v := fv) (j := jf)); infer_instance; infer_instance; exact rfl; exact rfl; exact aT_; exact hfn; exact hF1; exact uP_; exact rfl) | ((apply zl9 (κ := kI) (ν := kI) (j := jf) (l := h.free) (l2 := ze8 m.id fin h.free) m.id fv fin); exact rfl; exact rfl; exact rfl; exact aT_; exact hF1; exact hF2; exact uP_) | ((apply zw1 (id := 31) (⟨b13, Ce [.int .i64 y.id, .int .i64 start, .int .i64 fin, .slice ai items.length ci, .slice asl (Plt.zd6 y.id sl).length csl, .slice x3 res.stackers.length y3, .slice x4 res.swept.length y4, .slice x5 res.over.length y5, .slice x6 res.rej.length y6, .slice x7 res.evs.length y7] 74, true⟩ :: ⟨b6, Ce [.int .i64 m.id, .int .i64 m.sweeps, .int .i64 m.rate, .slice x1 k1 z1, .slice x2 k2 z2] 67, true⟩ :: ⟨b3, Ce [.int .i64 y.id, .int .i64 y.mach, .int .i64 y.rel, .slice a1 y.src.length c1, .slice a2 n2 c2, .slice a3 n3 c3] 49, true⟩ :: ⟨bh, Ce [.map (some bm), .map (some bs), .map (some bi), .map (some be), .map (some bf)] 136, true⟩ :: []) 22); kernel_rfl; kernel_rfl; exact hS_) | ((apply i8 (fq := 21) (m := 0) (k := 0) (m' := 1)); kernel_rfl; exact rfl; kernel_rfl) | ((apply i8 (fq := 20) (m := 1) (k := 1) (m' := 3)); kernel_rfl; exact rfl; kernel_rfl) | ((apply i8 (fq := 19) (m := 3) (k := 2) (m' := 7)); kernel_rfl; exact rfl; kernel_rfl) | ((apply i8 (fq := 18) (m := 7) (k := 3) (m' := 15)); kernel_rfl; exact rfl; kernel_rfl) | ((apply i8 (fq := 17) (m := 15) (k := 4) (m' := 31)); kernel_rfl; exact rfl; kernel_rfl) | ((apply i8 (fq := 16) (m := 31) (k := 5) (m' := 63)); kernel_rfl; exact rfl; kernel_rfl) | ((apply i8 (fq := 15) (m := 63) (k := 6) (m' := 127)); kernel_rfl; exact rfl; kernel_rfl) | ((apply i8 (fq := 14) (m := 127) (k := 7) (m' := 255)); kernel_rfl; exact rfl; kernel_rfl) | ((apply i8 (fq := 13) (m := 255) (k := 8) (m' := 511)); kernel_rfl; exact rfl; kernel_rfl) | ((apply i8 (fq := 12) (m := 511) (k := 9) (m' := 1023)); kernel_rfl; exact rfl; kernel_rfl) | ((apply i8 (fq := 11) (m := 1023) (k := 10) (m' := 2047)); kernel_rfl; exact rfl; kernel_rfl) | ((apply i8 (fq := 10) (m := 2047) (k := 11) (m' := 4095)); kernel_rfl; exact rfl; kernel_rfl) | ((apply i8 (fq := 9) (m := 4095) (k := 12) (m' := 8191)); kernel_rfl; exact rfl; kernel_rfl) | ((apply i8 (fq := 8) (m := 8191) (k := 13) (m' := 16383)); kernel_rfl; exact rfl; kernel_rfl) | ((apply i8 (fq := 7) (m := 16383) (k := 14) (m' := 32767)); kernel_rfl; exact rfl; kernel_rfl) | ((apply i8 (fq := 6) (m := 32767) (k := 15) (m' := 65535)); kernel_rfl; exact rfl; kernel_rfl) | ((apply zd7 (fq := 5) (m := 65535) (k1 := 16) (m1 := 131071)); kernel_rfl; exact rfl; kernel_rfl) | ((apply i8 (fq := 4) (m := 131071) (k := 17) (m' := 262143)); kernel_rfl; exact rfl; kernel_rfl) | ((apply zd7 (fq := 3) (m := 262143) (k1 := 18) (m1 := 524287)); kernel_rfl; exact rfl; kernel_rfl) | ((apply zd7 (fq := 2) (m := 524287) (k1 := 19) (m1 := 1048575)); kernel_rfl; exact rfl; kernel_rfl) | ((apply i8 (fq := 1) (m := 1048575) (k := 20) (m' := 2097151)); kernel_rfl; exact rfl; kernel_rfl) | ((apply zd7 (fq := 0) (m := 2097151) (k1 := 21) (m1 := 4194303)); kernel_rfl; exact rfl; kernel_rfl) | (apply zO6; kernel_rfl) | (apply yt9; exact hS_) | ((first | apply zO7 | apply zA8 | apply zF4); exact rfl; exact rfl) | (apply yu0; infer_instance; exact rfl; exact kN_; exact nT_; exact rfl) | ((first | apply zU9); exact rfl; exact rfl; exact rfl) | (apply w7; first | refine u9 (h := ?_) | refine y9 (h := ?_) | refine w8 (h := ?_) | refine q6 (h := ?_) | refine q0 (h := ?_)) | ((first | apply p3 | apply o8 | apply l0 | apply l8 | apply p0 | apply zp4); exact rfl; exact rfl; exact rfl) | (apply q7; first | refine q8 (h := ?_) | refine q9 (h := ?_)) | ((first | apply s9 | apply x9 | apply z8 | apply s7 | apply s8 | apply w4 | apply z9 | apply w5)) | ((first | apply w6 | apply z6 | apply z0 | apply p5 | apply y0 | apply z7)))
      apply p8; apply zb0 Try.results39; exact rV_; intro w' hw
      exact ⟨_, _, rfl, hfin, hw.sub (by unfold zq7; simp only [List.cons_append, List.nil_append, List.append_assoc]; exact hS_)⟩
end Go.Proofs.Ytdahckhlfldkkaa
namespace Go.Sx.Plt
def yH5 (ms : List zb6) (stops : List (Int × Int)) (h : Hall) (y : za3) : Hall := (zd0 h (zr8 ms y.mach) stops y).2
def za0 (p : g8) (i : Nat) : Hall := (p.passes.take i).foldl (yH5 p.ms (zc0 p.items)) (zx3 p)
theorem zq6 (p : g8) : za0 p 0 = zx3 p := by simp [za0]
theorem zB2 {p : g8} {i : Nat} {y : za3} (h : p.passes[i]? = some y) : za0 p (i + 1) = (zd0 (za0 p i) (zr8 p.ms y.mach) (zc0 p.items) y).2 := by
  rw [za0, List.take_add_one, h, Option.toList_some, List.foldl_append]; rfl
theorem zX5 (ms : List zb6) (stops : List (Int × Int)) : ∀ (l : List za3) (h : Hall) (i : Nat) (y : za3), l[i]? = some y → (zS1 ms stops h l)[i]? = some (zd0 ((l.take i).foldl (yH5 ms stops) h) (zr8 ms y.mach) stops y).1
  | [], _, _, _, h => by simp at h
  | a :: l, h, 0, y, hy => by simp at hy; subst hy; simp [zS1]
  | a :: l, h, i + 1, y, hy => by
    rw [zS1, List.getElem?_cons_succ, List.take_succ_cons, List.foldl_cons]
    exact zX5 ms stops l _ i y (by simpa using hy)
theorem zX6 (ms : List zb6) (stops : List (Int × Int)) : ∀ (l : List za3) (h : Hall), (zS1 ms stops h l).length = l.length
  | [], _ => rfl
  | a :: l, h => by rw [zS1, List.length_cons, List.length_cons, zX6 ms stops l]
theorem zD8 {p : g8} {i : Nat} {y : za3} (h : p.passes[i]? = some y) : (za2 p)[i]? = some (zd0 (za0 p i) (zr8 p.ms y.mach) (zc0 p.items) y).1 := zX5 _ _ _ _ _ _ h
theorem zh6 (p : g8) : (za2 p).length = p.passes.length := zX6 _ _ _ _
structure Calm (p : g8) : Prop where
  valid : zc6 p = (0, 0)
  nd : (p.ms.map zb6.id).Nodup
  mach : ∀ (i : Nat) (y : za3), p.passes[i]? = some y → ∃ (j : Nat) (m : zb6), p.ms[j]? = some m ∧ m.id = y.mach ∧ zr8 p.ms y.mach = m ∧ (1 ≤ m.rate ∧ m.rate ≤ 1000)
  new : ∀ (i : Nat) (y : za3), p.passes[i]? = some y → asF y.id (za0 p i).ends = none
  ends : ∀ i, ((za0 p i).ends.map Prod.fst).Nodup ∧ ((za0 p i).free.map Prod.fst).Nodup
  len : ∀ (i : Nat) (y : za3), p.passes[i]? = some y → ∀ k, ((y.src.take k).flatMap (za0 p i).row).length ≤ 100000
  job : ∀ (i : Nat) (y : za3), p.passes[i]? = some y → ∀ ready items, za4 (za0 p i) (max y.rel ((asF (zr8 p.ms y.mach).id (za0 p i).free).getD 0)) [] y.src = some (ready, items) → items ≠ [] →
    zb7 [⟨y.id, ready, 1051898399, zb3 items.length (zr8 p.ms y.mach).rate⟩] (zr8 p.ms y.mach).shifts = (0, 0)
theorem zC8 (l : List Item) (x : Item) : zc0 (l ++ [x]) = ze8 x.id x.stop (zc0 l) := by simp [zc0]
theorem zI9 (l : List Item) : ((zc0 l).map Prod.fst).Nodup := by
  refine zn0 (p := fun l => ((zc0 l).map Prod.fst).Nodup) (by simp [zc0]) (fun l x h => ?_) l
  rw [zC8]; exact zg8 h
theorem zV0 : ∀ (l r : List Item) (m : List ((Int × Int) × List Int)), za1 m (l ++ r) = za1 (za1 m l) r
  | [], _, _ => rfl
  | x :: l, r, m => by rw [List.cons_append, za1, za1, zV0 l r]
theorem zy6 (m : List ((Int × Int) × List Int)) (l : List Item) (x : Item) : za1 m (l ++ [x]) = ze8 (0, x.batch) ((asF (0, x.batch) (za1 m l)).getD [] ++ [x.id]) (za1 m l) := by rw [zV0]; rfl
end Go.Sx.Plt
namespace Go.Sx
theorem yc1 {K V W : Type} [DecidableEq K] {k : K} : ∀ {ks : List K} {vs : List V} {ws : List W}, ks.length = vs.length → ks.length = ws.length → (asF k (ks.zip vs) = none ∧ asF k (ks.zip ws) = none) ∨ ∃ (j : Nat) (v : V) (u : W), ks[j]? = some k ∧ vs[j]? = some v ∧ ws[j]? = some u ∧ asF k (ks.zip vs) = some v ∧ asF k (ks.zip ws) = some u
  | [], _, _, _, _ => .inl ⟨rfl, rfl⟩
  | a :: ks, [], _, h, _ => by simp at h
  | a :: ks, v :: vs, [], _, h => by simp at h
  | a :: ks, v :: vs, u :: ws, h1, h2 => by
    by_cases e : a = k
    · subst e; exact .inr ⟨0, v, u, rfl, rfl, rfl, by simp [asF], by simp [asF]⟩
    · rcases yc1 (k := k) (ks := ks) (vs := vs) (ws := ws) (by simpa using h1) (by simpa using h2) with ⟨h3, h4⟩ | ⟨j, v', u', h3, h4, h5, h6, h7⟩
      · exact .inl ⟨by simp [asF, e, h3], by simp [asF, e, h4]⟩
      · exact .inr ⟨j + 1, v', u', by simpa using h3, by simpa using h4, by simpa using h5, by simp [asF, e, h6], by simp [asF, e, h7]⟩
theorem zT1 {K V : Type} {ks : List K} {vs : List V} (h : ks.length = vs.length) : (ks.zip vs).map Prod.fst = ks := by rw [List.map_fst_zip]; omega
theorem yc3 {K V : Type} {k : K} (v : V) : ∀ {ks : List K} {vs : List V} {j : Nat}, ks[j]? = some k → (ks.zip vs).set j (k, v) = ks.zip (vs.set j v)
  | [], _, _, h => by simp at h
  | a :: ks, [], j, h => by simp
  | a :: ks, u :: vs, 0, h => by simp at h; subst h; simp
  | a :: ks, u :: vs, j + 1, h => by
    simp only [List.zip_cons_cons, List.set_cons_succ]
    rw [yc3 v (by simpa using h)]
theorem yi1 {K V : Type} {ks : List K} {vs : List V} (h : ks.length = vs.length) (k : K) (v : V) : (ks ++ [k]).zip (vs ++ [v]) = ks.zip vs ++ [(k, v)] := by rw [List.zip_append h]; rfl
theorem yc2 {K V : Type} {ks : List K} {vs : List V} {j : Nat} {k : K} {v : V} (h1 : ks[j]? = some k) (h2 : vs[j]? = some v) : (ks.zip vs)[j]? = some (k, v) := by
  rw [List.getElem?_zip_eq_some]; exact ⟨h1, h2⟩
end Go.Sx
namespace Go.Proofs.Ytdahckhlfldkkaa
open Go Go.Sx Go.RowKit
attribute [local irreducible] WL WC WQ WR WB WF QB St Exit.then Exit.inBlock Exit.noGoto bodyPost roundPost zc1 YR RG BM Calls B zc7 ze3
def RunsV (w : World) (v : Value) (ds : List RD) (runs : List Plt.Run) : Prop := SV w 10 zG9 v ds ∧ ds.length = runs.length ∧ ∀ (i : Nat) (d : RD) (r : Plt.Run), ds[i]? = some d → runs[i]? = some r → RunV w d r
theorem RunsV.keep {w0 w : World} {L : List Ent} {v : Value} {ds : List RD} {runs : List Plt.Run} (h : RunsV w0 v ds runs) (hw : Rep w0 w L) (ho : AO L) : RunsV w v ds runs := by
  obtain ⟨h1, h2, h3⟩ := h
  exact ⟨h1.keep hw ho, h2, fun i d r hd hr => (h3 i d r hd hr).keep hw ho⟩
def ye7 (runs : List Plt.Run) (k : Int) (v : Value) (N : List Ent) : Prop := ∃ a c ds, v = .tuple #[.slice a runs.length c, .int .i64 k] ∧ (Shw N (fun w => RunsV w (.slice a runs.length c) ds runs) ∧ ds.length = runs.length) ∧ ∀ x ∈ N, x.own = true
def mlF (ds : List MD) : List (Int × MD) := ds.map fun d => (d.id, d)
theorem yw4 {ds : List MD} {i : Nat} {d : MD} (h : ds[i]? = some d) : mlF (ds.take (i + 1)) = mlF (ds.take i) ++ [(d.id, d)] := by rw [take_snoc h]; simp [mlF]
theorem zQ8 (ds : List MD) : (mlF ds).map Prod.fst = ds.map MD.id := by simp [mlF, Function.comp_def]
theorem yI8 {ds : List MD} {i : Nat} {d : MD} (hn : (ds.map MD.id).Nodup) (h : ds[i]? = some d) : asF d.id (mlF ds) = some d :=
  zA7 (j := i) (by rw [zQ8]; exact hn) (by rw [mlF, List.getElem?_map, h]; rfl)
theorem yv8 {ds : List MD} {ms : List Plt.zb6} {w : World} (hl : ds.length = ms.length) (h : ∀ (i : Nat) (d : MD) (m : Plt.zb6), ds[i]? = some d → ms[i]? = some m → MachV w d m) : ds.map MD.id = ms.map Plt.zb6.id := by
  apply List.ext_getElem?
  intro i
  rw [List.getElem?_map, List.getElem?_map]
  by_cases hi : i < ds.length
  · have e1 : ds[i]? = some ds[i] := List.getElem?_eq_getElem hi
    have e2 : ms[i]? = some (ms[i]'(hl ▸ hi)) := List.getElem?_eq_getElem _
    rw [e1, e2]
    have := (h i _ _ e1 e2).id
    simp [this]
  · rw [List.getElem?_eq_none (by omega), List.getElem?_eq_none (by omega)]; rfl
theorem zR5 {q : PlD} {p : Plt.g8} {i : Nat} {k : Int} (he : Plt.zc6 p = (i, k)) (hk : k ≠ 0) (w : World) (h : PlV w q p) : Calls Try.prog 16 #[plV q] w fun e w' => e = .returned (.tuple #[.slice none 0 0, .int .i64 k]) ∧ Below w.heap.size w w' := by
  obtain ⟨⟨a1, n1, c1⟩, ⟨a2, n2, c2⟩, ⟨a3, n3, c3⟩, ds, ys⟩ := q
  refine zd2 Try.func16 rfl Try.ntmps16 rfl (Rep.start w) ?_
  repeat' (first | (apply v8; exact rfl; exact dT_) | ((first | ((apply t8 (f := 14)); exact rfl) | ((apply t9 (f := 14)); exact rfl; kernel_rfl; exact rfl; exact sJ_)); exact eV_; exact (fun w hw => zS8 he w (h.keep hw (by exact aO_)))) | ((first | apply w9 | apply y8 | apply x8); exact rfl; exact rfl) | (apply w7; first | refine u9 (h := ?_) | refine y9 (h := ?_) | refine w8 (h := ?_) | refine q6 (h := ?_) | refine q0 (h := ?_)) | ((first | apply p3 | apply l8 | apply p0); exact rfl; exact rfl; exact rfl) | (apply zc5; exact rfl; exact rfl; exact rfl; intro _) | ((first | apply s9 | apply x9 | apply z8 | apply s7 | apply s8 | apply w4 | apply z9 | apply w5)) | ((first | apply w6 | apply z6 | apply z0 | apply p5 | apply y0 | apply z7)))
  apply p8; apply zf9 Try.results16; exact rV_; exact rV_; intro w' hw
  exact ⟨rfl, hw.below (by simp)⟩
set_option maxHeartbeats 8000000 in
set_option maxRecDepth 100000 in
theorem zs2 {q : PlD} {p : Plt.g8} (hc : Plt.Calm p) (w : World) (h : PlV w q p) : Calls Try.prog 16 #[plV q] w fun e w' => ∃ v N, e = .returned v ∧ ye7 (Plt.za2 p) 0 v N ∧ Rep w w' N ∧ ∀ x ∈ N, x.own = true := by
  have hV := h
  obtain ⟨⟨a1, n1, c1⟩, ⟨a2, n2, c2⟩, ⟨a3, n3, c3⟩, ds, ys⟩ := q
  obtain ⟨hM, hI, hP, lm, lp, hmach, hpass⟩ := h
  dsimp only [sdV, plV] at hM hI hP lm lp hmach hpass ⊢
  obtain ⟨_, _, e1, hc1, hop1⟩ := hM.open
  cases e1
  obtain ⟨_, _, e2, hc2, hop2⟩ := hI.open
  cases e2
  obtain ⟨_, _, e3, hc3, hop3⟩ := hP.open
  cases e3
  have hids := yv8 lm hmach
  have hdn : (ds.map MD.id).Nodup := by rw [hids]; exact hc.nd
  rw [lm] at hM hop1 hc1 ⊢
  rw [lp] at hP hop3 hc3 ⊢
  have hV2 : PlV w ⟨(a1, p.ms.length, c1), (a2, p.items.length, c2), (a3, p.passes.length, c3), ds, ys⟩ p := by
    refine ⟨?_, hI, ?_, lm, lp, hmach, hpass⟩
    · dsimp only [sdV]; exact hM
    · dsimp only [sdV]; exact hP
  clear hV
  have hvc := fun (w' : World) (L : List Ent) (hw : Rep w w' L) (ho : AO L) => (zS8 hc.valid w' (hV2.keep hw ho) : Calls Try.prog 14 #[.agg #[.slice a1 p.ms.length c1, .slice a2 p.items.length c2, .slice a3 p.passes.length c3]] w' _)
  have hsm : ¬ (20 < p.ms.length ∨ 2000 < p.items.length ∨ 60 < p.passes.length) := fun hb => by
    have := hc.valid
    unfold Plt.zc6 at this
    rw [if_pos hb] at this
    cases this
  refine zd2 Try.func16 rfl Try.ntmps16 rfl (Rep.start w) ?_
  repeat' (first | (apply v9; exact rfl; exact dF_) | ((first | ((apply t8 (f := 14)); exact rfl) | ((apply t9 (f := 14)); exact rfl; kernel_rfl; exact rfl; exact sJ_)); exact eV_; exact (fun w hw => hvc w _ hw (by exact aO_))) | ((first | apply w9 | apply y8 | apply x8); exact rfl; exact rfl) | (apply w7; first | refine u9 (h := ?_) | refine y9 (h := ?_) | refine w8 (h := ?_) | refine q6 (h := ?_) | refine q0 (h := ?_)) | ((first | apply p3 | apply l8 | apply p0); exact rfl; exact rfl; exact rfl) | ((first | apply o7 | apply c8); exact rfl; intro _) | (apply zc5; exact rfl; exact rfl; exact rfl; intro _) | (apply q7; first | refine q8 (h := ?_) | refine q9 (h := ?_)) | (apply g7; first | refine a8 (h := ?_)) | (apply o9; infer_instance; exact rfl; exact rfl) | ((first | apply s9 | apply x9 | apply z8 | apply s7 | apply s8 | apply w4 | apply z9 | apply w5)) | ((first | apply w6 | apply z6 | apply z0 | apply p5 | apply y0 | apply z7)))
  rename_i b1 bm bs bi be bf bh
  apply j9 (σ := Nat) (Fs := fun i => [(32, .int .i64 i), (31, .int .i64 p.ms.length), (30, .slice a1 p.ms.length c1), (6, ptr bh), (1, ptr b1)])
    (Ls := fun i => ⟨bh, Ce [.map (some bm), .map (some bs), .map (some bi), .map (some be), .map (some bf)] 136, true⟩ :: ⟨bm, MO (MM kI vM (mlF (ds.take i))), true⟩ :: ⟨bs, MO (MM kI kI []), true⟩ :: ⟨bi, MO (MM kP sdV []), true⟩ :: ⟨be, MO (MM kI kI []), true⟩ :: ⟨bf, MO (MM kI kI []), true⟩ :: ⟨b1, Ce [.slice a1 p.ms.length c1, .slice a2 p.items.length c2, .slice a3 p.passes.length c3] 26, true⟩ :: [])
    (I := fun i => i ≤ p.ms.length) (μ := fun i => p.ms.length - i) (s0 := 0)
  · exact Nat.zero_le _
  · exact fS_
  · exact hS_
  intro i hi
  have hi : i ≤ p.ms.length := hi
  by_cases hlt : i < p.ms.length
  · obtain ⟨d, hd⟩ : ∃ d, ds[i]? = some d := ⟨_, List.getElem?_eq_getElem (by omega)⟩
    obtain ⟨b, off, cc, e, fz, rfl, hk, hpt⟩ := hop1 (by omega)
    have esn := yw4 hd
    have hnd := List.Sublist.nodup (List.Sublist.map MD.id (List.take_sublist i ds)) hdn
    have hnk : ((mlF (ds.take i)).map Prod.fst).Nodup := by rw [zQ8]; exact hnd
    have hout : asF d.id (mlF (ds.take i)) = none := by
      rw [zj1]
      intro x hx e
      obtain ⟨d', hd', rfl⟩ := List.mem_map.1 hx
      obtain ⟨j, hj⟩ := List.getElem?_of_mem hd'
      rw [List.getElem?_take] at hj
      split at hj
      · rename_i hji
        obtain ⟨l1, f1⟩ := List.getElem?_eq_some_iff.1 hj
        obtain ⟨l2, f2⟩ := List.getElem?_eq_some_iff.1 hd
        have := List.pairwise_iff_getElem.1 hdn j i (by simpa using l1) (by simpa using l2) hji
        simp only [List.getElem_map, f1, f2] at this
        exact this e
      · cases hj
    have hput : ze8 d.id d (mlF (ds.take i)) = mlF (ds.take (i + 1)) := by rw [zl4 hout, esn]
    obtain ⟨id, sw, ra, ⟨x1, k1, z1⟩, ⟨x2, k2, z2⟩⟩ := d
    have g1 : ∀ j u, ([.int .i64 id, .int .i64 sw, .int .i64 ra, .slice x1 k1 z1, .slice x2 k2 z2] : List Value)[j]? = some u → cc[off + i * 5 + j]? = some u := hpt.get hd
    dsimp only at hput
    as_aux_lemma =>
      repeat' (first | (apply v8; exact rfl; exact dT_) | ((apply zm6 (κ := kI) (ν := vM) (k := id) (v := (⟨id, sw, ra, (x1, k1, z1), (x2, k2, z2)⟩ : MD))); infer_instance; infer_instance; exact rfl; exact rfl; exact rfl; exact aT_; assumption; exact uP_) | ((first | apply w9 | apply y8 | apply x8); exact rfl; exact rfl) | (apply w7; first | refine u9 (h := ?_) | refine y9 (h := ?_) | refine w8 (h := ?_) | refine q6 (h := ?_) | refine q0 (h := ?_)) | ((first | apply p3 | apply l8 | apply p0); exact rfl; exact rfl; exact rfl) | (apply j0; exact rfl; exact rfl; exact rfl; (constructor <;> omega)) | ((first | apply o7 | apply c8); exact rfl; intro _) | (apply q7; first | refine q8 (h := ?_) | refine q9 (h := ?_)) | (apply m8; infer_instance; infer_instance; exact rfl; exact rfl; (first | exact rfl | omega); exact rfl; (first | assumption | omega | decide)) | ((first | apply s9 | apply x9 | apply z8 | apply s7 | apply s8 | apply w4 | apply z9 | apply w5)) | ((first | apply w6 | apply z6 | apply z0 | apply p5 | apply y0 | apply z7)))
      refine o0 (i + 1) (by omega) (by omega) ?_ ?_
      · exact fS_
      · (try dsimp only); rw [← hput]; exact hS_
  obtain rfl : i = p.ms.length := by omega
  rw [← lm, List.take_length, lm]
  clear hop1
  repeat' (first | (apply v9; exact rfl; exact dF_) | ((first | apply w9 | apply y8 | apply x8); exact rfl; exact rfl) | (apply w7; first | refine u9 (h := ?_) | refine y9 (h := ?_) | refine w8 (h := ?_) | refine q6 (h := ?_) | refine q0 (h := ?_)) | ((first | apply p3 | apply l8 | apply p0); exact rfl; exact rfl; exact rfl) | (apply o9; infer_instance; exact rfl; exact rfl) | ((first | apply s9 | apply x9 | apply z8 | apply s7 | apply s8 | apply w4 | apply z9 | apply w5)) | ((first | apply w6 | apply z6 | apply z0 | apply p5 | apply y0 | apply z7)))
  apply j9 (σ := Nat × List (Int × Int) × List SD × List (List Int) × List Ent) (Fs := fun t => [(45, .int .i64 t.1), (44, .int .i64 p.items.length), (43, .slice a2 p.items.length c2), (6, ptr bh), (1, ptr b1)])
    (Ls := fun t => ⟨bh, Ce [.map (some bm), .map (some bs), .map (some bi), .map (some be), .map (some bf)] 136, true⟩ :: ⟨bm, MO (MM kI vM (mlF ds)), true⟩ :: ⟨bs, MO (MM kI kI (Plt.zc0 (p.items.take t.1))), true⟩ :: ⟨bi, MO (MM kP sdV (t.2.1.zip t.2.2.1)), true⟩ :: ⟨be, MO (MM kI kI []), true⟩ :: ⟨bf, MO (MM kI kI []), true⟩ :: (t.2.2.2.2 ++ (⟨b1, Ce [.slice a1 p.ms.length c1, .slice a2 p.items.length c2, .slice a3 p.passes.length c3] 26, true⟩ :: [])))
    (I := fun t => t.1 ≤ p.items.length ∧ (t.2.1.length = t.2.2.1.length ∧ t.2.1.length = t.2.2.2.1.length) ∧ t.2.1.Nodup ∧ Plt.za1 [] (p.items.take t.1) = t.2.1.zip t.2.2.2.1 ∧ LL 3 1 encI t.2.2.1 t.2.2.2.1 t.2.2.2.2 ∧ ∀ x ∈ t.2.2.2.1, x.length ≤ t.1)
    (μ := fun t => p.items.length - t.1) (s0 := (0, [], [], [], []))
  · exact ⟨Nat.zero_le _, ⟨rfl, rfl⟩, by simp, by simp [Plt.za1], LL.nil, by simp⟩
  · exact fS_
  · exact hS_
  rintro ⟨i, KS, sds, xss, M⟩ ⟨hi2, ⟨hks, hkx⟩, hkn, hbr, hLL, hxl⟩
  dsimp only at hi2 hks hkx hkn hbr hLL hxl ⊢
  have oM := hLL.own
  by_cases hlt : i < p.items.length
  · obtain ⟨⟨id, st, ba⟩, hx⟩ : ∃ s, p.items[i]? = some s := ⟨_, List.getElem?_eq_getElem hlt⟩
    obtain ⟨b, off, cc, e, fz, rfl, hk, hpt⟩ := hop2 (by omega)
    have g1 : ∀ j u, ([.int .i64 id, .int .i64 st, .int .i64 ba] : List Value)[j]? = some u → cc[off + i * 3 + j]? = some u := hpt.get hx
    have hst : ze8 id st (Plt.zc0 (p.items.take i)) = Plt.zc0 (p.items.take (i + 1)) := by rw [take_snoc hx, Plt.zC8]
    have hsn := Plt.zI9 (p.items.take i)
    have hbs : Plt.za1 [] (p.items.take (i + 1)) = ze8 (0, ba) ((asF (0, ba) (KS.zip xss)).getD [] ++ [id]) (KS.zip xss) := by rw [take_snoc hx, Plt.zy6, hbr]
    have hzn : ((KS.zip sds).map Prod.fst).Nodup := by rw [zT1 hks]; exact hkn
    have hzx : ((KS.zip xss).map Prod.fst).Nodup := by rw [zT1 hkx]; exact hkn
    rcases yc1 (k := ((0 : Int), ba)) hks hkx with ⟨ho, ho2⟩ | ⟨j, sd, xs, hj1, hj2, hj3, ho, ho2⟩
    · have h0 : OW 3 1 encI (.slice none 0 0) ([] : List Int) [] := OW.nil
      have hz1 : (KS.zip sds ++ [(((0 : Int), ba), nsd)])[(KS.zip sds).length]? = some ((0, ba), nsd) := by simp
      have hz2 : ∀ sd', (KS.zip sds ++ [(((0 : Int), ba), nsd)]).set (KS.zip sds).length ((0, ba), sd') = (KS ++ [(0, ba)]).zip (sds ++ [sd']) := fun sd' => by rw [yi1 hks]; simp
      have hkn2 : (KS ++ [((0 : Int), ba)]).Nodup := zl2 hkn (fun hh => by
        obtain ⟨j, hj⟩ := List.getElem?_of_mem hh
        have hjl := (List.getElem?_eq_some_iff.1 hj).1
        have := zA7 hzn (yc2 hj (List.getElem?_eq_getElem (by omega : j < sds.length)))
        rw [ho] at this; cases this)
      have hb2 : Plt.za1 [] (p.items.take (i + 1)) = (KS ++ [(0, ba)]).zip (xss ++ [[id]]) := by rw [hbs, ho2, zl4 ho2, yi1 hkx]; rfl
      have hxl2 : ∀ x ∈ xss ++ [[id]], x.length ≤ i + 1 := fun x hx => by
        rcases List.mem_append.1 hx with hx | hx
        · have := hxl x hx; omega
        · simp at hx; subst hx; simp
      as_aux_lemma =>
        repeat' (first | (apply v8; exact rfl; exact dT_) | ((apply zv0 (κ := kP) (ν := sdV) (k := ((0 : Int), ba)) (v := nsd) (z := .slice none 0 0)); exact rfl; infer_instance; infer_instance; infer_instance; exact rfl; exact rfl; exact aT_; assumption; exact uP_; exact rfl) | (apply zc4 (enc := encI) (ys := [(id)]); infer_instance; infer_instance; infer_instance; exact rfl; exact j8; exact zg4; exact rfl; exact rfl; exact rfl; assumption; exact rL_; (exact fun w hw => SV.lit [(id)] j8 hw (by exact aT_) rfl rfl (by decide)); (first | decide | (constructor <;> (try simp only [List.length_cons, List.length_nil]) <;> omega) | (constructor <;> simp <;> omega)); intro a_ cp_ N_ hO_; have oN_ := hO_.own; (try simp only [List.nil_append, List.append_assoc] at hO_); (try simp only [List.append_eq, List.append_assoc, List.cons_append, List.nil_append])) | ((apply zl9 (κ := kP) (ν := sdV) (j := (KS.zip sds).length) (l := KS.zip sds ++ [(((0 : Int), ba), nsd)]) ((0 : Int), ba) nsd (a_, [id].length, cp_)); exact rfl; exact rfl; exact rfl; exact aT_; exact hz1; exact rfl; exact uP_) | ((apply zm6 (κ := kI) (ν := kI) (k := id) (v := st)); infer_instance; infer_instance; exact rfl; exact rfl; exact rfl; exact aT_; assumption; exact uP_) | ((first | apply w9 | apply y8 | apply x8); exact rfl; exact rfl) | (apply w7; first | refine u9 (h := ?_) | refine y9 (h := ?_) | refine w8 (h := ?_) | refine q6 (h := ?_) | refine q0 (h := ?_)) | ((first | apply p3 | apply l8 | apply p0); exact rfl; exact rfl; exact rfl) | (apply j0; exact rfl; exact rfl; exact rfl; (constructor <;> omega)) | ((first | apply o7 | apply c8); exact rfl; intro _) | (apply q7; first | refine q8 (h := ?_) | refine q9 (h := ?_)) | (apply g7; first | refine a8 (h := ?_)) | (apply m9; refine l9 (h := fun _ => ?_)) | (apply m8; infer_instance; infer_instance; exact rfl; exact rfl; (first | exact rfl | omega); exact rfl; (first | assumption | omega | decide)) | ((first | apply s9 | apply x9 | apply z8 | apply s7 | apply s8 | apply w4 | apply z9 | apply w5)) | ((first | apply w6 | apply z6 | apply z0 | apply p5 | apply y0 | apply z7)))
        refine o0 (i + 1, KS ++ [(0, ba)], sds ++ [(a_, [id].length, cp_)], xss ++ [[id]], M ++ N_) ⟨by dsimp only; omega, ⟨by simp [hks], by simp [hkx]⟩, hkn2, hb2, hLL.snoc hO_, hxl2⟩ (by dsimp only; omega) ?_ ?_
        · exact fS_
        · dsimp only; rw [← hz2, ← hst]; simp only [List.append_assoc]; exact hS_
    · obtain ⟨sd1, N, MB1, MB2, z1, z2, rfl, z3, z4, z5⟩ := hLL.at hj3
      rw [hj2] at z1
      cases z1
      obtain ⟨sa, sn, sc⟩ := sd
      obtain ⟨_, _, ez, hzb, _⟩ := z2.open
      dsimp only [sdV] at ez
      cases ez
      have oN := z2.own
      have hxs := hxl xs (List.mem_of_getElem? hj3)
      have hz1 : (KS.zip sds)[j]? = some (((0 : Int), ba), (sa, xs.length, sc)) := yc2 hj1 hj2
      have hz2 : ∀ sd' : SD, (KS.zip sds).set j (((0 : Int), ba), sd') = KS.zip (sds.set j sd') := fun sd' => yc3 sd' hj1
      have hb2 : Plt.za1 [] (p.items.take (i + 1)) = KS.zip (xss.set j (xs ++ [id])) := by rw [hbs, ho2, Option.getD_some, zI3 hzx (yc2 hj1 hj3), yc3 _ hj1]
      have hxl2 : ∀ x ∈ xss.set j (xs ++ [id]), x.length ≤ i + 1 := fun x hx => by
        rcases List.mem_or_eq_of_mem_set hx with hx | rfl
        · have := hxl x hx; omega
        · simp; omega
      simp only [List.append_assoc]
      as_aux_lemma =>
        repeat' (first | (apply v8; exact rfl; exact dT_) | ((apply zQ9 (κ := kP) (ν := sdV) (k := ((0 : Int), ba)) (v := (sa, xs.length, sc)) (j := j)); infer_instance; infer_instance; exact rfl; exact rfl; exact aT_; assumption; exact hz1; exact uP_; exact rfl) | (apply zc4 (enc := encI) (ys := [(id)]); infer_instance; infer_instance; infer_instance; exact rfl; exact j8; exact zg4; exact rfl; exact rfl; exact rfl; assumption; exact rL_; (exact fun w hw => SV.lit [(id)] j8 hw (by exact aT_) rfl rfl (by decide)); (first | decide | (constructor <;> (try simp only [List.length_cons, List.length_nil]) <;> omega) | (constructor <;> simp <;> omega)); intro a_ cp_ N_ hO_; have oN_ := hO_.own; (try simp only [List.nil_append, List.append_assoc] at hO_); (try simp only [List.append_eq, List.append_assoc, List.cons_append, List.nil_append])) | ((apply zl9 (κ := kP) (ν := sdV) (j := j) (l := KS.zip sds) ((0 : Int), ba) (sa, xs.length, sc) (a_, (xs ++ [id]).length, cp_)); exact rfl; exact rfl; exact rfl; exact aT_; exact hz1; exact rfl; exact uP_) | ((apply zm6 (κ := kI) (ν := kI) (k := id) (v := st)); infer_instance; infer_instance; exact rfl; exact rfl; exact rfl; exact aT_; assumption; exact uP_) | ((first | apply w9 | apply y8 | apply x8); exact rfl; exact rfl) | (apply w7; first | refine u9 (h := ?_) | refine y9 (h := ?_) | refine w8 (h := ?_) | refine q6 (h := ?_) | refine q0 (h := ?_)) | ((first | apply p3 | apply l8 | apply p0); exact rfl; exact rfl; exact rfl) | (apply j0; exact rfl; exact rfl; exact rfl; (constructor <;> omega)) | ((first | apply o7 | apply c8); exact rfl; intro _) | (apply q7; first | refine q8 (h := ?_) | refine q9 (h := ?_)) | (apply g7; first | refine a8 (h := ?_)) | (apply m9; refine l9 (h := fun _ => ?_)) | (apply m8; infer_instance; infer_instance; exact rfl; exact rfl; (first | exact rfl | omega); exact rfl; (first | assumption | omega | decide)) | ((first | apply s9 | apply x9 | apply z8 | apply s7 | apply s8 | apply w4 | apply z9 | apply w5)) | ((first | apply w6 | apply z6 | apply z0 | apply p5 | apply y0 | apply z7)))
        refine o0 (i + 1, KS, sds.set j (a_, (xs ++ [id]).length, cp_), xss.set j (xs ++ [id]), MB1 ++ (N_ ++ MB2)) ⟨by dsimp only; omega, ⟨by simp [hks], by simp [hkx]⟩, hkn, hb2, z5 _ _ _ hO_, hxl2⟩ (by dsimp only; omega) ?_ ?_
        · exact fS_
        · dsimp only; rw [← hz2, ← hst]; simp only [List.append_assoc]; exact hS_
  obtain rfl : i = p.items.length := by omega
  rw [List.take_length] at hbr ⊢
  clear hop2
  have hz0 : (Plt.za0 p 0) = ⟨KS.zip xss, [], []⟩ := by rw [Plt.zq6, Plt.zx3, hbr]
  have hrow : ∀ s sd, asF s (KS.zip sds) = some sd → Shw M (fun w => SV w 1 encI (sdV sd) ((Plt.za0 p 0).row s)) := fun s sd hs => by
    rcases yc1 (k := s) hks hkx with ⟨ho, _⟩ | ⟨j, sd1, xs, hj1, hj2, hj3, ho, ho2⟩
    · rw [ho] at hs; cases hs
    · rw [ho] at hs; cases hs
      rw [hz0, Plt.Hall.row, ho2, Option.getD_some]
      exact (Shw.ll j8 hLL).mono fun w hsl => hsl.2 _ _ _ hj2 hj3
  have hrow0 : ∀ s, asF s (KS.zip sds) = none → (Plt.za0 p 0).row s = [] := fun s hs => by
    rcases yc1 (k := s) hks hkx with ⟨_, ho2⟩ | ⟨j, sd1, xs, hj1, hj2, hj3, ho, ho2⟩
    · rw [hz0, Plt.Hall.row, ho2]; rfl
    · rw [ho] at hs; cases hs
  have hin : ((KS.zip sds).map Prod.fst).Nodup := by rw [zT1 hks]; exact hkn
  have hen0 : (Plt.za0 p 0).ends = [] ∧ (Plt.za0 p 0).free = [] := by rw [hz0]; exact ⟨rfl, rfl⟩
  have hstn := Plt.zI9 p.items
  generalize hstp : Plt.zc0 p.items = stops at hstn ⊢
  generalize KS.zip sds = its0 at hrow hrow0 hin ⊢
  clear hbr hLL hz0 hkn hks hkx hxl
  repeat' (first | (apply v9; exact rfl; exact dF_) | ((first | apply w9 | apply y8 | apply x8); exact rfl; exact rfl) | (apply w7; first | refine u9 (h := ?_) | refine y9 (h := ?_) | refine w8 (h := ?_) | refine q6 (h := ?_) | refine q0 (h := ?_)) | ((first | apply p3 | apply l8 | apply p0); exact rfl; exact rfl; exact rfl) | (apply o9; infer_instance; exact rfl; exact rfl) | ((first | apply s9 | apply x9 | apply z8 | apply s7 | apply s8 | apply w4 | apply z9 | apply w5)) | ((first | apply w6 | apply z6 | apply z0 | apply p5 | apply y0 | apply z7)))
  apply j9 (σ := Nat × List ((Int × Int) × SD) × List Ent × List RD × (Option Addr × Nat) × List Ent) (Fs := fun t => [(72, .int .i64 t.1), (71, .int .i64 p.passes.length), (70, .slice a3 p.passes.length c3), (12, .slice t.2.2.2.2.1.1 t.2.2.2.1.length t.2.2.2.2.1.2), (6, ptr bh), (1, ptr b1)])
    (Ls := fun t => (zq7 bh bm bs bi be bf (mlF ds) stops t.2.1 (Plt.za0 p t.1).ends (Plt.za0 p t.1).free ++ t.2.2.1) ++ (t.2.2.2.2.2 ++ (⟨b1, Ce [.slice a1 p.ms.length c1, .slice a2 p.items.length c2, .slice a3 p.passes.length c3] 26, true⟩ :: [])))
    (I := fun t => (t.1 ≤ p.passes.length ∧ t.2.2.2.1.length = t.1) ∧ (t.2.1.map Prod.fst).Nodup ∧ (∀ x ∈ t.2.2.1, x.own = true) ∧ (∀ s sd, asF s t.2.1 = some sd → Shw t.2.2.1 (fun w => SV w 1 encI (sdV sd) ((Plt.za0 p t.1).row s))) ∧ (∀ s, asF s t.2.1 = none → (Plt.za0 p t.1).row s = []) ∧
      Shw t.2.2.1 (fun w => ∀ (k : Nat) (d : RD) (r : Plt.Run), t.2.2.2.1[k]? = some d → (Plt.za2 p)[k]? = some r → RunV w d r) ∧ OW 74 10 zG9 (.slice t.2.2.2.2.1.1 t.2.2.2.1.length t.2.2.2.2.1.2) t.2.2.2.1 t.2.2.2.2.2)
    (μ := fun t => p.passes.length - t.1) (s0 := (0, its0, M, [], (none, 0), []))
  · exact ⟨⟨Nat.zero_le _, rfl⟩, hin, oM, hrow, hrow0, (fun _ w _ _ _ _ k d r h => by simp at h), OW.nil⟩
  · exact fS_
  · (try dsimp only); rw [hen0.1, hen0.2]; unfold zq7; simp only [List.cons_append, List.nil_append]; exact hS_
  clear hrow hrow0 hin hen0
  rintro ⟨i, its, NX, rds, ⟨ar, cr⟩, NR⟩ ⟨⟨hi, hrl⟩, hin, oX, hrow, hrow0, hsh, hO⟩
  dsimp only at hi hrl hin oX hrow hrow0 hsh hO ⊢
  have oR := hO.own
  have oH := zW0 (bh := bh) (bm := bm) (bs := bs) (bi := bi) (be := be) (bf := bf) (ml := mlF ds) (stops := stops) (its := its) (ends := (Plt.za0 p i).ends) (free := (Plt.za0 p i).free)
  by_cases hlt : i < p.passes.length
  · obtain ⟨d, hd⟩ : ∃ d, ys[i]? = some d := ⟨_, List.getElem?_eq_getElem (by omega)⟩
    obtain ⟨y, hx⟩ : ∃ y, p.passes[i]? = some y := ⟨_, List.getElem?_eq_getElem hlt⟩
    have hpv := hpass i d y hd hx
    obtain ⟨b, off, cc, e, fz, rfl, hk, hpt⟩ := hop3 (by omega)
    obtain ⟨id, ma, re, ⟨x1, k1, z1⟩, ⟨x2, k2, z2⟩, ⟨x3, k3, z3⟩⟩ := d
    have g1 : ∀ j u, ([.int .i64 id, .int .i64 ma, .int .i64 re, .slice x1 k1 z1, .slice x2 k2 z2, .slice x3 k3 z3] : List Value)[j]? = some u → cc[off + i * 6 + j]? = some u := hpt.get hd
    obtain ⟨j, m, hj, hmid, hmf, hmr⟩ := hc.mach i y hx
    obtain ⟨md, hmd⟩ : ∃ md, ds[j]? = some md := ⟨_, List.getElem?_eq_getElem (by have := (List.getElem?_eq_some_iff.1 hj).1; omega)⟩
    have hmv := hmach j md m hmd hj
    have hmd2 : asF y.mach (mlF ds) = some md := by rw [← hmid, ← hmv.id]; exact yI8 hdn hmd
    have hmln : ((mlF ds).map Prod.fst).Nodup := by rw [zQ8]; exact hdn
    have hen := hc.ends i
    have hlen := hc.len i y hx
    have hnew := hc.new i y hx
    have hjob := hc.job i y hx
    rw [hmf] at hjob
    have hstep := Plt.zB2 hx
    have hget := Plt.zD8 hx
    rw [hmf, hstp] at hstep hget
    have hRnext : ∀ (NW : List Ent) (d : RD), Shw NW (fun w => RunV w d (Plt.zd0 (Plt.za0 p i) m stops y).1) → Shw (NW ++ NX) (fun w => ∀ (k : Nat) (d' : RD) (r : Plt.Run), (rds ++ [d])[k]? = some d' → (Plt.za2 p)[k]? = some r → RunV w d' r) := fun NW d hRV w0 w1 L L0 hr hw k d' r hk hr2 => by
      by_cases hki : k < rds.length
      · rw [List.getElem?_append_left hki] at hk
        exact (Shw.right hsh) w0 w1 L L0 hr hw k d' r hk hr2
      · have : k = rds.length := by
          have h := (List.getElem?_eq_some_iff.1 hk).1
          rw [List.length_append, List.length_singleton] at h
          omega
        subst this
        rw [List.getElem?_append_right (Nat.le_refl _), Nat.sub_self] at hk
        cases hk
        rw [hrl, hget] at hr2
        cases hr2
        exact (Shw.left hRV) w0 w1 L L0 hr hw
    have hrl60 : rds.length ≤ 60 := by omega
    as_aux_lemma =>
      repeat' (first | (apply v8; exact rfl; exact dT_) | ((apply zo6 (f := 39) (G := zq7 bh bm bs bi be bf (mlF ds) stops its (Plt.za0 p i).ends (Plt.za0 p i).free ++ NX) (Φ := hrunφ bh bm bs bi be bf (mlF ds) stops NX (Plt.zd0 (Plt.za0 p i) m stops y))); exact rfl; exact rfl; exact eV_; exact rL_; (exact fun w hw => by rw [Array.append_empty]; exact yj6 (show AO _ by exact aO_) oX hw hpv hmln hmd2 hmv hstn hin hen.1 hen.2 hrow hrow0 hmr hlen hnew hjob); rintro v G' ⟨⟨d1, d2, d3, ⟨u1, v1, t1⟩, ⟨u2, v2, t2⟩, ⟨u3, v3, t3⟩, ⟨u4, v4, t4⟩, ⟨u5, v5, t5⟩, ⟨u6, v6, t6⟩, ⟨u7, v7, t7⟩⟩, its', NW, rfl, rfl, oW, hin', hRV, hrow', hrow0'⟩; (have oH' := zW0 (bh := bh) (bm := bm) (bs := bs) (bi := bi) (be := be) (bf := bf) (ml := mlF ds) (stops := stops) (its := its') (ends := (Plt.zd0 (Plt.za0 p i) m stops y).2.ends) (free := (Plt.zd0 (Plt.za0 p i) m stops y).2.free)); unfold zA5; dsimp only [sdV]) | (apply zc4 (enc := zG9) (ys := [(⟨d1, d2, d3, (u1, v1, t1), (u2, v2, t2), (u3, v3, t3), (u4, v4, t4), (u5, v5, t5), (u6, v6, t6), (u7, v7, t7)⟩ : RD)]); infer_instance; infer_instance; infer_instance; exact rfl; exact zp2; exact zV5; exact rfl; exact rfl; exact rfl; assumption; exact rL_; (exact fun w hw => SV.lit [(⟨d1, d2, d3, (u1, v1, t1), (u2, v2, t2), (u3, v3, t3), (u4, v4, t4), (u5, v5, t5), (u6, v6, t6), (u7, v7, t7)⟩ : RD)] zp2 hw (by exact aT_) rfl rfl (by decide)); (first | decide | (constructor <;> (try simp only [List.length_cons, List.length_nil]) <;> omega) | (constructor <;> simp <;> omega)); intro a_ cp_ N_ hO_; have oN_ := hO_.own; (try simp only [List.nil_append, List.append_assoc] at hO_); (try simp only [List.append_eq, List.append_assoc, List.cons_append, List.nil_append])) | ((first | apply w9 | apply y8 | apply x8); exact rfl; exact rfl) | (apply w7; first | refine u9 (h := ?_) | refine y9 (h := ?_) | refine w8 (h := ?_) | refine q6 (h := ?_) | refine q0 (h := ?_)) | ((first | apply p3 | apply l8 | apply p0); exact rfl; exact rfl; exact rfl) | (apply j0; exact rfl; exact rfl; exact rfl; (constructor <;> omega)) | ((first | apply o7 | apply c8); exact rfl; intro _) | (apply q7; first | refine q8 (h := ?_) | refine q9 (h := ?_)) | (apply m9; refine l9 (h := fun _ => ?_)) | (apply m8; infer_instance; infer_instance; exact rfl; exact rfl; (first | exact rfl | omega); exact rfl; (first | assumption | omega | decide)) | ((first | apply s9 | apply x9 | apply z8 | apply s7 | apply s8 | apply w4 | apply z9 | apply w5)) | ((first | apply w6 | apply z6 | apply z0 | apply p5 | apply y0 | apply z7)))
      refine o0 (i + 1, its', NW ++ NX, rds ++ [(⟨d1, d2, d3, (u1, v1, t1), (u2, v2, t2), (u3, v3, t3), (u4, v4, t4), (u5, v5, t5), (u6, v6, t6), (u7, v7, t7)⟩ : RD)], (a_, cp_), N_) ⟨⟨by dsimp only; omega, by simp [hrl]⟩, hin', zc9 oW oX, by rw [hstep]; exact hrow', by rw [hstep]; exact hrow0', hRnext _ _ hRV, hO_⟩ (by dsimp only; omega) ?_ ?_
      · exact fS_
      · (try dsimp only); rw [hstep]; unfold zq7; simp only [List.append_assoc, List.cons_append, List.nil_append]; exact hS_
  obtain rfl : i = p.passes.length := by omega
  have hpl := Plt.zh6 p
  as_aux_lemma =>
    repeat' (first | (apply v9; exact rfl; exact dF_) | ((first | apply w9 | apply y8 | apply x8); exact rfl; exact rfl) | ((first | apply p3 | apply l8 | apply p0); exact rfl; exact rfl; exact rfl) | ((first | apply s9 | apply x9 | apply z8 | apply s7 | apply s8 | apply w4 | apply z9 | apply w5)) | ((first | apply w6 | apply z6 | apply z0 | apply p5 | apply y0 | apply z7)))
    apply p8; apply zf9 Try.results16; exact rV_; exact rV_; intro w' hw
    refine ⟨_, NX ++ NR, rfl, ⟨ar, cr, rds, by rw [hpl, hrl], ⟨?_, by rw [hrl, hpl]⟩, zc9 oX oR⟩, hw.sub (by exact hS_), zc9 oX oR⟩
    rw [hpl, ← hrl]
    exact fun w0 w1 L L0 hr hw => ⟨(Shw.right (Shw.ow zp2 hO)) w0 w1 L L0 hr hw, by rw [hrl, hpl], (Shw.left hsh) w0 w1 L L0 hr hw⟩
end Go.Proofs.Ytdahckhlfldkkaa
