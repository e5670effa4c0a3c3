/- A part of the proofs of this seat: a small logic of walks, plain laws, and what some of the program's functions compute, shown by walks through their code. Conditions: the hypotheses that each theorem names. -/
import Derived.Test.YthcoaljmgkhglaaZOTop3
import Derived.Test.YthcoaljmgkhglaaZOTop5
set_option linter.unusedSimpArgs false
set_option linter.unusedVariables false
set_option linter.unusedSectionVars false
namespace Go.Sx.Ref
/-- What is true of the points that i numbers have made. -/
structure PtsOk (i : Nat) (ps : List Pt) : Prop where
  along : Along ps
  len : ps.length ≤ i
  id : ∀ p ∈ ps, 901 - (i : Int) ≤ p.id ∧ p.id ≤ 900
  seq : ∀ p ∈ ps, 3000 ≤ p.seq ∧ p.seq < 3000 + 500 * (i : Int)
  num : ∀ p ∈ ps, 0 ≤ numF p ∧ numF p ≤ 255
theorem PtsOk.nil : PtsOk 0 [] := ⟨List.Pairwise.nil, Nat.le_refl _, by simp, by simp, by simp⟩
theorem PtsOk.next {i : Nat} {ps : List Pt} (h : PtsOk i ps) : PtsOk (i + 1) ps :=
  ⟨h.along, by have := h.len; omega, fun p hp => by have := h.id p hp; omega, fun p hp => by have := h.seq p hp; omega, h.num⟩
theorem PtsOk.mono {i j : Nat} {ps : List Pt} (h : PtsOk i ps) (hij : i ≤ j) : PtsOk j ps :=
  ⟨h.along, by have := h.len; omega, fun p hp => by have := h.id p hp; omega, fun p hp => by have := h.seq p hp; omega, h.num⟩
theorem PtsOk.more {i : Nat} {ps : List Pt} {p : Pt} (h : PtsOk i ps) (hid : p.id = 900 - (i : Int)) (hseq : 3000 + 500 * (i : Int) ≤ p.seq ∧ p.seq < 3500 + 500 * (i : Int)) (hnum : 0 ≤ numF p ∧ numF p ≤ 255) : PtsOk (i + 1) (ps ++ [p]) := by
  refine ⟨?_, by rw [List.length_append, List.length_singleton]; have := h.len; omega, fun q hq => ?_, fun q hq => ?_, fun q hq => ?_⟩
  · unfold Along
    rw [List.pairwise_append]
    refine ⟨h.along, by simp, fun a ha b hb => ?_⟩
    simp at hb; subst hb
    have := h.id a ha
    have := h.seq a ha
    omega
  · rcases List.mem_append.1 hq with hq | hq
    · have := h.id q hq; omega
    · simp at hq; subst hq; omega
  · rcases List.mem_append.1 hq with hq | hq
    · have := h.seq q hq; omega
    · simp at hq; subst hq; omega
  · rcases List.mem_append.1 hq with hq | hq
    · exact h.num q hq
    · simp at hq; subst hq; exact hnum
structure Tw where
  id : Int
  cty : Int
  name : List UInt8
  region : List UInt8
  codes : SD
  ys : List (List UInt8)
structure Sr where
  id : Int
  town : Int
  pre : List UInt8
  name : List UInt8
  suf : List UInt8
  ali : SD
end Go.Sx.Ref
namespace Go.Proofs.Ythcoaljmgkhglaa
open Go Go.Sx Go.RowKit
section
variable {r : Option Nat} {P : Program} {n : Nat} {D : List Deferred} {w0 : World} {F : List (Nat × Value)} {L : List Ent} {Q : Exit → Act → World → Prop} {ops : Array Oper}
variable {d : Tmp} {ty : TypeId} {pos : String} {af : Array Edge} {rest : List Oper}
theorem o_rem8E' {x y : Operand} {m l v : Int} {t u : TypeId} (hx : ev F x = some (.int .u8 m)) (hy : ev F y = some (.int .u8 l)) (e : m % l = v) (hr : 0 ≤ m ∧ 0 < l) (hd : Nat.ble (d + 1) n = true)
    (h : St n D w0 ((d, .int .u8 v) :: F) L (WL r P ops Q rest)) : St n D w0 F L (WL r P ops Q (⟨some d, .binOp .rem t x y u, ty, pos, af, none⟩ :: rest)) :=
  o_rem_w hx hy hd (by omega) (by rw [Int.tmod_eq_emod_of_nonneg hr.1, e]; exact h)
theorem o_conv16 {x : Operand} {m v : Int} {s t : TypeId} {ds : TypeDesc} (hS : TU P s ds) (hT : TU P t (.int .i64)) (hx : ev F x = some (.int .u16 m)) (e : m = v) (hr : 0 ≤ v ∧ v ≤ 65535) (hd : Nat.ble (d + 1) n = true)
    (h : St n D w0 ((d, .int .i64 v) :: F) L (WL r P ops Q rest)) : St n D w0 F L (WL r P ops Q (⟨some d, .convert s t x, ty, pos, af, none⟩ :: rest)) :=
  o_conv (ds := ds) hx hd (by rw [wrap_in (by omega) (by omega), e]; exact h)
end
attribute [local irreducible] WL WC WQ WR WB WF QB St Exit.then Exit.inBlock Exit.noGoto bodyPost roundPost beginK YR RG BM Calls B AgainD MeetD
def encStr (x : List UInt8) : List Value := [str x]
theorem encStr_len : ∀ x, (encStr x).length = 1 := fun _ => rfl
theorem encStr_one : ∀ x, (encStr x).all (·.oneCell') = true := fun _ => rfl
def encTw (t : Ref.Tw) : List Value := [.int .i64 t.id, .int .u8 t.cty, str t.name, str t.region, sdV t.codes]
theorem encTw_len : ∀ x, (encTw x).length = 5 := fun _ => rfl
theorem encTw_one : ∀ x, (encTw x).all (·.oneCell') = true := fun _ => rfl
def encSr (t : Ref.Sr) : List Value := [.int .i64 t.id, .int .i64 t.town, str t.pre, str t.name, str t.suf, sdV t.ali]
theorem encSr_len : ∀ x, (encSr x).length = 6 := fun _ => rfl
theorem encSr_one : ∀ x, (encSr x).all (·.oneCell') = true := fun _ => rfl
def encH (x : UInt16) : List Value := [.int .u16 (x.toNat : Int)]
theorem encH_len : ∀ x, (encH x).length = 1 := fun _ => rfl
theorem at_is {v : Value} {l : List UInt8} {i : Nat} {n k : Int} (hk : Ref.nb l i = k) (hn : n = (i : Int) ∧ i ≤ 1000000) (w : World) (h : SV w 1 encB v l) : Calls Try.prog 11 #[v, .int .i64 n] w fun e w' => e = .returned (.int .i64 k) ∧ Below w.heap.size w w' := by
  obtain ⟨rfl, hi⟩ := hn
  subst hk; exact at_calls i hi w h
/-- Every town has three codes. -/
def TwOk (ts : List Ref.Tw) (w : World) : Prop := ∀ (j : Nat) (t : Ref.Tw), ts[j]? = some t → SV w 1 encStr (sdV t.codes) t.ys
theorem sr_snoc {ss : List Ref.Sr} {x : Ref.Sr} {n : Nat} (h : ∀ (j : Nat) (x : Ref.Sr), ss[j]? = some x → ∃ q : Nat, q < n ∧ x.town = 10 + q) (hx : ∃ q : Nat, q < n ∧ x.town = 10 + q) : ∀ (j : Nat) (y : Ref.Sr), (ss ++ [x])[j]? = some y → ∃ q : Nat, q < n ∧ y.town = 10 + q := fun j y hy => by
  rcases List.mem_append.1 (List.mem_of_getElem? hy) with hm | hm
  · obtain ⟨j', hj'⟩ := List.getElem?_of_mem hm
    exact h j' y hj'
  · simp at hm; subst hm; exact hx
theorem sv_len {w : World} {a : Option Addr} {k c : Nat} {y0 y1 y2 : List UInt8} (h : SV w 1 encStr (.slice a k c) [y0, y1, y2]) : k = 3 := by
  obtain ⟨_, _, e, _⟩ := h.open
  cases e; rfl
theorem tw_ids {ts : List Ref.Tw} {x : Ref.Tw} {i : Nat} (h : ∀ (j : Nat) (x : Ref.Tw), ts[j]? = some x → x.id = 10 + j ∧ x.ys.length = 3) (hl : ts.length = i) (hx : x.id = 10 + (i : Int) ∧ x.ys.length = 3) : ∀ (j : Nat) (y : Ref.Tw), (ts ++ [x])[j]? = some y → y.id = 10 + j ∧ y.ys.length = 3 := fun j y hy => by
  by_cases hj : j < ts.length
  · rw [List.getElem?_append_left hj] at hy; exact h j y hy
  · have : j = ts.length := by have h := (List.getElem?_eq_some_iff.1 hy).1; rw [List.length_append, List.length_singleton] at h; omega
    subst this
    rw [List.getElem?_append_right (Nat.le_refl _), Nat.sub_self] at hy
    cases hy
    rw [hl]; exact hx
theorem tw_ok {ts : List Ref.Tw} {x : Ref.Tw} {NC NX : List Ent} {a : Option Addr} {c : Nat} {y0 y1 y2 : List UInt8} (h : Shw NX (TwOk ts)) (hO : OW 9 1 encStr (.slice a 3 c) [y0, y1, y2] NC) (hx : x.codes = (a, 3, c) ∧ x.ys = [y0, y1, y2]) : Shw (NC ++ NX) (TwOk (ts ++ [x])) := fun w0 w L L0 hr hw j y hy => by
  by_cases hj : j < ts.length
  · rw [List.getElem?_append_left hj] at hy; exact (Shw.right h) w0 w L L0 hr hw j y hy
  · have : j = ts.length := by have h := (List.getElem?_eq_some_iff.1 hy).1; rw [List.length_append, List.length_singleton] at h; omega
    subst this
    rw [List.getElem?_append_right (Nat.le_refl _), Nat.sub_self] at hy
    cases hy
    rw [hx.1, hx.2]; exact (Shw.left (Shw.ow encStr_len hO)) w0 w L L0 hr hw
/-- What Built leaves, as far as routes ask. -/
def built12φ (v : Value) (N : List Ent) : Prop := ∃ v0 v1 v2 v3 rs ps, v = .agg #[v0, v1, v2, v3] ∧ (v0.oneCell' = true ∧ v1.oneCell' = true) ∧ Ref.PtsOk 60 ps ∧ rs.length ≤ 100000 ∧ Shw N (fun w => SV w 7 encRg v2 rs ∧ SV w 8 encPt v3 ps)
theorem built12_φ {v0 v1 : Value} (hv : v0.oneCell' = true ∧ v1.oneCell' = true) {ar ap : Option Addr} {cr cp : Nat} {rs : List Ref.Rg} {ps : List Ref.Pt} {NR NP M : List Ent} (hok : Ref.PtsOk 60 ps) (hr : rs.length ≤ 100000) (hR : OW 37 7 encRg (.slice ar rs.length cr) rs NR) (hP : OW 40 8 encPt (.slice ap ps.length cp) ps NP) (_ : ∀ x ∈ M, x.own = true) :
    built12φ (.agg #[v0, v1, .slice ar rs.length cr, .slice ap ps.length cp]) (NP ++ (NR ++ M)) :=
  ⟨v0, v1, _, _, rs, ps, rfl, hv, hok, hr, Shw.and (Shw.right (Shw.left (Shw.ow encRg_len hR))) (Shw.left (Shw.ow encPt_len hP))⟩
theorem own_b12 {A B C : List Ent} (h1 : ∀ x ∈ A, x.own = true) (h2 : ∀ x ∈ B, x.own = true) (h3 : ∀ x ∈ C, x.own = true) : ∀ x ∈ A ++ (B ++ C), x.own = true := own_app h1 (own_app h2 h3)
theorem own4 {A B C D : List Ent} (h1 : ∀ x ∈ A, x.own = true) (h2 : ∀ x ∈ B, x.own = true) (h3 : ∀ x ∈ C, x.own = true) (h4 : ∀ x ∈ D, x.own = true) : ∀ x ∈ A ++ (B ++ (C ++ D)), x.own = true := own_app h1 (own_app h2 (own_app h3 h4))
instance : TQ Try.prog 40 [.int .i64, .int .i64, .int .i64, .int .i64, .string, .string, .int .i64, .int .i64] := ⟨⟨_, Try.underlying40, by kernel_rfl, by kernel_rfl, ⟨by decide, rfl, Try.isAgg3, Try.underlying3, ⟨by decide, rfl, Try.isAgg3, Try.underlying3, ⟨by decide, rfl, Try.isAgg3, Try.underlying3, ⟨by decide, rfl, Try.isAgg3, Try.underlying3, ⟨by decide, rfl, Try.isAgg9, Try.underlying9, ⟨by decide, rfl, Try.isAgg9, Try.underlying9, ⟨by decide, rfl, Try.isAgg3, Try.underlying3, ⟨by decide, rfl, Try.isAgg3, Try.underlying3, trivial⟩⟩⟩⟩⟩⟩⟩⟩⟩⟩
/-! ## Built: towns -/
set_option maxHeartbeats 16000000 in
set_option maxRecDepth 100000 in
theorem built12_calls {v2 v3 : Value} {tw st : Int} {cuts : List UInt8} {pts : List UInt16} (w : World) (htw : 0 ≤ tw ∧ tw ≤ 255) (hst : 0 ≤ st ∧ st ≤ 255) (hcuts : SV w 1 encB v2 cuts) (hpts : SV w 1 encH v3 pts) :
    Calls Try.prog 4 #[.agg #[.int .u8 tw, .int .u8 st, v2, v3]] w fun e w' => ∃ v N, e = .returned v ∧ built12φ v N ∧ Rep w w' N ∧ ∀ x ∈ N, x.own = true := by
  obtain ⟨a2, c2, rfl, hc2, -⟩ := hcuts.open
  obtain ⟨a3, c3, rfl, hc3, -⟩ := hpts.open
  obtain ⟨ra, hra⟩ : ∃ r, tw % 5 = r := ⟨_, rfl⟩
  obtain ⟨n, hn⟩ : ∃ n : Nat, 1 + ra = (n : Int) := ⟨(1 + ra).toNat, by omega⟩
  have hn5 : 1 ≤ n ∧ n ≤ 5 := by omega
  refine f_enter1 Try.func4 rfl Try.ntmps4 rfl (Rep.start w) ?_
  repeat' (first | ((with_reducible first | apply o_move | apply o_assign | apply o_faddr0 | apply o_conv); exact rfl; exact rfl) | ((with_reducible apply o_alloc); exact rfl; intro _) | ((with_reducible apply o_box); exact rfl; exact rfl; exact rfl; intro _) | ((with_reducible apply gdo_buildSlice); refine wo_buildSlice (h := fun _ => ?_)) | ((with_reducible first | apply c_seq | apply c_block | apply c_region | apply c_nil | apply c_ret | apply c_exit | apply c_skip)) | ((with_reducible first | apply e_then | apply e_then_ret | apply e_then_exit | apply e_in | apply e_in_ret | apply e_in_same)))
  rename_i b1 b2 b3 bN
  apply c_loop (σ := Nat × (List Ref.Tw × (Option Addr × Nat) × List Ent) × (List Ref.Rg × (Option Addr × Nat) × List Ent) × List Ent)
    (Fs := fun t => [(5, .int .i64 t.1), (4, .slice (some ⟨bN, 0, none⟩) 5 5), (3, ptr b3), (2, ptr b2), (1, ptr b1)])
    (Ls := fun t => ⟨b3, Ce [.slice t.2.1.2.1.1 t.2.1.1.length t.2.1.2.1.2, .slice none 0 0, .slice t.2.2.1.2.1.1 t.2.2.1.1.length t.2.2.1.2.1.2, .slice none 0 0] 31, true⟩ :: ⟨bN, Ce [str [65, 76, 66, 65], str [78, 69, 87, 32, 66, 82, 69, 69, 78], str [67, 79, 82, 86, 73, 78], str [68, 69, 45, 76, 65, 32, 77, 69, 82], str [83, 65, 73, 78, 84, 32, 69, 86, 69]] 9, true⟩ :: ⟨b2, Ce [.slice none 0 0, .slice none 0 0, .slice none 0 0, .slice none 0 0] 31, true⟩ :: ⟨b1, Ce [.int .u8 tw, .int .u8 st, .slice a2 cuts.length c2, .slice a3 pts.length c3] 25, true⟩ :: (t.2.1.2.2 ++ (t.2.2.1.2.2 ++ (t.2.2.2 ++ []))))
    (I := fun t => (t.1 ≤ n ∧ t.2.1.1.length = t.1 ∧ t.2.2.1.1.length ≤ t.1) ∧ (∀ (j : Nat) (x : Ref.Tw), t.2.1.1[j]? = some x → x.id = 10 + j ∧ x.ys.length = 3) ∧ OW 70 5 encTw (.slice t.2.1.2.1.1 t.2.1.1.length t.2.1.2.1.2) t.2.1.1 t.2.1.2.2 ∧ OW 37 7 encRg (.slice t.2.2.1.2.1.1 t.2.2.1.1.length t.2.2.1.2.1.2) t.2.2.1.1 t.2.2.1.2.2 ∧ (∀ x ∈ t.2.2.2, x.own = true) ∧ Shw t.2.2.2 (TwOk t.2.1.1))
    (μ := fun t => n - t.1) (s0 := (0, ([], (none, 0), []), ([], (none, 0), []), []))
  · exact ⟨⟨Nat.zero_le _, rfl, Nat.le_refl _⟩, fun j x h => by simp at h, OW.nil, OW.nil, by simp, fun _ _ _ _ _ _ j t h => by simp at h⟩
  · exact fS_
  · exact hS_
  rintro ⟨i, ⟨ts, ⟨at_, ct⟩, NT⟩, ⟨rs, ⟨ar, cr⟩, NR⟩, NX⟩ ⟨⟨hi, htl, hrl⟩, hids, hOT, hOR, oX, hTw⟩
  dsimp only at hi htl hrl hids hOT hOR oX hTw ⊢
  have oT := hOT.own
  have oR := hOR.own
  by_cases hlt : i < n
  · obtain ⟨r3, hr3⟩ : ∃ r3, (i : Int) % 3 = r3 := ⟨_, rfl⟩
    obtain ⟨nb, hnb⟩ : ∃ z, Ref.nb cuts i = z := ⟨_, rfl⟩
    have hnbd := Ref.nb_bd cuts i
    rw [hnb] at hnbd
    obtain ⟨k5, hk5⟩ : ∃ k5 : Nat, ((i : Int) + nb) % 5 = (k5 : Int) := ⟨(((i : Int) + nb) % 5).toNat, by omega⟩
    have hk55 : k5 < 5 := by omega
    obtain ⟨nm, hnm⟩ : ∃ nm, ([[65, 76, 66, 65], [78, 69, 87, 32, 66, 82, 69, 69, 78], [67, 79, 82, 86, 73, 78], [68, 69, 45, 76, 65, 32, 77, 69, 82], [83, 65, 73, 78, 84, 32, 69, 86, 69]] : List (List UInt8))[k5]? = some nm := ⟨_, List.getElem?_eq_getElem (by simpa using hk55)⟩
    have hnml : nm.length ≤ 9 := by
      have hm := List.mem_of_getElem? hnm
      revert hm
      generalize nm = z
      intro hm
      simp only [List.mem_cons, List.not_mem_nil, or_false] at hm
      rcases hm with rfl | rfl | rfl | rfl | rfl <;> decide
    obtain ⟨cty, hcty⟩ : ∃ c, 1 + r3 = c := ⟨_, rfl⟩
    repeat' (first | ((with_reducible apply c_cond_t); exact rfl; exact decide_eq_true (by omega)) | ((with_reducible apply o_rem8E' (v := ra)); exact rfl; exact rfl; exact hra; omega; exact rfl) | ((with_reducible apply o_conv8); infer_instance; infer_instance; exact rfl; (constructor <;> omega); exact rfl) | ((with_reducible apply o_remE (v := r3)); exact rfl; exact rfl; exact hr3; omega; exact rfl) | ((with_reducible apply o_toB); infer_instance; infer_instance; exact rfl; omega; exact rfl) | ((first | ((with_reducible apply o_call_pure (f := 11)); exact rfl) | ((with_reducible apply q_call_pure (f := 11)); exact rfl; kernel_rfl; exact rfl; exact sJ_)); exact eV_; exact (fun w hw => at_is hnb (by omega) w (hcuts.keep hw (by exact aO_)))) | ((with_reducible apply o_remE (v := (k5 : Int))); exact rfl; exact rfl; exact hk5; omega; exact rfl) | ((with_reducible apply o_ldP (v := str nm)); infer_instance; exact rfl; (intro w' hw'; exact SV.cell1 (SV.lit ([[65, 76, 66, 65], [78, 69, 87, 32, 66, 82, 69, 69, 78], [67, 79, 82, 86, 73, 78], [68, 69, 45, 76, 65, 32, 77, 69, 82], [83, 65, 73, 78, 84, 32, 69, 86, 69]] : List (List UInt8)) encStr_len hw' (by exact aT_) rfl rfl (by decide)) hnm rfl); exact rfl) | ((with_reducible first | apply o_move | apply o_assign | apply o_faddr0 | apply o_conv); exact rfl; exact rfl) | ((with_reducible apply gdo_load); first | refine wo_load (h := ?_) | refine wo_loadAll (h := ?_) | refine wo_loadC (h := ?_) | refine wo_ldV (h := ?_)) | ((with_reducible first | apply o_lss | apply o_gtr | apply o_eql | apply o_neq); exact rfl; exact rfl; exact rfl) | ((with_reducible first | apply o_add | apply o_sub | apply o_mul); exact rfl; exact rfl; exact rfl; (constructor <;> omega)) | ((with_reducible apply o_alloc); exact rfl; intro _) | ((with_reducible apply gdo_store); first | refine wo_store1 (h := ?_) | refine wo_storeA (h := ?_)) | ((with_reducible apply gdo_build); first | refine wo_build (h := ?_) | refine wo_buildA (h := ?_)) | ((with_reducible apply o_add8); exact rfl; exact rfl; exact rfl; (constructor <;> omega)) | ((with_reducible apply o_idx); infer_instance; infer_instance; exact rfl; exact rfl; (first | exact rfl | omega); exact rfl; (first | assumption | omega | decide)) | ((with_reducible first | apply c_seq | apply c_block | apply c_region | apply c_nil | apply c_ret | apply c_exit | apply c_skip)) | ((with_reducible first | apply e_then | apply e_then_ret | apply e_then_exit | apply e_in | apply e_in_ret | apply e_in_same)))
    rename_i b6
    apply c_loop (σ := Nat × List (List UInt8) × (Option Addr × Nat) × List Ent)
      (Fs := fun t => [(7, .int .i64 t.1), (6, ptr b6), (5, .int .i64 i), (4, .slice (some ⟨bN, 0, none⟩) 5 5), (3, ptr b3), (2, ptr b2), (1, ptr b1)])
      (Ls := fun t => ⟨b6, Ce [.int .i64 (10 + i), .int .u8 (1 + r3), str nm, str [], .slice t.2.2.1.1 t.2.1.length t.2.2.1.2] 70, true⟩ :: ⟨b3, Ce [.slice at_ ts.length ct, .slice none 0 0, .slice ar rs.length cr, .slice none 0 0] 31, true⟩ :: ⟨bN, Ce [str [65, 76, 66, 65], str [78, 69, 87, 32, 66, 82, 69, 69, 78], str [67, 79, 82, 86, 73, 78], str [68, 69, 45, 76, 65, 32, 77, 69, 82], str [83, 65, 73, 78, 84, 32, 69, 86, 69]] 9, true⟩ :: ⟨b2, Ce [.slice none 0 0, .slice none 0 0, .slice none 0 0, .slice none 0 0] 31, true⟩ :: ⟨b1, Ce [.int .u8 tw, .int .u8 st, .slice a2 cuts.length c2, .slice a3 pts.length c3] 25, true⟩ :: (t.2.2.2 ++ (NT ++ (NR ++ (NX ++ [])))))
      (I := fun t => (t.1 ≤ 3 ∧ t.2.1.length = t.1) ∧ OW 9 1 encStr (.slice t.2.2.1.1 t.2.1.length t.2.2.1.2) t.2.1 t.2.2.2)
      (μ := fun t => 3 - t.1) (s0 := (0, [], (none, 0), []))
    · exact ⟨⟨Nat.zero_le _, rfl⟩, OW.nil⟩
    · exact fS_
    · exact hS_
    rintro ⟨k, cl, ⟨ac, cc⟩, NC⟩ ⟨⟨hk, hcl⟩, hOC⟩
    dsimp only at hk hcl hOC ⊢
    have oC := hOC.own
    by_cases hlt3 : k < 3
    · as_aux_lemma =>
        repeat' (first | ((with_reducible apply c_cond_t); exact rfl; exact decide_eq_true (by omega)) | ((first | ((with_reducible apply o_call_pure (f := 12)); exact rfl) | ((with_reducible apply q_call_pure (f := 12)); exact rfl; kernel_rfl; exact rfl; exact sJ_)); exact eV_; exact (fun w _ => code_calls (1 + r3) ((k : Int) + (i : Int)) (by omega) w)) | (apply o_appH (enc := encStr) (ys := [(Ref.codeF (1 + r3) ((k : Int) + (i : Int)))]); infer_instance; infer_instance; infer_instance; exact rfl; exact encStr_len; exact encStr_one; exact rfl; exact rfl; exact rfl; assumption; exact rL_; (exact fun w hw => SV.lit [(Ref.codeF (1 + r3) ((k : Int) + (i : Int)))] encStr_len hw (by exact aT_) rfl rfl (by decide)); (first | decide | (constructor <;> (try simp only [List.length_cons, List.length_nil]) <;> omega) | (constructor <;> simp <;> omega)); intro a_ cp_ N_ hO_; have oN_ := hO_.own; (try simp only [List.nil_append, List.append_assoc] at hO_); (try simp only [List.append_eq, List.append_assoc, List.cons_append, List.nil_append])) | ((with_reducible first | apply o_move | apply o_assign | apply o_faddr0 | apply o_conv); exact rfl; exact rfl) | ((with_reducible first | apply o_lss | apply o_gtr | apply o_eql | apply o_neq); exact rfl; exact rfl; exact rfl) | ((with_reducible first | apply o_add | apply o_sub | apply o_mul); exact rfl; exact rfl; exact rfl; (constructor <;> omega)) | ((with_reducible apply gdo_store); first | refine wo_store1 (h := ?_) | refine wo_storeA (h := ?_)) | ((with_reducible first | apply c_seq | apply c_block | apply c_region | apply c_nil | apply c_ret | apply c_exit | apply c_skip)) | ((with_reducible first | apply e_then | apply e_then_ret | apply e_then_exit | apply e_in | apply e_in_ret | apply e_in_same)) | ((with_reducible apply c_regionD (id := 10) [] 9); kernel_rfl; kernel_rfl; simp only [List.take_succ_cons, List.take_zero, List.drop_succ_cons, List.drop_zero]) | ((with_reducible apply q_nil); try simp only [ents, List.cons_append, List.nil_append]) | ((with_reducible first | apply q_move | apply q_assign | apply q_faddr0 | apply q_not_d); exact rfl; exact rfl) | ((with_reducible apply gdq_load); first | refine wq_load (h := ?_) | refine wq_loadAll (h := ?_) | refine wq_loadC (h := ?_)) | ((with_reducible first | apply q_add | apply q_sub | apply q_mul); exact rfl; exact rfl; exact rfl; (constructor <;> omega)) | ((with_reducible apply gdq_buildSlice); refine wq_buildSlice (h := fun _ => ?_)))
        refine l_again (k + 1, cl ++ [Ref.codeF (1 + r3) ((k : Int) + (i : Int))], (a_, cp_), N_) ⟨⟨by dsimp only; omega, by simp [hcl]⟩, hO_⟩ (by dsimp only; omega) ?_ ?_
        · exact fS_
        · exact hS_
    obtain rfl : k = 3 := by omega
    obtain ⟨y0, y1, y2, rfl⟩ : ∃ y0 y1 y2, cl = [y0, y1, y2] := by
      match cl, hcl with
      | [a, b, c], _ => exact ⟨a, b, c, rfl⟩
    have hOC3 : OW 9 1 encStr (.slice ac 3 cc) [y0, y1, y2] NC := hOC
    refine st_know (fun w' hw' => SV.ptr ((hOC.sv encStr_len (by exact rL_) hw') : SV w' 1 encStr (.slice ac 3 cc) [y0, y1, y2]) (i := 0) rfl) ?_
    rintro ⟨bc, oc, rfl⟩
    have hids' := fun (x : Ref.Tw) (hx : x.id = 10 + (i : Int) ∧ x.ys.length = 3) => tw_ids hids htl hx
    have hTw' := fun (x : Ref.Tw) (hx : x.codes = (some ⟨bc, oc, none⟩, 3, cc) ∧ x.ys = [y0, y1, y2]) => tw_ok hTw hOC3 hx
    by_cases h0 : i = 0
    · subst h0
      as_aux_lemma =>
        repeat' (first | ((with_reducible apply c_cond_t); exact rfl; exact decide_eq_true (by omega)) | ((with_reducible apply c_cond_f); exact rfl; exact decide_eq_false (by omega)) | (apply o_appH (enc := encTw) (ys := [(⟨10 + ((0 : Nat) : Int), 1 + r3, nm, [88, 89], (some ⟨bc, oc, none⟩, 3, cc), [y0, y1, y2]⟩ : Ref.Tw)]); infer_instance; infer_instance; infer_instance; exact rfl; exact encTw_len; exact encTw_one; exact rfl; exact rfl; exact rfl; assumption; exact rL_; (exact fun w hw => SV.lit [(⟨10 + ((0 : Nat) : Int), 1 + r3, nm, [88, 89], (some ⟨bc, oc, none⟩, 3, cc), [y0, y1, y2]⟩ : Ref.Tw)] encTw_len hw (by exact aT_) rfl rfl (by decide)); (first | decide | (constructor <;> (try simp only [List.length_cons, List.length_nil]) <;> omega) | (constructor <;> simp <;> omega)); intro at' ct' NT' hT'; have oNT' := hT'.own) | (apply o_appH (enc := encRg) (ys := [(⟨10 + ((0 : Nat) : Int), 0, 1, 40, 0, y2, 300 + ((0 : Nat) : Int)⟩ : Ref.Rg)]); infer_instance; infer_instance; infer_instance; exact rfl; exact encRg_len; exact encRg_one; exact rfl; exact rfl; exact rfl; assumption; exact rL_; (exact fun w hw => SV.lit [(⟨10 + ((0 : Nat) : Int), 0, 1, 40, 0, y2, 300 + ((0 : Nat) : Int)⟩ : Ref.Rg)] encRg_len hw (by exact aT_) rfl rfl (by decide)); (first | decide | (constructor <;> (try simp only [List.length_cons, List.length_nil]) <;> omega) | (constructor <;> simp <;> omega)); intro ar' cr' NR' hR'; have oR' := hR'.own; (try simp only [List.nil_append, List.append_assoc] at hR'); (try simp only [List.append_eq, List.append_assoc, List.cons_append, List.nil_append])) | ((with_reducible apply q_ldP (v := str y2)); infer_instance; exact rfl; exact rfl; exact sJ_; (intro w' hw'; exact SV.cell1 (hOC.sv encStr_len (by exact rL_) hw') (i := 2) rfl rfl); exact rfl) | ((with_reducible apply q_idx (m := 2)); infer_instance; infer_instance; exact rfl; exact rfl; exact rfl; exact rfl; omega) | ((with_reducible first | apply o_move | apply o_assign | apply o_faddr0 | apply o_conv); exact rfl; exact rfl) | ((with_reducible apply gdo_load); first | refine wo_load (h := ?_) | refine wo_loadAll (h := ?_) | refine wo_loadC (h := ?_) | refine wo_ldV (h := ?_)) | ((with_reducible first | apply o_lss | apply o_gtr | apply o_eql | apply o_neq); exact rfl; exact rfl; exact rfl) | ((with_reducible first | apply o_add | apply o_sub | apply o_mul); exact rfl; exact rfl; exact rfl; (constructor <;> omega)) | ((with_reducible apply gdo_store); first | refine wo_store1 (h := ?_) | refine wo_storeA (h := ?_)) | ((with_reducible apply gdo_buildSlice); refine wo_buildSlice (h := fun _ => ?_)) | ((with_reducible first | apply c_seq | apply c_block | apply c_region | apply c_nil | apply c_ret | apply c_exit | apply c_skip)) | ((with_reducible first | apply e_then | apply e_then_ret | apply e_then_exit | apply e_in | apply e_in_ret | apply e_in_same)) | ((with_reducible apply c_regionD (id := 16) [] 12); kernel_rfl; kernel_rfl; simp only [List.take_succ_cons, List.take_zero, List.drop_succ_cons, List.drop_zero]) | ((with_reducible apply q_nil); try simp only [ents, List.cons_append, List.nil_append]) | ((with_reducible first | apply q_move | apply q_assign | apply q_faddr0 | apply q_not_d); exact rfl; exact rfl) | ((with_reducible apply gdq_load); first | refine wq_load (h := ?_) | refine wq_loadAll (h := ?_) | refine wq_loadC (h := ?_)) | ((with_reducible first | apply q_add | apply q_sub | apply q_mul); exact rfl; exact rfl; exact rfl; (constructor <;> omega)) | ((with_reducible apply gdq_build); first | refine wq_build (h := ?_)) | ((with_reducible apply gdq_buildSlice); refine wq_buildSlice (h := fun _ => ?_)))
        refine l_again (0 + 1, (ts ++ [(⟨10 + ((0 : Nat) : Int), 1 + r3, nm, [88, 89], (some ⟨bc, oc, none⟩, 3, cc), [y0, y1, y2]⟩ : Ref.Tw)], (at', ct'), NT'), (rs ++ [(⟨10 + ((0 : Nat) : Int), 0, 1, 40, 0, y2, 300 + ((0 : Nat) : Int)⟩ : Ref.Rg)], (ar', cr'), NR'), NC ++ NX) ⟨⟨by dsimp only; omega, by simp [htl], by dsimp only; rw [List.length_append, List.length_singleton]; omega⟩, hids' _ ⟨rfl, rfl⟩, hT', hR', own_app oC oX, hTw' _ ⟨rfl, rfl⟩⟩ (by dsimp only; omega) ?_ ?_
        · exact fS_
        · (try dsimp only); simp only [List.append_assoc]; exact hS_
    · obtain ⟨bb, hbb⟩ := byte_of (v := 65 + (i : Int)) (by omega)
      as_aux_lemma =>
        repeat' (first | ((with_reducible apply c_cond_t); exact rfl; exact decide_eq_true (by omega)) | ((with_reducible apply c_cond_f); exact rfl; exact decide_eq_false (by omega)) | ((with_reducible apply o_toB); infer_instance; infer_instance; exact rfl; omega; exact rfl) | ((with_reducible apply o_bytes_t (l := [bb])); infer_instance; infer_instance; infer_instance; exact rfl; exact rfl; (exact fun w hw => byte_cell hw (by exact aT_) hbb); exact rfl) | ((with_reducible apply o_cat_t (l := [32]) (m := [bb])); infer_instance; exact rfl; exact rfl; (simp only [List.length_cons, List.length_nil]; omega); exact rfl) | ((with_reducible apply o_cat_t (l := nm) (m := [32] ++ [bb])); infer_instance; exact rfl; exact rfl; (simp only [List.length_cons, List.length_nil, List.length_append]; omega); exact rfl) | (apply o_appH (enc := encTw) (ys := [(⟨10 + (i : Int), 1 + r3, nm ++ ([32] ++ [bb]), [], (some ⟨bc, oc, none⟩, 3, cc), [y0, y1, y2]⟩ : Ref.Tw)]); infer_instance; infer_instance; infer_instance; exact rfl; exact encTw_len; exact encTw_one; exact rfl; exact rfl; exact rfl; assumption; exact rL_; (exact fun w hw => SV.lit [(⟨10 + (i : Int), 1 + r3, nm ++ ([32] ++ [bb]), [], (some ⟨bc, oc, none⟩, 3, cc), [y0, y1, y2]⟩ : Ref.Tw)] encTw_len hw (by exact aT_) rfl rfl (by decide)); (first | decide | (constructor <;> (try simp only [List.length_cons, List.length_nil]) <;> omega) | (constructor <;> simp <;> omega)); intro at' ct' NT' hT'; have oNT' := hT'.own) | (apply o_appH (enc := encRg) (ys := [(⟨10 + (i : Int), 0, 1, 40, 0, y2, 300 + (i : Int)⟩ : Ref.Rg)]); infer_instance; infer_instance; infer_instance; exact rfl; exact encRg_len; exact encRg_one; exact rfl; exact rfl; exact rfl; assumption; exact rL_; (exact fun w hw => SV.lit [(⟨10 + (i : Int), 0, 1, 40, 0, y2, 300 + (i : Int)⟩ : Ref.Rg)] encRg_len hw (by exact aT_) rfl rfl (by decide)); (first | decide | (constructor <;> (try simp only [List.length_cons, List.length_nil]) <;> omega) | (constructor <;> simp <;> omega)); intro ar' cr' NR' hR'; have oR' := hR'.own; (try simp only [List.nil_append, List.append_assoc] at hR'); (try simp only [List.append_eq, List.append_assoc, List.cons_append, List.nil_append])) | ((with_reducible apply q_ldP (v := str y2)); infer_instance; exact rfl; exact rfl; exact sJ_; (intro w' hw'; exact SV.cell1 (hOC.sv encStr_len (by exact rL_) hw') (i := 2) rfl rfl); exact rfl) | ((with_reducible apply q_idx (m := 2)); infer_instance; infer_instance; exact rfl; exact rfl; exact rfl; exact rfl; omega) | ((with_reducible first | apply o_move | apply o_assign | apply o_faddr0 | apply o_conv); exact rfl; exact rfl) | ((with_reducible apply gdo_load); first | refine wo_load (h := ?_) | refine wo_loadAll (h := ?_) | refine wo_loadC (h := ?_) | refine wo_ldV (h := ?_)) | ((with_reducible first | apply o_lss | apply o_gtr | apply o_eql | apply o_neq); exact rfl; exact rfl; exact rfl) | ((with_reducible first | apply o_add | apply o_sub | apply o_mul); exact rfl; exact rfl; exact rfl; (constructor <;> omega)) | ((with_reducible apply gdo_store); first | refine wo_store1 (h := ?_) | refine wo_storeA (h := ?_)) | ((with_reducible apply o_add8); exact rfl; exact rfl; exact rfl; (constructor <;> omega)) | ((with_reducible apply gdo_buildSlice); refine wo_buildSlice (h := fun _ => ?_)) | ((with_reducible first | apply c_seq | apply c_block | apply c_region | apply c_nil | apply c_ret | apply c_exit | apply c_skip)) | ((with_reducible first | apply e_then | apply e_then_ret | apply e_then_exit | apply e_in | apply e_in_ret | apply e_in_same)) | ((with_reducible apply c_regionD (id := 16) [] 12); kernel_rfl; kernel_rfl; simp only [List.take_succ_cons, List.take_zero, List.drop_succ_cons, List.drop_zero]) | ((with_reducible apply q_nil); try simp only [ents, List.cons_append, List.nil_append]) | ((with_reducible first | apply q_move | apply q_assign | apply q_faddr0 | apply q_not_d); exact rfl; exact rfl) | ((with_reducible apply gdq_load); first | refine wq_load (h := ?_) | refine wq_loadAll (h := ?_) | refine wq_loadC (h := ?_)) | ((with_reducible first | apply q_add | apply q_sub | apply q_mul); exact rfl; exact rfl; exact rfl; (constructor <;> omega)) | ((with_reducible apply gdq_build); first | refine wq_build (h := ?_)) | ((with_reducible apply gdq_buildSlice); refine wq_buildSlice (h := fun _ => ?_)))
        refine l_again (i + 1, (ts ++ [(⟨10 + (i : Int), 1 + r3, nm ++ ([32] ++ [bb]), [], (some ⟨bc, oc, none⟩, 3, cc), [y0, y1, y2]⟩ : Ref.Tw)], (at', ct'), NT'), (rs ++ [(⟨10 + (i : Int), 0, 1, 40, 0, y2, 300 + (i : Int)⟩ : Ref.Rg)], (ar', cr'), NR'), NC ++ NX) ⟨⟨by dsimp only; omega, by simp [htl], by dsimp only; rw [List.length_append, List.length_singleton]; omega⟩, hids' _ ⟨rfl, rfl⟩, hT', hR', own_app oC oX, hTw' _ ⟨rfl, rfl⟩⟩ (by dsimp only; omega) ?_ ?_
        · exact fS_
        · (try dsimp only); simp only [List.append_assoc]; exact hS_
  obtain rfl : n = i := by omega
  obtain ⟨rm, hrm⟩ : ∃ r, st % 8 = r := ⟨_, rfl⟩
  obtain ⟨m, hm⟩ : ∃ m : Nat, rm = (m : Int) := ⟨rm.toNat, by omega⟩
  have hm7 : m ≤ 7 := by omega
  repeat' (first | ((with_reducible apply c_cond_f); exact rfl; exact decide_eq_false (by omega)) | ((with_reducible apply o_rem8E' (v := ra)); exact rfl; exact rfl; exact hra; omega; exact rfl) | ((with_reducible apply o_conv8); infer_instance; infer_instance; exact rfl; (constructor <;> omega); exact rfl) | ((with_reducible first | apply o_move | apply o_assign | apply o_faddr0 | apply o_conv); exact rfl; exact rfl) | ((with_reducible apply gdo_load); first | refine wo_load (h := ?_) | refine wo_loadAll (h := ?_) | refine wo_loadC (h := ?_) | refine wo_ldV (h := ?_)) | ((with_reducible first | apply o_lss | apply o_gtr | apply o_eql | apply o_neq); exact rfl; exact rfl; exact rfl) | ((with_reducible first | apply o_add | apply o_sub | apply o_mul); exact rfl; exact rfl; exact rfl; (constructor <;> omega)) | ((with_reducible first | apply c_seq | apply c_block | apply c_region | apply c_nil | apply c_ret | apply c_exit | apply c_skip)) | ((with_reducible first | apply e_then | apply e_then_ret | apply e_then_exit | apply e_in | apply e_in_ret | apply e_in_same)))
  apply c_loop (σ := Nat × (List Ref.Sr × (Option Addr × Nat) × List Ent) × (List Ref.Rg × (Option Addr × Nat) × List Ent) × List Ent)
    (Fs := fun t => [(8, .int .i64 t.1), (3, ptr b3), (2, ptr b2), (1, ptr b1)])
    (Ls := fun t => ⟨b3, Ce [.slice at_ ts.length ct, .slice t.2.1.2.1.1 t.2.1.1.length t.2.1.2.1.2, .slice t.2.2.1.2.1.1 t.2.2.1.1.length t.2.2.1.2.1.2, .slice none 0 0] 31, true⟩ :: ⟨b2, Ce [.slice none 0 0, .slice none 0 0, .slice none 0 0, .slice none 0 0] 31, true⟩ :: ⟨b1, Ce [.int .u8 tw, .int .u8 st, .slice a2 cuts.length c2, .slice a3 pts.length c3] 25, true⟩ :: (NT ++ (NX ++ (t.2.1.2.2 ++ (t.2.2.1.2.2 ++ (t.2.2.2 ++ []))))))
    (I := fun t => (t.1 ≤ m ∧ t.2.1.1.length = t.1 ∧ t.2.2.1.1.length ≤ 5 + 3 * t.1) ∧ (∀ (j : Nat) (x : Ref.Sr), t.2.1.1[j]? = some x → ∃ q : Nat, q < n ∧ x.town = 10 + q) ∧ OW 73 6 encSr (.slice t.2.1.2.1.1 t.2.1.1.length t.2.1.2.1.2) t.2.1.1 t.2.1.2.2 ∧ OW 37 7 encRg (.slice t.2.2.1.2.1.1 t.2.2.1.1.length t.2.2.1.2.1.2) t.2.2.1.1 t.2.2.1.2.2 ∧ ∀ x ∈ t.2.2.2, x.own = true)
    (μ := fun t => m - t.1) (s0 := (0, ([], (none, 0), []), (rs, (ar, cr), NR), []))
  · exact ⟨⟨Nat.zero_le _, rfl, by dsimp only; omega⟩, fun j x h => by simp at h, OW.nil, hOR, by simp⟩
  · exact fS_
  · (try dsimp only); simp only [List.nil_append]; exact hS_
  clear hrl hOR oR
  rintro ⟨i, ⟨ss, ⟨as_, cs⟩, NSt⟩, ⟨rs, ⟨ar, cr⟩, NR⟩, NAl⟩ ⟨⟨hi, hsl, hrl⟩, hstn, hOS, hOR, oAl⟩
  dsimp only at hi hsl hrl hstn hOS hOR oAl ⊢
  have oS := hOS.own
  have oR := hOR.own
  by_cases hlt : i < m
  · obtain ⟨q, hq⟩ : ∃ q : Nat, (i : Int) % (ts.length : Int) = (q : Int) := ⟨i % n, by rw [htl]; omega⟩
    have hqn : q < n := by rw [htl] at hq; have := Int.emod_lt_of_pos (i : Int) (show 0 < (n : Int) by omega); omega
    obtain ⟨⟨t0, t1, t2, t3, ⟨u1, u2, u3⟩, ys⟩, htq⟩ : ∃ t, ts[q]? = some t := ⟨_, List.getElem?_eq_getElem (by omega)⟩
    obtain ⟨ht0, hys⟩ := hids q _ htq
    dsimp only at ht0 hys
    obtain ⟨y0, y1, y2, rfl⟩ : ∃ y0 y1 y2, ys = [y0, y1, y2] := by
      match ys, hys with
      | [a, b, c], _ => exact ⟨a, b, c, rfl⟩
    refine st_know (fun w' hw' => SV.ptr (hOT.sv encTw_len (by exact rL_) hw') htq) ?_
    rintro ⟨bT, oT', rfl⟩
    refine st_know (fun w' hw' => SV.ptr ((hTw _ _ _ _ (by exact rL_) hw') q _ htq) (i := 0) (x := y0) rfl) ?_
    rintro ⟨bc, oc, rfl⟩
    refine st_know (fun w' hw' => sv_len ((hTw _ _ _ _ (by exact rL_) hw') q _ htq)) ?_
    rintro rfl
    obtain ⟨nb, hnb⟩ : ∃ z, Ref.nb cuts i = z := ⟨_, rfl⟩
    have hnbd := Ref.nb_bd cuts i
    rw [hnb] at hnbd
    obtain ⟨nb1, hnb1⟩ : ∃ z, Ref.nb cuts (i + 1) = z := ⟨_, rfl⟩
    have hnbd1 := Ref.nb_bd cuts (i + 1)
    rw [hnb1] at hnbd1
    obtain ⟨z2, hz2⟩ : ∃ z, nb % 2 = z := ⟨_, rfl⟩
    obtain ⟨z3, hz3⟩ : ∃ z, nb1 % 3 = z := ⟨_, rfl⟩
    obtain ⟨zc, hzc⟩ : ∃ z, nb % 100 = z := ⟨_, rfl⟩
    obtain ⟨bb, hbb⟩ := byte_of (v := 65 + (i : Int)) (by omega)
    as_aux_lemma =>
      repeat' (first | ((with_reducible apply c_cond_t); exact rfl; exact decide_eq_true (by omega)) | ((with_reducible apply o_pick_t); exact rfl; exact decide_eq_true (by omega); exact rfl; exact rfl) | ((with_reducible apply o_pick_f); exact rfl; exact decide_eq_false (by omega); exact rfl; exact rfl) | ((with_reducible apply g_run); exact rfl; exact decide_eq_true (by omega)) | ((with_reducible apply g_skip); exact rfl; exact decide_eq_false (by omega); exact rfl) | ((with_reducible apply o_rem8E' (v := rm)); exact rfl; exact rfl; exact hrm; omega; exact rfl) | ((with_reducible apply o_conv8); infer_instance; infer_instance; exact rfl; (constructor <;> omega); exact rfl) | ((with_reducible first | apply q_remE (v := (q : Int)) | apply o_remE (v := (q : Int))); exact rfl; exact rfl; exact hq; omega; exact rfl) | ((with_reducible apply q_ldPV (l := [.int .i64 t0, .int .u8 t1, str t2, str t3, .slice (some ⟨bc, oc, none⟩) 3 u3])); infer_instance; infer_instance; exact rfl; exact rfl; exact sJ_; (intro w' hw' j' v' hj'; exact SV.cell (hOT.sv encTw_len (by exact rL_) hw') htq hj'); exact rfl; exact rfl) | ((with_reducible apply o_toB); infer_instance; infer_instance; exact rfl; omega; exact rfl) | ((with_reducible apply o_bytes_t (l := [bb])); infer_instance; infer_instance; infer_instance; exact rfl; exact rfl; (exact fun w hw => byte_cell hw (by exact aT_) hbb); exact rfl) | ((with_reducible apply o_cat_t (l := [76, 79, 78, 71, 32]) (m := [bb])); infer_instance; exact rfl; exact rfl; (simp only [List.length_cons, List.length_nil]; omega); exact rfl) | ((with_reducible apply o_cat_t (l := [80, 65, 84, 72, 32]) (m := [bb])); infer_instance; exact rfl; exact rfl; (simp only [List.length_cons, List.length_nil]; omega); exact rfl) | ((first | ((with_reducible apply o_call_pure (f := 11)); exact rfl) | ((with_reducible apply q_call_pure (f := 11)); exact rfl; kernel_rfl; exact rfl; exact sJ_)); exact eV_; exact (fun w hw => at_is hnb (by omega) w (hcuts.keep hw (by exact aO_)))) | ((first | ((with_reducible apply o_call_pure (f := 11)); exact rfl) | ((with_reducible apply q_call_pure (f := 11)); exact rfl; kernel_rfl; exact rfl; exact sJ_)); exact eV_; exact (fun w hw => at_is hnb1 (by omega) w (hcuts.keep hw (by exact aO_)))) | ((with_reducible apply o_remE (v := z2)); exact rfl; exact rfl; exact hz2; omega; exact rfl) | ((with_reducible apply o_remE (v := z3)); exact rfl; exact rfl; exact hz3; omega; exact rfl) | ((with_reducible apply o_remE (v := zc)); exact rfl; exact rfl; exact hzc; omega; exact rfl) | (apply o_appH (enc := encSr); infer_instance; infer_instance; infer_instance; exact rfl; exact encSr_len; exact encSr_one; exact rfl; exact rfl; exact rfl; assumption; exact rL_; (exact fun w hw => (SV.lit [(⟨_, _, _, _, _, (_, _, _)⟩ : Ref.Sr)] encSr_len hw (by exact aT_) rfl rfl (by decide))); (first | decide | (constructor <;> (try simp only [List.length_cons, List.length_nil]) <;> omega) | (constructor <;> simp <;> omega)); intro sa' sc' NZ' hS'; have oNZ' := hS'.own) | (apply o_appH (enc := encRg); infer_instance; infer_instance; infer_instance; exact rfl; exact encRg_len; exact encRg_one; exact rfl; exact rfl; exact rfl; assumption; exact rL_; (exact fun w hw => (SV.lit [(⟨_, _, _, _, _, _, _⟩ : Ref.Rg)] encRg_len hw (by exact aT_) rfl rfl (by decide))); (first | decide | (constructor <;> (try simp only [List.length_cons, List.length_nil]) <;> omega) | (constructor <;> simp <;> omega)); intro ar1 cr1 NR1 hR1; have oR1 := hR1.own; (try simp only [List.nil_append, List.append_assoc] at hR1); (try simp only [List.append_eq, List.append_assoc, List.cons_append, List.nil_append])) | (apply o_appH (enc := encRg); infer_instance; infer_instance; infer_instance; exact rfl; exact encRg_len; exact encRg_one; exact rfl; exact rfl; exact rfl; assumption; exact rL_; (exact fun w hw => (SV.lit [(⟨_, _, _, _, _, _, _⟩ : Ref.Rg), (⟨_, _, _, _, _, _, _⟩ : Ref.Rg)] encRg_len hw (by exact aT_) rfl rfl (by decide))); (first | decide | (constructor <;> (try simp only [List.length_cons, List.length_nil]) <;> omega) | (constructor <;> simp <;> omega)); intro ar2 cr2 NR2 hR2; have oR2 := hR2.own; (try simp only [List.nil_append, List.append_assoc] at hR2); (try simp only [List.append_eq, List.append_assoc, List.cons_append, List.nil_append])) | ((with_reducible apply q_ldP (v := str y0)); infer_instance; exact rfl; exact rfl; exact sJ_; (intro w' hw'; exact SV.cell1 ((hTw _ _ _ _ (by exact rL_) hw') q _ htq) (i := 0) rfl rfl); exact rfl) | ((with_reducible apply q_ldP (v := str y1)); infer_instance; exact rfl; exact rfl; exact sJ_; (intro w' hw'; exact SV.cell1 ((hTw _ _ _ _ (by exact rL_) hw') q _ htq) (i := 1) rfl rfl); exact rfl) | ((with_reducible apply q_idx (m := 0)); infer_instance; infer_instance; exact rfl; exact rfl; exact rfl; exact rfl; omega) | ((with_reducible apply q_idx (m := 1)); infer_instance; infer_instance; exact rfl; exact rfl; exact rfl; exact rfl; omega) | ((with_reducible first | apply o_move | apply o_assign | apply o_faddr0 | apply o_conv); exact rfl; exact rfl) | ((with_reducible apply gdo_load); first | refine wo_load (h := ?_) | refine wo_loadAll (h := ?_) | refine wo_loadC (h := ?_) | refine wo_ldV (h := ?_)) | ((with_reducible first | apply o_lss | apply o_gtr | apply o_eql | apply o_neq); exact rfl; exact rfl; exact rfl) | ((with_reducible first | apply o_add | apply o_sub | apply o_mul); exact rfl; exact rfl; exact rfl; (constructor <;> omega)) | ((with_reducible apply o_alloc); exact rfl; intro _) | ((with_reducible apply gdo_store); first | refine wo_store1 (h := ?_) | refine wo_storeA (h := ?_)) | ((with_reducible apply gdo_build); first | refine wo_build (h := ?_) | refine wo_buildA (h := ?_)) | ((with_reducible apply o_add8); exact rfl; exact rfl; exact rfl; (constructor <;> omega)) | ((with_reducible apply gdo_buildSlice); refine wo_buildSlice (h := fun _ => ?_)) | ((with_reducible first | apply c_seq | apply c_block | apply c_region | apply c_nil | apply c_ret | apply c_exit | apply c_skip)) | ((with_reducible apply c_cond_f); exact rfl; exact fF_) | ((with_reducible first | apply e_then | apply e_then_ret | apply e_then_exit | apply e_in | apply e_in_ret | apply e_in_same)) | ((with_reducible apply c_regionD0 (id := 20) []); kernel_rfl; kernel_rfl) | ((with_reducible apply c_regionD (id := 30) [] 15); kernel_rfl; kernel_rfl; simp only [List.take_succ_cons, List.take_zero, List.drop_succ_cons, List.drop_zero]) | ((with_reducible apply c_regionD (id := 31) [] 27); kernel_rfl; kernel_rfl; simp only [List.take_succ_cons, List.take_zero, List.drop_succ_cons, List.drop_zero]) | ((with_reducible apply q_nil); try simp only [ents, List.cons_append, List.nil_append]) | ((with_reducible first | apply q_move | apply q_assign | apply q_faddr0 | apply q_not_d); exact rfl; exact rfl) | ((with_reducible apply gdq_load); first | refine wq_load (h := ?_) | refine wq_loadAll (h := ?_) | refine wq_loadC (h := ?_)) | ((with_reducible first | apply q_add | apply q_sub | apply q_mul); exact rfl; exact rfl; exact rfl; (constructor <;> omega)) | ((with_reducible apply gdq_build); first | refine wq_build (h := ?_)) | ((with_reducible apply gdq_call_len); first | refine wq_len (h := ?_)) | ((with_reducible apply q_idx); infer_instance; infer_instance; exact rfl; exact rfl; (first | exact rfl | omega); exact rfl; (first | assumption | omega | decide)) | ((with_reducible apply gdq_store); first | refine wq_storeA (h := ?_) | refine wq_storeAE (h := ?_)) | ((with_reducible apply q_alloc); exact rfl; intro _) | ((with_reducible apply gdq_buildSlice); refine wq_buildSlice (h := fun _ => ?_)) | ((with_reducible apply c_cond_d); exact rfl; intro hcond; rotate_left; intro hcond; rotate_left) | ((with_reducible apply g_split_d); exact rfl; intro hcond; rotate_left; intro hcond; rotate_left))
      all_goals
        refine l_again (i + 1, (_, (sa', sc'), NZ'), (_, (ar2, cr2), NR2), NAl) ⟨⟨show i + 1 ≤ m by omega, ?_, ?_⟩, sr_snoc hstn ⟨q, hqn, ht0⟩, hS', hR2, oAl⟩ (show m - (i + 1) < m - i by omega) ?_ ?_
        · simp [hsl]
        · (try dsimp only); simp only [List.length_append, List.length_cons, List.length_nil]; omega
        · exact fS_
        · (try dsimp only); exact hS_
  obtain rfl : i = m := by omega
  clear hlt
  repeat' (first | ((with_reducible apply c_cond_f); exact rfl; exact decide_eq_false (by omega)) | ((with_reducible apply o_rem8E' (v := rm)); exact rfl; exact rfl; exact hrm; omega; exact rfl) | ((with_reducible apply o_conv8); infer_instance; infer_instance; exact rfl; (constructor <;> omega); exact rfl) | ((with_reducible first | apply o_move | apply o_assign | apply o_faddr0 | apply o_conv); exact rfl; exact rfl) | ((with_reducible apply gdo_load); first | refine wo_load (h := ?_) | refine wo_loadAll (h := ?_) | refine wo_loadC (h := ?_) | refine wo_ldV (h := ?_)) | ((with_reducible first | apply o_lss | apply o_gtr | apply o_eql | apply o_neq); exact rfl; exact rfl; exact rfl) | ((with_reducible first | apply c_seq | apply c_region | apply c_nil | apply c_ret | apply c_exit | apply c_skip)) | ((with_reducible first | apply e_then | apply e_then_ret | apply e_then_exit | apply e_in | apply e_in_ret | apply e_in_same)))
  apply c_post (σ := List Ref.Pt × (Option Addr × Nat) × List Ent) (Ds := fun _ => []) (Fs := fun _ => [(3, ptr b3), (2, ptr b2)])
    (Ls := fun t => ⟨b3, Ce [.slice at_ ts.length ct, .slice as_ ss.length cs, .slice ar rs.length cr, .slice t.2.1.1 t.1.length t.2.1.2] 31, true⟩ :: ⟨b2, Ce [.slice none 0 0, .slice none 0 0, .slice none 0 0, .slice none 0 0] 31, true⟩ :: (t.2.2 ++ (NR ++ (NSt ++ (NT ++ (NX ++ (NAl ++ [])))))))
    (I := fun t => Ref.PtsOk 60 t.1 ∧ OW 40 8 encPt (.slice t.2.1.1 t.1.length t.2.1.2) t.1 t.2.2)
  · as_aux_lemma =>
      repeat' (first | ((with_reducible first | apply c_seq | apply c_block | apply c_region | apply c_nil | apply c_ret | apply c_exit | apply c_skip)))
      apply c_loop (σ := Nat × List Ref.Pt × (Option Addr × Nat) × List Ent) (Fs := fun t => [(12, .int .i64 t.1), (3, ptr b3), (2, ptr b2), (1, ptr b1)])
        (Ls := fun t => ⟨b3, Ce [.slice at_ ts.length ct, .slice as_ ss.length cs, .slice ar rs.length cr, .slice t.2.2.1.1 t.2.1.length t.2.2.1.2] 31, true⟩ :: ⟨b2, Ce [.slice none 0 0, .slice none 0 0, .slice none 0 0, .slice none 0 0] 31, true⟩ :: ⟨b1, Ce [.int .u8 tw, .int .u8 st, .slice a2 cuts.length c2, .slice a3 pts.length c3] 25, true⟩ :: (t.2.2.2 ++ (NR ++ (NSt ++ (NT ++ (NX ++ (NAl ++ [])))))))
        (I := fun t => t.1 ≤ min pts.length 60 ∧ Ref.PtsOk t.1 t.2.1 ∧ OW 40 8 encPt (.slice t.2.2.1.1 t.2.1.length t.2.2.1.2) t.2.1 t.2.2.2) (μ := fun t => min pts.length 60 - t.1) (s0 := (0, [], (none, 0), []))
      · exact ⟨Nat.zero_le _, Ref.PtsOk.nil, OW.nil⟩
      · exact fS_
      · (try dsimp only); simp only [List.nil_append]; exact hS_
      rintro ⟨k, ps, ⟨ap, cp⟩, NP⟩ ⟨hk, hok, hOP⟩
      dsimp only at hk hok hOP ⊢
      have oP := hOP.own
      have hpl := hok.len
      by_cases hlt : k < min pts.length 60
      · obtain ⟨y, hy⟩ : ∃ y, pts[k]? = some y := ⟨_, List.getElem?_eq_getElem (by omega)⟩
        have hy16 := y.toNat_lt
        obtain ⟨nn, hnn⟩ : ∃ nn : Int, (y.toNat : Int) = nn := ⟨_, rfl⟩
        have hnb : 0 ≤ nn ∧ nn ≤ 65535 := by omega
        refine st_know (fun w' hw' => SV.ptr (hpts.keep hw' (by exact aO_)) hy) ?_
        rintro ⟨bv, ov, rfl⟩
        obtain ⟨z64, hz64⟩ : ∃ z, nn % 64 = z := ⟨_, rfl⟩
        obtain ⟨qt, hqt⟩ : ∃ q : Nat, nn % (ts.length : Int) = (q : Int) := ⟨(nn % (ts.length : Int)).toNat, by
          have := Int.emod_nonneg nn (show (ts.length : Int) ≠ 0 by omega)
          omega⟩
        have hqtl : qt < ts.length := by have := Int.emod_lt_of_pos nn (show 0 < (ts.length : Int) by omega); omega
        obtain ⟨⟨t0, t1, t2, t3, ⟨u1, u2, u3⟩, ys⟩, htq⟩ : ∃ t, ts[qt]? = some t := ⟨_, List.getElem?_eq_getElem hqtl⟩
        refine st_know (fun w' hw' => SV.ptr (hOT.sv encTw_len (by exact rL_) hw') htq) ?_
        rintro ⟨bT, oT', rfl⟩
        obtain ⟨q8, hq8⟩ : ∃ z, nn / 8 = z := ⟨_, rfl⟩
        obtain ⟨z40, hz40⟩ : ∃ z, q8 % 40 = z := ⟨_, rfl⟩
        obtain ⟨q3, hq3⟩ : ∃ z, nn / 3 = z := ⟨_, rfl⟩
        obtain ⟨k9, hk9⟩ : ∃ z : Nat, q3 % 9 = (z : Int) := ⟨(q3 % 9).toNat, by omega⟩
        repeat' (first | ((with_reducible apply c_cond_t); exact rfl; exact decide_eq_true (by omega)) | ((with_reducible apply o_pick_t); exact rfl; exact decide_eq_true (by omega); exact rfl; exact rfl) | ((with_reducible apply g_run); exact rfl; exact decide_eq_true (by omega)) | ((with_reducible apply o_ldP (v := .int .u16 (y.toNat : Int))); infer_instance; exact rfl; (intro w' hw'; exact SV.cell1 (hpts.keep hw' (by exact aO_)) hy rfl); exact rfl) | ((with_reducible apply o_conv16); infer_instance; infer_instance; exact rfl; exact hnn; omega; exact rfl) | ((with_reducible apply q_remE (v := z64)); exact rfl; exact rfl; exact hz64; omega; exact rfl) | ((with_reducible apply q_remE (v := (qt : Int))); exact rfl; exact rfl; exact hqt; omega; exact rfl) | ((with_reducible apply q_ldP (v := .int .i64 t0)); infer_instance; exact rfl; exact rfl; exact sJ_; (intro w' hw'; exact SV.cell1 (hOT.sv encTw_len (by exact rL_) hw') htq rfl); exact rfl) | ((with_reducible apply q_quoE (v := q8)); exact rfl; exact rfl; exact hq8; omega; exact rfl) | ((with_reducible apply q_remE (v := z40)); exact rfl; exact rfl; exact hz40; omega; exact rfl) | ((with_reducible apply o_quoE' (v := q3)); exact rfl; exact rfl; exact hq3; omega; exact rfl) | ((with_reducible apply o_remE (v := (k9 : Int))); exact rfl; exact rfl; exact hk9; omega; exact rfl) | ((with_reducible first | apply o_move | apply o_assign | apply o_faddr0 | apply o_conv); exact rfl; exact rfl) | ((with_reducible apply gdo_load); first | refine wo_load (h := ?_) | refine wo_loadAll (h := ?_) | refine wo_loadC (h := ?_) | refine wo_ldV (h := ?_)) | ((with_reducible first | apply o_lss | apply o_gtr | apply o_eql | apply o_neq); exact rfl; exact rfl; exact rfl) | ((with_reducible apply o_len); infer_instance; exact rfl; exact rfl) | ((with_reducible apply o_idx); infer_instance; infer_instance; exact rfl; exact rfl; (first | exact rfl | omega); exact rfl; (first | assumption | omega | decide)) | ((with_reducible first | apply c_seq | apply c_block | apply c_region | apply c_nil | apply c_ret | apply c_exit | apply c_skip)) | ((with_reducible first | apply e_then | apply e_then_ret | apply e_then_exit | apply e_in | apply e_in_ret | apply e_in_same)) | ((with_reducible apply c_regionD0 (id := 36) []); kernel_rfl; kernel_rfl) | ((with_reducible apply q_nil); try simp only [ents, List.cons_append, List.nil_append]) | ((with_reducible first | apply q_move | apply q_assign | apply q_faddr0 | apply q_not_d); exact rfl; exact rfl) | ((with_reducible first | apply q_faddr); exact rfl; exact rfl) | ((with_reducible apply gdq_load); first | refine wq_load (h := ?_) | refine wq_loadAll (h := ?_) | refine wq_loadC (h := ?_)) | ((with_reducible first | apply q_add | apply q_sub | apply q_mul); exact rfl; exact rfl; exact rfl; (constructor <;> omega)) | ((with_reducible apply gdq_build); first | refine wq_build (h := ?_)) | ((with_reducible apply gdq_call_len); first | refine wq_len (h := ?_)) | ((with_reducible apply q_idx); infer_instance; infer_instance; exact rfl; exact rfl; (first | exact rfl | omega); exact rfl; (first | assumption | omega | decide)) | ((with_reducible apply gdq_store); first | refine wq_storeA (h := ?_) | refine wq_storeAE (h := ?_)) | ((with_reducible apply q_alloc); exact rfl; intro _))
        rename_i b14
        apply c_post (σ := Ref.Pt) (Ds := fun _ => []) (Fs := fun _ => [(14, ptr b14), (12, .int .i64 k), (3, ptr b3), (2, ptr b2), (1, ptr b1)])
          (Ls := fun x => ⟨b14, Ce [.int .i64 x.id, .int .i64 x.town, .int .i64 x.street, .int .i64 x.number, str x.letter, str x.unit, .int .i64 x.box, .int .i64 x.seq] 40, true⟩ :: ⟨b3, Ce [.slice (some ⟨bT, oT', none⟩) ts.length ct, .slice as_ ss.length cs, .slice ar rs.length cr, .slice ap ps.length cp] 31, true⟩ :: ⟨b2, Ce [.slice none 0 0, .slice none 0 0, .slice none 0 0, .slice none 0 0] 31, true⟩ :: ⟨b1, Ce [.int .u8 tw, .int .u8 st, .slice a2 cuts.length c2, .slice (some ⟨bv, ov, none⟩) pts.length c3] 25, true⟩ :: (NP ++ (NR ++ (NSt ++ (NT ++ (NX ++ (NAl ++ [])))))))
          (I := fun x => x.id = 900 - (k : Int) ∧ x.seq = 3000 + 7 * z64 + 500 * (k : Int) ∧ 0 ≤ Ref.numF x ∧ Ref.numF x ≤ 255)
        · by_cases hkl : k9 < ss.length
          · obtain ⟨⟨s0, s1, s2, s3, s4, s5⟩, hs9⟩ : ∃ x, ss[k9]? = some x := ⟨_, List.getElem?_eq_getElem hkl⟩
            obtain ⟨q', hqn', hsq'⟩ := hstn k9 _ hs9
            dsimp only at hsq'
            have hsq : s1 - 10 = (q' : Int) := by omega
            obtain ⟨⟨d0, d1, d2, d3, ⟨e1, e2, e3⟩, ys'⟩, htq9⟩ : ∃ t, ts[q']? = some t := ⟨_, List.getElem?_eq_getElem (by omega)⟩
            refine st_know (fun w' hw' => SV.ptr (hOS.sv encSr_len (by exact rL_) hw') hs9) ?_
            rintro ⟨bS, oS', rfl⟩
            obtain ⟨q16, hq16⟩ : ∃ z, nn / 16 = z := ⟨_, rfl⟩
            obtain ⟨z100, hz100⟩ : ∃ z, q16 % 100 = z := ⟨_, rfl⟩
            obtain ⟨z5, hz5⟩ : ∃ z, nn % 5 = z := ⟨_, rfl⟩
            obtain ⟨z7, hz7⟩ : ∃ z, nn % 7 = z := ⟨_, rfl⟩
            as_aux_lemma =>
              repeat' (first | ((with_reducible apply c_cond_t); exact rfl; exact decide_eq_true (by omega)) | ((with_reducible apply o_pick_t); exact rfl; exact decide_eq_true (by omega); exact rfl; exact rfl) | ((with_reducible apply o_pick_f); exact rfl; exact decide_eq_false (by omega); exact rfl; exact rfl) | ((with_reducible apply g_run); exact rfl; exact decide_eq_true (by omega)) | ((with_reducible apply g_skip); exact rfl; exact decide_eq_false (by omega); exact rfl) | ((with_reducible apply q_ldP (v := .int .i64 s1)); infer_instance; exact rfl; exact rfl; exact sJ_; (intro w' hw'; exact SV.cell (hOS.sv encSr_len (by exact rL_) hw') hs9 (j := 1) rfl); exact rfl) | ((with_reducible apply q_ldPV (l := [.int .i64 d0, .int .u8 d1, str d2, str d3, .slice e1 e2 e3])); infer_instance; infer_instance; exact rfl; exact rfl; exact sJ_; (intro w' hw' j' v' hj'; exact SV.cell (hOT.sv encTw_len (by exact rL_) hw') htq9 hj'); exact rfl; exact rfl) | ((with_reducible apply q_ldP (v := .int .i64 s0)); infer_instance; exact rfl; exact rfl; exact sJ_; (intro w' hw'; exact SV.cell1 (hOS.sv encSr_len (by exact rL_) hw') hs9 rfl); exact rfl) | ((with_reducible apply q_quoE (v := q16)); exact rfl; exact rfl; exact hq16; omega; exact rfl) | ((with_reducible apply q_remE (v := z100)); exact rfl; exact rfl; exact hz100; omega; exact rfl) | ((with_reducible apply o_remE (v := z5)); exact rfl; exact rfl; exact hz5; omega; exact rfl) | ((with_reducible apply o_remE (v := z7)); exact rfl; exact rfl; exact hz7; omega; exact rfl) | ((with_reducible first | apply o_move | apply o_assign | apply o_faddr0 | apply o_conv); exact rfl; exact rfl) | ((with_reducible apply gdo_load); first | refine wo_load (h := ?_) | refine wo_loadAll (h := ?_) | refine wo_loadC (h := ?_) | refine wo_ldV (h := ?_)) | ((with_reducible first | apply o_lss | apply o_gtr | apply o_eql | apply o_neq); exact rfl; exact rfl; exact rfl) | ((with_reducible apply gdo_store); first | refine wo_store1 (h := ?_) | refine wo_storeA (h := ?_)) | ((with_reducible first | apply c_seq | apply c_block | apply c_region | apply c_nil | apply c_ret | apply c_exit | apply c_skip)) | ((with_reducible apply c_cond_f); exact rfl; exact fF_) | ((with_reducible first | apply e_then | apply e_then_ret | apply e_then_exit | apply e_in | apply e_in_ret | apply e_in_same)) | ((with_reducible apply c_regionD0 (id := 39) []); kernel_rfl; kernel_rfl) | ((with_reducible apply c_regionD0 (id := 40) []); kernel_rfl; kernel_rfl) | ((with_reducible apply q_nil); try simp only [ents, List.cons_append, List.nil_append]) | ((with_reducible first | apply q_move | apply q_assign | apply q_faddr0 | apply q_not_d); exact rfl; exact rfl) | ((with_reducible first | apply q_faddr); exact rfl; exact rfl) | ((with_reducible apply gdq_load); first | refine wq_load (h := ?_) | refine wq_loadAll (h := ?_) | refine wq_loadC (h := ?_)) | ((with_reducible first | apply q_add | apply q_sub | apply q_mul); exact rfl; exact rfl; exact rfl; (constructor <;> omega)) | ((with_reducible apply gdq_build); first | refine wq_build (h := ?_)) | ((with_reducible apply q_idx); infer_instance; infer_instance; exact rfl; exact rfl; (first | exact rfl | omega); exact rfl; (first | assumption | omega | decide)) | ((with_reducible apply gdq_store); first | refine wq_storeA (h := ?_) | refine wq_storeAE (h := ?_)) | ((with_reducible apply q_alloc); exact rfl; intro _) | ((with_reducible apply c_cond_d); exact rfl; intro hcond; rotate_left; intro hcond; rotate_left) | ((with_reducible apply g_split_d); exact rfl; intro hcond; rotate_left; intro hcond; rotate_left))
              all_goals
                first
                  | (refine l_meetD (⟨900 - (k : Int), s1, s0, 1 + z100, [], [], 0, 3000 + 7 * z64 + 500 * (k : Int)⟩ : Ref.Pt) ⟨rfl, rfl, by unfold Ref.numF; dsimp only; split <;> omega⟩ rfl ?_ ?_
                     · exact fS_
                     · (try dsimp only); exact hS_)
                  | (refine l_meetD (⟨900 - (k : Int), s1, s0, 1 + z100, [66], [], 0, 3000 + 7 * z64 + 500 * (k : Int)⟩ : Ref.Pt) ⟨rfl, rfl, by unfold Ref.numF; dsimp only; split <;> omega⟩ rfl ?_ ?_
                     · exact fS_
                     · (try dsimp only); exact hS_)
                  | (refine l_meetD (⟨900 - (k : Int), s1, s0, 1 + z100, [], [50], 0, 3000 + 7 * z64 + 500 * (k : Int)⟩ : Ref.Pt) ⟨rfl, rfl, by unfold Ref.numF; dsimp only; split <;> omega⟩ rfl ?_ ?_
                     · exact fS_
                     · (try dsimp only); exact hS_)
                  | (refine l_meetD (⟨900 - (k : Int), s1, s0, 1 + z100, [66], [50], 0, 3000 + 7 * z64 + 500 * (k : Int)⟩ : Ref.Pt) ⟨rfl, rfl, by unfold Ref.numF; dsimp only; split <;> omega⟩ rfl ?_ ?_
                     · exact fS_
                     · (try dsimp only); exact hS_)
          · repeat' (first | ((with_reducible apply c_cond_f); exact rfl; exact decide_eq_false (by omega)) | ((with_reducible first | apply c_seq | apply c_block | apply c_region | apply c_nil | apply c_ret | apply c_exit | apply c_skip)) | ((with_reducible first | apply e_then | apply e_then_ret | apply e_then_exit | apply e_in | apply e_in_ret | apply e_in_same)))
            refine l_meetD (⟨900 - (k : Int), t0, 0, 0, [], [], 1 + z40, 3000 + 7 * z64 + 500 * (k : Int)⟩ : Ref.Pt) ⟨rfl, rfl, ?_⟩ rfl ?_ ?_
            · unfold Ref.numF; dsimp only; split <;> omega
            · exact fS_
            · (try dsimp only); exact hS_
        rintro ⟨x0, x1, x2, x3, x4, x5, x6, x7⟩ ⟨hx0, hx7, hxn⟩
        dsimp only at hx0 hx7 hxn ⊢
        clear hq8 hz40 hq3 hk9
        repeat' (first | ((with_reducible first | apply o_move | apply o_assign | apply o_faddr0 | apply o_conv); exact rfl; exact rfl) | ((with_reducible apply gdo_load); first | refine wo_load (h := ?_) | refine wo_loadAll (h := ?_) | refine wo_loadC (h := ?_) | refine wo_ldV (h := ?_)) | ((with_reducible apply o_len); infer_instance; exact rfl; exact rfl) | ((with_reducible first | apply c_seq | apply c_block | apply c_region | apply c_nil | apply c_ret | apply c_exit | apply c_skip)) | ((with_reducible first | apply e_then | apply e_then_ret | apply e_then_exit | apply e_in | apply e_in_ret | apply e_in_same)))
        apply c_loop (σ := Nat × Bool) (Fs := fun t => [(314, .int .i64 t.1), (313, .int .i64 ps.length), (312, .slice ap ps.length cp), (17, .bool t.2), (14, ptr b14), (12, .int .i64 k), (3, ptr b3), (2, ptr b2), (1, ptr b1)])
          (Ls := fun t => ⟨b14, Ce [.int .i64 x0, .int .i64 x1, .int .i64 x2, .int .i64 x3, str x4, str x5, .int .i64 x6, .int .i64 x7] 40, true⟩ :: ⟨b3, Ce [.slice (some ⟨bT, oT', none⟩) ts.length ct, .slice as_ ss.length cs, .slice ar rs.length cr, .slice ap ps.length cp] 31, true⟩ :: ⟨b2, Ce [.slice none 0 0, .slice none 0 0, .slice none 0 0, .slice none 0 0] 31, true⟩ :: ⟨b1, Ce [.int .u8 tw, .int .u8 st, .slice a2 cuts.length c2, .slice (some ⟨bv, ov, none⟩) pts.length c3] 25, true⟩ :: (NP ++ (NR ++ (NSt ++ (NT ++ (NX ++ (NAl ++ []))))))) (I := fun t => t.1 ≤ ps.length) (μ := fun t => ps.length - t.1) (s0 := (0, false))
        · exact Nat.zero_le _
        · exact fS_
        · exact hS_
        rintro ⟨j, c⟩ hj
        dsimp only at hj ⊢
        by_cases hltj : j < ps.length
        · obtain ⟨⟨w0_, w1_, w2_, w3_, w4_, w5_, w6_, w7_⟩, hwj⟩ : ∃ x, ps[j]? = some x := ⟨_, List.getElem?_eq_getElem hltj⟩
          refine st_know (fun w' hw' => SV.ptr (hOP.sv encPt_len (by exact rL_) hw') hwj) ?_
          rintro ⟨bW, oW, rfl⟩
          cases c with
          | true =>
            as_aux_lemma =>
              repeat' (first | ((with_reducible apply c_cond_t); exact rfl; exact decide_eq_true (by omega)) | ((with_reducible apply o_ldPV (l := [.int .i64 w0_, .int .i64 w1_, .int .i64 w2_, .int .i64 w3_, str w4_, str w5_, .int .i64 w6_, .int .i64 w7_])); infer_instance; infer_instance; exact rfl; (intro w' hw' j' v' hj'; exact SV.cell (hOP.sv encPt_len (by exact rL_) hw') hwj hj'); exact rfl; exact rfl) | ((with_reducible apply c_regionK (id := 49) (⟨b14, Ce [.int .i64 x0, .int .i64 x1, .int .i64 x2, .int .i64 x3, str x4, str x5, .int .i64 x6, .int .i64 x7] 40, true⟩ :: ⟨b3, Ce [.slice (some ⟨bT, oT', none⟩) ts.length ct, .slice as_ ss.length cs, .slice ar rs.length cr, .slice (some ⟨bW, oW, none⟩) ps.length cp] 31, true⟩ :: ⟨b2, Ce [.slice none 0 0, .slice none 0 0, .slice none 0 0, .slice none 0 0] 31, true⟩ :: ⟨b1, Ce [.int .u8 tw, .int .u8 st, .slice a2 cuts.length c2, .slice (some ⟨bv, ov, none⟩) pts.length c3] 25, true⟩ :: (NP ++ (NR ++ (NSt ++ (NT ++ (NX ++ (NAl ++ []))))))) 8); kernel_rfl; kernel_rfl; exact hS_) | ((with_reducible apply b_pick (fq := 7) (m := 0) (k := 0) (m' := 1)); kernel_rfl; exact rfl; kernel_rfl) | ((with_reducible apply b_pick (fq := 6) (m := 1) (k := 1) (m' := 3)); kernel_rfl; exact rfl; kernel_rfl) | ((with_reducible apply b_pick (fq := 5) (m := 3) (k := 2) (m' := 7)); kernel_rfl; exact rfl; kernel_rfl) | ((with_reducible apply b_pick (fq := 4) (m := 7) (k := 3) (m' := 15)); kernel_rfl; exact rfl; kernel_rfl) | ((with_reducible apply b_pick (fq := 3) (m := 15) (k := 4) (m' := 31)); kernel_rfl; exact rfl; kernel_rfl) | ((with_reducible apply b_split1 (fq := 2) (m := 31) (k1 := 5) (m1 := 63)); kernel_rfl; exact rfl; kernel_rfl) | ((with_reducible apply b_pick (fq := 1) (m := 63) (k := 6) (m' := 127)); kernel_rfl; exact rfl; kernel_rfl) | ((with_reducible apply b_split1 (fq := 0) (m := 127) (k1 := 7) (m1 := 255)); kernel_rfl; exact rfl; kernel_rfl) | ((with_reducible apply b_done); kernel_rfl) | ((with_reducible apply b_in); exact hS_) | ((with_reducible first | apply b_move | apply b_assign | apply b_faddr0); exact rfl; exact rfl) | ((with_reducible apply b_load); infer_instance; exact rfl; exact kN_; exact nT_; exact rfl) | ((with_reducible first | apply o_move | apply o_assign | apply o_faddr0 | apply o_conv); exact rfl; exact rfl) | ((with_reducible first | apply o_lss | apply o_gtr | apply o_eql | apply o_neq); exact rfl; exact rfl; exact rfl) | ((with_reducible first | apply o_add | apply o_sub | apply o_mul); exact rfl; exact rfl; exact rfl; (constructor <;> omega)) | ((with_reducible apply o_pick_t); exact rfl; exact tT_; exact rfl; exact rfl) | ((with_reducible apply o_alloc); exact rfl; intro _) | ((with_reducible apply gdo_store); first | refine wo_store1 (h := ?_) | refine wo_storeA (h := ?_)) | ((with_reducible apply o_idx); infer_instance; infer_instance; exact rfl; exact rfl; (first | exact rfl | omega); exact rfl; (first | assumption | omega | decide)) | ((with_reducible apply g_skip); exact rfl; exact gG_; exact rfl) | ((with_reducible first | apply c_seq | apply c_block | apply c_region | apply c_nil | apply c_ret | apply c_exit | apply c_skip)) | ((with_reducible first | apply e_then | apply e_then_ret | apply e_then_exit | apply e_in | apply e_in_ret | apply e_in_same)))
              refine l_again (j + 1, true) (show j + 1 ≤ ps.length by omega) (show ps.length - (j + 1) < ps.length - j by omega) ?_ ?_
              · exact fS_
              · exact hS_
          | false =>
            as_aux_lemma =>
              repeat' (first | ((with_reducible apply c_cond_t); exact rfl; exact decide_eq_true (by omega)) | ((with_reducible apply o_ldPV (l := [.int .i64 w0_, .int .i64 w1_, .int .i64 w2_, .int .i64 w3_, str w4_, str w5_, .int .i64 w6_, .int .i64 w7_])); infer_instance; infer_instance; exact rfl; (intro w' hw' j' v' hj'; exact SV.cell (hOP.sv encPt_len (by exact rL_) hw') hwj hj'); exact rfl; exact rfl) | ((with_reducible apply o_eql_A); infer_instance; exact rfl; exact rfl; (exact EqA.int (EqA.int (EqA.int (EqA.int (EqA.str (EqA.str (EqA.int (EqA.int EqA.nil)))))))); exact rfl) | ((with_reducible apply c_regionK (id := 49) (⟨b14, Ce [.int .i64 x0, .int .i64 x1, .int .i64 x2, .int .i64 x3, str x4, str x5, .int .i64 x6, .int .i64 x7] 40, true⟩ :: ⟨b3, Ce [.slice (some ⟨bT, oT', none⟩) ts.length ct, .slice as_ ss.length cs, .slice ar rs.length cr, .slice (some ⟨bW, oW, none⟩) ps.length cp] 31, true⟩ :: ⟨b2, Ce [.slice none 0 0, .slice none 0 0, .slice none 0 0, .slice none 0 0] 31, true⟩ :: ⟨b1, Ce [.int .u8 tw, .int .u8 st, .slice a2 cuts.length c2, .slice (some ⟨bv, ov, none⟩) pts.length c3] 25, true⟩ :: (NP ++ (NR ++ (NSt ++ (NT ++ (NX ++ (NAl ++ []))))))) 8); kernel_rfl; kernel_rfl; exact hS_) | ((with_reducible apply b_pick (fq := 7) (m := 0) (k := 0) (m' := 1)); kernel_rfl; exact rfl; kernel_rfl) | ((with_reducible apply b_pick (fq := 6) (m := 1) (k := 1) (m' := 3)); kernel_rfl; exact rfl; kernel_rfl) | ((with_reducible apply b_pick (fq := 5) (m := 3) (k := 2) (m' := 7)); kernel_rfl; exact rfl; kernel_rfl) | ((with_reducible apply b_pick (fq := 4) (m := 7) (k := 3) (m' := 15)); kernel_rfl; exact rfl; kernel_rfl) | ((with_reducible apply b_pick (fq := 3) (m := 15) (k := 4) (m' := 31)); kernel_rfl; exact rfl; kernel_rfl) | ((with_reducible apply b_split1 (fq := 2) (m := 31) (k1 := 5) (m1 := 63)); kernel_rfl; exact rfl; kernel_rfl) | ((with_reducible apply b_pick (fq := 1) (m := 63) (k := 6) (m' := 127)); kernel_rfl; exact rfl; kernel_rfl) | ((with_reducible apply b_split1 (fq := 0) (m := 127) (k1 := 7) (m1 := 255)); kernel_rfl; exact rfl; kernel_rfl) | ((with_reducible apply b_done); kernel_rfl) | ((with_reducible apply b_in); exact hS_) | ((with_reducible first | apply b_move | apply b_assign | apply b_faddr0); exact rfl; exact rfl) | ((with_reducible apply b_load); infer_instance; exact rfl; exact kN_; exact nT_; exact rfl) | ((with_reducible first | apply o_move | apply o_assign | apply o_faddr0 | apply o_conv); exact rfl; exact rfl) | ((with_reducible apply gdo_load); first | refine wo_load (h := ?_) | refine wo_loadAll (h := ?_) | refine wo_loadC (h := ?_) | refine wo_ldV (h := ?_)) | ((with_reducible first | apply o_lss | apply o_gtr | apply o_eql | apply o_neq); exact rfl; exact rfl; exact rfl) | ((with_reducible first | apply o_add | apply o_sub | apply o_mul); exact rfl; exact rfl; exact rfl; (constructor <;> omega)) | ((with_reducible apply o_pick_f); exact rfl; exact fF_; exact rfl; exact rfl) | ((with_reducible apply o_alloc); exact rfl; intro _) | ((with_reducible apply gdo_store); first | refine wo_store1 (h := ?_) | refine wo_storeA (h := ?_)) | ((with_reducible apply o_idx); infer_instance; infer_instance; exact rfl; exact rfl; (first | exact rfl | omega); exact rfl; (first | assumption | omega | decide)) | ((with_reducible first | apply g_run); exact rfl; exact gG_) | ((with_reducible first | apply c_seq | apply c_block | apply c_region | apply c_nil | apply c_ret | apply c_exit | apply c_skip)) | ((with_reducible first | apply e_then | apply e_then_ret | apply e_then_exit | apply e_in | apply e_in_ret | apply e_in_same)))
              refine l_again (j + 1, eqA [.int .i64 x0, .int .i64 w1_, .int .i64 w2_, .int .i64 w3_, str w4_, str w5_, .int .i64 w6_, .int .i64 x7] [.int .i64 x0, .int .i64 x1, .int .i64 x2, .int .i64 x3, str x4, str x5, .int .i64 x6, .int .i64 x7]) (show j + 1 ≤ ps.length by omega) (show ps.length - (j + 1) < ps.length - j by omega) ?_ ?_
              · exact fS_
              · exact hS_
        obtain rfl : j = ps.length := by omega
        cases c with
        | true =>
          repeat' (first | ((with_reducible apply c_cond_f); exact rfl; exact decide_eq_false (by omega)) | ((with_reducible first | apply o_move | apply o_assign | apply o_faddr0 | apply o_conv); exact rfl; exact rfl) | ((with_reducible first | apply o_lss | apply o_gtr | apply o_eql | apply o_neq); exact rfl; exact rfl; exact rfl) | ((with_reducible apply o_not); exact rfl; exact rfl) | ((with_reducible first | apply o_add | apply o_sub | apply o_mul); exact rfl; exact rfl; exact rfl; (constructor <;> omega)) | ((with_reducible first | apply c_seq | apply c_block | apply c_region | apply c_nil | apply c_ret | apply c_exit | apply c_skip)) | ((with_reducible apply c_cond_f); exact rfl; exact fF_) | ((with_reducible first | apply e_then | apply e_then_ret | apply e_then_exit | apply e_in | apply e_in_ret | apply e_in_same)))
          refine l_again (k + 1, ps, (ap, cp), NP) ⟨show k + 1 ≤ min pts.length 60 by omega, hok.next, hOP⟩ (show min pts.length 60 - (k + 1) < min pts.length 60 - k by omega) ?_ ?_
          · exact fS_
          · exact hS_
        | false =>
          repeat' (first | ((with_reducible apply c_cond_f); exact rfl; exact decide_eq_false (by omega)) | (apply o_appH (enc := encPt) (ys := [(⟨x0, x1, x2, x3, x4, x5, x6, x7⟩ : Ref.Pt)]); infer_instance; infer_instance; infer_instance; exact rfl; exact encPt_len; exact encPt_one; exact rfl; exact rfl; exact rfl; assumption; exact rL_; (exact fun w hw => SV.lit [(⟨x0, x1, x2, x3, x4, x5, x6, x7⟩ : Ref.Pt)] encPt_len hw (by exact aT_) rfl rfl (by decide)); (first | decide | (constructor <;> (try simp only [List.length_cons, List.length_nil]) <;> omega) | (constructor <;> simp <;> omega)); intro a_ cp_ N_ hO_; have oN_ := hO_.own; (try simp only [List.nil_append, List.append_assoc] at hO_); (try simp only [List.append_eq, List.append_assoc, List.cons_append, List.nil_append])) | ((with_reducible first | apply o_move | apply o_assign | apply o_faddr0 | apply o_conv); exact rfl; exact rfl) | ((with_reducible apply gdo_load); first | refine wo_load (h := ?_) | refine wo_loadAll (h := ?_) | refine wo_loadC (h := ?_) | refine wo_ldV (h := ?_)) | ((with_reducible first | apply o_lss | apply o_gtr | apply o_eql | apply o_neq); exact rfl; exact rfl; exact rfl) | ((with_reducible apply o_not); exact rfl; exact rfl) | ((with_reducible first | apply o_add | apply o_sub | apply o_mul); exact rfl; exact rfl; exact rfl; (constructor <;> omega)) | ((with_reducible apply gdo_store); first | refine wo_store1 (h := ?_) | refine wo_storeA (h := ?_)) | ((with_reducible apply gdo_buildSlice); refine wo_buildSlice (h := fun _ => ?_)) | ((with_reducible first | apply c_seq | apply c_block | apply c_region | apply c_nil | apply c_ret | apply c_exit | apply c_skip)) | ((with_reducible apply c_cond_t); exact rfl; exact tT_) | ((with_reducible first | apply e_then | apply e_then_ret | apply e_then_exit | apply e_in | apply e_in_ret | apply e_in_same)))
          refine l_again (k + 1, ps ++ [⟨x0, x1, x2, x3, x4, x5, x6, x7⟩], (a_, cp_), N_) ⟨show k + 1 ≤ min pts.length 60 by omega, hok.more hx0 (by dsimp only; omega) hxn, hO_⟩ (show min pts.length 60 - (k + 1) < min pts.length 60 - k by omega) ?_ ?_
          · exact fS_
          · exact hS_
      have hok60 := hok.mono (show k ≤ 60 by omega)
      by_cases hb : k < pts.length
      · repeat' (first | ((with_reducible apply c_cond_f); exact rfl; exact decide_eq_false (by omega)) | ((with_reducible apply o_pick_t); exact rfl; exact decide_eq_true (by omega); exact rfl; exact rfl) | ((with_reducible apply g_run); exact rfl; exact decide_eq_true (by omega)) | ((with_reducible first | apply o_move | apply o_assign | apply o_faddr0 | apply o_conv); exact rfl; exact rfl) | ((with_reducible apply gdo_load); first | refine wo_load (h := ?_) | refine wo_loadAll (h := ?_) | refine wo_loadC (h := ?_) | refine wo_ldV (h := ?_)) | ((with_reducible first | apply o_lss | apply o_gtr | apply o_eql | apply o_neq); exact rfl; exact rfl; exact rfl) | ((with_reducible apply o_len); infer_instance; exact rfl; exact rfl) | ((with_reducible first | apply c_seq | apply c_block | apply c_region | apply c_nil | apply c_ret | apply c_exit | apply c_skip)) | ((with_reducible first | apply e_then | apply e_then_ret | apply e_then_exit | apply e_in | apply e_in_ret | apply e_in_same)))
        refine l_meetD (ps, (ap, cp), NP) ⟨hok60, hOP⟩ rfl ?_ ?_
        · exact fS_
        · exact hS_
      · repeat' (first | ((with_reducible apply o_pick_f); exact rfl; exact decide_eq_false (by omega); exact rfl; exact rfl) | ((with_reducible apply g_skip); exact rfl; exact decide_eq_false (by omega); exact rfl) | ((with_reducible first | apply o_move | apply o_assign | apply o_faddr0 | apply o_conv); exact rfl; exact rfl) | ((with_reducible apply gdo_load); first | refine wo_load (h := ?_) | refine wo_loadAll (h := ?_) | refine wo_loadC (h := ?_) | refine wo_ldV (h := ?_)) | ((with_reducible first | apply o_lss | apply o_gtr | apply o_eql | apply o_neq); exact rfl; exact rfl; exact rfl) | ((with_reducible apply o_len); infer_instance; exact rfl; exact rfl) | ((with_reducible first | apply c_seq | apply c_block | apply c_region | apply c_nil | apply c_ret | apply c_exit | apply c_skip)) | ((with_reducible apply c_cond_f); exact rfl; exact fF_) | ((with_reducible first | apply e_then | apply e_then_ret | apply e_then_exit | apply e_in | apply e_in_ret | apply e_in_same)))
        refine l_meetD (ps, (ap, cp), NP) ⟨hok60, hOP⟩ rfl ?_ ?_
        · exact fS_
        · exact hS_
  rintro ⟨ps, ⟨ap, cp⟩, NP⟩ ⟨hok, hOP⟩
  dsimp only at hok hOP ⊢
  have oP := hOP.own
  repeat' (first | ((with_reducible apply gdo_load); first | refine wo_load (h := ?_) | refine wo_loadAll (h := ?_) | refine wo_loadC (h := ?_) | refine wo_ldV (h := ?_)) | ((with_reducible apply gdo_store); first | refine wo_store1 (h := ?_) | refine wo_storeA (h := ?_)) | ((with_reducible first | apply c_seq | apply c_block | apply c_region | apply c_nil | apply c_ret | apply c_exit | apply c_skip)) | ((with_reducible first | apply e_then | apply e_then_ret | apply e_then_exit | apply e_in | apply e_in_ret | apply e_in_same)))
  apply r_body; apply res1 Try.results4; exact rV_; intro w' hw
  exact ⟨_, _, rfl, built12_φ ⟨rfl, rfl⟩ hok (by omega) hOR hOP (own4 hOS.own oT oX oAl), hw.sub (by exact hS_), own_b12 oP oR (own4 hOS.own oT oX oAl)⟩
end Go.Proofs.Ythcoaljmgkhglaa
namespace Go.Sx.Seq
/-- The stops of a route of n stops. -/
def routeN (vs : List UInt8) (most : Int) (n : Nat) : List Stop := (List.range n).map fun (i : Nat) => ⟨1000 - 3 * (i : Int), 1 + ((vs.getD i 0).toNat : Int) % most⟩
def routeF (vs : List UInt8) (most : Int) : List Stop := routeN vs most (min vs.length 200)
def capsN (vs : List UInt8) (n : Nat) : List Int := (List.range n).map fun (i : Nat) => 1 + ((vs.getD i 0).toNat : Int)
def capsF (vs : List UInt8) : List Int := if vs = [] then [1] else capsN vs (min vs.length 64)
/-- One pick of an item: the items that were taken of each stop, and what was fed. -/
def feedStep (l : List Stop) (st : List Int × List Int) (v : UInt8) : List Int × List Int :=
  match l[v.toNat % l.length]? with
  | none => st
  | some s => if st.1.getD (v.toNat % l.length) 0 < s.vol then (st.1.set (v.toNat % l.length) (st.1.getD (v.toNat % l.length) 0 + 1), st.2 ++ [s.id]) else st
def feedN (l : List Stop) (vs : List UInt8) (n : Nat) : List Int × List Int := (vs.take n).foldl (feedStep l) (List.replicate l.length 0, [])
def feedOut (l : List Stop) (vs : List UInt8) : List Int := if l = [] then [] else (feedN l vs (min vs.length 2000)).2
def atF : Nat → List Stop → Int → Int
  | _, [], _ => -1
  | i, s :: r, id => if s.id = id then i else atF (i + 1) r id
/-! ## routes and machines are right -/
/-! ## items within the volumes -/
/-- What has been fed: items of the route, none of a stop more than its volume. -/
structure FedOK (l : List Stop) (left out : List Int) : Prop where
  len : left.length = l.length
  mem : ∀ x ∈ out, ∃ s ∈ l, s.id = x
  cnt : ∀ (k : Nat) (s : Stop), l[k]? = some s → left[k]? = some (out.count s.id : Int) ∧ out.count s.id ≤ s.vol
theorem FedOK.nil {l : List Stop} (hr : routeFrom [] l) : FedOK l (List.replicate l.length 0) [] :=
  ⟨by simp, by simp, fun k s hk => by
    have hlt := (List.getElem?_eq_some_iff.1 hk).1
    have := hr.1 s (List.mem_of_getElem? hk)
    unfold Stop.ok at this
    simp [hlt]; omega⟩
theorem ids_inj {l : List Stop} (hr : (l.map Stop.id).Nodup) {i j : Nat} {s t : Stop} (hi : l[i]? = some s) (hj : l[j]? = some t) (h : s.id = t.id) : i = j := by
  obtain ⟨b1, c1⟩ := List.getElem?_eq_some_iff.1 (show (l.map Stop.id)[i]? = some s.id by simp [hi])
  obtain ⟨b2, c2⟩ := List.getElem?_eq_some_iff.1 (show (l.map Stop.id)[j]? = some t.id by simp [hj])
  have hp := List.pairwise_iff_getElem.1 hr
  rcases Nat.lt_trichotomy i j with hl | hl | hl
  · exact absurd (by rw [c1, c2, h]) (hp i j b1 b2 hl)
  · exact hl
  · exact absurd (by rw [c1, c2, h]) (hp j i b2 b1 hl)
theorem FedOK.step {l : List Stop} (hr : routeFrom [] l) {left out : List Int} (h : FedOK l left out) (v : UInt8) : FedOK l (feedStep l (left, out) v).1 (feedStep l (left, out) v).2 := by
  unfold feedStep
  split
  · exact h
  · rename_i s hs
    split
    · rename_i hlt
      simp only [] at hlt ⊢
      obtain ⟨hc1, hc2⟩ := h.cnt _ s hs
      have hget : left.getD (v.toNat % l.length) 0 = (out.count s.id : Int) := by simp [hc1]
      rw [hget] at hlt ⊢
      refine ⟨by simpa using h.len, fun x hx => ?_, fun k t hk => ?_⟩
      · rcases List.mem_append.1 hx with hx | hx
        · exact h.mem x hx
        · simp at hx; subst hx; exact ⟨s, List.mem_of_getElem? hs, rfl⟩
      · obtain ⟨g1, g2⟩ := h.cnt k t hk
        rw [List.count_append, List.count_singleton, List.getElem?_set]
        by_cases e : v.toNat % l.length = k
        · subst e
          rw [hs] at hk; cases hk
          have hlt' := (List.getElem?_eq_some_iff.1 hs).1
          have hlt2 : v.toNat % l.length < left.length := by rw [h.len]; exact hlt'
          simp [hlt2]; omega
        · have hne : (s.id == t.id) = false := by
            have : s.id ≠ t.id := fun he => e (ids_inj hr.2.1 hs hk he)
            simpa using this
          simp [e, hne]
          exact ⟨g1, g2⟩
    · exact h
/-- Items within the volumes. -/
structure Within (l : List Stop) (items : List Int) : Prop where
  mem : ∀ x ∈ items, ∃ s ∈ l, s.id = x
  cnt : ∀ s ∈ l, items.count s.id ≤ s.vol
  len : items.length ≤ 2000
end Go.Sx.Seq
namespace Go.Sx.Seq
def lexLt (a b : Seat) : Prop := a.second < b.second ∨ (a.second = b.second ∧ a.first < b.first)
def nextTo (a b : Seat) : Prop := (b.second = a.second ∧ b.first = a.first + 1) ∨ (a.second < b.second ∧ b.first = 0)
theorem alongF_full {limit : Nat} : ∀ (l : List Stop) (cur held : Nat) (load : Int) (cs : List Int), (alongF limit l cur held load cs).length = l.length → (alongF limit l cur held load cs).map Seat.asStop = l
  | [], _, _, _, _, _ => by simp [alongF]
  | s :: r, cur, held, load, cs, h => by
    rw [alongF] at h ⊢
    split at h
    · simp at h
    · rename_i cur' held' load' cs' hp
      simp only [List.map_cons, List.length_cons] at h ⊢
      rw [alongF_full r _ _ _ _ (by omega)]
      rfl
theorem alongF_ge {limit : Nat} : ∀ (l : List Stop) (cur held : Nat) (load : Int) (cs : List Int), ∀ x ∈ alongF limit l cur held load cs, (cur : Int) < x.second ∨ (x.second = cur ∧ (held : Int) ≤ x.first)
  | [], _, _, _, _, x, hx => by simp [alongF] at hx
  | s :: r, cur, held, load, cs, x, hx => by
    rw [alongF] at hx
    split at hx
    · cases hx
    · rename_i cur' held' load' cs' hp
      obtain ⟨_, h2, _, _, _, h5⟩ := place_spec hp
      rcases List.mem_cons.1 hx with rfl | hx
      · simp only []; omega
      · have := alongF_ge r _ _ _ _ x hx
        omega
theorem alongF_pairwise {limit : Nat} : ∀ (l : List Stop) (cur held : Nat) (load : Int) (cs : List Int), (alongF limit l cur held load cs).Pairwise lexLt
  | [], _, _, _, _ => by simp [alongF]
  | s :: r, cur, held, load, cs => by
    rw [alongF]
    split
    · exact List.Pairwise.nil
    · refine List.Pairwise.cons (fun x hx => ?_) (alongF_pairwise r _ _ _ _)
      have := alongF_ge r _ _ _ _ x hx
      unfold lexLt
      simp only []; omega
theorem alongF_head {limit : Nat} {l : List Stop} {cur held : Nat} {load : Int} {cs : List Int} {h : Seat} (hh : (alongF limit l cur held load cs)[0]? = some h) : (h.second = cur ∧ h.first = held) ∨ ((cur : Int) < h.second ∧ h.first = 0) := by
  cases l with
  | nil => simp [alongF] at hh
  | cons s r =>
    rw [alongF] at hh
    split at hh
    · cases hh
    · rename_i cur' held' load' cs' hp
      obtain ⟨_, h2, _, _, _, h5⟩ := place_spec hp
      simp at hh; subst hh
      simp only []; omega
theorem alongF_next {limit : Nat} : ∀ (l : List Stop) (cur held : Nat) (load : Int) (cs : List Int) (i : Nat) (a b : Seat), (alongF limit l cur held load cs)[i]? = some a → (alongF limit l cur held load cs)[i + 1]? = some b → nextTo a b
  | [], _, _, _, _, i, a, b, ha, _ => by simp [alongF] at ha
  | s :: r, cur, held, load, cs, i, a, b, ha, hb => by
    rw [alongF] at ha hb
    split at ha
    · cases ha
    · rename_i cur' held' load' cs' hp
      rw [hp] at hb
      simp only [List.getElem?_cons_succ] at hb
      cases i with
      | zero =>
        simp at ha; subst ha
        have := alongF_head hb
        unfold nextTo
        simp only []; omega
      | succ i =>
        simp only [List.getElem?_cons_succ] at ha
        exact alongF_next r _ _ _ _ i a b ha hb
theorem misF_ok {n : Nat} : ∀ {l : List Seat} {q : Option Seat} {i : Nat}, (∀ s ∈ l, (0 ≤ s.first ∧ s.first < n) ∧ (0 ≤ s.second ∧ s.second < n)) → l.Pairwise lexLt → (∀ a, q = some a → ∀ s ∈ l, lexLt a s) → misF n q i l = none
  | [], _, _, _, _, _ => by simp [misF]
  | s :: r, q, i, hr, hp, hq => by
    have h1 := hr s List.mem_cons_self
    have hp' := List.pairwise_cons.1 hp
    have ih : misF n (some s) (i + 1) r = none := misF_ok (fun x hx => hr x (List.mem_cons_of_mem _ hx)) hp'.2 (fun a ha x hx => by cases ha; exact hp'.1 x hx)
    cases q with
    | none => rw [misF_first h1]; exact ih
    | some a =>
      have := hq a rfl s List.mem_cons_self
      unfold lexLt at this
      rw [misF_next h1, if_neg (by omega)]; exact ih
theorem diffF_self : ∀ (fs ss : List Int) (i : Nat), diffF i fs ss fs ss = none
  | [], _, _ => by simp [diffF]
  | _ :: _, [], _ => by simp [diffF]
  | f :: fs, s :: ss, i => by
    rw [diffF, if_neg (by simp)]
    exact diffF_self fs ss (i + 1)
theorem overF_none : ∀ {caps fs ss : List Int} {i : Nat}, fs.length = caps.length → ss.length = caps.length → (overF i caps fs ss = none ↔ ∀ (k : Nat) (c f s : Int), caps[k]? = some c → fs[k]? = some f → ss[k]? = some s → f ≤ c ∧ s ≤ c)
  | [], [], [], _, _, _ => by simp [overF]
  | c :: cs, f :: fs, s :: ss, i, h1, h2 => by
    rw [overF]
    have ih := overF_none (caps := cs) (fs := fs) (ss := ss) (i := i + 1) (by simpa using h1) (by simpa using h2)
    by_cases hb : c < f ∨ c < s
    · rw [if_pos hb]
      constructor
      · intro h; cases h
      · intro h
        have := h 0 c f s rfl rfl rfl
        omega
    · rw [if_neg hb, ih]
      constructor
      · intro h k c' f' s' hc hf hs
        cases k with
        | zero => simp at hc hf hs; omega
        | succ k => exact h k c' f' s' (by simpa using hc) (by simpa using hf) (by simpa using hs)
      · intro h k c' f' s' hc hf hs
        exact h (k + 1) c' f' s' (by simpa using hc) (by simpa using hf) (by simpa using hs)
/-- A plan as Make makes it. -/
structure Good (l : List Stop) (caps : List Int) (p : Plan) : Prop where
  caps_eq : p.caps = caps
  stops : p.seats.map Seat.asStop = l
  pw : p.seats.Pairwise lexLt
  next : ∀ (i : Nat) (a b : Seat), p.seats[i]? = some a → p.seats[i + 1]? = some b → nextTo a b
  range : ∀ s ∈ p.seats, (0 ≤ s.first ∧ s.first < caps.length) ∧ (0 ≤ s.second ∧ s.second < caps.length)
  first_eq : p.first = loadsF Seat.first caps.length p.seats
  second_eq : p.second = loadsF Seat.second caps.length p.seats
  over : overF 0 caps p.first p.second = none
theorem rule_good {l : List Stop} {caps : List Int} {L : Nat} (hr : routeFrom [] l) (hL : L ≤ caps.length) (hlen : ¬ (rule L l caps).length < l.length) (ho : overF 0 caps (loadsF Seat.first caps.length (rule L l caps)) (loadsF Seat.second caps.length (rule L l caps)) = none) :
    Good l caps ⟨caps, rule L l caps, loadsF Seat.first caps.length (rule L l caps), loadsF Seat.second caps.length (rule L l caps)⟩ := by
  have h1 := rule_len L l caps
  refine ⟨rfl, alongF_full l 0 0 0 caps (by unfold rule at h1 hlen; omega), alongF_pairwise _ _ _ _ _, alongF_next _ _ _ _ _, fun s hs => ?_, rfl, rfl, ho⟩
  have := rule_range hL hr.1 s hs
  exact ⟨this.1, this.2.1⟩
theorem limits_spec {l : List Stop} {caps : List Int} (hr : routeFrom [] l) : ∀ n, n ≤ caps.length → limits l caps n = (.zero, 4) ∨ ∃ p, limits l caps n = (p, 0) ∧ Good l caps p
  | 0, _ => .inl rfl
  | n + 1, hn => by
    rw [limits]
    by_cases h1 : (rule (n + 1) l caps).length < l.length
    · rw [if_pos h1]; exact limits_spec hr n (by omega)
    · rw [if_neg h1]
      cases ho : overF 0 caps (loadsF Seat.first caps.length (rule (n + 1) l caps)) (loadsF Seat.second caps.length (rule (n + 1) l caps)) with
      | some k => exact limits_spec hr n (by omega)
      | none => exact .inr ⟨_, rfl, rule_good hr hn h1 ho⟩
theorem makeF_spec {l : List Stop} {caps : List Int} (hm : machineOk caps) (hr : routeFrom [] l) (hl : l.length ≤ 1000) : makeF l caps = (.zero, 4) ∨ ∃ p, makeF l caps = (p, 0) ∧ Good l caps p := by
  unfold makeF
  rw [if_neg (fun h => h hm), if_neg (by omega), wrongF_none.2 hr]
  simp only []
  by_cases h0 : l = []
  · rw [if_pos h0]
    subst h0
    refine .inr ⟨_, rfl, rfl, rfl, by simp, by simp, by simp, rfl, rfl, ?_⟩
    rw [overF_none (by simp) (by simp)]
    intro k c f s hc hf hs
    have hlt := (List.getElem?_eq_some_iff.1 hc).1
    simp [hlt] at hf hs
    have := hm.2 c (List.mem_of_getElem? hc)
    omega
  · rw [if_neg h0]
    exact limits_spec hr _ (by omega)
theorem Good.check {l : List Stop} {caps : List Int} {p : Plan} (h : Good l caps p) (hm : machineOk caps) (hr : routeFrom [] l) (hl : l.length ≤ 1000) : checkF p = (0, 0) := by
  have hs : p.seats.length = l.length := by rw [← h.stops]; simp
  unfold checkF
  rw [h.caps_eq, if_neg (fun g => g hm), if_neg (by omega), h.stops, wrongF_none.2 hr]
  simp only []
  rw [misF_ok h.range h.pw (by simp)]
  simp only []
  rw [if_neg (by rw [h.first_eq, h.second_eq, loadsF_len, loadsF_len]; simp), ← h.first_eq, ← h.second_eq, diffF_self]
  simp only []
  rw [h.over]
/-! ## items that are fed -/
theorem feedF_ok {seats : List Seat} : ∀ {items fed : List Int}, (∀ x ∈ items, ∃ s, findF seats x = some s ∧ ((fed ++ items).count x : Int) ≤ s.vol) → feedF seats fed items = 0
  | [], _, _ => rfl
  | x :: r, fed, h => by
    obtain ⟨s, h1, h2⟩ := h x List.mem_cons_self
    rw [feedF, h1]
    simp only []
    have hc : fed.count x < (fed ++ x :: r).count x := by rw [List.count_append, List.count_cons_self]; omega
    rw [if_neg (by omega)]
    refine feedF_ok fun y hy => ?_
    have := h y (List.mem_cons_of_mem _ hy)
    rwa [List.append_assoc, List.singleton_append]
theorem findF_of {seats : List Seat} (hnd : (seats.map Seat.stop).Nodup) {k : Nat} {s : Seat} (hk : seats[k]? = some s) : findF seats s.stop = some s := by
  unfold findF
  have hm : s ∈ seats := List.mem_of_getElem? hk
  cases hf : seats.find? (fun t => t.stop == s.stop) with
  | none =>
    have := List.find?_eq_none.1 hf s hm
    simp at this
  | some t =>
    have h1 := List.find?_some hf
    simp at h1
    obtain ⟨j, hj⟩ := List.getElem?_of_mem (List.mem_of_find?_eq_some hf)
    obtain ⟨b1, c1⟩ := List.getElem?_eq_some_iff.1 (show (seats.map Seat.stop)[j]? = some t.stop by simp [hj])
    obtain ⟨b2, c2⟩ := List.getElem?_eq_some_iff.1 (show (seats.map Seat.stop)[k]? = some s.stop by simp [hk])
    have hp := List.pairwise_iff_getElem.1 hnd
    rcases Nat.lt_trichotomy j k with hl | hl | hl
    · exact absurd (by rw [c1, c2, h1]) (hp j k b1 b2 hl)
    · subst hl; rw [hj] at hk; exact hk
    · exact absurd (by rw [c1, c2, h1]) (hp k j b2 b1 hl)
theorem Good.nodup {l : List Stop} {caps : List Int} {p : Plan} (h : Good l caps p) (hr : routeFrom [] l) : (p.seats.map Seat.stop).Nodup := by
  have := hr.2.1
  rw [← h.stops, List.map_map] at this
  exact this
theorem Good.seat {l : List Stop} {caps : List Int} {p : Plan} (h : Good l caps p) {k : Nat} {t : Stop} (hk : l[k]? = some t) : ∃ s, p.seats[k]? = some s ∧ s.stop = t.id ∧ s.vol = t.vol := by
  have := h.stops
  rw [← this, List.getElem?_map] at hk
  cases hs : p.seats[k]? with
  | none => rw [hs] at hk; cases hk
  | some s => rw [hs] at hk; cases hk; exact ⟨s, rfl, rfl, rfl⟩
theorem Good.found {l : List Stop} {caps : List Int} {p : Plan} (h : Good l caps p) (hr : routeFrom [] l) {items : List Int} (hw : Within l items) {x : Int} (hx : x ∈ items) : ∃ (k : Nat) (t : Stop) (s : Seat), l[k]? = some t ∧ t.id = x ∧ p.seats[k]? = some s ∧ s.stop = x ∧ s.vol = t.vol ∧ findF p.seats x = some s := by
  obtain ⟨t, ht, rfl⟩ := hw.mem x hx
  obtain ⟨k, hk⟩ := List.getElem?_of_mem ht
  obtain ⟨s, h1, h2, h3⟩ := h.seat hk
  exact ⟨k, t, s, hk, rfl, h1, h2, h3, by rw [← h2]; exact findF_of (h.nodup hr) h1⟩
theorem Good.feed {l : List Stop} {caps : List Int} {p : Plan} (h : Good l caps p) (hr : routeFrom [] l) {items : List Int} (hw : Within l items) : feedF p.seats [] items = 0 := by
  refine feedF_ok fun x hx => ?_
  obtain ⟨k, t, s, h1, h2, h3, h4, h5, h6⟩ := h.found hr hw hx
  refine ⟨s, h6, ?_⟩
  have := hw.cnt t (List.mem_of_getElem? h1)
  rw [h2] at this
  rw [List.nil_append, h5]; exact this
theorem Good.sort {l : List Stop} {caps : List Int} {p : Plan} (h : Good l caps p) (hm : machineOk caps) (hr : routeFrom [] l) (hl : l.length ≤ 1000) {items : List Int} (hw : Within l items) : sortF p items = (runF p items, 0) := by
  unfold sortF
  have := hw.len
  rw [h.check hm hr hl, if_neg (by simp), if_neg (by omega), if_neg (by rw [h.feed hr hw]; simp)]
/-! ## passes -/
theorem passF_succ' (n : Nat) (key : Nat → Nat) (l : List Nat) : passF (n + 1) key l = passF n key l ++ [l.filter fun i => key i = n] := by simp [passF, List.range_succ]
theorem passF_cnt (key : Nat → Nat) (l : List Nat) (a : Nat) : ∀ n, (passF n key l).flatten.count a = if key a < n then l.count a else 0
  | 0 => by simp [passF]
  | n + 1 => by
    rw [passF_succ', List.flatten_append, List.count_append, passF_cnt key l a n]
    simp only [List.flatten_cons, List.flatten_nil, List.append_nil]
    by_cases h1 : key a = n
    · rw [if_neg (by omega), if_pos (by omega), List.count_filter (by simpa using h1)]; omega
    · have h2 : (l.filter fun i => decide (key i = n)).count a = 0 := List.count_eq_zero.2 fun hm => h1 (by simpa using (List.mem_filter.1 hm).2)
      rw [h2]
      by_cases h3 : key a < n
      · rw [if_pos h3, if_pos (by omega)]; omega
      · rw [if_neg h3, if_neg (by omega)]
theorem passF_perm {n : Nat} {key : Nat → Nat} {l : List Nat} (h : ∀ i ∈ l, key i < n) : (passF n key l).flatten.Perm l := by
  rw [List.perm_iff_count]
  intro a
  rw [passF_cnt]
  split
  · rfl
  · rename_i hn
    exact (List.count_eq_zero.2 fun hm => hn (h a hm)).symm
theorem passF_pairwise {n : Nat} {key : Nat → Nat} {l : List Nat} {S : Nat → Nat → Prop} (h : l.Pairwise S) : (passF n key l).flatten.Pairwise fun i j => key i < key j ∨ (key i = key j ∧ S i j) := by
  rw [List.pairwise_flatten]
  constructor
  · intro r hr
    obtain ⟨k, _, rfl⟩ := List.mem_map.1 hr
    have h1 : (l.filter fun i => decide (key i = k)).Pairwise S := h.filter _
    refine List.Pairwise.imp_of_mem ?_ h1
    intro a b ha hb hs
    have e1 : key a = k := by simpa using (List.mem_filter.1 ha).2
    have e2 : key b = k := by simpa using (List.mem_filter.1 hb).2
    exact .inr ⟨by omega, hs⟩
  · rw [passF]
    refine List.pairwise_map.2 (List.Pairwise.imp ?_ (List.pairwise_lt_range (n := n)))
    intro a b hab x hx y hy
    have e1 : key x = a := by simpa using (List.mem_filter.1 hx).2
    have e2 : key y = b := by simpa using (List.mem_filter.1 hy).2
    exact .inl (by omega)
theorem keyF_at {seats : List Seat} {items : List Int} {g : Seat → Int} {i : Nat} {x : Int} {s : Seat} (hx : items[i]? = some x) (hs : findF seats x = some s) : keyF seats items g i = (g s).toNat := by
  unfold keyF; rw [hx]; simp [hs]
/-- The order of a run is that of the keys. -/
theorem order_sorted (p : Plan) (items : List Int) : (runF p items).order.Pairwise fun i j => keyF p.seats items Seat.second i < keyF p.seats items Seat.second j ∨ (keyF p.seats items Seat.second i = keyF p.seats items Seat.second j ∧ (keyF p.seats items Seat.first i < keyF p.seats items Seat.first j ∨ (keyF p.seats items Seat.first i = keyF p.seats items Seat.first j ∧ i < j))) := by
  show (passF _ _ _).flatten.Pairwise _
  exact passF_pairwise (passF_pairwise List.pairwise_lt_range)
theorem Good.keys {l : List Stop} {caps : List Int} {p : Plan} (h : Good l caps p) (hr : routeFrom [] l) {items : List Int} (hw : Within l items) {i : Nat} (hi : i < items.length) : ∃ (x : Int) (k : Nat) (t : Stop) (s : Seat), items[i]? = some x ∧ l[k]? = some t ∧ t.id = x ∧ p.seats[k]? = some s ∧ findF p.seats x = some s ∧
    keyF p.seats items Seat.first i = s.first.toNat ∧ keyF p.seats items Seat.second i = s.second.toNat ∧ (0 ≤ s.first ∧ s.first < caps.length) ∧ (0 ≤ s.second ∧ s.second < caps.length) := by
  have hx : items[i]? = some items[i] := List.getElem?_eq_getElem hi
  obtain ⟨k, t, s, h1, h2, h3, h4, h5, h6⟩ := h.found hr hw (List.mem_of_getElem? hx)
  have hrg := h.range s (List.mem_of_getElem? h3)
  exact ⟨_, k, t, s, hx, h1, h2, h3, h6, keyF_at hx h6, keyF_at hx h6, hrg.1, hrg.2⟩
theorem Good.perms {l : List Stop} {caps : List Int} {p : Plan} (h : Good l caps p) (hr : routeFrom [] l) {items : List Int} (hw : Within l items) : (runF p items).first.flatten.Perm (List.range items.length) ∧ (runF p items).order.Perm (List.range items.length) := by
  have h1 : (runF p items).first.flatten.Perm (List.range items.length) := by
    refine passF_perm fun i hi => ?_
    obtain ⟨x, k, t, s, g1, g2, g3, g4, g5, g6, g7, g8, g9⟩ := h.keys hr hw (List.mem_range.1 hi)
    rw [g6, h.caps_eq]; omega
  refine ⟨h1, ?_⟩
  have h2 : (runF p items).order.Perm (runF p items).first.flatten := by
    refine passF_perm fun i hi => ?_
    obtain ⟨x, k, t, s, g1, g2, g3, g4, g5, g6, g7, g8, g9⟩ := h.keys hr hw (List.mem_range.1 (h1.mem_iff.1 hi))
    rw [g7, h.caps_eq]; omega
  exact h2.trans h1
theorem atF_at : ∀ {l : List Stop} {i k : Nat} {t : Stop}, (l.map Stop.id).Nodup → l[k]? = some t → atF i l t.id = i + k
  | [], _, _, _, _, h => by simp at h
  | s :: r, i, 0, t, _, h => by
    simp at h; subst h
    rw [atF, if_pos rfl]; simp
  | s :: r, i, k + 1, t, hnd, h => by
    simp only [List.map_cons, List.nodup_cons] at hnd
    have hm : t ∈ r := List.mem_of_getElem? (by simpa using h)
    rw [atF, if_neg (fun e => hnd.1 (by rw [e]; exact List.mem_map.2 ⟨t, hm, rfl⟩)), atF_at hnd.2 (by simpa using h)]
    simp; omega
/-- Items one after the other at the end: in the order of the route, those of a stop as they were fed. -/
theorem Good.order {l : List Stop} {caps : List Int} {p : Plan} (h : Good l caps p) (hr : routeFrom [] l) {items : List Int} (hw : Within l items) {j a b : Nat} (ha : (runF p items).order[j]? = some a) (hb : (runF p items).order[j + 1]? = some b) :
    ∃ x y, items[a]? = some x ∧ items[b]? = some y ∧ (atF 0 l x < atF 0 l y ∨ (atF 0 l x = atF 0 l y ∧ a < b)) := by
  have hp := (h.perms hr hw).2
  have ha' := List.mem_range.1 (hp.mem_iff.1 (List.mem_of_getElem? ha))
  have hb' := List.mem_range.1 (hp.mem_iff.1 (List.mem_of_getElem? hb))
  obtain ⟨x, k, t, s, g1, g2, g3, g4, g5, g6, g7, g8, g9⟩ := h.keys hr hw ha'
  obtain ⟨y, k', t', s', f1, f2, f3, f4, f5, f6, f7, f8, f9⟩ := h.keys hr hw hb'
  refine ⟨x, y, g1, f1, ?_⟩
  have hsort := order_sorted p items
  obtain ⟨b1, c1⟩ := List.getElem?_eq_some_iff.1 ha
  obtain ⟨b2, c2⟩ := List.getElem?_eq_some_iff.1 hb
  have hR := List.pairwise_iff_getElem.1 hsort j (j + 1) b1 b2 (by omega)
  rw [c1, c2, g6, g7, f6, f7] at hR
  rw [← g3, ← f3, atF_at hr.2.1 g2, atF_at hr.2.1 f2]
  rcases Nat.lt_trichotomy k k' with hlt | heq | hgt
  · left; omega
  · subst heq
    rw [g4] at f4; cases f4
    right; omega
  · exfalso
    obtain ⟨d1, e1⟩ := List.getElem?_eq_some_iff.1 g4
    obtain ⟨d2, e2⟩ := List.getElem?_eq_some_iff.1 f4
    have hL := List.pairwise_iff_getElem.1 h.pw k' k d2 d1 hgt
    rw [e1, e2] at hL
    unfold lexLt at hL
    omega
end Go.Sx.Seq
namespace Go.Sx.Seq
theorem countP_or {α : Type} (p q : α → Bool) : ∀ l : List α, (l.countP fun x => p x || q x) ≤ l.countP p + l.countP q
  | [] => by simp
  | x :: r => by
    have ih := countP_or p q r
    simp only [List.countP_cons]
    cases p x <;> cases q x <;> simp <;> omega
theorem count_seats {items : List Int} {g : Seat → Int} {k : Nat} : ∀ t : List Seat, (∀ s ∈ t, (items.count s.stop : Int) ≤ s.vol ∧ 0 ≤ s.vol) → ((items.countP fun x => t.any fun s => s.stop == x && (g s).toNat == k : Nat) : Int) ≤ loadOf g k t
  | [], _ => by simp [loadOf]
  | s :: r, h => by
    have ih := count_seats (g := g) (k := k) r fun x hx => h x (List.mem_cons_of_mem _ hx)
    obtain ⟨h1, h2⟩ := h s List.mem_cons_self
    have h3 := countP_or (fun x => s.stop == x && (g s).toNat == k) (fun x => r.any fun s => s.stop == x && (g s).toNat == k) items
    simp only [List.any_cons]
    rw [loadOf]
    by_cases e : (g s).toNat = k
    · have h4 : (items.countP fun x => s.stop == x && (g s).toNat == k) = items.count s.stop := by
        rw [List.count]
        apply List.countP_congr
        intro x _
        have e' : ((g s).toNat == k) = true := by simpa using e
        rw [e', Bool.and_true, beq_iff_eq, beq_iff_eq]
        exact eq_comm
      rw [if_pos e]
      omega
    · have h4 : (items.countP fun x => s.stop == x && (g s).toNat == k) = 0 := by
        rw [List.countP_eq_zero]
        intro x _
        simp [e]
      rw [if_neg e]
      omega
theorem range_map_get (l : List Int) : (List.range l.length).map (fun i => l[i]?) = l.map some := by
  apply List.ext_getElem?
  intro i
  by_cases h : i < l.length
  · simp [h]
  · rw [List.getElem?_eq_none (by simpa using h), List.getElem?_eq_none (by simpa using h)]
theorem passF_at {n k : Nat} (key : Nat → Nat) (l : List Nat) (h : k < n) : (passF n key l)[k]? = some (l.filter fun i => key i = k) := by simp [passF, h]
theorem Good.load {l : List Stop} {caps : List Int} {p : Plan} (h : Good l caps p) (hr : routeFrom [] l) {items : List Int} (hw : Within l items) (g : Seat → Int) {l' : List Nat} (hp : l'.Perm (List.range items.length)) (k : Nat) :
    ((l'.filter fun i => keyF p.seats items g i = k).length : Int) ≤ loadOf g k p.seats := by
  rw [(hp.filter _).length_eq]
  have hvol : ∀ s ∈ p.seats, (items.count s.stop : Int) ≤ s.vol ∧ 0 ≤ s.vol := fun s hs => by
    obtain ⟨j, hj⟩ := List.getElem?_of_mem hs
    have hlj : l[j]? = some s.asStop := by rw [← h.stops]; simp [hj]
    have h1 := hw.cnt _ (List.mem_of_getElem? hlj)
    have h2 := hr.1 _ (List.mem_of_getElem? hlj)
    unfold Stop.ok at h2
    unfold Seat.asStop at h1 h2
    simp only [] at h1 h2
    omega
  have hb := count_seats (items := items) (g := g) (k := k) p.seats hvol
  refine Int.le_trans (Int.ofNat_le.2 ?_) hb
  rw [← List.countP_eq_length_filter]
  let P : Option Int → Bool := fun o => decide (((o.bind (findF p.seats)).elim 0 g).toNat = k)
  have e1 : (List.range items.length).countP (fun i => decide (keyF p.seats items g i = k)) = ((List.range items.length).map (fun i => items[i]?)).countP P := by
    rw [List.countP_map]; rfl
  rw [e1, range_map_get, List.countP_map]
  apply List.countP_mono_left
  intro x hx hP
  obtain ⟨j, t, s, h1, h2, h3, h4, h5, h6⟩ := h.found hr hw hx
  simp only [Function.comp, P, Option.bind_some, h6, Option.elim_some, decide_eq_true_eq] at hP
  rw [List.any_eq_true]
  exact ⟨s, List.mem_of_getElem? h3, by simp [h4, hP]⟩
/-- What the stackers hold, their loads, and their capacities. -/
theorem Good.rows {l : List Stop} {caps : List Int} {p : Plan} (h : Good l caps p) (hr : routeFrom [] l) {items : List Int} (hw : Within l items) {k : Nat} (hk : k < caps.length) : ∃ r1 r2 f1 f2 c, (runF p items).first[k]? = some r1 ∧ (runF p items).second[k]? = some r2 ∧ p.first[k]? = some f1 ∧ p.second[k]? = some f2 ∧ caps[k]? = some c ∧
    (r1.length : Int) ≤ f1 ∧ (r2.length : Int) ≤ f2 ∧ f1 ≤ c ∧ f2 ≤ c := by
  have hp := h.perms hr hw
  have hlen : k < p.caps.length := by rw [h.caps_eq]; exact hk
  have e1 : (runF p items).first[k]? = some ((List.range items.length).filter fun i => keyF p.seats items Seat.first i = k) := by
    exact passF_at _ _ hlen
  have e2 : (runF p items).second[k]? = some ((runF p items).first.flatten.filter fun i => keyF p.seats items Seat.second i = k) := by
    exact passF_at _ _ hlen
  have e3 : p.first[k]? = some (loadOf Seat.first k p.seats) := by rw [h.first_eq]; exact loadsF_get _ hk _
  have e4 : p.second[k]? = some (loadOf Seat.second k p.seats) := by rw [h.second_eq]; exact loadsF_get _ hk _
  have e5 : caps[k]? = some caps[k] := List.getElem?_eq_getElem hk
  have ho := (overF_none (by rw [h.first_eq, loadsF_len]) (by rw [h.second_eq, loadsF_len])).1 h.over k _ _ _ e5 e3 e4
  exact ⟨_, _, _, _, _, e1, e2, e3, e4, e5, h.load hr hw _ (List.Perm.refl _) k, h.load hr hw _ hp.1 k, ho.1, ho.2⟩
end Go.Sx.Seq
