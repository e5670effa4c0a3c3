/-
  A part of the proofs of this seat: what some of the program's functions compute, shown by walks through their code. Conditions: the hypotheses that each theorem names. (Its blocks of tactics were laid by a small program.)
-/
import Derived.Test.YtcocnhfbdcapbaaN5
set_option linter.unusedSimpArgs false
set_option linter.unusedVariables false
namespace Go.Proofs.Ytcocnhfbdcapbaa
open Go Go.Sx Go.RowKit
attribute [local irreducible] WL WC WQ St Exit.then Exit.inBlock bodyPost roundPost beginK YR RG BM Calls B validF
/-! ## fields of legs, changed through functions -/
def chg : Nat → Leg → Int → Leg
  | 0, l, n => { l with id := n }
  | 1, l, n => { l with fr := n }
  | 2, l, n => { l with to := n }
  | 3, l, n => { l with dep := n }
  | 4, l, n => { l with min := n }
  | 5, l, n => { l with cut := n }
  | _, l, n => { l with gr := n }
def ChgPost (w : World) (b : Nat) (l' : Leg) (e : Ending) (w' : World) : Prop :=
  e = .returned (.tuple #[]) ∧ (∃ N, Rep w w' (N ++ [⟨b, Ce (legC l') 23, false⟩]) ∧ ∀ x ∈ N, x.own = true) ∧ ∀ x ∈ [(⟨b, Ce (legC l') 23, false⟩ : Ent)], x.b < w.heap.size
theorem chg_lt {w : World} {b : Nat} {o : Obj} {l' : Leg} (h : w.heap[b]? = some o) : ∀ x ∈ [(⟨b, Ce (legC l') 23, false⟩ : Ent)], x.b < w.heap.size := by
  intro x hx
  simp at hx; subst hx
  exact (Array.getElem?_eq_some_iff.1 h).1
theorem chg0 (l : Leg) (n : Int) (b : Nat) (w : World) (h : w.heap[b]? = some (Ce (legC l) 23)) : Calls Try.prog 35 #[.pointer (some ⟨b, 0, none⟩), .int .i64 n] w (ChgPost w b (chg 0 l n)) := by
  refine f_enter2 Try.func35 rfl Try.ntmps35 rfl (Rep.given h) ?_
  repeat' (first | ((with_reducible first | apply o_move | apply o_faddr0 | apply o_nilCheck); exact rfl; exact rfl) | ((with_reducible apply gdo_store); first | refine wo_store1 (h := ?_) | refine wo_storeA (h := ?_)) | ((with_reducible first | apply c_seq | apply c_block | apply c_region | apply c_nil | apply c_ret | apply c_exit | apply c_skip)))
  apply r_body'; apply res0 Try.results35; intro w' hw
  exact ⟨rfl, ⟨[], hw, by simp⟩, chg_lt h⟩
theorem chg1 (l : Leg) (n : Int) (b : Nat) (w : World) (h : w.heap[b]? = some (Ce (legC l) 23)) : Calls Try.prog 36 #[.pointer (some ⟨b, 0, none⟩), .int .i64 n] w (ChgPost w b (chg 1 l n)) := by
  refine f_enter2 Try.func36 rfl Try.ntmps36 rfl (Rep.given h) ?_
  repeat' (first | ((with_reducible first | apply o_move | apply o_faddr0 | apply o_nilCheck); exact rfl; exact rfl) | ((with_reducible apply gdo_store); first | refine wo_store1 (h := ?_) | refine wo_storeA (h := ?_)) | ((with_reducible first | apply c_seq | apply c_block | apply c_region | apply c_nil | apply c_ret | apply c_exit | apply c_skip)))
  apply r_body'; apply res0 Try.results36; intro w' hw
  exact ⟨rfl, ⟨[], hw, by simp⟩, chg_lt h⟩
theorem chg2 (l : Leg) (n : Int) (b : Nat) (w : World) (h : w.heap[b]? = some (Ce (legC l) 23)) : Calls Try.prog 37 #[.pointer (some ⟨b, 0, none⟩), .int .i64 n] w (ChgPost w b (chg 2 l n)) := by
  refine f_enter2 Try.func37 rfl Try.ntmps37 rfl (Rep.given h) ?_
  repeat' (first | ((with_reducible first | apply o_move | apply o_faddr0 | apply o_nilCheck); exact rfl; exact rfl) | ((with_reducible apply gdo_store); first | refine wo_store1 (h := ?_) | refine wo_storeA (h := ?_)) | ((with_reducible first | apply c_seq | apply c_block | apply c_region | apply c_nil | apply c_ret | apply c_exit | apply c_skip)))
  apply r_body'; apply res0 Try.results37; intro w' hw
  exact ⟨rfl, ⟨[], hw, by simp⟩, chg_lt h⟩
theorem chg3 (l : Leg) (n : Int) (b : Nat) (w : World) (h : w.heap[b]? = some (Ce (legC l) 23)) : Calls Try.prog 38 #[.pointer (some ⟨b, 0, none⟩), .int .i64 n] w (ChgPost w b (chg 3 l n)) := by
  refine f_enter2 Try.func38 rfl Try.ntmps38 rfl (Rep.given h) ?_
  repeat' (first | ((with_reducible first | apply o_move | apply o_faddr0 | apply o_nilCheck); exact rfl; exact rfl) | ((with_reducible apply gdo_store); first | refine wo_store1 (h := ?_) | refine wo_storeA (h := ?_)) | ((with_reducible first | apply c_seq | apply c_block | apply c_region | apply c_nil | apply c_ret | apply c_exit | apply c_skip)))
  apply r_body'; apply res0 Try.results38; intro w' hw
  exact ⟨rfl, ⟨[], hw, by simp⟩, chg_lt h⟩
theorem chg4 (l : Leg) (n : Int) (b : Nat) (w : World) (h : w.heap[b]? = some (Ce (legC l) 23)) : Calls Try.prog 39 #[.pointer (some ⟨b, 0, none⟩), .int .i64 n] w (ChgPost w b (chg 4 l n)) := by
  refine f_enter2 Try.func39 rfl Try.ntmps39 rfl (Rep.given h) ?_
  repeat' (first | ((with_reducible first | apply o_move | apply o_faddr0 | apply o_nilCheck); exact rfl; exact rfl) | ((with_reducible apply gdo_store); first | refine wo_store1 (h := ?_) | refine wo_storeA (h := ?_)) | ((with_reducible first | apply c_seq | apply c_block | apply c_region | apply c_nil | apply c_ret | apply c_exit | apply c_skip)))
  apply r_body'; apply res0 Try.results39; intro w' hw
  exact ⟨rfl, ⟨[], hw, by simp⟩, chg_lt h⟩
theorem chg5 (l : Leg) (n : Int) (b : Nat) (w : World) (h : w.heap[b]? = some (Ce (legC l) 23)) : Calls Try.prog 40 #[.pointer (some ⟨b, 0, none⟩), .int .i64 n] w (ChgPost w b (chg 5 l n)) := by
  refine f_enter2 Try.func40 rfl Try.ntmps40 rfl (Rep.given h) ?_
  repeat' (first | ((with_reducible first | apply o_move | apply o_faddr0 | apply o_nilCheck); exact rfl; exact rfl) | ((with_reducible apply gdo_store); first | refine wo_store1 (h := ?_) | refine wo_storeA (h := ?_)) | ((with_reducible first | apply c_seq | apply c_block | apply c_region | apply c_nil | apply c_ret | apply c_exit | apply c_skip)))
  apply r_body'; apply res0 Try.results40; intro w' hw
  exact ⟨rfl, ⟨[], hw, by simp⟩, chg_lt h⟩
theorem chg6 (l : Leg) (n : Int) (b : Nat) (w : World) (h : w.heap[b]? = some (Ce (legC l) 23)) : Calls Try.prog 41 #[.pointer (some ⟨b, 0, none⟩), .int .i64 n] w (ChgPost w b (chg 6 l n)) := by
  refine f_enter2 Try.func41 rfl Try.ntmps41 rfl (Rep.given h) ?_
  repeat' (first | ((with_reducible first | apply o_move | apply o_faddr0 | apply o_nilCheck); exact rfl; exact rfl) | ((with_reducible apply gdo_store); first | refine wo_store1 (h := ?_) | refine wo_storeA (h := ?_)) | ((with_reducible first | apply c_seq | apply c_block | apply c_region | apply c_nil | apply c_ret | apply c_exit | apply c_skip)))
  apply r_body'; apply res0 Try.results41; intro w' hw
  exact ⟨rfl, ⟨[], hw, by simp⟩, chg_lt h⟩
def chgs : List Value := [.func (.func 35) #[] #[], .func (.func 36) #[] #[], .func (.func 37) #[] #[], .func (.func 38) #[] #[], .func (.func 39) #[] #[], .func (.func 40) #[] #[], .func (.func 41) #[] #[]]
theorem chg_any {i : Nat} (hi : i < 7) : ∃ f fn, TC Try.prog f fn ∧ chgs[i]? = some (.func (.func f) #[] #[]) ∧ ∀ (l : Leg) (n : Int) (b : Nat) (w : World), w.heap[b]? = some (Ce (legC l) 23) → Calls Try.prog f #[.pointer (some ⟨b, 0, none⟩), .int .i64 n] w (ChgPost w b (chg i l n)) := by
  have : i = 0 ∨ i = 1 ∨ i = 2 ∨ i = 3 ∨ i = 4 ∨ i = 5 ∨ i = 6 := by omega
  rcases this with rfl | rfl | rfl | rfl | rfl | rfl | rfl
  · exact ⟨35, _, inferInstance, rfl, chg0⟩
  · exact ⟨36, _, inferInstance, rfl, chg1⟩
  · exact ⟨37, _, inferInstance, rfl, chg2⟩
  · exact ⟨38, _, inferInstance, rfl, chg3⟩
  · exact ⟨39, _, inferInstance, rfl, chg4⟩
  · exact ⟨40, _, inferInstance, rfl, chg5⟩
  · exact ⟨41, _, inferInstance, rfl, chg6⟩
theorem chg_u8 (i : Nat) (l : Leg) (n : Int) (h : U8 l) : U8 (chg i l n) := by
  unfold U8 at *
  unfold chg
  split <;> exact h
end Go.Proofs.Ytcocnhfbdcapbaa
