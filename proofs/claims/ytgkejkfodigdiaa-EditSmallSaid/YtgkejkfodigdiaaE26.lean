/-
  A part of the proofs of this seat: what some of the program's functions compute, shown by walks through their code. Conditions: the hypotheses that each theorem names. (Its blocks of tactics were laid by a small program.)
-/
import Derived.Test.YtgkejkfodigdiaaE24
import Derived.Test.YtgkejkfodigdiaaE20
set_option linter.unusedSimpArgs false
set_option linter.unusedVariables false
namespace Go.Proofs.Ytgkejkfodigdiaa
open Go Go.Sx Go.RowKit
section
variable {P : Program} {n : Nat} {D : List Deferred} {w0 : World} {F : List (Nat × Value)} {L L' : List Ent} {J J1 : Made} {Φ : Specs} {X : Act → World → Prop} {kq : Nat} {ops : Array Oper}
variable {d : Tmp} {ty : TypeId} {pos : String} {af : Array Edge} {rest : List Oper}
/-- Bytes as a text, where the order is drawn. -/
theorem q_str_b {s e t : TypeId} {x : Operand} {v : Value} {l : List UInt8} (hU : TU P s (.slice e)) (hE : TU P e (.int .u8)) (hT : TU P t .string) (hx : ev F x = some v) (hΦ : Φ kq = none) (hJ : SubJ ((anc ops).getD kq 0) J1 J) (hsv : ∀ w, Rep w0 w (ents J1 L) → SV w 1 encB v l) (hd : Nat.ble (d + 1) n = true)
    (h : St n D w0 ((d, str l) :: F) L (WQ P ops w0 L Φ X (kq + 1) J rest)) : St n D w0 F L (WQ P ops w0 L Φ X kq J (⟨some d, .convert s t x, ty, pos, af, none⟩ :: rest)) :=
  q_val rfl hd hΦ hJ (fun a w ha hw => by
    obtain ⟨a0, cap, rfl, hc, hop⟩ := (hsv w hw).open
    have hrun : (convert s t (.slice a0 l.length cap)).run P w = .ok (str l) w := by
      cases a0 with
      | none =>
        have hl : l = [] := by
          cases l with
          | nil => rfl
          | cons y l => obtain ⟨b, off, c, e', fz, h1, _⟩ := hop (by simp); cases h1
        subst hl
        have := run_convert_bytes_nil (P := P) w s e hU.h hE.h 0 cap t hT.h
        exact this
      | some p =>
        refine run_convert_bytes_back w s t e p cap l hU.h hE.h hT.h fun j hj => ?_
        obtain ⟨b, off, c, e', fz, h1, h2, h3⟩ := hop (by omega)
        cases h1
        have := h3.one (List.getElem?_eq_getElem hj) rfl
        rw [Nat.mul_one] at this
        rw [add_none]
        simp [World.cell?, h2, this]
    simp [execOp, ha.eval hx, hrun]) h
end
end Go.Proofs.Ytgkejkfodigdiaa
