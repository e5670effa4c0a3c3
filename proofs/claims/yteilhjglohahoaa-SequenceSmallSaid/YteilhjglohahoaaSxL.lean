/- Regions that are entered with less: what is not used any more is left behind. No program in sight. -/
import Derived.Test.YteilhjglohahoaaSxK
import Derived.Test.YteilhjglohahoaaSxI
set_option linter.unusedVariables false
namespace Go.Sx
open Go Go.RowKit
section
variable {r : Option Nat} {P : Program} {n : Nat} {D : List Deferred} {w0 : World} {F : List (Nat × Value)} {L : List Ent} {Q : Exit → Act → World → Prop}
theorem c_regionT {id : Nat} {l : List Oper} (F' : List (Nat × Value)) (L' : List Ent) (hF : FSub F' F) (hL : HSub L' L) (h : St n D w0 F' L' (WL r P l.toArray Q l)) : St n D w0 F L (WC r P (.region id l.toArray false) Q) :=
  c_region (fun a w ha hw => h a w (ha.sub hF) (hw.sub hL))
theorem c_trim {X : Act → World → Prop} (F' : List (Nat × Value)) (L' : List Ent) (hF : FSub F' F) (hL : HSub L' L) (h : St n D w0 F' L' X) : St n D w0 F L X := fun a w ha hw => h a w (ha.sub hF) (hw.sub hL)
end
/-- A row of the call's own that has nothing in it yet. -/
theorem ow_fresh {α : Type} {E : TypeId} {k b : Nat} {enc : α → List Value} : OW E k enc (.slice (some ⟨b, 0, none⟩) 0 0) ([] : List α) [⟨b, Ce [] E, true⟩] := OW.row (E := E) (k := k) (enc := enc) (b := b) (cap := 0) (xs := []) (s := []) (by simp) (by simp)
end Go.Sx
