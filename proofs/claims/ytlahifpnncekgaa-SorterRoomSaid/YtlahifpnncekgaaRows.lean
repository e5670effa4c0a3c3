/-
  No cell of these rows narrows 'for every input' (looked for: loops, veiled, ifaces, maps, wideKeys, modest, calm, conditions, laid).
  DERIVED. THE GIVEN ROWS OF THIS SEAT. 7 by the template 'for every input the law returns true; each argument reads behind the call as it read before'; 0 by the template 'total and deterministic' (their statements: YtlahifpnncekgaaTotals.lean).
  GIVEN WITH THE SEED: the statements are not yours to turn. If you find one false, say at which input.
  Laid BY PROGRAM, IN A SANDBOX (cutbox-rows.mjs): the forced cells as the released guide's own fill.sh prints them over the translation 0ddf04ba6d2119e5… (all of the seat's roots in one cut). By AI agents, Wed Nov 11 2026. No macro, syntax, notation, axiom, sorry.
-/
import Derived.Test.YtlahifpnncekgaaChecked
import GoSem.Claim
import GoSem.ClaimJoined
import GoSem.ClaimMapViews
import Derived.JoinedTies
import Derived.KernelRfl
namespace Go.Proofs.Ytlahifpnncekgaa
/- THE CELL 'sum', in the pinned program and in every row, IS THE sha256 OF THE DUMP (.gsa) THAT YtlahifpnncekgaaProg.lean LOADS. Nothing in Lean hashes anything: it is a label: what it is worth is what the hold of that sum in a sandbox is worth. -/
noncomputable def Try.pinned : Pinned := { name := "ytlahifpnncekgaa", sum := "0ddf04ba6d2119e50b41eefa304034ae0875fd2c7bc42e1927eba95403601057", checked := Try.checked }
namespace Rows
def none {H : Type} : Left H := { results := [], args := [] }

/-- 'letterbaglaw29.SorterKeeps': WHATEVER THE INPUT: true; the input reads as it did. -/
def sorterKeepsSpec : ChangeSpec := { name := "sorterKeeps", fn := fun _ => fun
  | [d1, d2, d3] => { results := [.lit (.bool true)], args := [d1, d2, d3] }
  | _ => none }
def sorterKeepsRow : OpenClaim := { program := "ytlahifpnncekgaa", sum := "0ddf04ba6d2119e50b41eefa304034ae0875fd2c7bc42e1927eba95403601057", func := "letterbag/letterbaglaw29.SorterKeeps", spec := "sorterKeeps", apart := false }
def SorterKeepsSaid : Prop := sorterKeepsRow.holds Try.pinned (OpenSpec.ofChange sorterKeepsSpec)

/-- ITS FALSE NEIGHBOUR: 'it returns false'. Refute it at one input. -/
def sorterKeepsWrong : ChangeSpec := { name := "sorterKeeps", fn := fun _ => fun
  | [d1, d2, d3] => { results := [.lit (.bool false)], args := [d1, d2, d3] }
  | _ => none }
def SorterKeepsWrongFalsely : Prop := sorterKeepsRow.holds Try.pinned (OpenSpec.ofChange sorterKeepsWrong)

/-- 'letterbaglaw29.SorterEvents': WHATEVER THE INPUT: true; the input reads as it did. -/
def sorterEventsSpec : ChangeSpec := { name := "sorterEvents", fn := fun _ => fun
  | [d1, d2, d3] => { results := [.lit (.bool true)], args := [d1, d2, d3] }
  | _ => none }
def sorterEventsRow : OpenClaim := { program := "ytlahifpnncekgaa", sum := "0ddf04ba6d2119e50b41eefa304034ae0875fd2c7bc42e1927eba95403601057", func := "letterbag/letterbaglaw29.SorterEvents", spec := "sorterEvents", apart := false }
def SorterEventsSaid : Prop := sorterEventsRow.holds Try.pinned (OpenSpec.ofChange sorterEventsSpec)

/-- ITS FALSE NEIGHBOUR: 'it returns false'. Refute it at one input. -/
def sorterEventsWrong : ChangeSpec := { name := "sorterEvents", fn := fun _ => fun
  | [d1, d2, d3] => { results := [.lit (.bool false)], args := [d1, d2, d3] }
  | _ => none }
def SorterEventsWrongFalsely : Prop := sorterEventsRow.holds Try.pinned (OpenSpec.ofChange sorterEventsWrong)

/-- 'letterbaglaw29.SorterNeeds': WHATEVER THE INPUT: true; the input reads as it did. -/
def sorterNeedsSpec : ChangeSpec := { name := "sorterNeeds", fn := fun _ => fun
  | [d1, d2, d3] => { results := [.lit (.bool true)], args := [d1, d2, d3] }
  | _ => none }
def sorterNeedsRow : OpenClaim := { program := "ytlahifpnncekgaa", sum := "0ddf04ba6d2119e50b41eefa304034ae0875fd2c7bc42e1927eba95403601057", func := "letterbag/letterbaglaw29.SorterNeeds", spec := "sorterNeeds", apart := false }
def SorterNeedsSaid : Prop := sorterNeedsRow.holds Try.pinned (OpenSpec.ofChange sorterNeedsSpec)

/-- ITS FALSE NEIGHBOUR: 'it returns false'. Refute it at one input. -/
def sorterNeedsWrong : ChangeSpec := { name := "sorterNeeds", fn := fun _ => fun
  | [d1, d2, d3] => { results := [.lit (.bool false)], args := [d1, d2, d3] }
  | _ => none }
def SorterNeedsWrongFalsely : Prop := sorterNeedsRow.holds Try.pinned (OpenSpec.ofChange sorterNeedsWrong)

/-- 'letterbaglaw29.SorterOrder': WHATEVER THE INPUT: true; the input reads as it did. -/
def sorterOrderSpec : ChangeSpec := { name := "sorterOrder", fn := fun _ => fun
  | [d] => { results := [.lit (.bool true)], args := [d] }
  | _ => none }
def sorterOrderRow : OpenClaim := { program := "ytlahifpnncekgaa", sum := "0ddf04ba6d2119e50b41eefa304034ae0875fd2c7bc42e1927eba95403601057", func := "letterbag/letterbaglaw29.SorterOrder", spec := "sorterOrder", unfollowed := true, recurses := true, apart := false }
def SorterOrderSaid : Prop := sorterOrderRow.holds Try.pinned (OpenSpec.ofChange sorterOrderSpec)

/-- ITS FALSE NEIGHBOUR: 'it returns false'. Refute it at one input. -/
def sorterOrderWrong : ChangeSpec := { name := "sorterOrder", fn := fun _ => fun
  | [d] => { results := [.lit (.bool false)], args := [d] }
  | _ => none }
def SorterOrderWrongFalsely : Prop := sorterOrderRow.holds Try.pinned (OpenSpec.ofChange sorterOrderWrong)

/-- 'letterbaglaw29.SorterPasses': WHATEVER THE INPUT: true; the input reads as it did. -/
def sorterPassesSpec : ChangeSpec := { name := "sorterPasses", fn := fun _ => fun
  | [d] => { results := [.lit (.bool true)], args := [d] }
  | _ => none }
def sorterPassesRow : OpenClaim := { program := "ytlahifpnncekgaa", sum := "0ddf04ba6d2119e50b41eefa304034ae0875fd2c7bc42e1927eba95403601057", func := "letterbag/letterbaglaw29.SorterPasses", spec := "sorterPasses", unfollowed := true, recurses := true, apart := false }
def SorterPassesSaid : Prop := sorterPassesRow.holds Try.pinned (OpenSpec.ofChange sorterPassesSpec)

/-- ITS FALSE NEIGHBOUR: 'it returns false'. Refute it at one input. -/
def sorterPassesWrong : ChangeSpec := { name := "sorterPasses", fn := fun _ => fun
  | [d] => { results := [.lit (.bool false)], args := [d] }
  | _ => none }
def SorterPassesWrongFalsely : Prop := sorterPassesRow.holds Try.pinned (OpenSpec.ofChange sorterPassesWrong)

/-- 'letterbaglaw29.SorterWrong': WHATEVER THE INPUT: true; the input reads as it did. -/
def sorterWrongSpec : ChangeSpec := { name := "sorterWrong", fn := fun _ => fun
  | [d1, d2, d3] => { results := [.lit (.bool true)], args := [d1, d2, d3] }
  | _ => none }
def sorterWrongRow : OpenClaim := { program := "ytlahifpnncekgaa", sum := "0ddf04ba6d2119e50b41eefa304034ae0875fd2c7bc42e1927eba95403601057", func := "letterbag/letterbaglaw29.SorterWrong", spec := "sorterWrong", unfollowed := true, recurses := true, apart := false }
def SorterWrongSaid : Prop := sorterWrongRow.holds Try.pinned (OpenSpec.ofChange sorterWrongSpec)

/-- ITS FALSE NEIGHBOUR: 'it returns false'. Refute it at one input. -/
def sorterWrongWrong : ChangeSpec := { name := "sorterWrong", fn := fun _ => fun
  | [d1, d2, d3] => { results := [.lit (.bool false)], args := [d1, d2, d3] }
  | _ => none }
def SorterWrongWrongFalsely : Prop := sorterWrongRow.holds Try.pinned (OpenSpec.ofChange sorterWrongWrong)

/-- 'letterbaglaw29.SorterRoom': WHATEVER THE INPUT: true; the input reads as it did. -/
def sorterRoomSpec : ChangeSpec := { name := "sorterRoom", fn := fun _ => fun
  | [d] => { results := [.lit (.bool true)], args := [d] }
  | _ => none }
def sorterRoomRow : OpenClaim := { program := "ytlahifpnncekgaa", sum := "0ddf04ba6d2119e50b41eefa304034ae0875fd2c7bc42e1927eba95403601057", func := "letterbag/letterbaglaw29.SorterRoom", spec := "sorterRoom", unfollowed := true, recurses := true, apart := false }
def SorterRoomSaid : Prop := sorterRoomRow.holds Try.pinned (OpenSpec.ofChange sorterRoomSpec)

/-- ITS FALSE NEIGHBOUR: 'it returns false'. Refute it at one input. -/
def sorterRoomWrong : ChangeSpec := { name := "sorterRoom", fn := fun _ => fun
  | [d] => { results := [.lit (.bool false)], args := [d] }
  | _ => none }
def SorterRoomWrongFalsely : Prop := sorterRoomRow.holds Try.pinned (OpenSpec.ofChange sorterRoomWrong)

/- THE SECOND FORM. 'bulk': how many values and letters a reading holds, each counted each time it is reached (what is shared counts as often as it is met; a slice's spare places count too). A statement '..UptoSaid' is the law's where the arguments, and the package variables that the reading takes, are together of bulk at most 1048576: NARROWER than '..Said'. Prove '..Said' where nothing that the law and all that it calls make is longer than what came in: it says more and counts as full. Else prove '..UptoSaid'. A law counts once. -/
mutual
def uptoBulk {H : Type} : DataW H → Nat
  | .lit (.string bytes) => bytes.length + 1
  | .lit _ => 1
  | .nil => 1
  | .ptr d => uptoBulk d + 1
  | .slice elems spare => uptoBulkAll elems + uptoBulkAll spare + 1
  | .agg parts => uptoBulkAll parts + 1
  | .iface _ d => uptoBulk d + 1
  | .map entries => uptoBulkEntries entries + 1
  | .held _ => 1
def uptoBulkAll {H : Type} : List (DataW H) → Nat
  | [] => 0
  | d :: r => uptoBulk d + uptoBulkAll r
def uptoBulkEntries {H : Type} : List (Lit × DataW H) → Nat
  | [] => 0
  | x :: r => uptoBulkEntry x + uptoBulkEntries r
def uptoBulkEntry {H : Type} : Lit × DataW H → Nat
  | (.string bytes, d) => bytes.length + uptoBulk d + 1
  | (_, d) => uptoBulk d + 1
 end
def uptoSmall : (H : Type) → List (DataW H) → Bool := fun _ ds => decide (uptoBulkAll ds ≤ 1048576)
def OpenSpec.upto (s : _root_.Go.ChangeSpec) : _root_.Go.OpenSpec := { _root_.Go.OpenSpec.ofChange s with cond := some uptoSmall }

/-- 'letterbaglaw29.SorterKeeps', WHERE WHAT IT READS IS OF BULK AT MOST 1048576: true; the input reads as it did. -/
def sorterKeepsUptoRow : OpenClaim := { program := "ytlahifpnncekgaa", sum := "0ddf04ba6d2119e50b41eefa304034ae0875fd2c7bc42e1927eba95403601057", func := "letterbag/letterbaglaw29.SorterKeeps", spec := "sorterKeeps", apart := false, narrowed := true }
def SorterKeepsUptoSaid : Prop := sorterKeepsUptoRow.holds Try.pinned (OpenSpec.upto sorterKeepsSpec)

/-- 'letterbaglaw29.SorterEvents', WHERE WHAT IT READS IS OF BULK AT MOST 1048576: true; the input reads as it did. -/
def sorterEventsUptoRow : OpenClaim := { program := "ytlahifpnncekgaa", sum := "0ddf04ba6d2119e50b41eefa304034ae0875fd2c7bc42e1927eba95403601057", func := "letterbag/letterbaglaw29.SorterEvents", spec := "sorterEvents", apart := false, narrowed := true }
def SorterEventsUptoSaid : Prop := sorterEventsUptoRow.holds Try.pinned (OpenSpec.upto sorterEventsSpec)

/-- 'letterbaglaw29.SorterNeeds', WHERE WHAT IT READS IS OF BULK AT MOST 1048576: true; the input reads as it did. -/
def sorterNeedsUptoRow : OpenClaim := { program := "ytlahifpnncekgaa", sum := "0ddf04ba6d2119e50b41eefa304034ae0875fd2c7bc42e1927eba95403601057", func := "letterbag/letterbaglaw29.SorterNeeds", spec := "sorterNeeds", apart := false, narrowed := true }
def SorterNeedsUptoSaid : Prop := sorterNeedsUptoRow.holds Try.pinned (OpenSpec.upto sorterNeedsSpec)

/-- 'letterbaglaw29.SorterOrder', WHERE WHAT IT READS IS OF BULK AT MOST 1048576: true; the input reads as it did. -/
def sorterOrderUptoRow : OpenClaim := { program := "ytlahifpnncekgaa", sum := "0ddf04ba6d2119e50b41eefa304034ae0875fd2c7bc42e1927eba95403601057", func := "letterbag/letterbaglaw29.SorterOrder", spec := "sorterOrder", unfollowed := true, recurses := true, apart := false, narrowed := true }
def SorterOrderUptoSaid : Prop := sorterOrderUptoRow.holds Try.pinned (OpenSpec.upto sorterOrderSpec)

/-- 'letterbaglaw29.SorterPasses', WHERE WHAT IT READS IS OF BULK AT MOST 1048576: true; the input reads as it did. -/
def sorterPassesUptoRow : OpenClaim := { program := "ytlahifpnncekgaa", sum := "0ddf04ba6d2119e50b41eefa304034ae0875fd2c7bc42e1927eba95403601057", func := "letterbag/letterbaglaw29.SorterPasses", spec := "sorterPasses", unfollowed := true, recurses := true, apart := false, narrowed := true }
def SorterPassesUptoSaid : Prop := sorterPassesUptoRow.holds Try.pinned (OpenSpec.upto sorterPassesSpec)

/-- 'letterbaglaw29.SorterWrong', WHERE WHAT IT READS IS OF BULK AT MOST 1048576: true; the input reads as it did. -/
def sorterWrongUptoRow : OpenClaim := { program := "ytlahifpnncekgaa", sum := "0ddf04ba6d2119e50b41eefa304034ae0875fd2c7bc42e1927eba95403601057", func := "letterbag/letterbaglaw29.SorterWrong", spec := "sorterWrong", unfollowed := true, recurses := true, apart := false, narrowed := true }
def SorterWrongUptoSaid : Prop := sorterWrongUptoRow.holds Try.pinned (OpenSpec.upto sorterWrongSpec)

/-- 'letterbaglaw29.SorterRoom', WHERE WHAT IT READS IS OF BULK AT MOST 1048576: true; the input reads as it did. -/
def sorterRoomUptoRow : OpenClaim := { program := "ytlahifpnncekgaa", sum := "0ddf04ba6d2119e50b41eefa304034ae0875fd2c7bc42e1927eba95403601057", func := "letterbag/letterbaglaw29.SorterRoom", spec := "sorterRoom", unfollowed := true, recurses := true, apart := false, narrowed := true }
def SorterRoomUptoSaid : Prop := sorterRoomUptoRow.holds Try.pinned (OpenSpec.upto sorterRoomSpec)

end Rows
end Go.Proofs.Ytlahifpnncekgaa
