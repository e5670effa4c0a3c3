/-
  No cell of these rows narrows 'for every input' (looked for: loops, veiled, ifaces, maps, wideKeys, modest, calm, conditions, laid).
  DERIVED. THE GIVEN ROWS OF THIS SEAT. 8 by the template 'for every input the law returns true; each argument reads behind the call as it read before'; 0 by the template 'total and deterministic' (their statements: YtcocnhfbdcapbaaTotals.lean).
  GIVEN WITH THE SEED: the statements are not yours to turn. If you find one false, say at which input.
  Laid BY PROGRAM, IN A SANDBOX (cutbox-rows.mjs): the forced cells as the released guide's own fill.sh prints them over the translation 9a88df463bf2617a… (all of the seat's roots in one cut). By AI agents, Wed Nov 11 2026. No macro, syntax, notation, axiom, sorry.
-/
import Derived.Test.YtcocnhfbdcapbaaChecked
import GoSem.Claim
import GoSem.ClaimJoined
import GoSem.ClaimMapViews
import Derived.JoinedTies
import Derived.KernelRfl
namespace Go.Proofs.Ytcocnhfbdcapbaa
/- THE CELL 'sum', in the pinned program and in every row, IS THE sha256 OF THE DUMP (.gsa) THAT YtcocnhfbdcapbaaProg.lean LOADS. Nothing in Lean hashes anything: it is a label: what it is worth is what the hold of that sum in a sandbox is worth. -/
noncomputable def Try.pinned : Pinned := { name := "ytcocnhfbdcapbaa", sum := "9a88df463bf2617acc4e6e60da5b0c64f23aad6e71c90c2cce84f17f01d80cb0", checked := Try.checked }
namespace Rows
def none {H : Type} : Left H := { results := [], args := [] }

/-- 'letterbaglaw32.NetworkTells': WHATEVER THE INPUT: true; the input reads as it did. -/
def networkTellsSpec : ChangeSpec := { name := "networkTells", fn := fun _ => fun
  | [d1, d2, d3] => { results := [.lit (.bool true)], args := [d1, d2, d3] }
  | _ => none }
def networkTellsRow : OpenClaim := { program := "ytcocnhfbdcapbaa", sum := "9a88df463bf2617acc4e6e60da5b0c64f23aad6e71c90c2cce84f17f01d80cb0", func := "letterbag/letterbaglaw32.NetworkTells", spec := "networkTells", unfollowed := true, recurses := true, apart := false }
def NetworkTellsSaid : Prop := networkTellsRow.holds Try.pinned (OpenSpec.ofChange networkTellsSpec)

/-- ITS FALSE NEIGHBOUR: 'it returns false'. Refute it at one input. -/
def networkTellsWrong : ChangeSpec := { name := "networkTells", fn := fun _ => fun
  | [d1, d2, d3] => { results := [.lit (.bool false)], args := [d1, d2, d3] }
  | _ => none }
def NetworkTellsWrongFalsely : Prop := networkTellsRow.holds Try.pinned (OpenSpec.ofChange networkTellsWrong)

/-- 'letterbaglaw32.NetworkNext': WHATEVER THE INPUT: true; the input reads as it did. -/
def networkNextSpec : ChangeSpec := { name := "networkNext", fn := fun _ => fun
  | [d1, d2] => { results := [.lit (.bool true)], args := [d1, d2] }
  | _ => none }
def networkNextRow : OpenClaim := { program := "ytcocnhfbdcapbaa", sum := "9a88df463bf2617acc4e6e60da5b0c64f23aad6e71c90c2cce84f17f01d80cb0", func := "letterbag/letterbaglaw32.NetworkNext", spec := "networkNext", unfollowed := true, recurses := true, apart := false }
def NetworkNextSaid : Prop := networkNextRow.holds Try.pinned (OpenSpec.ofChange networkNextSpec)

/-- ITS FALSE NEIGHBOUR: 'it returns false'. Refute it at one input. -/
def networkNextWrong : ChangeSpec := { name := "networkNext", fn := fun _ => fun
  | [d1, d2] => { results := [.lit (.bool false)], args := [d1, d2] }
  | _ => none }
def NetworkNextWrongFalsely : Prop := networkNextRow.holds Try.pinned (OpenSpec.ofChange networkNextWrong)

/-- 'letterbaglaw32.NetworkLast': WHATEVER THE INPUT: true; the input reads as it did. -/
def networkLastSpec : ChangeSpec := { name := "networkLast", fn := fun _ => fun
  | [d1, d2] => { results := [.lit (.bool true)], args := [d1, d2] }
  | _ => none }
def networkLastRow : OpenClaim := { program := "ytcocnhfbdcapbaa", sum := "9a88df463bf2617acc4e6e60da5b0c64f23aad6e71c90c2cce84f17f01d80cb0", func := "letterbag/letterbaglaw32.NetworkLast", spec := "networkLast", unfollowed := true, recurses := true, apart := false }
def NetworkLastSaid : Prop := networkLastRow.holds Try.pinned (OpenSpec.ofChange networkLastSpec)

/-- ITS FALSE NEIGHBOUR: 'it returns false'. Refute it at one input. -/
def networkLastWrong : ChangeSpec := { name := "networkLast", fn := fun _ => fun
  | [d1, d2] => { results := [.lit (.bool false)], args := [d1, d2] }
  | _ => none }
def NetworkLastWrongFalsely : Prop := networkLastRow.holds Try.pinned (OpenSpec.ofChange networkLastWrong)

/-- 'letterbaglaw32.NetworkOrder': WHATEVER THE INPUT: true; the input reads as it did. -/
def networkOrderSpec : ChangeSpec := { name := "networkOrder", fn := fun _ => fun
  | [d1, d2, d3] => { results := [.lit (.bool true)], args := [d1, d2, d3] }
  | _ => none }
def networkOrderRow : OpenClaim := { program := "ytcocnhfbdcapbaa", sum := "9a88df463bf2617acc4e6e60da5b0c64f23aad6e71c90c2cce84f17f01d80cb0", func := "letterbag/letterbaglaw32.NetworkOrder", spec := "networkOrder", unfollowed := true, recurses := true, apart := false }
def NetworkOrderSaid : Prop := networkOrderRow.holds Try.pinned (OpenSpec.ofChange networkOrderSpec)

/-- ITS FALSE NEIGHBOUR: 'it returns false'. Refute it at one input. -/
def networkOrderWrong : ChangeSpec := { name := "networkOrder", fn := fun _ => fun
  | [d1, d2, d3] => { results := [.lit (.bool false)], args := [d1, d2, d3] }
  | _ => none }
def NetworkOrderWrongFalsely : Prop := networkOrderRow.holds Try.pinned (OpenSpec.ofChange networkOrderWrong)

/-- 'letterbaglaw32.NetworkList': WHATEVER THE INPUT: true; the input reads as it did. -/
def networkListSpec : ChangeSpec := { name := "networkList", fn := fun _ => fun
  | [d1, d2, d3, d4] => { results := [.lit (.bool true)], args := [d1, d2, d3, d4] }
  | _ => none }
def networkListRow : OpenClaim := { program := "ytcocnhfbdcapbaa", sum := "9a88df463bf2617acc4e6e60da5b0c64f23aad6e71c90c2cce84f17f01d80cb0", func := "letterbag/letterbaglaw32.NetworkList", spec := "networkList", unfollowed := true, recurses := true, apart := false }
def NetworkListSaid : Prop := networkListRow.holds Try.pinned (OpenSpec.ofChange networkListSpec)

/-- ITS FALSE NEIGHBOUR: 'it returns false'. Refute it at one input. -/
def networkListWrong : ChangeSpec := { name := "networkList", fn := fun _ => fun
  | [d1, d2, d3, d4] => { results := [.lit (.bool false)], args := [d1, d2, d3, d4] }
  | _ => none }
def NetworkListWrongFalsely : Prop := networkListRow.holds Try.pinned (OpenSpec.ofChange networkListWrong)

/-- 'letterbaglaw32.NetworkSmall': WHATEVER THE INPUT: true; the input reads as it did. -/
def networkSmallSpec : ChangeSpec := { name := "networkSmall", fn := fun _ => fun
  | [] => { results := [.lit (.bool true)], args := [] }
  | _ => none }
def networkSmallRow : OpenClaim := { program := "ytcocnhfbdcapbaa", sum := "9a88df463bf2617acc4e6e60da5b0c64f23aad6e71c90c2cce84f17f01d80cb0", func := "letterbag/letterbaglaw32.NetworkSmall", spec := "networkSmall", unfollowed := true, recurses := true, apart := false }
def NetworkSmallSaid : Prop := networkSmallRow.holds Try.pinned (OpenSpec.ofChange networkSmallSpec)

/-- ITS FALSE NEIGHBOUR: 'it returns false'. Refute it at one input. -/
def networkSmallWrong : ChangeSpec := { name := "networkSmall", fn := fun _ => fun
  | [] => { results := [.lit (.bool false)], args := [] }
  | _ => none }
def NetworkSmallWrongFalsely : Prop := networkSmallRow.holds Try.pinned (OpenSpec.ofChange networkSmallWrong)

/-- 'letterbaglaw32.NetworkValid': WHATEVER THE INPUT: true; the input reads as it did. -/
def networkValidSpec : ChangeSpec := { name := "networkValid", fn := fun _ => fun
  | [d1, d2] => { results := [.lit (.bool true)], args := [d1, d2] }
  | _ => none }
def networkValidRow : OpenClaim := { program := "ytcocnhfbdcapbaa", sum := "9a88df463bf2617acc4e6e60da5b0c64f23aad6e71c90c2cce84f17f01d80cb0", func := "letterbag/letterbaglaw32.NetworkValid", spec := "networkValid", unfollowed := true, recurses := true, apart := false }
def NetworkValidSaid : Prop := networkValidRow.holds Try.pinned (OpenSpec.ofChange networkValidSpec)

/-- ITS FALSE NEIGHBOUR: 'it returns false'. Refute it at one input. -/
def networkValidWrong : ChangeSpec := { name := "networkValid", fn := fun _ => fun
  | [d1, d2] => { results := [.lit (.bool false)], args := [d1, d2] }
  | _ => none }
def NetworkValidWrongFalsely : Prop := networkValidRow.holds Try.pinned (OpenSpec.ofChange networkValidWrong)

/-- 'letterbaglaw32.NetworkParts': WHATEVER THE INPUT: true; the input reads as it did. -/
def networkPartsSpec : ChangeSpec := { name := "networkParts", fn := fun _ => fun
  | [d1, d2] => { results := [.lit (.bool true)], args := [d1, d2] }
  | _ => none }
def networkPartsRow : OpenClaim := { program := "ytcocnhfbdcapbaa", sum := "9a88df463bf2617acc4e6e60da5b0c64f23aad6e71c90c2cce84f17f01d80cb0", func := "letterbag/letterbaglaw32.NetworkParts", spec := "networkParts", unfollowed := true, recurses := true, apart := false }
def NetworkPartsSaid : Prop := networkPartsRow.holds Try.pinned (OpenSpec.ofChange networkPartsSpec)

/-- ITS FALSE NEIGHBOUR: 'it returns false'. Refute it at one input. -/
def networkPartsWrong : ChangeSpec := { name := "networkParts", fn := fun _ => fun
  | [d1, d2] => { results := [.lit (.bool false)], args := [d1, d2] }
  | _ => none }
def NetworkPartsWrongFalsely : Prop := networkPartsRow.holds Try.pinned (OpenSpec.ofChange networkPartsWrong)

/- THE SECOND FORM. 'bulk': how many values and letters a reading holds, each counted each time it is reached (what is shared counts as often as it is met; a slice's spare places count too). A statement '..UptoSaid' is the law's where the arguments, and the package variables that the reading takes, are together of bulk at most 1048576: NARROWER than '..Said'. Prove '..Said' where nothing that the law and all that it calls make is longer than what came in: it says more and counts as full. Else prove '..UptoSaid'. A law counts once. -/
mutual
def uptoBulk {H : Type} : DataW H → Nat
  | .lit (.string bytes) => bytes.length + 1
  | .lit _ => 1
  | .nil => 1
  | .ptr d => uptoBulk d + 1
  | .slice elems spare => uptoBulkAll elems + uptoBulkAll spare + 1
  | .agg parts => uptoBulkAll parts + 1
  | .iface _ d => uptoBulk d + 1
  | .map entries => uptoBulkEntries entries + 1
  | .held _ => 1
def uptoBulkAll {H : Type} : List (DataW H) → Nat
  | [] => 0
  | d :: r => uptoBulk d + uptoBulkAll r
def uptoBulkEntries {H : Type} : List (Lit × DataW H) → Nat
  | [] => 0
  | x :: r => uptoBulkEntry x + uptoBulkEntries r
def uptoBulkEntry {H : Type} : Lit × DataW H → Nat
  | (.string bytes, d) => bytes.length + uptoBulk d + 1
  | (_, d) => uptoBulk d + 1
 end
def uptoSmall : (H : Type) → List (DataW H) → Bool := fun _ ds => decide (uptoBulkAll ds ≤ 1048576)
def OpenSpec.upto (s : _root_.Go.ChangeSpec) : _root_.Go.OpenSpec := { _root_.Go.OpenSpec.ofChange s with cond := some uptoSmall }

/-- 'letterbaglaw32.NetworkTells', WHERE WHAT IT READS IS OF BULK AT MOST 1048576: true; the input reads as it did. -/
def networkTellsUptoRow : OpenClaim := { program := "ytcocnhfbdcapbaa", sum := "9a88df463bf2617acc4e6e60da5b0c64f23aad6e71c90c2cce84f17f01d80cb0", func := "letterbag/letterbaglaw32.NetworkTells", spec := "networkTells", unfollowed := true, recurses := true, apart := false, narrowed := true }
def NetworkTellsUptoSaid : Prop := networkTellsUptoRow.holds Try.pinned (OpenSpec.upto networkTellsSpec)

/-- 'letterbaglaw32.NetworkNext', WHERE WHAT IT READS IS OF BULK AT MOST 1048576: true; the input reads as it did. -/
def networkNextUptoRow : OpenClaim := { program := "ytcocnhfbdcapbaa", sum := "9a88df463bf2617acc4e6e60da5b0c64f23aad6e71c90c2cce84f17f01d80cb0", func := "letterbag/letterbaglaw32.NetworkNext", spec := "networkNext", unfollowed := true, recurses := true, apart := false, narrowed := true }
def NetworkNextUptoSaid : Prop := networkNextUptoRow.holds Try.pinned (OpenSpec.upto networkNextSpec)

/-- 'letterbaglaw32.NetworkLast', WHERE WHAT IT READS IS OF BULK AT MOST 1048576: true; the input reads as it did. -/
def networkLastUptoRow : OpenClaim := { program := "ytcocnhfbdcapbaa", sum := "9a88df463bf2617acc4e6e60da5b0c64f23aad6e71c90c2cce84f17f01d80cb0", func := "letterbag/letterbaglaw32.NetworkLast", spec := "networkLast", unfollowed := true, recurses := true, apart := false, narrowed := true }
def NetworkLastUptoSaid : Prop := networkLastUptoRow.holds Try.pinned (OpenSpec.upto networkLastSpec)

/-- 'letterbaglaw32.NetworkOrder', WHERE WHAT IT READS IS OF BULK AT MOST 1048576: true; the input reads as it did. -/
def networkOrderUptoRow : OpenClaim := { program := "ytcocnhfbdcapbaa", sum := "9a88df463bf2617acc4e6e60da5b0c64f23aad6e71c90c2cce84f17f01d80cb0", func := "letterbag/letterbaglaw32.NetworkOrder", spec := "networkOrder", unfollowed := true, recurses := true, apart := false, narrowed := true }
def NetworkOrderUptoSaid : Prop := networkOrderUptoRow.holds Try.pinned (OpenSpec.upto networkOrderSpec)

/-- 'letterbaglaw32.NetworkList', WHERE WHAT IT READS IS OF BULK AT MOST 1048576: true; the input reads as it did. -/
def networkListUptoRow : OpenClaim := { program := "ytcocnhfbdcapbaa", sum := "9a88df463bf2617acc4e6e60da5b0c64f23aad6e71c90c2cce84f17f01d80cb0", func := "letterbag/letterbaglaw32.NetworkList", spec := "networkList", unfollowed := true, recurses := true, apart := false, narrowed := true }
def NetworkListUptoSaid : Prop := networkListUptoRow.holds Try.pinned (OpenSpec.upto networkListSpec)

/-- 'letterbaglaw32.NetworkSmall', WHERE WHAT IT READS IS OF BULK AT MOST 1048576: true; the input reads as it did. -/
def networkSmallUptoRow : OpenClaim := { program := "ytcocnhfbdcapbaa", sum := "9a88df463bf2617acc4e6e60da5b0c64f23aad6e71c90c2cce84f17f01d80cb0", func := "letterbag/letterbaglaw32.NetworkSmall", spec := "networkSmall", unfollowed := true, recurses := true, apart := false, narrowed := true }
def NetworkSmallUptoSaid : Prop := networkSmallUptoRow.holds Try.pinned (OpenSpec.upto networkSmallSpec)

/-- 'letterbaglaw32.NetworkValid', WHERE WHAT IT READS IS OF BULK AT MOST 1048576: true; the input reads as it did. -/
def networkValidUptoRow : OpenClaim := { program := "ytcocnhfbdcapbaa", sum := "9a88df463bf2617acc4e6e60da5b0c64f23aad6e71c90c2cce84f17f01d80cb0", func := "letterbag/letterbaglaw32.NetworkValid", spec := "networkValid", unfollowed := true, recurses := true, apart := false, narrowed := true }
def NetworkValidUptoSaid : Prop := networkValidUptoRow.holds Try.pinned (OpenSpec.upto networkValidSpec)

/-- 'letterbaglaw32.NetworkParts', WHERE WHAT IT READS IS OF BULK AT MOST 1048576: true; the input reads as it did. -/
def networkPartsUptoRow : OpenClaim := { program := "ytcocnhfbdcapbaa", sum := "9a88df463bf2617acc4e6e60da5b0c64f23aad6e71c90c2cce84f17f01d80cb0", func := "letterbag/letterbaglaw32.NetworkParts", spec := "networkParts", unfollowed := true, recurses := true, apart := false, narrowed := true }
def NetworkPartsUptoSaid : Prop := networkPartsUptoRow.holds Try.pinned (OpenSpec.upto networkPartsSpec)

end Rows
end Go.Proofs.Ytcocnhfbdcapbaa
