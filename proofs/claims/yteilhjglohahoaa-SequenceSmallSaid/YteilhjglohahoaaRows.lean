/-
  No cell of these rows narrows 'for every input' (looked for: loops, veiled, ifaces, maps, wideKeys, modest, calm, conditions, laid).
  DERIVED. THE GIVEN ROWS OF THIS SEAT. 8 by the template 'for every input the law returns true; each argument reads behind the call as it read before'; 0 by the template 'total and deterministic' (their statements: YteilhjglohahoaaTotals.lean).
  GIVEN WITH THE SEED: the statements are not yours to turn. If you find one false, say at which input.
  Laid BY PROGRAM, IN A SANDBOX (cutbox-rows.mjs): the forced cells as the released guide's own fill.sh prints them over the translation 56fc21b3e67260c7… (all of the seat's roots in one cut). By AI agents, Wed Nov 11 2026. No macro, syntax, notation, axiom, sorry.
-/
import Derived.Test.YteilhjglohahoaaChecked
import GoSem.Claim
import GoSem.ClaimJoined
import GoSem.ClaimMapViews
import Derived.JoinedTies
import Derived.KernelRfl
namespace Go.Proofs.Yteilhjglohahoaa
/- THE CELL 'sum', in the pinned program and in every row, IS THE sha256 OF THE DUMP (.gsa) THAT YteilhjglohahoaaProg.lean LOADS. Nothing in Lean hashes anything: it is a label: what it is worth is what the hold of that sum in a sandbox is worth. -/
noncomputable def Try.pinned : Pinned := { name := "yteilhjglohahoaa", sum := "56fc21b3e67260c7068ee47ee111b22761a0025586472e965b80768ef6899428", checked := Try.checked }
namespace Rows
def none {H : Type} : Left H := { results := [], args := [] }

/-- 'letterbaglaw28.SequenceSmall': WHATEVER THE INPUT: true; the input reads as it did. -/
def sequenceSmallSpec : ChangeSpec := { name := "sequenceSmall", fn := fun _ => fun
  | [] => { results := [.lit (.bool true)], args := [] }
  | _ => none }
def sequenceSmallRow : OpenClaim := { program := "yteilhjglohahoaa", sum := "56fc21b3e67260c7068ee47ee111b22761a0025586472e965b80768ef6899428", func := "letterbag/letterbaglaw28.SequenceSmall", spec := "sequenceSmall", unfollowed := true, recurses := true, apart := false }
def SequenceSmallSaid : Prop := sequenceSmallRow.holds Try.pinned (OpenSpec.ofChange sequenceSmallSpec)

/-- ITS FALSE NEIGHBOUR: 'it returns false'. Refute it at one input. -/
def sequenceSmallWrong : ChangeSpec := { name := "sequenceSmall", fn := fun _ => fun
  | [] => { results := [.lit (.bool false)], args := [] }
  | _ => none }
def SequenceSmallWrongFalsely : Prop := sequenceSmallRow.holds Try.pinned (OpenSpec.ofChange sequenceSmallWrong)

/-- 'letterbaglaw28.SequenceExact': WHATEVER THE INPUT: true; the input reads as it did. -/
def sequenceExactSpec : ChangeSpec := { name := "sequenceExact", fn := fun _ => fun
  | [d1, d2, d3] => { results := [.lit (.bool true)], args := [d1, d2, d3] }
  | _ => none }
def sequenceExactRow : OpenClaim := { program := "yteilhjglohahoaa", sum := "56fc21b3e67260c7068ee47ee111b22761a0025586472e965b80768ef6899428", func := "letterbag/letterbaglaw28.SequenceExact", spec := "sequenceExact", unfollowed := true, recurses := true, apart := false }
def SequenceExactSaid : Prop := sequenceExactRow.holds Try.pinned (OpenSpec.ofChange sequenceExactSpec)

/-- ITS FALSE NEIGHBOUR: 'it returns false'. Refute it at one input. -/
def sequenceExactWrong : ChangeSpec := { name := "sequenceExact", fn := fun _ => fun
  | [d1, d2, d3] => { results := [.lit (.bool false)], args := [d1, d2, d3] }
  | _ => none }
def SequenceExactWrongFalsely : Prop := sequenceExactRow.holds Try.pinned (OpenSpec.ofChange sequenceExactWrong)

/-- 'letterbaglaw28.SequenceEqual': WHATEVER THE INPUT: true; the input reads as it did. -/
def sequenceEqualSpec : ChangeSpec := { name := "sequenceEqual", fn := fun _ => fun
  | [d1, d2, d3, d4] => { results := [.lit (.bool true)], args := [d1, d2, d3, d4] }
  | _ => none }
def sequenceEqualRow : OpenClaim := { program := "yteilhjglohahoaa", sum := "56fc21b3e67260c7068ee47ee111b22761a0025586472e965b80768ef6899428", func := "letterbag/letterbaglaw28.SequenceEqual", spec := "sequenceEqual", unfollowed := true, recurses := true, apart := false }
def SequenceEqualSaid : Prop := sequenceEqualRow.holds Try.pinned (OpenSpec.ofChange sequenceEqualSpec)

/-- ITS FALSE NEIGHBOUR: 'it returns false'. Refute it at one input. -/
def sequenceEqualWrong : ChangeSpec := { name := "sequenceEqual", fn := fun _ => fun
  | [d1, d2, d3, d4] => { results := [.lit (.bool false)], args := [d1, d2, d3, d4] }
  | _ => none }
def SequenceEqualWrongFalsely : Prop := sequenceEqualRow.holds Try.pinned (OpenSpec.ofChange sequenceEqualWrong)

/-- 'letterbaglaw28.SequencePairs': WHATEVER THE INPUT: true; the input reads as it did. -/
def sequencePairsSpec : ChangeSpec := { name := "sequencePairs", fn := fun _ => fun
  | [d1, d2, d3, d4] => { results := [.lit (.bool true)], args := [d1, d2, d3, d4] }
  | _ => none }
def sequencePairsRow : OpenClaim := { program := "yteilhjglohahoaa", sum := "56fc21b3e67260c7068ee47ee111b22761a0025586472e965b80768ef6899428", func := "letterbag/letterbaglaw28.SequencePairs", spec := "sequencePairs", unfollowed := true, recurses := true, apart := false }
def SequencePairsSaid : Prop := sequencePairsRow.holds Try.pinned (OpenSpec.ofChange sequencePairsSpec)

/-- ITS FALSE NEIGHBOUR: 'it returns false'. Refute it at one input. -/
def sequencePairsWrong : ChangeSpec := { name := "sequencePairs", fn := fun _ => fun
  | [d1, d2, d3, d4] => { results := [.lit (.bool false)], args := [d1, d2, d3, d4] }
  | _ => none }
def SequencePairsWrongFalsely : Prop := sequencePairsRow.holds Try.pinned (OpenSpec.ofChange sequencePairsWrong)

/-- 'letterbaglaw28.SequenceParts': WHATEVER THE INPUT: true; the input reads as it did. -/
def sequencePartsSpec : ChangeSpec := { name := "sequenceParts", fn := fun _ => fun
  | [d1, d2, d3, d4] => { results := [.lit (.bool true)], args := [d1, d2, d3, d4] }
  | _ => none }
def sequencePartsRow : OpenClaim := { program := "yteilhjglohahoaa", sum := "56fc21b3e67260c7068ee47ee111b22761a0025586472e965b80768ef6899428", func := "letterbag/letterbaglaw28.SequenceParts", spec := "sequenceParts", unfollowed := true, recurses := true, apart := false }
def SequencePartsSaid : Prop := sequencePartsRow.holds Try.pinned (OpenSpec.ofChange sequencePartsSpec)

/-- ITS FALSE NEIGHBOUR: 'it returns false'. Refute it at one input. -/
def sequencePartsWrong : ChangeSpec := { name := "sequenceParts", fn := fun _ => fun
  | [d1, d2, d3, d4] => { results := [.lit (.bool false)], args := [d1, d2, d3, d4] }
  | _ => none }
def SequencePartsWrongFalsely : Prop := sequencePartsRow.holds Try.pinned (OpenSpec.ofChange sequencePartsWrong)

/-- 'letterbaglaw28.SequenceWrong': WHATEVER THE INPUT: true; the input reads as it did. -/
def sequenceWrongSpec : ChangeSpec := { name := "sequenceWrong", fn := fun _ => fun
  | [d1, d2, d3] => { results := [.lit (.bool true)], args := [d1, d2, d3] }
  | _ => none }
def sequenceWrongRow : OpenClaim := { program := "yteilhjglohahoaa", sum := "56fc21b3e67260c7068ee47ee111b22761a0025586472e965b80768ef6899428", func := "letterbag/letterbaglaw28.SequenceWrong", spec := "sequenceWrong", unfollowed := true, recurses := true, apart := false }
def SequenceWrongSaid : Prop := sequenceWrongRow.holds Try.pinned (OpenSpec.ofChange sequenceWrongSpec)

/-- ITS FALSE NEIGHBOUR: 'it returns false'. Refute it at one input. -/
def sequenceWrongWrong : ChangeSpec := { name := "sequenceWrong", fn := fun _ => fun
  | [d1, d2, d3] => { results := [.lit (.bool false)], args := [d1, d2, d3] }
  | _ => none }
def SequenceWrongWrongFalsely : Prop := sequenceWrongRow.holds Try.pinned (OpenSpec.ofChange sequenceWrongWrong)

/-- 'letterbaglaw28.SequenceChecks': WHATEVER THE INPUT: true; the input reads as it did. -/
def sequenceChecksSpec : ChangeSpec := { name := "sequenceChecks", fn := fun _ => fun
  | [d1, d2] => { results := [.lit (.bool true)], args := [d1, d2] }
  | _ => none }
def sequenceChecksRow : OpenClaim := { program := "yteilhjglohahoaa", sum := "56fc21b3e67260c7068ee47ee111b22761a0025586472e965b80768ef6899428", func := "letterbag/letterbaglaw28.SequenceChecks", spec := "sequenceChecks", unfollowed := true, recurses := true, apart := false }
def SequenceChecksSaid : Prop := sequenceChecksRow.holds Try.pinned (OpenSpec.ofChange sequenceChecksSpec)

/-- ITS FALSE NEIGHBOUR: 'it returns false'. Refute it at one input. -/
def sequenceChecksWrong : ChangeSpec := { name := "sequenceChecks", fn := fun _ => fun
  | [d1, d2] => { results := [.lit (.bool false)], args := [d1, d2] }
  | _ => none }
def SequenceChecksWrongFalsely : Prop := sequenceChecksRow.holds Try.pinned (OpenSpec.ofChange sequenceChecksWrong)

/-- 'letterbaglaw28.SequencePasses': WHATEVER THE INPUT: true; the input reads as it did. -/
def sequencePassesSpec : ChangeSpec := { name := "sequencePasses", fn := fun _ => fun
  | [d1, d2, d3] => { results := [.lit (.bool true)], args := [d1, d2, d3] }
  | _ => none }
def sequencePassesRow : OpenClaim := { program := "yteilhjglohahoaa", sum := "56fc21b3e67260c7068ee47ee111b22761a0025586472e965b80768ef6899428", func := "letterbag/letterbaglaw28.SequencePasses", spec := "sequencePasses", unfollowed := true, recurses := true, apart := false }
def SequencePassesSaid : Prop := sequencePassesRow.holds Try.pinned (OpenSpec.ofChange sequencePassesSpec)

/-- ITS FALSE NEIGHBOUR: 'it returns false'. Refute it at one input. -/
def sequencePassesWrong : ChangeSpec := { name := "sequencePasses", fn := fun _ => fun
  | [d1, d2, d3] => { results := [.lit (.bool false)], args := [d1, d2, d3] }
  | _ => none }
def SequencePassesWrongFalsely : Prop := sequencePassesRow.holds Try.pinned (OpenSpec.ofChange sequencePassesWrong)

/- THE SECOND FORM. 'bulk': how many values and letters a reading holds, each counted each time it is reached (what is shared counts as often as it is met; a slice's spare places count too). A statement '..UptoSaid' is the law's where the arguments, and the package variables that the reading takes, are together of bulk at most 1048576: NARROWER than '..Said'. Prove '..Said' where nothing that the law and all that it calls make is longer than what came in: it says more and counts as full. Else prove '..UptoSaid'. A law counts once. -/
mutual
def uptoBulk {H : Type} : DataW H → Nat
  | .lit (.string bytes) => bytes.length + 1
  | .lit _ => 1
  | .nil => 1
  | .ptr d => uptoBulk d + 1
  | .slice elems spare => uptoBulkAll elems + uptoBulkAll spare + 1
  | .agg parts => uptoBulkAll parts + 1
  | .iface _ d => uptoBulk d + 1
  | .map entries => uptoBulkEntries entries + 1
  | .held _ => 1
def uptoBulkAll {H : Type} : List (DataW H) → Nat
  | [] => 0
  | d :: r => uptoBulk d + uptoBulkAll r
def uptoBulkEntries {H : Type} : List (Lit × DataW H) → Nat
  | [] => 0
  | x :: r => uptoBulkEntry x + uptoBulkEntries r
def uptoBulkEntry {H : Type} : Lit × DataW H → Nat
  | (.string bytes, d) => bytes.length + uptoBulk d + 1
  | (_, d) => uptoBulk d + 1
 end
def uptoSmall : (H : Type) → List (DataW H) → Bool := fun _ ds => decide (uptoBulkAll ds ≤ 1048576)
def OpenSpec.upto (s : _root_.Go.ChangeSpec) : _root_.Go.OpenSpec := { _root_.Go.OpenSpec.ofChange s with cond := some uptoSmall }

/-- 'letterbaglaw28.SequenceSmall', WHERE WHAT IT READS IS OF BULK AT MOST 1048576: true; the input reads as it did. -/
def sequenceSmallUptoRow : OpenClaim := { program := "yteilhjglohahoaa", sum := "56fc21b3e67260c7068ee47ee111b22761a0025586472e965b80768ef6899428", func := "letterbag/letterbaglaw28.SequenceSmall", spec := "sequenceSmall", unfollowed := true, recurses := true, apart := false, narrowed := true }
def SequenceSmallUptoSaid : Prop := sequenceSmallUptoRow.holds Try.pinned (OpenSpec.upto sequenceSmallSpec)

/-- 'letterbaglaw28.SequenceExact', WHERE WHAT IT READS IS OF BULK AT MOST 1048576: true; the input reads as it did. -/
def sequenceExactUptoRow : OpenClaim := { program := "yteilhjglohahoaa", sum := "56fc21b3e67260c7068ee47ee111b22761a0025586472e965b80768ef6899428", func := "letterbag/letterbaglaw28.SequenceExact", spec := "sequenceExact", unfollowed := true, recurses := true, apart := false, narrowed := true }
def SequenceExactUptoSaid : Prop := sequenceExactUptoRow.holds Try.pinned (OpenSpec.upto sequenceExactSpec)

/-- 'letterbaglaw28.SequenceEqual', WHERE WHAT IT READS IS OF BULK AT MOST 1048576: true; the input reads as it did. -/
def sequenceEqualUptoRow : OpenClaim := { program := "yteilhjglohahoaa", sum := "56fc21b3e67260c7068ee47ee111b22761a0025586472e965b80768ef6899428", func := "letterbag/letterbaglaw28.SequenceEqual", spec := "sequenceEqual", unfollowed := true, recurses := true, apart := false, narrowed := true }
def SequenceEqualUptoSaid : Prop := sequenceEqualUptoRow.holds Try.pinned (OpenSpec.upto sequenceEqualSpec)

/-- 'letterbaglaw28.SequencePairs', WHERE WHAT IT READS IS OF BULK AT MOST 1048576: true; the input reads as it did. -/
def sequencePairsUptoRow : OpenClaim := { program := "yteilhjglohahoaa", sum := "56fc21b3e67260c7068ee47ee111b22761a0025586472e965b80768ef6899428", func := "letterbag/letterbaglaw28.SequencePairs", spec := "sequencePairs", unfollowed := true, recurses := true, apart := false, narrowed := true }
def SequencePairsUptoSaid : Prop := sequencePairsUptoRow.holds Try.pinned (OpenSpec.upto sequencePairsSpec)

/-- 'letterbaglaw28.SequenceParts', WHERE WHAT IT READS IS OF BULK AT MOST 1048576: true; the input reads as it did. -/
def sequencePartsUptoRow : OpenClaim := { program := "yteilhjglohahoaa", sum := "56fc21b3e67260c7068ee47ee111b22761a0025586472e965b80768ef6899428", func := "letterbag/letterbaglaw28.SequenceParts", spec := "sequenceParts", unfollowed := true, recurses := true, apart := false, narrowed := true }
def SequencePartsUptoSaid : Prop := sequencePartsUptoRow.holds Try.pinned (OpenSpec.upto sequencePartsSpec)

/-- 'letterbaglaw28.SequenceWrong', WHERE WHAT IT READS IS OF BULK AT MOST 1048576: true; the input reads as it did. -/
def sequenceWrongUptoRow : OpenClaim := { program := "yteilhjglohahoaa", sum := "56fc21b3e67260c7068ee47ee111b22761a0025586472e965b80768ef6899428", func := "letterbag/letterbaglaw28.SequenceWrong", spec := "sequenceWrong", unfollowed := true, recurses := true, apart := false, narrowed := true }
def SequenceWrongUptoSaid : Prop := sequenceWrongUptoRow.holds Try.pinned (OpenSpec.upto sequenceWrongSpec)

/-- 'letterbaglaw28.SequenceChecks', WHERE WHAT IT READS IS OF BULK AT MOST 1048576: true; the input reads as it did. -/
def sequenceChecksUptoRow : OpenClaim := { program := "yteilhjglohahoaa", sum := "56fc21b3e67260c7068ee47ee111b22761a0025586472e965b80768ef6899428", func := "letterbag/letterbaglaw28.SequenceChecks", spec := "sequenceChecks", unfollowed := true, recurses := true, apart := false, narrowed := true }
def SequenceChecksUptoSaid : Prop := sequenceChecksUptoRow.holds Try.pinned (OpenSpec.upto sequenceChecksSpec)

/-- 'letterbaglaw28.SequencePasses', WHERE WHAT IT READS IS OF BULK AT MOST 1048576: true; the input reads as it did. -/
def sequencePassesUptoRow : OpenClaim := { program := "yteilhjglohahoaa", sum := "56fc21b3e67260c7068ee47ee111b22761a0025586472e965b80768ef6899428", func := "letterbag/letterbaglaw28.SequencePasses", spec := "sequencePasses", unfollowed := true, recurses := true, apart := false, narrowed := true }
def SequencePassesUptoSaid : Prop := sequencePassesUptoRow.holds Try.pinned (OpenSpec.upto sequencePassesSpec)

end Rows
end Go.Proofs.Yteilhjglohahoaa
