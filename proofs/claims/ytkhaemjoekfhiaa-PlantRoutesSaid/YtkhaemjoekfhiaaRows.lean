/-
  No cell of these rows narrows 'for every input' (looked for: loops, veiled, ifaces, maps, wideKeys, modest, calm, conditions, laid).
  DERIVED. THE GIVEN ROWS OF THIS SEAT. 7 by the template 'for every input the law returns true; each argument reads behind the call as it read before'; 0 by the template 'total and deterministic' (their statements: YtkhaemjoekfhiaaTotals.lean).
  GIVEN WITH THE SEED: the statements are not yours to turn. If you find one false, say at which input.
  Laid BY PROGRAM, IN A SANDBOX (cutbox-rows.mjs): the forced cells as the released guide's own fill.sh prints them over the translation 53d7741832a1dab8… (all of the seat's roots in one cut). By AI agents, Wed Nov 11 2026. No macro, syntax, notation, axiom, sorry.
-/
import Derived.Test.YtkhaemjoekfhiaaChecked
import GoSem.Claim
import GoSem.ClaimJoined
import GoSem.ClaimMapViews
import Derived.JoinedTies
import Derived.KernelRfl
namespace Go.Proofs.Ytkhaemjoekfhiaa
/- THE CELL 'sum', in the pinned program and in every row, IS THE sha256 OF THE DUMP (.gsa) THAT YtkhaemjoekfhiaaProg.lean LOADS. Nothing in Lean hashes anything: it is a label: what it is worth is what the hold of that sum in a sandbox is worth. -/
noncomputable def Try.pinned : Pinned := { name := "ytkhaemjoekfhiaa", sum := "53d7741832a1dab85b074ec4f8a5038f5f5be7d548b93d0b0fbc119a47698607", checked := Try.checked }
namespace Rows
def none {H : Type} : Left H := { results := [], args := [] }

/-- 'letterbaglaw31.PlantKeeps': WHATEVER THE INPUT: true; the input reads as it did. -/
def plantKeepsSpec : ChangeSpec := { name := "plantKeeps", fn := fun _ => fun
  | [d1, d2] => { results := [.lit (.bool true)], args := [d1, d2] }
  | _ => none }
def plantKeepsRow : OpenClaim := { program := "ytkhaemjoekfhiaa", sum := "53d7741832a1dab85b074ec4f8a5038f5f5be7d548b93d0b0fbc119a47698607", func := "letterbag/letterbaglaw31.PlantKeeps", spec := "plantKeeps", unfollowed := true, recurses := true, plainKeys := false, apart := false }
def PlantKeepsSaid : Prop := plantKeepsRow.holds Try.pinned (OpenSpec.ofChange plantKeepsSpec)

/-- ITS FALSE NEIGHBOUR: 'it returns false'. Refute it at one input. -/
def plantKeepsWrong : ChangeSpec := { name := "plantKeeps", fn := fun _ => fun
  | [d1, d2] => { results := [.lit (.bool false)], args := [d1, d2] }
  | _ => none }
def PlantKeepsWrongFalsely : Prop := plantKeepsRow.holds Try.pinned (OpenSpec.ofChange plantKeepsWrong)

/-- 'letterbaglaw31.PlantTimes': WHATEVER THE INPUT: true; the input reads as it did. -/
def plantTimesSpec : ChangeSpec := { name := "plantTimes", fn := fun _ => fun
  | [d] => { results := [.lit (.bool true)], args := [d] }
  | _ => none }
def plantTimesRow : OpenClaim := { program := "ytkhaemjoekfhiaa", sum := "53d7741832a1dab85b074ec4f8a5038f5f5be7d548b93d0b0fbc119a47698607", func := "letterbag/letterbaglaw31.PlantTimes", spec := "plantTimes", unfollowed := true, recurses := true, plainKeys := false, apart := false }
def PlantTimesSaid : Prop := plantTimesRow.holds Try.pinned (OpenSpec.ofChange plantTimesSpec)

/-- ITS FALSE NEIGHBOUR: 'it returns false'. Refute it at one input. -/
def plantTimesWrong : ChangeSpec := { name := "plantTimes", fn := fun _ => fun
  | [d] => { results := [.lit (.bool false)], args := [d] }
  | _ => none }
def PlantTimesWrongFalsely : Prop := plantTimesRow.holds Try.pinned (OpenSpec.ofChange plantTimesWrong)

/-- 'letterbaglaw31.PlantFeeds': WHATEVER THE INPUT: true; the input reads as it did. -/
def plantFeedsSpec : ChangeSpec := { name := "plantFeeds", fn := fun _ => fun
  | [d] => { results := [.lit (.bool true)], args := [d] }
  | _ => none }
def plantFeedsRow : OpenClaim := { program := "ytkhaemjoekfhiaa", sum := "53d7741832a1dab85b074ec4f8a5038f5f5be7d548b93d0b0fbc119a47698607", func := "letterbag/letterbaglaw31.PlantFeeds", spec := "plantFeeds", unfollowed := true, recurses := true, plainKeys := false, apart := false }
def PlantFeedsSaid : Prop := plantFeedsRow.holds Try.pinned (OpenSpec.ofChange plantFeedsSpec)

/-- ITS FALSE NEIGHBOUR: 'it returns false'. Refute it at one input. -/
def plantFeedsWrong : ChangeSpec := { name := "plantFeeds", fn := fun _ => fun
  | [d] => { results := [.lit (.bool false)], args := [d] }
  | _ => none }
def PlantFeedsWrongFalsely : Prop := plantFeedsRow.holds Try.pinned (OpenSpec.ofChange plantFeedsWrong)

/-- 'letterbaglaw31.PlantMoves': WHATEVER THE INPUT: true; the input reads as it did. -/
def plantMovesSpec : ChangeSpec := { name := "plantMoves", fn := fun _ => fun
  | [d1, d2] => { results := [.lit (.bool true)], args := [d1, d2] }
  | _ => none }
def plantMovesRow : OpenClaim := { program := "ytkhaemjoekfhiaa", sum := "53d7741832a1dab85b074ec4f8a5038f5f5be7d548b93d0b0fbc119a47698607", func := "letterbag/letterbaglaw31.PlantMoves", spec := "plantMoves", unfollowed := true, recurses := true, plainKeys := false, apart := false }
def PlantMovesSaid : Prop := plantMovesRow.holds Try.pinned (OpenSpec.ofChange plantMovesSpec)

/-- ITS FALSE NEIGHBOUR: 'it returns false'. Refute it at one input. -/
def plantMovesWrong : ChangeSpec := { name := "plantMoves", fn := fun _ => fun
  | [d1, d2] => { results := [.lit (.bool false)], args := [d1, d2] }
  | _ => none }
def PlantMovesWrongFalsely : Prop := plantMovesRow.holds Try.pinned (OpenSpec.ofChange plantMovesWrong)

/-- 'letterbaglaw31.PlantFaster': WHATEVER THE INPUT: true; the input reads as it did. -/
def plantFasterSpec : ChangeSpec := { name := "plantFaster", fn := fun _ => fun
  | [d1, d2] => { results := [.lit (.bool true)], args := [d1, d2] }
  | _ => none }
def plantFasterRow : OpenClaim := { program := "ytkhaemjoekfhiaa", sum := "53d7741832a1dab85b074ec4f8a5038f5f5be7d548b93d0b0fbc119a47698607", func := "letterbag/letterbaglaw31.PlantFaster", spec := "plantFaster", unfollowed := true, recurses := true, plainKeys := false, apart := false }
def PlantFasterSaid : Prop := plantFasterRow.holds Try.pinned (OpenSpec.ofChange plantFasterSpec)

/-- ITS FALSE NEIGHBOUR: 'it returns false'. Refute it at one input. -/
def plantFasterWrong : ChangeSpec := { name := "plantFaster", fn := fun _ => fun
  | [d1, d2] => { results := [.lit (.bool false)], args := [d1, d2] }
  | _ => none }
def PlantFasterWrongFalsely : Prop := plantFasterRow.holds Try.pinned (OpenSpec.ofChange plantFasterWrong)

/-- 'letterbaglaw31.PlantWrong': WHATEVER THE INPUT: true; the input reads as it did. -/
def plantWrongSpec : ChangeSpec := { name := "plantWrong", fn := fun _ => fun
  | [d1, d2] => { results := [.lit (.bool true)], args := [d1, d2] }
  | _ => none }
def plantWrongRow : OpenClaim := { program := "ytkhaemjoekfhiaa", sum := "53d7741832a1dab85b074ec4f8a5038f5f5be7d548b93d0b0fbc119a47698607", func := "letterbag/letterbaglaw31.PlantWrong", spec := "plantWrong", unfollowed := true, recurses := true, plainKeys := false, apart := false }
def PlantWrongSaid : Prop := plantWrongRow.holds Try.pinned (OpenSpec.ofChange plantWrongSpec)

/-- ITS FALSE NEIGHBOUR: 'it returns false'. Refute it at one input. -/
def plantWrongWrong : ChangeSpec := { name := "plantWrong", fn := fun _ => fun
  | [d1, d2] => { results := [.lit (.bool false)], args := [d1, d2] }
  | _ => none }
def PlantWrongWrongFalsely : Prop := plantWrongRow.holds Try.pinned (OpenSpec.ofChange plantWrongWrong)

/-- 'letterbaglaw31.PlantRoutes': WHATEVER THE INPUT: true; the input reads as it did. -/
def plantRoutesSpec : ChangeSpec := { name := "plantRoutes", fn := fun _ => fun
  | [d1, d2, d3] => { results := [.lit (.bool true)], args := [d1, d2, d3] }
  | _ => none }
def plantRoutesRow : OpenClaim := { program := "ytkhaemjoekfhiaa", sum := "53d7741832a1dab85b074ec4f8a5038f5f5be7d548b93d0b0fbc119a47698607", func := "letterbag/letterbaglaw31.PlantRoutes", spec := "plantRoutes", unfollowed := true, recurses := true, plainKeys := false, apart := false }
def PlantRoutesSaid : Prop := plantRoutesRow.holds Try.pinned (OpenSpec.ofChange plantRoutesSpec)

/-- ITS FALSE NEIGHBOUR: 'it returns false'. Refute it at one input. -/
def plantRoutesWrong : ChangeSpec := { name := "plantRoutes", fn := fun _ => fun
  | [d1, d2, d3] => { results := [.lit (.bool false)], args := [d1, d2, d3] }
  | _ => none }
def PlantRoutesWrongFalsely : Prop := plantRoutesRow.holds Try.pinned (OpenSpec.ofChange plantRoutesWrong)

/- THE SECOND FORM. 'bulk': how many values and letters a reading holds, each counted each time it is reached (what is shared counts as often as it is met; a slice's spare places count too). A statement '..UptoSaid' is the law's where the arguments, and the package variables that the reading takes, are together of bulk at most 1048576: NARROWER than '..Said'. Prove '..Said' where nothing that the law and all that it calls make is longer than what came in: it says more and counts as full. Else prove '..UptoSaid'. A law counts once. -/
mutual
def uptoBulk {H : Type} : DataW H → Nat
  | .lit (.string bytes) => bytes.length + 1
  | .lit _ => 1
  | .nil => 1
  | .ptr d => uptoBulk d + 1
  | .slice elems spare => uptoBulkAll elems + uptoBulkAll spare + 1
  | .agg parts => uptoBulkAll parts + 1
  | .iface _ d => uptoBulk d + 1
  | .map entries => uptoBulkEntries entries + 1
  | .held _ => 1
def uptoBulkAll {H : Type} : List (DataW H) → Nat
  | [] => 0
  | d :: r => uptoBulk d + uptoBulkAll r
def uptoBulkEntries {H : Type} : List (Lit × DataW H) → Nat
  | [] => 0
  | x :: r => uptoBulkEntry x + uptoBulkEntries r
def uptoBulkEntry {H : Type} : Lit × DataW H → Nat
  | (.string bytes, d) => bytes.length + uptoBulk d + 1
  | (_, d) => uptoBulk d + 1
 end
def uptoSmall : (H : Type) → List (DataW H) → Bool := fun _ ds => decide (uptoBulkAll ds ≤ 1048576)
def OpenSpec.upto (s : _root_.Go.ChangeSpec) : _root_.Go.OpenSpec := { _root_.Go.OpenSpec.ofChange s with cond := some uptoSmall }

/-- 'letterbaglaw31.PlantKeeps', WHERE WHAT IT READS IS OF BULK AT MOST 1048576: true; the input reads as it did. -/
def plantKeepsUptoRow : OpenClaim := { program := "ytkhaemjoekfhiaa", sum := "53d7741832a1dab85b074ec4f8a5038f5f5be7d548b93d0b0fbc119a47698607", func := "letterbag/letterbaglaw31.PlantKeeps", spec := "plantKeeps", unfollowed := true, recurses := true, plainKeys := false, apart := false, narrowed := true }
def PlantKeepsUptoSaid : Prop := plantKeepsUptoRow.holds Try.pinned (OpenSpec.upto plantKeepsSpec)

/-- 'letterbaglaw31.PlantTimes', WHERE WHAT IT READS IS OF BULK AT MOST 1048576: true; the input reads as it did. -/
def plantTimesUptoRow : OpenClaim := { program := "ytkhaemjoekfhiaa", sum := "53d7741832a1dab85b074ec4f8a5038f5f5be7d548b93d0b0fbc119a47698607", func := "letterbag/letterbaglaw31.PlantTimes", spec := "plantTimes", unfollowed := true, recurses := true, plainKeys := false, apart := false, narrowed := true }
def PlantTimesUptoSaid : Prop := plantTimesUptoRow.holds Try.pinned (OpenSpec.upto plantTimesSpec)

/-- 'letterbaglaw31.PlantFeeds', WHERE WHAT IT READS IS OF BULK AT MOST 1048576: true; the input reads as it did. -/
def plantFeedsUptoRow : OpenClaim := { program := "ytkhaemjoekfhiaa", sum := "53d7741832a1dab85b074ec4f8a5038f5f5be7d548b93d0b0fbc119a47698607", func := "letterbag/letterbaglaw31.PlantFeeds", spec := "plantFeeds", unfollowed := true, recurses := true, plainKeys := false, apart := false, narrowed := true }
def PlantFeedsUptoSaid : Prop := plantFeedsUptoRow.holds Try.pinned (OpenSpec.upto plantFeedsSpec)

/-- 'letterbaglaw31.PlantMoves', WHERE WHAT IT READS IS OF BULK AT MOST 1048576: true; the input reads as it did. -/
def plantMovesUptoRow : OpenClaim := { program := "ytkhaemjoekfhiaa", sum := "53d7741832a1dab85b074ec4f8a5038f5f5be7d548b93d0b0fbc119a47698607", func := "letterbag/letterbaglaw31.PlantMoves", spec := "plantMoves", unfollowed := true, recurses := true, plainKeys := false, apart := false, narrowed := true }
def PlantMovesUptoSaid : Prop := plantMovesUptoRow.holds Try.pinned (OpenSpec.upto plantMovesSpec)

/-- 'letterbaglaw31.PlantFaster', WHERE WHAT IT READS IS OF BULK AT MOST 1048576: true; the input reads as it did. -/
def plantFasterUptoRow : OpenClaim := { program := "ytkhaemjoekfhiaa", sum := "53d7741832a1dab85b074ec4f8a5038f5f5be7d548b93d0b0fbc119a47698607", func := "letterbag/letterbaglaw31.PlantFaster", spec := "plantFaster", unfollowed := true, recurses := true, plainKeys := false, apart := false, narrowed := true }
def PlantFasterUptoSaid : Prop := plantFasterUptoRow.holds Try.pinned (OpenSpec.upto plantFasterSpec)

/-- 'letterbaglaw31.PlantWrong', WHERE WHAT IT READS IS OF BULK AT MOST 1048576: true; the input reads as it did. -/
def plantWrongUptoRow : OpenClaim := { program := "ytkhaemjoekfhiaa", sum := "53d7741832a1dab85b074ec4f8a5038f5f5be7d548b93d0b0fbc119a47698607", func := "letterbag/letterbaglaw31.PlantWrong", spec := "plantWrong", unfollowed := true, recurses := true, plainKeys := false, apart := false, narrowed := true }
def PlantWrongUptoSaid : Prop := plantWrongUptoRow.holds Try.pinned (OpenSpec.upto plantWrongSpec)

/-- 'letterbaglaw31.PlantRoutes', WHERE WHAT IT READS IS OF BULK AT MOST 1048576: true; the input reads as it did. -/
def plantRoutesUptoRow : OpenClaim := { program := "ytkhaemjoekfhiaa", sum := "53d7741832a1dab85b074ec4f8a5038f5f5be7d548b93d0b0fbc119a47698607", func := "letterbag/letterbaglaw31.PlantRoutes", spec := "plantRoutes", unfollowed := true, recurses := true, plainKeys := false, apart := false, narrowed := true }
def PlantRoutesUptoSaid : Prop := plantRoutesUptoRow.holds Try.pinned (OpenSpec.upto plantRoutesSpec)

end Rows
end Go.Proofs.Ytkhaemjoekfhiaa
