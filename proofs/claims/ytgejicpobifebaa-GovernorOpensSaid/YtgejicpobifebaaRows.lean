/-
  No cell of these rows narrows 'for every input' (looked for: loops, veiled, ifaces, maps, wideKeys, modest, calm, conditions, laid).
  DERIVED. THE GIVEN ROWS OF THIS SEAT. 7 by the template 'for every input the law returns true; each argument reads behind the call as it read before'; 0 by the template 'total and deterministic' (their statements: YtgejicpobifebaaTotals.lean).
  GIVEN WITH THE SEED: the statements are not yours to turn. If you find one false, say at which input.
  Laid BY PROGRAM, IN A SANDBOX (cutbox-rows.mjs): the forced cells as the released guide's own fill.sh prints them over the translation 211382744af9da94… (all of the seat's roots in one cut). By AI agents, Wed Nov 11 2026. No macro, syntax, notation, axiom, sorry.
-/
import Derived.Test.YtgejicpobifebaaChecked
import GoSem.Claim
import GoSem.ClaimJoined
import GoSem.ClaimMapViews
import Derived.JoinedTies
import Derived.KernelRfl
namespace Go.Proofs.Ytgejicpobifebaa
/- THE CELL 'sum', in the pinned program and in every row, IS THE sha256 OF THE DUMP (.gsa) THAT YtgejicpobifebaaProg.lean LOADS. Nothing in Lean hashes anything: it is a label: what it is worth is what the hold of that sum in a sandbox is worth. -/
noncomputable def Try.pinned : Pinned := { name := "ytgejicpobifebaa", sum := "211382744af9da9482f9792615ece01ef6e2cb556222b36e0842b3976e72ad46", checked := Try.checked }
namespace Rows
def none {H : Type} : Left H := { results := [], args := [] }

/-- 'speculatelaw32.FallbackSteps': WHATEVER THE INPUT: true; the input reads as it did. -/
def fallbackStepsSpec : ChangeSpec := { name := "fallbackSteps", fn := fun _ => fun
  | [d1, d2] => { results := [.lit (.bool true)], args := [d1, d2] }
  | _ => none }
def fallbackStepsRow : OpenClaim := { program := "ytgejicpobifebaa", sum := "211382744af9da9482f9792615ece01ef6e2cb556222b36e0842b3976e72ad46", func := "speculate/speculatelaw32.FallbackSteps", spec := "fallbackSteps", apart := false }
def FallbackStepsSaid : Prop := fallbackStepsRow.holds Try.pinned (OpenSpec.ofChange fallbackStepsSpec)

/-- ITS FALSE NEIGHBOUR: 'it returns false'. Refute it at one input. -/
def fallbackStepsWrong : ChangeSpec := { name := "fallbackSteps", fn := fun _ => fun
  | [d1, d2] => { results := [.lit (.bool false)], args := [d1, d2] }
  | _ => none }
def FallbackStepsWrongFalsely : Prop := fallbackStepsRow.holds Try.pinned (OpenSpec.ofChange fallbackStepsWrong)

/-- 'speculatelaw32.FallbackPays': WHATEVER THE INPUT: true; the input reads as it did. -/
def fallbackPaysSpec : ChangeSpec := { name := "fallbackPays", fn := fun _ => fun
  | [d1, d2] => { results := [.lit (.bool true)], args := [d1, d2] }
  | _ => none }
def fallbackPaysRow : OpenClaim := { program := "ytgejicpobifebaa", sum := "211382744af9da9482f9792615ece01ef6e2cb556222b36e0842b3976e72ad46", func := "speculate/speculatelaw32.FallbackPays", spec := "fallbackPays", apart := false }
def FallbackPaysSaid : Prop := fallbackPaysRow.holds Try.pinned (OpenSpec.ofChange fallbackPaysSpec)

/-- ITS FALSE NEIGHBOUR: 'it returns false'. Refute it at one input. -/
def fallbackPaysWrong : ChangeSpec := { name := "fallbackPays", fn := fun _ => fun
  | [d1, d2] => { results := [.lit (.bool false)], args := [d1, d2] }
  | _ => none }
def FallbackPaysWrongFalsely : Prop := fallbackPaysRow.holds Try.pinned (OpenSpec.ofChange fallbackPaysWrong)

/-- 'speculatelaw32.FallbackCalm': WHATEVER THE INPUT: true; the input reads as it did. -/
def fallbackCalmSpec : ChangeSpec := { name := "fallbackCalm", fn := fun _ => fun
  | [d1, d2, d3] => { results := [.lit (.bool true)], args := [d1, d2, d3] }
  | _ => none }
def fallbackCalmRow : OpenClaim := { program := "ytgejicpobifebaa", sum := "211382744af9da9482f9792615ece01ef6e2cb556222b36e0842b3976e72ad46", func := "speculate/speculatelaw32.FallbackCalm", spec := "fallbackCalm", apart := false }
def FallbackCalmSaid : Prop := fallbackCalmRow.holds Try.pinned (OpenSpec.ofChange fallbackCalmSpec)

/-- ITS FALSE NEIGHBOUR: 'it returns false'. Refute it at one input. -/
def fallbackCalmWrong : ChangeSpec := { name := "fallbackCalm", fn := fun _ => fun
  | [d1, d2, d3] => { results := [.lit (.bool false)], args := [d1, d2, d3] }
  | _ => none }
def FallbackCalmWrongFalsely : Prop := fallbackCalmRow.holds Try.pinned (OpenSpec.ofChange fallbackCalmWrong)

/-- 'speculatelaw32.FallbackWindows': WHATEVER THE INPUT: true; the input reads as it did. -/
def fallbackWindowsSpec : ChangeSpec := { name := "fallbackWindows", fn := fun _ => fun
  | [d1, d2] => { results := [.lit (.bool true)], args := [d1, d2] }
  | _ => none }
def fallbackWindowsRow : OpenClaim := { program := "ytgejicpobifebaa", sum := "211382744af9da9482f9792615ece01ef6e2cb556222b36e0842b3976e72ad46", func := "speculate/speculatelaw32.FallbackWindows", spec := "fallbackWindows", apart := false }
def FallbackWindowsSaid : Prop := fallbackWindowsRow.holds Try.pinned (OpenSpec.ofChange fallbackWindowsSpec)

/-- ITS FALSE NEIGHBOUR: 'it returns false'. Refute it at one input. -/
def fallbackWindowsWrong : ChangeSpec := { name := "fallbackWindows", fn := fun _ => fun
  | [d1, d2] => { results := [.lit (.bool false)], args := [d1, d2] }
  | _ => none }
def FallbackWindowsWrongFalsely : Prop := fallbackWindowsRow.holds Try.pinned (OpenSpec.ofChange fallbackWindowsWrong)

/-- 'speculatelaw31.GovernorMoves': WHATEVER THE INPUT: true; the input reads as it did. -/
def governorMovesSpec : ChangeSpec := { name := "governorMoves", fn := fun _ => fun
  | [d1, d2, d3, d4] => { results := [.lit (.bool true)], args := [d1, d2, d3, d4] }
  | _ => none }
def governorMovesRow : OpenClaim := { program := "ytgejicpobifebaa", sum := "211382744af9da9482f9792615ece01ef6e2cb556222b36e0842b3976e72ad46", func := "speculate/speculatelaw31.GovernorMoves", spec := "governorMoves", unfollowed := true, recurses := true, apart := false }
def GovernorMovesSaid : Prop := governorMovesRow.holds Try.pinned (OpenSpec.ofChange governorMovesSpec)

/-- ITS FALSE NEIGHBOUR: 'it returns false'. Refute it at one input. -/
def governorMovesWrong : ChangeSpec := { name := "governorMoves", fn := fun _ => fun
  | [d1, d2, d3, d4] => { results := [.lit (.bool false)], args := [d1, d2, d3, d4] }
  | _ => none }
def GovernorMovesWrongFalsely : Prop := governorMovesRow.holds Try.pinned (OpenSpec.ofChange governorMovesWrong)

/-- 'speculatelaw31.GovernorBounds': WHATEVER THE INPUT: true; the input reads as it did. -/
def governorBoundsSpec : ChangeSpec := { name := "governorBounds", fn := fun _ => fun
  | [d1, d2, d3] => { results := [.lit (.bool true)], args := [d1, d2, d3] }
  | _ => none }
def governorBoundsRow : OpenClaim := { program := "ytgejicpobifebaa", sum := "211382744af9da9482f9792615ece01ef6e2cb556222b36e0842b3976e72ad46", func := "speculate/speculatelaw31.GovernorBounds", spec := "governorBounds", unfollowed := true, recurses := true, apart := false }
def GovernorBoundsSaid : Prop := governorBoundsRow.holds Try.pinned (OpenSpec.ofChange governorBoundsSpec)

/-- ITS FALSE NEIGHBOUR: 'it returns false'. Refute it at one input. -/
def governorBoundsWrong : ChangeSpec := { name := "governorBounds", fn := fun _ => fun
  | [d1, d2, d3] => { results := [.lit (.bool false)], args := [d1, d2, d3] }
  | _ => none }
def GovernorBoundsWrongFalsely : Prop := governorBoundsRow.holds Try.pinned (OpenSpec.ofChange governorBoundsWrong)

/-- 'speculatelaw31.GovernorOpens': WHATEVER THE INPUT: true; the input reads as it did. -/
def governorOpensSpec : ChangeSpec := { name := "governorOpens", fn := fun _ => fun
  | [d1, d2] => { results := [.lit (.bool true)], args := [d1, d2] }
  | _ => none }
def governorOpensRow : OpenClaim := { program := "ytgejicpobifebaa", sum := "211382744af9da9482f9792615ece01ef6e2cb556222b36e0842b3976e72ad46", func := "speculate/speculatelaw31.GovernorOpens", spec := "governorOpens", unfollowed := true, recurses := true, apart := false }
def GovernorOpensSaid : Prop := governorOpensRow.holds Try.pinned (OpenSpec.ofChange governorOpensSpec)

/-- ITS FALSE NEIGHBOUR: 'it returns false'. Refute it at one input. -/
def governorOpensWrong : ChangeSpec := { name := "governorOpens", fn := fun _ => fun
  | [d1, d2] => { results := [.lit (.bool false)], args := [d1, d2] }
  | _ => none }
def GovernorOpensWrongFalsely : Prop := governorOpensRow.holds Try.pinned (OpenSpec.ofChange governorOpensWrong)

/- THE SECOND FORM. 'bulk': how many values and letters a reading holds, each counted each time it is reached (what is shared counts as often as it is met; a slice's spare places count too). A statement '..UptoSaid' is the law's where the arguments, and the package variables that the reading takes, are together of bulk at most 1048576: NARROWER than '..Said'. Prove '..Said' where nothing that the law and all that it calls make is longer than what came in: it says more and counts as full. Else prove '..UptoSaid'. A law counts once. -/
mutual
def uptoBulk {H : Type} : DataW H → Nat
  | .lit (.string bytes) => bytes.length + 1
  | .lit _ => 1
  | .nil => 1
  | .ptr d => uptoBulk d + 1
  | .slice elems spare => uptoBulkAll elems + uptoBulkAll spare + 1
  | .agg parts => uptoBulkAll parts + 1
  | .iface _ d => uptoBulk d + 1
  | .map entries => uptoBulkEntries entries + 1
  | .held _ => 1
def uptoBulkAll {H : Type} : List (DataW H) → Nat
  | [] => 0
  | d :: r => uptoBulk d + uptoBulkAll r
def uptoBulkEntries {H : Type} : List (Lit × DataW H) → Nat
  | [] => 0
  | x :: r => uptoBulkEntry x + uptoBulkEntries r
def uptoBulkEntry {H : Type} : Lit × DataW H → Nat
  | (.string bytes, d) => bytes.length + uptoBulk d + 1
  | (_, d) => uptoBulk d + 1
 end
def uptoSmall : (H : Type) → List (DataW H) → Bool := fun _ ds => decide (uptoBulkAll ds ≤ 1048576)
def OpenSpec.upto (s : _root_.Go.ChangeSpec) : _root_.Go.OpenSpec := { _root_.Go.OpenSpec.ofChange s with cond := some uptoSmall }

/-- 'speculatelaw32.FallbackSteps', WHERE WHAT IT READS IS OF BULK AT MOST 1048576: true; the input reads as it did. -/
def fallbackStepsUptoRow : OpenClaim := { program := "ytgejicpobifebaa", sum := "211382744af9da9482f9792615ece01ef6e2cb556222b36e0842b3976e72ad46", func := "speculate/speculatelaw32.FallbackSteps", spec := "fallbackSteps", apart := false, narrowed := true }
def FallbackStepsUptoSaid : Prop := fallbackStepsUptoRow.holds Try.pinned (OpenSpec.upto fallbackStepsSpec)

/-- 'speculatelaw32.FallbackPays', WHERE WHAT IT READS IS OF BULK AT MOST 1048576: true; the input reads as it did. -/
def fallbackPaysUptoRow : OpenClaim := { program := "ytgejicpobifebaa", sum := "211382744af9da9482f9792615ece01ef6e2cb556222b36e0842b3976e72ad46", func := "speculate/speculatelaw32.FallbackPays", spec := "fallbackPays", apart := false, narrowed := true }
def FallbackPaysUptoSaid : Prop := fallbackPaysUptoRow.holds Try.pinned (OpenSpec.upto fallbackPaysSpec)

/-- 'speculatelaw32.FallbackCalm', WHERE WHAT IT READS IS OF BULK AT MOST 1048576: true; the input reads as it did. -/
def fallbackCalmUptoRow : OpenClaim := { program := "ytgejicpobifebaa", sum := "211382744af9da9482f9792615ece01ef6e2cb556222b36e0842b3976e72ad46", func := "speculate/speculatelaw32.FallbackCalm", spec := "fallbackCalm", apart := false, narrowed := true }
def FallbackCalmUptoSaid : Prop := fallbackCalmUptoRow.holds Try.pinned (OpenSpec.upto fallbackCalmSpec)

/-- 'speculatelaw32.FallbackWindows', WHERE WHAT IT READS IS OF BULK AT MOST 1048576: true; the input reads as it did. -/
def fallbackWindowsUptoRow : OpenClaim := { program := "ytgejicpobifebaa", sum := "211382744af9da9482f9792615ece01ef6e2cb556222b36e0842b3976e72ad46", func := "speculate/speculatelaw32.FallbackWindows", spec := "fallbackWindows", apart := false, narrowed := true }
def FallbackWindowsUptoSaid : Prop := fallbackWindowsUptoRow.holds Try.pinned (OpenSpec.upto fallbackWindowsSpec)

/-- 'speculatelaw31.GovernorMoves', WHERE WHAT IT READS IS OF BULK AT MOST 1048576: true; the input reads as it did. -/
def governorMovesUptoRow : OpenClaim := { program := "ytgejicpobifebaa", sum := "211382744af9da9482f9792615ece01ef6e2cb556222b36e0842b3976e72ad46", func := "speculate/speculatelaw31.GovernorMoves", spec := "governorMoves", unfollowed := true, recurses := true, apart := false, narrowed := true }
def GovernorMovesUptoSaid : Prop := governorMovesUptoRow.holds Try.pinned (OpenSpec.upto governorMovesSpec)

/-- 'speculatelaw31.GovernorBounds', WHERE WHAT IT READS IS OF BULK AT MOST 1048576: true; the input reads as it did. -/
def governorBoundsUptoRow : OpenClaim := { program := "ytgejicpobifebaa", sum := "211382744af9da9482f9792615ece01ef6e2cb556222b36e0842b3976e72ad46", func := "speculate/speculatelaw31.GovernorBounds", spec := "governorBounds", unfollowed := true, recurses := true, apart := false, narrowed := true }
def GovernorBoundsUptoSaid : Prop := governorBoundsUptoRow.holds Try.pinned (OpenSpec.upto governorBoundsSpec)

/-- 'speculatelaw31.GovernorOpens', WHERE WHAT IT READS IS OF BULK AT MOST 1048576: true; the input reads as it did. -/
def governorOpensUptoRow : OpenClaim := { program := "ytgejicpobifebaa", sum := "211382744af9da9482f9792615ece01ef6e2cb556222b36e0842b3976e72ad46", func := "speculate/speculatelaw31.GovernorOpens", spec := "governorOpens", unfollowed := true, recurses := true, apart := false, narrowed := true }
def GovernorOpensUptoSaid : Prop := governorOpensUptoRow.holds Try.pinned (OpenSpec.upto governorOpensSpec)

end Rows
end Go.Proofs.Ytgejicpobifebaa
