/-
  No cell of these rows narrows 'for every input' (looked for: loops, veiled, ifaces, maps, wideKeys, modest, calm, conditions, laid).
  DERIVED. THE GIVEN ROWS OF THIS SEAT. 12 by the template 'for every input the law returns true; each argument reads behind the call as it read before'; 0 by the template 'total and deterministic' (their statements: YtnfkjjgkidlpiaaTotals.lean).
  GIVEN WITH THE SEED: the statements are not yours to turn. If you find one false, say at which input.
  Laid BY PROGRAM, IN A SANDBOX (cutbox-rows.mjs): the forced cells as the released guide's own fill.sh prints them over the translation 4c1da9ff75223629… (all of the seat's roots in one cut). By AI agents, Wed Nov 11 2026. No macro, syntax, notation, axiom, sorry.
-/
import Derived.Test.YtnfkjjgkidlpiaaChecked
import GoSem.Claim
import GoSem.ClaimJoined
import GoSem.ClaimMapViews
import Derived.JoinedTies
import Derived.KernelRfl
namespace Go.Proofs.Ytnfkjjgkidlpiaa
/- THE CELL 'sum', in the pinned program and in every row, IS THE sha256 OF THE DUMP (.gsa) THAT YtnfkjjgkidlpiaaProg.lean LOADS. Nothing in Lean hashes anything: it is a label: what it is worth is what the hold of that sum in a sandbox is worth. -/
noncomputable def Try.pinned : Pinned := { name := "ytnfkjjgkidlpiaa", sum := "4c1da9ff75223629bf38b20732c9ddaa047856d523f810cda5caab1d92c640f5", checked := Try.checked }
namespace Rows
def none {H : Type} : Left H := { results := [], args := [] }

/-- 'laws.FnExactConstants': WHATEVER THE INPUT: true; the input reads as it did. -/
def fnExactConstantsSpec : ChangeSpec := { name := "fnExactConstants", fn := fun _ => fun
  | [] => { results := [.lit (.bool true)], args := [] }
  | _ => none }
def fnExactConstantsRow : OpenClaim := { program := "ytnfkjjgkidlpiaa", sum := "4c1da9ff75223629bf38b20732c9ddaa047856d523f810cda5caab1d92c640f5", func := "loop.example/g00887/laws.FnExactConstants", spec := "fnExactConstants", apart := false }
def FnExactConstantsSaid : Prop := fnExactConstantsRow.holds Try.pinned (OpenSpec.ofChange fnExactConstantsSpec)

/-- ITS FALSE NEIGHBOUR: 'it returns false'. Refute it at one input. -/
def fnExactConstantsWrong : ChangeSpec := { name := "fnExactConstants", fn := fun _ => fun
  | [] => { results := [.lit (.bool false)], args := [] }
  | _ => none }
def FnExactConstantsWrongFalsely : Prop := fnExactConstantsRow.holds Try.pinned (OpenSpec.ofChange fnExactConstantsWrong)

/-- 'laws.FnExactIsPoint': WHATEVER THE INPUT: true; the input reads as it did. -/
def fnExactIsPointSpec : ChangeSpec := { name := "fnExactIsPoint", fn := fun _ => fun
  | [d] => { results := [.lit (.bool true)], args := [d] }
  | _ => none }
def fnExactIsPointRow : OpenClaim := { program := "ytnfkjjgkidlpiaa", sum := "4c1da9ff75223629bf38b20732c9ddaa047856d523f810cda5caab1d92c640f5", func := "loop.example/g00887/laws.FnExactIsPoint", spec := "fnExactIsPoint", apart := false }
def FnExactIsPointSaid : Prop := fnExactIsPointRow.holds Try.pinned (OpenSpec.ofChange fnExactIsPointSpec)

/-- ITS FALSE NEIGHBOUR: 'it returns false'. Refute it at one input. -/
def fnExactIsPointWrong : ChangeSpec := { name := "fnExactIsPoint", fn := fun _ => fun
  | [d] => { results := [.lit (.bool false)], args := [d] }
  | _ => none }
def FnExactIsPointWrongFalsely : Prop := fnExactIsPointRow.holds Try.pinned (OpenSpec.ofChange fnExactIsPointWrong)

/-- 'laws.FnExactIsSegment': WHATEVER THE INPUT: true; the input reads as it did. -/
def fnExactIsSegmentSpec : ChangeSpec := { name := "fnExactIsSegment", fn := fun _ => fun
  | [d] => { results := [.lit (.bool true)], args := [d] }
  | _ => none }
def fnExactIsSegmentRow : OpenClaim := { program := "ytnfkjjgkidlpiaa", sum := "4c1da9ff75223629bf38b20732c9ddaa047856d523f810cda5caab1d92c640f5", func := "loop.example/g00887/laws.FnExactIsSegment", spec := "fnExactIsSegment", apart := false }
def FnExactIsSegmentSaid : Prop := fnExactIsSegmentRow.holds Try.pinned (OpenSpec.ofChange fnExactIsSegmentSpec)

/-- ITS FALSE NEIGHBOUR: 'it returns false'. Refute it at one input. -/
def fnExactIsSegmentWrong : ChangeSpec := { name := "fnExactIsSegment", fn := fun _ => fun
  | [d] => { results := [.lit (.bool false)], args := [d] }
  | _ => none }
def FnExactIsSegmentWrongFalsely : Prop := fnExactIsSegmentRow.holds Try.pinned (OpenSpec.ofChange fnExactIsSegmentWrong)

/-- 'laws.FnExactIsLine': WHATEVER THE INPUT: true; the input reads as it did. -/
def fnExactIsLineSpec : ChangeSpec := { name := "fnExactIsLine", fn := fun _ => fun
  | [d] => { results := [.lit (.bool true)], args := [d] }
  | _ => none }
def fnExactIsLineRow : OpenClaim := { program := "ytnfkjjgkidlpiaa", sum := "4c1da9ff75223629bf38b20732c9ddaa047856d523f810cda5caab1d92c640f5", func := "loop.example/g00887/laws.FnExactIsLine", spec := "fnExactIsLine", apart := false }
def FnExactIsLineSaid : Prop := fnExactIsLineRow.holds Try.pinned (OpenSpec.ofChange fnExactIsLineSpec)

/-- ITS FALSE NEIGHBOUR: 'it returns false'. Refute it at one input. -/
def fnExactIsLineWrong : ChangeSpec := { name := "fnExactIsLine", fn := fun _ => fun
  | [d] => { results := [.lit (.bool false)], args := [d] }
  | _ => none }
def FnExactIsLineWrongFalsely : Prop := fnExactIsLineRow.holds Try.pinned (OpenSpec.ofChange fnExactIsLineWrong)

/-- 'laws.FnExactFloorDiv': WHATEVER THE INPUT: true; the input reads as it did. -/
def fnExactFloorDivSpec : ChangeSpec := { name := "fnExactFloorDiv", fn := fun _ => fun
  | [d1, d2] => { results := [.lit (.bool true)], args := [d1, d2] }
  | _ => none }
def fnExactFloorDivRow : OpenClaim := { program := "ytnfkjjgkidlpiaa", sum := "4c1da9ff75223629bf38b20732c9ddaa047856d523f810cda5caab1d92c640f5", func := "loop.example/g00887/laws.FnExactFloorDiv", spec := "fnExactFloorDiv", apart := false }
def FnExactFloorDivSaid : Prop := fnExactFloorDivRow.holds Try.pinned (OpenSpec.ofChange fnExactFloorDivSpec)

/-- ITS FALSE NEIGHBOUR: 'it returns false'. Refute it at one input. -/
def fnExactFloorDivWrong : ChangeSpec := { name := "fnExactFloorDiv", fn := fun _ => fun
  | [d1, d2] => { results := [.lit (.bool false)], args := [d1, d2] }
  | _ => none }
def FnExactFloorDivWrongFalsely : Prop := fnExactFloorDivRow.holds Try.pinned (OpenSpec.ofChange fnExactFloorDivWrong)

/-- 'laws.FnExactSquareDistance': WHATEVER THE INPUT: true; the input reads as it did. -/
def fnExactSquareDistanceSpec : ChangeSpec := { name := "fnExactSquareDistance", fn := fun _ => fun
  | [d1, d2] => { results := [.lit (.bool true)], args := [d1, d2] }
  | _ => none }
def fnExactSquareDistanceRow : OpenClaim := { program := "ytnfkjjgkidlpiaa", sum := "4c1da9ff75223629bf38b20732c9ddaa047856d523f810cda5caab1d92c640f5", func := "loop.example/g00887/laws.FnExactSquareDistance", spec := "fnExactSquareDistance", apart := false }
def FnExactSquareDistanceSaid : Prop := fnExactSquareDistanceRow.holds Try.pinned (OpenSpec.ofChange fnExactSquareDistanceSpec)

/-- ITS FALSE NEIGHBOUR: 'it returns false'. Refute it at one input. -/
def fnExactSquareDistanceWrong : ChangeSpec := { name := "fnExactSquareDistance", fn := fun _ => fun
  | [d1, d2] => { results := [.lit (.bool false)], args := [d1, d2] }
  | _ => none }
def FnExactSquareDistanceWrongFalsely : Prop := fnExactSquareDistanceRow.holds Try.pinned (OpenSpec.ofChange fnExactSquareDistanceWrong)

/-- 'laws.FnExactTurnOf': WHATEVER THE INPUT: true; the input reads as it did. -/
def fnExactTurnOfSpec : ChangeSpec := { name := "fnExactTurnOf", fn := fun _ => fun
  | [d1, d2, d3] => { results := [.lit (.bool true)], args := [d1, d2, d3] }
  | _ => none }
def fnExactTurnOfRow : OpenClaim := { program := "ytnfkjjgkidlpiaa", sum := "4c1da9ff75223629bf38b20732c9ddaa047856d523f810cda5caab1d92c640f5", func := "loop.example/g00887/laws.FnExactTurnOf", spec := "fnExactTurnOf", apart := false }
def FnExactTurnOfSaid : Prop := fnExactTurnOfRow.holds Try.pinned (OpenSpec.ofChange fnExactTurnOfSpec)

/-- ITS FALSE NEIGHBOUR: 'it returns false'. Refute it at one input. -/
def fnExactTurnOfWrong : ChangeSpec := { name := "fnExactTurnOf", fn := fun _ => fun
  | [d1, d2, d3] => { results := [.lit (.bool false)], args := [d1, d2, d3] }
  | _ => none }
def FnExactTurnOfWrongFalsely : Prop := fnExactTurnOfRow.holds Try.pinned (OpenSpec.ofChange fnExactTurnOfWrong)

/-- 'laws.FnExactBeforeLine': WHATEVER THE INPUT: true; the input reads as it did. -/
def fnExactBeforeLineSpec : ChangeSpec := { name := "fnExactBeforeLine", fn := fun _ => fun
  | [d1, d2] => { results := [.lit (.bool true)], args := [d1, d2] }
  | _ => none }
def fnExactBeforeLineRow : OpenClaim := { program := "ytnfkjjgkidlpiaa", sum := "4c1da9ff75223629bf38b20732c9ddaa047856d523f810cda5caab1d92c640f5", func := "loop.example/g00887/laws.FnExactBeforeLine", spec := "fnExactBeforeLine", apart := false }
def FnExactBeforeLineSaid : Prop := fnExactBeforeLineRow.holds Try.pinned (OpenSpec.ofChange fnExactBeforeLineSpec)

/-- ITS FALSE NEIGHBOUR: 'it returns false'. Refute it at one input. -/
def fnExactBeforeLineWrong : ChangeSpec := { name := "fnExactBeforeLine", fn := fun _ => fun
  | [d1, d2] => { results := [.lit (.bool false)], args := [d1, d2] }
  | _ => none }
def FnExactBeforeLineWrongFalsely : Prop := fnExactBeforeLineRow.holds Try.pinned (OpenSpec.ofChange fnExactBeforeLineWrong)

/-- 'laws.FnExactSegmentsCross': WHATEVER THE INPUT: true; the input reads as it did. -/
def fnExactSegmentsCrossSpec : ChangeSpec := { name := "fnExactSegmentsCross", fn := fun _ => fun
  | [d1, d2] => { results := [.lit (.bool true)], args := [d1, d2] }
  | _ => none }
def fnExactSegmentsCrossRow : OpenClaim := { program := "ytnfkjjgkidlpiaa", sum := "4c1da9ff75223629bf38b20732c9ddaa047856d523f810cda5caab1d92c640f5", func := "loop.example/g00887/laws.FnExactSegmentsCross", spec := "fnExactSegmentsCross", apart := false }
def FnExactSegmentsCrossSaid : Prop := fnExactSegmentsCrossRow.holds Try.pinned (OpenSpec.ofChange fnExactSegmentsCrossSpec)

/-- ITS FALSE NEIGHBOUR: 'it returns false'. Refute it at one input. -/
def fnExactSegmentsCrossWrong : ChangeSpec := { name := "fnExactSegmentsCross", fn := fun _ => fun
  | [d1, d2] => { results := [.lit (.bool false)], args := [d1, d2] }
  | _ => none }
def FnExactSegmentsCrossWrongFalsely : Prop := fnExactSegmentsCrossRow.holds Try.pinned (OpenSpec.ofChange fnExactSegmentsCrossWrong)

/-- 'laws.FnExactSegmentsMeet': WHATEVER THE INPUT: true; the input reads as it did. -/
def fnExactSegmentsMeetSpec : ChangeSpec := { name := "fnExactSegmentsMeet", fn := fun _ => fun
  | [d1, d2] => { results := [.lit (.bool true)], args := [d1, d2] }
  | _ => none }
def fnExactSegmentsMeetRow : OpenClaim := { program := "ytnfkjjgkidlpiaa", sum := "4c1da9ff75223629bf38b20732c9ddaa047856d523f810cda5caab1d92c640f5", func := "loop.example/g00887/laws.FnExactSegmentsMeet", spec := "fnExactSegmentsMeet", apart := false }
def FnExactSegmentsMeetSaid : Prop := fnExactSegmentsMeetRow.holds Try.pinned (OpenSpec.ofChange fnExactSegmentsMeetSpec)

/-- ITS FALSE NEIGHBOUR: 'it returns false'. Refute it at one input. -/
def fnExactSegmentsMeetWrong : ChangeSpec := { name := "fnExactSegmentsMeet", fn := fun _ => fun
  | [d1, d2] => { results := [.lit (.bool false)], args := [d1, d2] }
  | _ => none }
def FnExactSegmentsMeetWrongFalsely : Prop := fnExactSegmentsMeetRow.holds Try.pinned (OpenSpec.ofChange fnExactSegmentsMeetWrong)

/-- 'laws.FnExactWayAcross': WHATEVER THE INPUT: true; the input reads as it did. -/
def fnExactWayAcrossSpec : ChangeSpec := { name := "fnExactWayAcross", fn := fun _ => fun
  | [d1, d2, d3] => { results := [.lit (.bool true)], args := [d1, d2, d3] }
  | _ => none }
def fnExactWayAcrossRow : OpenClaim := { program := "ytnfkjjgkidlpiaa", sum := "4c1da9ff75223629bf38b20732c9ddaa047856d523f810cda5caab1d92c640f5", func := "loop.example/g00887/laws.FnExactWayAcross", spec := "fnExactWayAcross", apart := false }
def FnExactWayAcrossSaid : Prop := fnExactWayAcrossRow.holds Try.pinned (OpenSpec.ofChange fnExactWayAcrossSpec)

/-- ITS FALSE NEIGHBOUR: 'it returns false'. Refute it at one input. -/
def fnExactWayAcrossWrong : ChangeSpec := { name := "fnExactWayAcross", fn := fun _ => fun
  | [d1, d2, d3] => { results := [.lit (.bool false)], args := [d1, d2, d3] }
  | _ => none }
def FnExactWayAcrossWrongFalsely : Prop := fnExactWayAcrossRow.holds Try.pinned (OpenSpec.ofChange fnExactWayAcrossWrong)

/-- 'laws.FnExactNearestPlace': WHATEVER THE INPUT: true; the input reads as it did. -/
def fnExactNearestPlaceSpec : ChangeSpec := { name := "fnExactNearestPlace", fn := fun _ => fun
  | [d1, d2] => { results := [.lit (.bool true)], args := [d1, d2] }
  | _ => none }
def fnExactNearestPlaceRow : OpenClaim := { program := "ytnfkjjgkidlpiaa", sum := "4c1da9ff75223629bf38b20732c9ddaa047856d523f810cda5caab1d92c640f5", func := "loop.example/g00887/laws.FnExactNearestPlace", spec := "fnExactNearestPlace", apart := false }
def FnExactNearestPlaceSaid : Prop := fnExactNearestPlaceRow.holds Try.pinned (OpenSpec.ofChange fnExactNearestPlaceSpec)

/-- ITS FALSE NEIGHBOUR: 'it returns false'. Refute it at one input. -/
def fnExactNearestPlaceWrong : ChangeSpec := { name := "fnExactNearestPlace", fn := fun _ => fun
  | [d1, d2] => { results := [.lit (.bool false)], args := [d1, d2] }
  | _ => none }
def FnExactNearestPlaceWrongFalsely : Prop := fnExactNearestPlaceRow.holds Try.pinned (OpenSpec.ofChange fnExactNearestPlaceWrong)

/- THE SECOND FORM. 'bulk': how many values and letters a reading holds, each counted each time it is reached (what is shared counts as often as it is met; a slice's spare places count too). A statement '..UptoSaid' is the law's where the arguments, and the package variables that the reading takes, are together of bulk at most 1048576: NARROWER than '..Said'. Prove '..Said' where nothing that the law and all that it calls make is longer than what came in: it says more and counts as full. Else prove '..UptoSaid'. A law counts once. -/
mutual
def uptoBulk {H : Type} : DataW H → Nat
  | .lit (.string bytes) => bytes.length + 1
  | .lit _ => 1
  | .nil => 1
  | .ptr d => uptoBulk d + 1
  | .slice elems spare => uptoBulkAll elems + uptoBulkAll spare + 1
  | .agg parts => uptoBulkAll parts + 1
  | .iface _ d => uptoBulk d + 1
  | .map entries => uptoBulkEntries entries + 1
  | .held _ => 1
def uptoBulkAll {H : Type} : List (DataW H) → Nat
  | [] => 0
  | d :: r => uptoBulk d + uptoBulkAll r
def uptoBulkEntries {H : Type} : List (Lit × DataW H) → Nat
  | [] => 0
  | x :: r => uptoBulkEntry x + uptoBulkEntries r
def uptoBulkEntry {H : Type} : Lit × DataW H → Nat
  | (.string bytes, d) => bytes.length + uptoBulk d + 1
  | (_, d) => uptoBulk d + 1
 end
def uptoSmall : (H : Type) → List (DataW H) → Bool := fun _ ds => decide (uptoBulkAll ds ≤ 1048576)
def OpenSpec.upto (s : _root_.Go.ChangeSpec) : _root_.Go.OpenSpec := { _root_.Go.OpenSpec.ofChange s with cond := some uptoSmall }

/-- 'laws.FnExactConstants', WHERE WHAT IT READS IS OF BULK AT MOST 1048576: true; the input reads as it did. -/
def fnExactConstantsUptoRow : OpenClaim := { program := "ytnfkjjgkidlpiaa", sum := "4c1da9ff75223629bf38b20732c9ddaa047856d523f810cda5caab1d92c640f5", func := "loop.example/g00887/laws.FnExactConstants", spec := "fnExactConstants", apart := false, narrowed := true }
def FnExactConstantsUptoSaid : Prop := fnExactConstantsUptoRow.holds Try.pinned (OpenSpec.upto fnExactConstantsSpec)

/-- 'laws.FnExactIsPoint', WHERE WHAT IT READS IS OF BULK AT MOST 1048576: true; the input reads as it did. -/
def fnExactIsPointUptoRow : OpenClaim := { program := "ytnfkjjgkidlpiaa", sum := "4c1da9ff75223629bf38b20732c9ddaa047856d523f810cda5caab1d92c640f5", func := "loop.example/g00887/laws.FnExactIsPoint", spec := "fnExactIsPoint", apart := false, narrowed := true }
def FnExactIsPointUptoSaid : Prop := fnExactIsPointUptoRow.holds Try.pinned (OpenSpec.upto fnExactIsPointSpec)

/-- 'laws.FnExactIsSegment', WHERE WHAT IT READS IS OF BULK AT MOST 1048576: true; the input reads as it did. -/
def fnExactIsSegmentUptoRow : OpenClaim := { program := "ytnfkjjgkidlpiaa", sum := "4c1da9ff75223629bf38b20732c9ddaa047856d523f810cda5caab1d92c640f5", func := "loop.example/g00887/laws.FnExactIsSegment", spec := "fnExactIsSegment", apart := false, narrowed := true }
def FnExactIsSegmentUptoSaid : Prop := fnExactIsSegmentUptoRow.holds Try.pinned (OpenSpec.upto fnExactIsSegmentSpec)

/-- 'laws.FnExactIsLine', WHERE WHAT IT READS IS OF BULK AT MOST 1048576: true; the input reads as it did. -/
def fnExactIsLineUptoRow : OpenClaim := { program := "ytnfkjjgkidlpiaa", sum := "4c1da9ff75223629bf38b20732c9ddaa047856d523f810cda5caab1d92c640f5", func := "loop.example/g00887/laws.FnExactIsLine", spec := "fnExactIsLine", apart := false, narrowed := true }
def FnExactIsLineUptoSaid : Prop := fnExactIsLineUptoRow.holds Try.pinned (OpenSpec.upto fnExactIsLineSpec)

/-- 'laws.FnExactFloorDiv', WHERE WHAT IT READS IS OF BULK AT MOST 1048576: true; the input reads as it did. -/
def fnExactFloorDivUptoRow : OpenClaim := { program := "ytnfkjjgkidlpiaa", sum := "4c1da9ff75223629bf38b20732c9ddaa047856d523f810cda5caab1d92c640f5", func := "loop.example/g00887/laws.FnExactFloorDiv", spec := "fnExactFloorDiv", apart := false, narrowed := true }
def FnExactFloorDivUptoSaid : Prop := fnExactFloorDivUptoRow.holds Try.pinned (OpenSpec.upto fnExactFloorDivSpec)

/-- 'laws.FnExactSquareDistance', WHERE WHAT IT READS IS OF BULK AT MOST 1048576: true; the input reads as it did. -/
def fnExactSquareDistanceUptoRow : OpenClaim := { program := "ytnfkjjgkidlpiaa", sum := "4c1da9ff75223629bf38b20732c9ddaa047856d523f810cda5caab1d92c640f5", func := "loop.example/g00887/laws.FnExactSquareDistance", spec := "fnExactSquareDistance", apart := false, narrowed := true }
def FnExactSquareDistanceUptoSaid : Prop := fnExactSquareDistanceUptoRow.holds Try.pinned (OpenSpec.upto fnExactSquareDistanceSpec)

/-- 'laws.FnExactTurnOf', WHERE WHAT IT READS IS OF BULK AT MOST 1048576: true; the input reads as it did. -/
def fnExactTurnOfUptoRow : OpenClaim := { program := "ytnfkjjgkidlpiaa", sum := "4c1da9ff75223629bf38b20732c9ddaa047856d523f810cda5caab1d92c640f5", func := "loop.example/g00887/laws.FnExactTurnOf", spec := "fnExactTurnOf", apart := false, narrowed := true }
def FnExactTurnOfUptoSaid : Prop := fnExactTurnOfUptoRow.holds Try.pinned (OpenSpec.upto fnExactTurnOfSpec)

/-- 'laws.FnExactBeforeLine', WHERE WHAT IT READS IS OF BULK AT MOST 1048576: true; the input reads as it did. -/
def fnExactBeforeLineUptoRow : OpenClaim := { program := "ytnfkjjgkidlpiaa", sum := "4c1da9ff75223629bf38b20732c9ddaa047856d523f810cda5caab1d92c640f5", func := "loop.example/g00887/laws.FnExactBeforeLine", spec := "fnExactBeforeLine", apart := false, narrowed := true }
def FnExactBeforeLineUptoSaid : Prop := fnExactBeforeLineUptoRow.holds Try.pinned (OpenSpec.upto fnExactBeforeLineSpec)

/-- 'laws.FnExactSegmentsCross', WHERE WHAT IT READS IS OF BULK AT MOST 1048576: true; the input reads as it did. -/
def fnExactSegmentsCrossUptoRow : OpenClaim := { program := "ytnfkjjgkidlpiaa", sum := "4c1da9ff75223629bf38b20732c9ddaa047856d523f810cda5caab1d92c640f5", func := "loop.example/g00887/laws.FnExactSegmentsCross", spec := "fnExactSegmentsCross", apart := false, narrowed := true }
def FnExactSegmentsCrossUptoSaid : Prop := fnExactSegmentsCrossUptoRow.holds Try.pinned (OpenSpec.upto fnExactSegmentsCrossSpec)

/-- 'laws.FnExactSegmentsMeet', WHERE WHAT IT READS IS OF BULK AT MOST 1048576: true; the input reads as it did. -/
def fnExactSegmentsMeetUptoRow : OpenClaim := { program := "ytnfkjjgkidlpiaa", sum := "4c1da9ff75223629bf38b20732c9ddaa047856d523f810cda5caab1d92c640f5", func := "loop.example/g00887/laws.FnExactSegmentsMeet", spec := "fnExactSegmentsMeet", apart := false, narrowed := true }
def FnExactSegmentsMeetUptoSaid : Prop := fnExactSegmentsMeetUptoRow.holds Try.pinned (OpenSpec.upto fnExactSegmentsMeetSpec)

/-- 'laws.FnExactWayAcross', WHERE WHAT IT READS IS OF BULK AT MOST 1048576: true; the input reads as it did. -/
def fnExactWayAcrossUptoRow : OpenClaim := { program := "ytnfkjjgkidlpiaa", sum := "4c1da9ff75223629bf38b20732c9ddaa047856d523f810cda5caab1d92c640f5", func := "loop.example/g00887/laws.FnExactWayAcross", spec := "fnExactWayAcross", apart := false, narrowed := true }
def FnExactWayAcrossUptoSaid : Prop := fnExactWayAcrossUptoRow.holds Try.pinned (OpenSpec.upto fnExactWayAcrossSpec)

/-- 'laws.FnExactNearestPlace', WHERE WHAT IT READS IS OF BULK AT MOST 1048576: true; the input reads as it did. -/
def fnExactNearestPlaceUptoRow : OpenClaim := { program := "ytnfkjjgkidlpiaa", sum := "4c1da9ff75223629bf38b20732c9ddaa047856d523f810cda5caab1d92c640f5", func := "loop.example/g00887/laws.FnExactNearestPlace", spec := "fnExactNearestPlace", apart := false, narrowed := true }
def FnExactNearestPlaceUptoSaid : Prop := fnExactNearestPlaceUptoRow.holds Try.pinned (OpenSpec.upto fnExactNearestPlaceSpec)

end Rows
end Go.Proofs.Ytnfkjjgkidlpiaa
