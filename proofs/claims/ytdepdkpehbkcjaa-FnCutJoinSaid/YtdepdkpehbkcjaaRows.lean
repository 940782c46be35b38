/-
  No cell of these rows narrows 'for every input' (looked for: loops, veiled, ifaces, maps, wideKeys, modest, calm, conditions, laid).
  DERIVED. THE GIVEN ROWS OF THIS SEAT. 10 by the template 'for every input the law returns true; each argument reads behind the call as it read before'; 0 by the template 'total and deterministic' (their statements: YtdepdkpehbkcjaaTotals.lean).
  GIVEN WITH THE SEED: the statements are not yours to turn. If you find one false, say at which input.
  Laid BY PROGRAM, IN A SANDBOX (cutbox-rows.mjs): the forced cells as the released guide's own fill.sh prints them over the translation d0db0efff2cbc00b… (all of the seat's roots in one cut). By AI agents, Wed Nov 11 2026. No macro, syntax, notation, axiom, sorry.
-/
import Derived.Test.YtdepdkpehbkcjaaChecked
import GoSem.Claim
import GoSem.ClaimJoined
import GoSem.ClaimMapViews
import Derived.JoinedTies
import Derived.KernelRfl
namespace Go.Proofs.Ytdepdkpehbkcjaa
/- THE CELL 'sum', in the pinned program and in every row, IS THE sha256 OF THE DUMP (.gsa) THAT YtdepdkpehbkcjaaProg.lean LOADS. Nothing in Lean hashes anything: it is a label: what it is worth is what the hold of that sum in a sandbox is worth. -/
noncomputable def Try.pinned : Pinned := { name := "ytdepdkpehbkcjaa", sum := "d0db0efff2cbc00b21bef60e802caa352fb01c774f1056dbe5c37e9ecd29eadc", checked := Try.checked }
namespace Rows
def none {H : Type} : Left H := { results := [], args := [] }

/-- 'laws.FnSpeed': WHATEVER THE INPUT: true; the input reads as it did. -/
def fnSpeedSpec : ChangeSpec := { name := "fnSpeed", fn := fun _ => fun
  | [d] => { results := [.lit (.bool true)], args := [d] }
  | _ => none }
def fnSpeedRow : OpenClaim := { program := "ytdepdkpehbkcjaa", sum := "d0db0efff2cbc00b21bef60e802caa352fb01c774f1056dbe5c37e9ecd29eadc", func := "loop.example/g00887/laws.FnSpeed", spec := "fnSpeed", inPlace := ["math.sqrt"], apart := false }
def FnSpeedSaid : Prop := fnSpeedRow.holds Try.pinned (OpenSpec.ofChange fnSpeedSpec)

/-- ITS FALSE NEIGHBOUR: 'it returns false'. Refute it at one input. -/
def fnSpeedWrong : ChangeSpec := { name := "fnSpeed", fn := fun _ => fun
  | [d] => { results := [.lit (.bool false)], args := [d] }
  | _ => none }
def FnSpeedWrongFalsely : Prop := fnSpeedRow.holds Try.pinned (OpenSpec.ofChange fnSpeedWrong)

/-- 'laws.FnCutJoin': WHATEVER THE INPUT: true; the input reads as it did. -/
def fnCutJoinSpec : ChangeSpec := { name := "fnCutJoin", fn := fun _ => fun
  | [d] => { results := [.lit (.bool true)], args := [d] }
  | _ => none }
def fnCutJoinRow : OpenClaim := { program := "ytdepdkpehbkcjaa", sum := "d0db0efff2cbc00b21bef60e802caa352fb01c774f1056dbe5c37e9ecd29eadc", func := "loop.example/g00887/laws.FnCutJoin", spec := "fnCutJoin", apart := false }
def FnCutJoinSaid : Prop := fnCutJoinRow.holds Try.pinned (OpenSpec.ofChange fnCutJoinSpec)

/-- ITS FALSE NEIGHBOUR: 'it returns false'. Refute it at one input. -/
def fnCutJoinWrong : ChangeSpec := { name := "fnCutJoin", fn := fun _ => fun
  | [d] => { results := [.lit (.bool false)], args := [d] }
  | _ => none }
def FnCutJoinWrongFalsely : Prop := fnCutJoinRow.holds Try.pinned (OpenSpec.ofChange fnCutJoinWrong)

/-- 'laws.FnExactCompareCrossings': WHATEVER THE INPUT: true; the input reads as it did. -/
def fnExactCompareCrossingsSpec : ChangeSpec := { name := "fnExactCompareCrossings", fn := fun _ => fun
  | [d1, d2, d3, d4] => { results := [.lit (.bool true)], args := [d1, d2, d3, d4] }
  | _ => none }
def fnExactCompareCrossingsRow : OpenClaim := { program := "ytdepdkpehbkcjaa", sum := "d0db0efff2cbc00b21bef60e802caa352fb01c774f1056dbe5c37e9ecd29eadc", func := "loop.example/g00887/laws.FnExactCompareCrossings", spec := "fnExactCompareCrossings", named := ["math/bits.divideError", "math/bits.overflowError"], apart := false }
def FnExactCompareCrossingsSaid : Prop := fnExactCompareCrossingsRow.holds Try.pinned (OpenSpec.ofChange fnExactCompareCrossingsSpec)

/-- ITS FALSE NEIGHBOUR: 'it returns false'. Refute it at one input. -/
def fnExactCompareCrossingsWrong : ChangeSpec := { name := "fnExactCompareCrossings", fn := fun _ => fun
  | [d1, d2, d3, d4] => { results := [.lit (.bool false)], args := [d1, d2, d3, d4] }
  | _ => none }
def FnExactCompareCrossingsWrongFalsely : Prop := fnExactCompareCrossingsRow.holds Try.pinned (OpenSpec.ofChange fnExactCompareCrossingsWrong)

/-- 'laws.FnExactCountCrossings': WHATEVER THE INPUT: true; the input reads as it did. -/
def fnExactCountCrossingsSpec : ChangeSpec := { name := "fnExactCountCrossings", fn := fun _ => fun
  | [d1, d2] => { results := [.lit (.bool true)], args := [d1, d2] }
  | _ => none }
def fnExactCountCrossingsRow : OpenClaim := { program := "ytdepdkpehbkcjaa", sum := "d0db0efff2cbc00b21bef60e802caa352fb01c774f1056dbe5c37e9ecd29eadc", func := "loop.example/g00887/laws.FnExactCountCrossings", spec := "fnExactCountCrossings", named := ["math/bits.divideError", "math/bits.overflowError"], apart := false }
def FnExactCountCrossingsSaid : Prop := fnExactCountCrossingsRow.holds Try.pinned (OpenSpec.ofChange fnExactCountCrossingsSpec)

/-- ITS FALSE NEIGHBOUR: 'it returns false'. Refute it at one input. -/
def fnExactCountCrossingsWrong : ChangeSpec := { name := "fnExactCountCrossings", fn := fun _ => fun
  | [d1, d2] => { results := [.lit (.bool false)], args := [d1, d2] }
  | _ => none }
def FnExactCountCrossingsWrongFalsely : Prop := fnExactCountCrossingsRow.holds Try.pinned (OpenSpec.ofChange fnExactCountCrossingsWrong)

/-- 'laws.FnExactCrossingPoint': WHATEVER THE INPUT: true; the input reads as it did. -/
def fnExactCrossingPointSpec : ChangeSpec := { name := "fnExactCrossingPoint", fn := fun _ => fun
  | [d1, d2, d3] => { results := [.lit (.bool true)], args := [d1, d2, d3] }
  | _ => none }
def fnExactCrossingPointRow : OpenClaim := { program := "ytdepdkpehbkcjaa", sum := "d0db0efff2cbc00b21bef60e802caa352fb01c774f1056dbe5c37e9ecd29eadc", func := "loop.example/g00887/laws.FnExactCrossingPoint", spec := "fnExactCrossingPoint", named := ["math/bits.divideError", "math/bits.overflowError"], apart := false }
def FnExactCrossingPointSaid : Prop := fnExactCrossingPointRow.holds Try.pinned (OpenSpec.ofChange fnExactCrossingPointSpec)

/-- ITS FALSE NEIGHBOUR: 'it returns false'. Refute it at one input. -/
def fnExactCrossingPointWrong : ChangeSpec := { name := "fnExactCrossingPoint", fn := fun _ => fun
  | [d1, d2, d3] => { results := [.lit (.bool false)], args := [d1, d2, d3] }
  | _ => none }
def FnExactCrossingPointWrongFalsely : Prop := fnExactCrossingPointRow.holds Try.pinned (OpenSpec.ofChange fnExactCrossingPointWrong)

/-- 'laws.FnExactFirstCrossing': WHATEVER THE INPUT: true; the input reads as it did. -/
def fnExactFirstCrossingSpec : ChangeSpec := { name := "fnExactFirstCrossing", fn := fun _ => fun
  | [d1, d2, d3, d4] => { results := [.lit (.bool true)], args := [d1, d2, d3, d4] }
  | _ => none }
def fnExactFirstCrossingRow : OpenClaim := { program := "ytdepdkpehbkcjaa", sum := "d0db0efff2cbc00b21bef60e802caa352fb01c774f1056dbe5c37e9ecd29eadc", func := "loop.example/g00887/laws.FnExactFirstCrossing", spec := "fnExactFirstCrossing", named := ["math/bits.divideError", "math/bits.overflowError"], apart := false }
def FnExactFirstCrossingSaid : Prop := fnExactFirstCrossingRow.holds Try.pinned (OpenSpec.ofChange fnExactFirstCrossingSpec)

/-- ITS FALSE NEIGHBOUR: 'it returns false'. Refute it at one input. -/
def fnExactFirstCrossingWrong : ChangeSpec := { name := "fnExactFirstCrossing", fn := fun _ => fun
  | [d1, d2, d3, d4] => { results := [.lit (.bool false)], args := [d1, d2, d3, d4] }
  | _ => none }
def FnExactFirstCrossingWrongFalsely : Prop := fnExactFirstCrossingRow.holds Try.pinned (OpenSpec.ofChange fnExactFirstCrossingWrong)

/-- 'laws.FnCompareCrossings': WHATEVER THE INPUT: true; the input reads as it did. -/
def fnCompareCrossingsSpec : ChangeSpec := { name := "fnCompareCrossings", fn := fun _ => fun
  | [d] => { results := [.lit (.bool true)], args := [d] }
  | _ => none }
def fnCompareCrossingsRow : OpenClaim := { program := "ytdepdkpehbkcjaa", sum := "d0db0efff2cbc00b21bef60e802caa352fb01c774f1056dbe5c37e9ecd29eadc", func := "loop.example/g00887/laws.FnCompareCrossings", spec := "fnCompareCrossings", named := ["math/bits.divideError", "math/bits.overflowError"], apart := false }
def FnCompareCrossingsSaid : Prop := fnCompareCrossingsRow.holds Try.pinned (OpenSpec.ofChange fnCompareCrossingsSpec)

/-- ITS FALSE NEIGHBOUR: 'it returns false'. Refute it at one input. -/
def fnCompareCrossingsWrong : ChangeSpec := { name := "fnCompareCrossings", fn := fun _ => fun
  | [d] => { results := [.lit (.bool false)], args := [d] }
  | _ => none }
def FnCompareCrossingsWrongFalsely : Prop := fnCompareCrossingsRow.holds Try.pinned (OpenSpec.ofChange fnCompareCrossingsWrong)

/-- 'laws.FnFirstCrossing': WHATEVER THE INPUT: true; the input reads as it did. -/
def fnFirstCrossingSpec : ChangeSpec := { name := "fnFirstCrossing", fn := fun _ => fun
  | [d] => { results := [.lit (.bool true)], args := [d] }
  | _ => none }
def fnFirstCrossingRow : OpenClaim := { program := "ytdepdkpehbkcjaa", sum := "d0db0efff2cbc00b21bef60e802caa352fb01c774f1056dbe5c37e9ecd29eadc", func := "loop.example/g00887/laws.FnFirstCrossing", spec := "fnFirstCrossing", named := ["math/bits.divideError", "math/bits.overflowError"], apart := false }
def FnFirstCrossingSaid : Prop := fnFirstCrossingRow.holds Try.pinned (OpenSpec.ofChange fnFirstCrossingSpec)

/-- ITS FALSE NEIGHBOUR: 'it returns false'. Refute it at one input. -/
def fnFirstCrossingWrong : ChangeSpec := { name := "fnFirstCrossing", fn := fun _ => fun
  | [d] => { results := [.lit (.bool false)], args := [d] }
  | _ => none }
def FnFirstCrossingWrongFalsely : Prop := fnFirstCrossingRow.holds Try.pinned (OpenSpec.ofChange fnFirstCrossingWrong)

/-- 'laws.FnExactCrossingsOf': WHATEVER THE INPUT: true; the input reads as it did. -/
def fnExactCrossingsOfSpec : ChangeSpec := { name := "fnExactCrossingsOf", fn := fun _ => fun
  | [d1, d2] => { results := [.lit (.bool true)], args := [d1, d2] }
  | _ => none }
def fnExactCrossingsOfRow : OpenClaim := { program := "ytdepdkpehbkcjaa", sum := "d0db0efff2cbc00b21bef60e802caa352fb01c774f1056dbe5c37e9ecd29eadc", func := "loop.example/g00887/laws.FnExactCrossingsOf", spec := "fnExactCrossingsOf", named := ["math/bits.divideError", "math/bits.overflowError"], apart := false }
def FnExactCrossingsOfSaid : Prop := fnExactCrossingsOfRow.holds Try.pinned (OpenSpec.ofChange fnExactCrossingsOfSpec)

/-- ITS FALSE NEIGHBOUR: 'it returns false'. Refute it at one input. -/
def fnExactCrossingsOfWrong : ChangeSpec := { name := "fnExactCrossingsOf", fn := fun _ => fun
  | [d1, d2] => { results := [.lit (.bool false)], args := [d1, d2] }
  | _ => none }
def FnExactCrossingsOfWrongFalsely : Prop := fnExactCrossingsOfRow.holds Try.pinned (OpenSpec.ofChange fnExactCrossingsOfWrong)

/-- 'laws.FnCrossings': WHATEVER THE INPUT: true; the input reads as it did. -/
def fnCrossingsSpec : ChangeSpec := { name := "fnCrossings", fn := fun _ => fun
  | [d] => { results := [.lit (.bool true)], args := [d] }
  | _ => none }
def fnCrossingsRow : OpenClaim := { program := "ytdepdkpehbkcjaa", sum := "d0db0efff2cbc00b21bef60e802caa352fb01c774f1056dbe5c37e9ecd29eadc", func := "loop.example/g00887/laws.FnCrossings", spec := "fnCrossings", named := ["math/bits.divideError", "math/bits.overflowError"], apart := false }
def FnCrossingsSaid : Prop := fnCrossingsRow.holds Try.pinned (OpenSpec.ofChange fnCrossingsSpec)

/-- ITS FALSE NEIGHBOUR: 'it returns false'. Refute it at one input. -/
def fnCrossingsWrong : ChangeSpec := { name := "fnCrossings", fn := fun _ => fun
  | [d] => { results := [.lit (.bool false)], args := [d] }
  | _ => none }
def FnCrossingsWrongFalsely : Prop := fnCrossingsRow.holds Try.pinned (OpenSpec.ofChange fnCrossingsWrong)

/- THE SECOND FORM. 'bulk': how many values and letters a reading holds, each counted each time it is reached (what is shared counts as often as it is met; a slice's spare places count too). A statement '..UptoSaid' is the law's where the arguments, and the package variables that the reading takes, are together of bulk at most 1048576: NARROWER than '..Said'. Prove '..Said' where nothing that the law and all that it calls make is longer than what came in: it says more and counts as full. Else prove '..UptoSaid'. A law counts once. -/
mutual
def uptoBulk {H : Type} : DataW H → Nat
  | .lit (.string bytes) => bytes.length + 1
  | .lit _ => 1
  | .nil => 1
  | .ptr d => uptoBulk d + 1
  | .slice elems spare => uptoBulkAll elems + uptoBulkAll spare + 1
  | .agg parts => uptoBulkAll parts + 1
  | .iface _ d => uptoBulk d + 1
  | .map entries => uptoBulkEntries entries + 1
  | .held _ => 1
def uptoBulkAll {H : Type} : List (DataW H) → Nat
  | [] => 0
  | d :: r => uptoBulk d + uptoBulkAll r
def uptoBulkEntries {H : Type} : List (Lit × DataW H) → Nat
  | [] => 0
  | x :: r => uptoBulkEntry x + uptoBulkEntries r
def uptoBulkEntry {H : Type} : Lit × DataW H → Nat
  | (.string bytes, d) => bytes.length + uptoBulk d + 1
  | (_, d) => uptoBulk d + 1
 end
def uptoSmall : (H : Type) → List (DataW H) → Bool := fun _ ds => decide (uptoBulkAll ds ≤ 1048576)
def OpenSpec.upto (s : _root_.Go.ChangeSpec) : _root_.Go.OpenSpec := { _root_.Go.OpenSpec.ofChange s with cond := some uptoSmall }

/-- 'laws.FnSpeed', WHERE WHAT IT READS IS OF BULK AT MOST 1048576: true; the input reads as it did. -/
def fnSpeedUptoRow : OpenClaim := { program := "ytdepdkpehbkcjaa", sum := "d0db0efff2cbc00b21bef60e802caa352fb01c774f1056dbe5c37e9ecd29eadc", func := "loop.example/g00887/laws.FnSpeed", spec := "fnSpeed", inPlace := ["math.sqrt"], apart := false, narrowed := true }
def FnSpeedUptoSaid : Prop := fnSpeedUptoRow.holds Try.pinned (OpenSpec.upto fnSpeedSpec)

/-- 'laws.FnCutJoin', WHERE WHAT IT READS IS OF BULK AT MOST 1048576: true; the input reads as it did. -/
def fnCutJoinUptoRow : OpenClaim := { program := "ytdepdkpehbkcjaa", sum := "d0db0efff2cbc00b21bef60e802caa352fb01c774f1056dbe5c37e9ecd29eadc", func := "loop.example/g00887/laws.FnCutJoin", spec := "fnCutJoin", apart := false, narrowed := true }
def FnCutJoinUptoSaid : Prop := fnCutJoinUptoRow.holds Try.pinned (OpenSpec.upto fnCutJoinSpec)

/-- 'laws.FnExactCompareCrossings', WHERE WHAT IT READS IS OF BULK AT MOST 1048576: true; the input reads as it did. -/
def fnExactCompareCrossingsUptoRow : OpenClaim := { program := "ytdepdkpehbkcjaa", sum := "d0db0efff2cbc00b21bef60e802caa352fb01c774f1056dbe5c37e9ecd29eadc", func := "loop.example/g00887/laws.FnExactCompareCrossings", spec := "fnExactCompareCrossings", named := ["math/bits.divideError", "math/bits.overflowError"], apart := false, narrowed := true }
def FnExactCompareCrossingsUptoSaid : Prop := fnExactCompareCrossingsUptoRow.holds Try.pinned (OpenSpec.upto fnExactCompareCrossingsSpec)

/-- 'laws.FnExactCountCrossings', WHERE WHAT IT READS IS OF BULK AT MOST 1048576: true; the input reads as it did. -/
def fnExactCountCrossingsUptoRow : OpenClaim := { program := "ytdepdkpehbkcjaa", sum := "d0db0efff2cbc00b21bef60e802caa352fb01c774f1056dbe5c37e9ecd29eadc", func := "loop.example/g00887/laws.FnExactCountCrossings", spec := "fnExactCountCrossings", named := ["math/bits.divideError", "math/bits.overflowError"], apart := false, narrowed := true }
def FnExactCountCrossingsUptoSaid : Prop := fnExactCountCrossingsUptoRow.holds Try.pinned (OpenSpec.upto fnExactCountCrossingsSpec)

/-- 'laws.FnExactCrossingPoint', WHERE WHAT IT READS IS OF BULK AT MOST 1048576: true; the input reads as it did. -/
def fnExactCrossingPointUptoRow : OpenClaim := { program := "ytdepdkpehbkcjaa", sum := "d0db0efff2cbc00b21bef60e802caa352fb01c774f1056dbe5c37e9ecd29eadc", func := "loop.example/g00887/laws.FnExactCrossingPoint", spec := "fnExactCrossingPoint", named := ["math/bits.divideError", "math/bits.overflowError"], apart := false, narrowed := true }
def FnExactCrossingPointUptoSaid : Prop := fnExactCrossingPointUptoRow.holds Try.pinned (OpenSpec.upto fnExactCrossingPointSpec)

/-- 'laws.FnExactFirstCrossing', WHERE WHAT IT READS IS OF BULK AT MOST 1048576: true; the input reads as it did. -/
def fnExactFirstCrossingUptoRow : OpenClaim := { program := "ytdepdkpehbkcjaa", sum := "d0db0efff2cbc00b21bef60e802caa352fb01c774f1056dbe5c37e9ecd29eadc", func := "loop.example/g00887/laws.FnExactFirstCrossing", spec := "fnExactFirstCrossing", named := ["math/bits.divideError", "math/bits.overflowError"], apart := false, narrowed := true }
def FnExactFirstCrossingUptoSaid : Prop := fnExactFirstCrossingUptoRow.holds Try.pinned (OpenSpec.upto fnExactFirstCrossingSpec)

/-- 'laws.FnCompareCrossings', WHERE WHAT IT READS IS OF BULK AT MOST 1048576: true; the input reads as it did. -/
def fnCompareCrossingsUptoRow : OpenClaim := { program := "ytdepdkpehbkcjaa", sum := "d0db0efff2cbc00b21bef60e802caa352fb01c774f1056dbe5c37e9ecd29eadc", func := "loop.example/g00887/laws.FnCompareCrossings", spec := "fnCompareCrossings", named := ["math/bits.divideError", "math/bits.overflowError"], apart := false, narrowed := true }
def FnCompareCrossingsUptoSaid : Prop := fnCompareCrossingsUptoRow.holds Try.pinned (OpenSpec.upto fnCompareCrossingsSpec)

/-- 'laws.FnFirstCrossing', WHERE WHAT IT READS IS OF BULK AT MOST 1048576: true; the input reads as it did. -/
def fnFirstCrossingUptoRow : OpenClaim := { program := "ytdepdkpehbkcjaa", sum := "d0db0efff2cbc00b21bef60e802caa352fb01c774f1056dbe5c37e9ecd29eadc", func := "loop.example/g00887/laws.FnFirstCrossing", spec := "fnFirstCrossing", named := ["math/bits.divideError", "math/bits.overflowError"], apart := false, narrowed := true }
def FnFirstCrossingUptoSaid : Prop := fnFirstCrossingUptoRow.holds Try.pinned (OpenSpec.upto fnFirstCrossingSpec)

/-- 'laws.FnExactCrossingsOf', WHERE WHAT IT READS IS OF BULK AT MOST 1048576: true; the input reads as it did. -/
def fnExactCrossingsOfUptoRow : OpenClaim := { program := "ytdepdkpehbkcjaa", sum := "d0db0efff2cbc00b21bef60e802caa352fb01c774f1056dbe5c37e9ecd29eadc", func := "loop.example/g00887/laws.FnExactCrossingsOf", spec := "fnExactCrossingsOf", named := ["math/bits.divideError", "math/bits.overflowError"], apart := false, narrowed := true }
def FnExactCrossingsOfUptoSaid : Prop := fnExactCrossingsOfUptoRow.holds Try.pinned (OpenSpec.upto fnExactCrossingsOfSpec)

/-- 'laws.FnCrossings', WHERE WHAT IT READS IS OF BULK AT MOST 1048576: true; the input reads as it did. -/
def fnCrossingsUptoRow : OpenClaim := { program := "ytdepdkpehbkcjaa", sum := "d0db0efff2cbc00b21bef60e802caa352fb01c774f1056dbe5c37e9ecd29eadc", func := "loop.example/g00887/laws.FnCrossings", spec := "fnCrossings", named := ["math/bits.divideError", "math/bits.overflowError"], apart := false, narrowed := true }
def FnCrossingsUptoSaid : Prop := fnCrossingsUptoRow.holds Try.pinned (OpenSpec.upto fnCrossingsSpec)

end Rows
end Go.Proofs.Ytdepdkpehbkcjaa
