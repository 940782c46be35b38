/-
  No cell of these rows narrows 'for every input' (looked for: loops, veiled, ifaces, maps, wideKeys, modest, calm, conditions, laid).
  DERIVED. THE GIVEN ROWS OF THIS SEAT. 12 by the template 'for every input the law returns true; each argument reads behind the call as it read before'; 0 by the template 'total and deterministic' (their statements: YtdgmadpkhdfapaaTotals.lean).
  GIVEN WITH THE SEED: the statements are not yours to turn. If you find one false, say at which input.
  Laid BY PROGRAM, IN A SANDBOX (cutbox-rows.mjs): the forced cells as the released guide's own fill.sh prints them over the translation b456cdebb11658a3… (all of the seat's roots in one cut). By AI agents, Wed Nov 11 2026. No macro, syntax, notation, axiom, sorry.
-/
import Derived.Test.YtdgmadpkhdfapaaChecked
import GoSem.Claim
import GoSem.ClaimJoined
import GoSem.ClaimMapViews
import Derived.JoinedTies
import Derived.KernelRfl
namespace Go.Proofs.Ytdgmadpkhdfapaa
/- THE CELL 'sum', in the pinned program and in every row, IS THE sha256 OF THE DUMP (.gsa) THAT YtdgmadpkhdfapaaProg.lean LOADS. Nothing in Lean hashes anything: it is a label: what it is worth is what the hold of that sum in a sandbox is worth. -/
noncomputable def Try.pinned : Pinned := { name := "ytdgmadpkhdfapaa", sum := "b456cdebb11658a3880971abbe7cdee05bcaa85cd529ece4ba9937ef1dd68e38", checked := Try.checked }
namespace Rows
def none {H : Type} : Left H := { results := [], args := [] }

/-- 'laws.FnExactIsTrack': WHATEVER THE INPUT: true; the input reads as it did. -/
def fnExactIsTrackSpec : ChangeSpec := { name := "fnExactIsTrack", fn := fun _ => fun
  | [d] => { results := [.lit (.bool true)], args := [d] }
  | _ => none }
def fnExactIsTrackRow : OpenClaim := { program := "ytdgmadpkhdfapaa", sum := "b456cdebb11658a3880971abbe7cdee05bcaa85cd529ece4ba9937ef1dd68e38", func := "loop.example/g00887/laws.FnExactIsTrack", spec := "fnExactIsTrack", apart := false }
def FnExactIsTrackSaid : Prop := fnExactIsTrackRow.holds Try.pinned (OpenSpec.ofChange fnExactIsTrackSpec)

/-- ITS FALSE NEIGHBOUR: 'it returns false'. Refute it at one input. -/
def fnExactIsTrackWrong : ChangeSpec := { name := "fnExactIsTrack", fn := fun _ => fun
  | [d] => { results := [.lit (.bool false)], args := [d] }
  | _ => none }
def FnExactIsTrackWrongFalsely : Prop := fnExactIsTrackRow.holds Try.pinned (OpenSpec.ofChange fnExactIsTrackWrong)

/-- 'laws.FnExactClosestFix': WHATEVER THE INPUT: true; the input reads as it did. -/
def fnExactClosestFixSpec : ChangeSpec := { name := "fnExactClosestFix", fn := fun _ => fun
  | [d1, d2] => { results := [.lit (.bool true)], args := [d1, d2] }
  | _ => none }
def fnExactClosestFixRow : OpenClaim := { program := "ytdgmadpkhdfapaa", sum := "b456cdebb11658a3880971abbe7cdee05bcaa85cd529ece4ba9937ef1dd68e38", func := "loop.example/g00887/laws.FnExactClosestFix", spec := "fnExactClosestFix", apart := false }
def FnExactClosestFixSaid : Prop := fnExactClosestFixRow.holds Try.pinned (OpenSpec.ofChange fnExactClosestFixSpec)

/-- ITS FALSE NEIGHBOUR: 'it returns false'. Refute it at one input. -/
def fnExactClosestFixWrong : ChangeSpec := { name := "fnExactClosestFix", fn := fun _ => fun
  | [d1, d2] => { results := [.lit (.bool false)], args := [d1, d2] }
  | _ => none }
def FnExactClosestFixWrongFalsely : Prop := fnExactClosestFixRow.holds Try.pinned (OpenSpec.ofChange fnExactClosestFixWrong)

/-- 'laws.FnExactLegAt': WHATEVER THE INPUT: true; the input reads as it did. -/
def fnExactLegAtSpec : ChangeSpec := { name := "fnExactLegAt", fn := fun _ => fun
  | [d1, d2] => { results := [.lit (.bool true)], args := [d1, d2] }
  | _ => none }
def fnExactLegAtRow : OpenClaim := { program := "ytdgmadpkhdfapaa", sum := "b456cdebb11658a3880971abbe7cdee05bcaa85cd529ece4ba9937ef1dd68e38", func := "loop.example/g00887/laws.FnExactLegAt", spec := "fnExactLegAt", apart := false }
def FnExactLegAtSaid : Prop := fnExactLegAtRow.holds Try.pinned (OpenSpec.ofChange fnExactLegAtSpec)

/-- ITS FALSE NEIGHBOUR: 'it returns false'. Refute it at one input. -/
def fnExactLegAtWrong : ChangeSpec := { name := "fnExactLegAt", fn := fun _ => fun
  | [d1, d2] => { results := [.lit (.bool false)], args := [d1, d2] }
  | _ => none }
def FnExactLegAtWrongFalsely : Prop := fnExactLegAtRow.holds Try.pinned (OpenSpec.ofChange fnExactLegAtWrong)

/-- 'laws.FnExactPointAt': WHATEVER THE INPUT: true; the input reads as it did. -/
def fnExactPointAtSpec : ChangeSpec := { name := "fnExactPointAt", fn := fun _ => fun
  | [d1, d2] => { results := [.lit (.bool true)], args := [d1, d2] }
  | _ => none }
def fnExactPointAtRow : OpenClaim := { program := "ytdgmadpkhdfapaa", sum := "b456cdebb11658a3880971abbe7cdee05bcaa85cd529ece4ba9937ef1dd68e38", func := "loop.example/g00887/laws.FnExactPointAt", spec := "fnExactPointAt", named := ["math/bits.divideError", "math/bits.overflowError"], apart := false }
def FnExactPointAtSaid : Prop := fnExactPointAtRow.holds Try.pinned (OpenSpec.ofChange fnExactPointAtSpec)

/-- ITS FALSE NEIGHBOUR: 'it returns false'. Refute it at one input. -/
def fnExactPointAtWrong : ChangeSpec := { name := "fnExactPointAt", fn := fun _ => fun
  | [d1, d2] => { results := [.lit (.bool false)], args := [d1, d2] }
  | _ => none }
def FnExactPointAtWrongFalsely : Prop := fnExactPointAtRow.holds Try.pinned (OpenSpec.ofChange fnExactPointAtWrong)

/-- 'laws.FnExactHeadingAt': WHATEVER THE INPUT: true; the input reads as it did. -/
def fnExactHeadingAtSpec : ChangeSpec := { name := "fnExactHeadingAt", fn := fun _ => fun
  | [d1, d2] => { results := [.lit (.bool true)], args := [d1, d2] }
  | _ => none }
def fnExactHeadingAtRow : OpenClaim := { program := "ytdgmadpkhdfapaa", sum := "b456cdebb11658a3880971abbe7cdee05bcaa85cd529ece4ba9937ef1dd68e38", func := "loop.example/g00887/laws.FnExactHeadingAt", spec := "fnExactHeadingAt", apart := false }
def FnExactHeadingAtSaid : Prop := fnExactHeadingAtRow.holds Try.pinned (OpenSpec.ofChange fnExactHeadingAtSpec)

/-- ITS FALSE NEIGHBOUR: 'it returns false'. Refute it at one input. -/
def fnExactHeadingAtWrong : ChangeSpec := { name := "fnExactHeadingAt", fn := fun _ => fun
  | [d1, d2] => { results := [.lit (.bool false)], args := [d1, d2] }
  | _ => none }
def FnExactHeadingAtWrongFalsely : Prop := fnExactHeadingAtRow.holds Try.pinned (OpenSpec.ofChange fnExactHeadingAtWrong)

/-- 'laws.FnExactPositionAt': WHATEVER THE INPUT: true; the input reads as it did. -/
def fnExactPositionAtSpec : ChangeSpec := { name := "fnExactPositionAt", fn := fun _ => fun
  | [d1, d2] => { results := [.lit (.bool true)], args := [d1, d2] }
  | _ => none }
def fnExactPositionAtRow : OpenClaim := { program := "ytdgmadpkhdfapaa", sum := "b456cdebb11658a3880971abbe7cdee05bcaa85cd529ece4ba9937ef1dd68e38", func := "loop.example/g00887/laws.FnExactPositionAt", spec := "fnExactPositionAt", apart := false }
def FnExactPositionAtSaid : Prop := fnExactPositionAtRow.holds Try.pinned (OpenSpec.ofChange fnExactPositionAtSpec)

/-- ITS FALSE NEIGHBOUR: 'it returns false'. Refute it at one input. -/
def fnExactPositionAtWrong : ChangeSpec := { name := "fnExactPositionAt", fn := fun _ => fun
  | [d1, d2] => { results := [.lit (.bool false)], args := [d1, d2] }
  | _ => none }
def FnExactPositionAtWrongFalsely : Prop := fnExactPositionAtRow.holds Try.pinned (OpenSpec.ofChange fnExactPositionAtWrong)

/-- 'laws.FnExactJoinTracks': WHATEVER THE INPUT: true; the input reads as it did. -/
def fnExactJoinTracksSpec : ChangeSpec := { name := "fnExactJoinTracks", fn := fun _ => fun
  | [d1, d2] => { results := [.lit (.bool true)], args := [d1, d2] }
  | _ => none }
def fnExactJoinTracksRow : OpenClaim := { program := "ytdgmadpkhdfapaa", sum := "b456cdebb11658a3880971abbe7cdee05bcaa85cd529ece4ba9937ef1dd68e38", func := "loop.example/g00887/laws.FnExactJoinTracks", spec := "fnExactJoinTracks", apart := false }
def FnExactJoinTracksSaid : Prop := fnExactJoinTracksRow.holds Try.pinned (OpenSpec.ofChange fnExactJoinTracksSpec)

/-- ITS FALSE NEIGHBOUR: 'it returns false'. Refute it at one input. -/
def fnExactJoinTracksWrong : ChangeSpec := { name := "fnExactJoinTracks", fn := fun _ => fun
  | [d1, d2] => { results := [.lit (.bool false)], args := [d1, d2] }
  | _ => none }
def FnExactJoinTracksWrongFalsely : Prop := fnExactJoinTracksRow.holds Try.pinned (OpenSpec.ofChange fnExactJoinTracksWrong)

/-- 'laws.FnExactSideAt': WHATEVER THE INPUT: true; the input reads as it did. -/
def fnExactSideAtSpec : ChangeSpec := { name := "fnExactSideAt", fn := fun _ => fun
  | [d1, d2, d3] => { results := [.lit (.bool true)], args := [d1, d2, d3] }
  | _ => none }
def fnExactSideAtRow : OpenClaim := { program := "ytdgmadpkhdfapaa", sum := "b456cdebb11658a3880971abbe7cdee05bcaa85cd529ece4ba9937ef1dd68e38", func := "loop.example/g00887/laws.FnExactSideAt", spec := "fnExactSideAt", apart := false }
def FnExactSideAtSaid : Prop := fnExactSideAtRow.holds Try.pinned (OpenSpec.ofChange fnExactSideAtSpec)

/-- ITS FALSE NEIGHBOUR: 'it returns false'. Refute it at one input. -/
def fnExactSideAtWrong : ChangeSpec := { name := "fnExactSideAt", fn := fun _ => fun
  | [d1, d2, d3] => { results := [.lit (.bool false)], args := [d1, d2, d3] }
  | _ => none }
def FnExactSideAtWrongFalsely : Prop := fnExactSideAtRow.holds Try.pinned (OpenSpec.ofChange fnExactSideAtWrong)

/-- 'laws.FnExactCutTrack': WHATEVER THE INPUT: true; the input reads as it did. -/
def fnExactCutTrackSpec : ChangeSpec := { name := "fnExactCutTrack", fn := fun _ => fun
  | [d1, d2, d3] => { results := [.lit (.bool true)], args := [d1, d2, d3] }
  | _ => none }
def fnExactCutTrackRow : OpenClaim := { program := "ytdgmadpkhdfapaa", sum := "b456cdebb11658a3880971abbe7cdee05bcaa85cd529ece4ba9937ef1dd68e38", func := "loop.example/g00887/laws.FnExactCutTrack", spec := "fnExactCutTrack", apart := false }
def FnExactCutTrackSaid : Prop := fnExactCutTrackRow.holds Try.pinned (OpenSpec.ofChange fnExactCutTrackSpec)

/-- ITS FALSE NEIGHBOUR: 'it returns false'. Refute it at one input. -/
def fnExactCutTrackWrong : ChangeSpec := { name := "fnExactCutTrack", fn := fun _ => fun
  | [d1, d2, d3] => { results := [.lit (.bool false)], args := [d1, d2, d3] }
  | _ => none }
def FnExactCutTrackWrongFalsely : Prop := fnExactCutTrackRow.holds Try.pinned (OpenSpec.ofChange fnExactCutTrackWrong)

/-- 'laws.FnExactSpeedOf': WHATEVER THE INPUT: true; the input reads as it did. -/
def fnExactSpeedOfSpec : ChangeSpec := { name := "fnExactSpeedOf", fn := fun _ => fun
  | [d1, d2] => { results := [.lit (.bool true)], args := [d1, d2] }
  | _ => none }
def fnExactSpeedOfRow : OpenClaim := { program := "ytdgmadpkhdfapaa", sum := "b456cdebb11658a3880971abbe7cdee05bcaa85cd529ece4ba9937ef1dd68e38", func := "loop.example/g00887/laws.FnExactSpeedOf", spec := "fnExactSpeedOf", inPlace := ["math.sqrt"], apart := false }
def FnExactSpeedOfSaid : Prop := fnExactSpeedOfRow.holds Try.pinned (OpenSpec.ofChange fnExactSpeedOfSpec)

/-- ITS FALSE NEIGHBOUR: 'it returns false'. Refute it at one input. -/
def fnExactSpeedOfWrong : ChangeSpec := { name := "fnExactSpeedOf", fn := fun _ => fun
  | [d1, d2] => { results := [.lit (.bool false)], args := [d1, d2] }
  | _ => none }
def FnExactSpeedOfWrongFalsely : Prop := fnExactSpeedOfRow.holds Try.pinned (OpenSpec.ofChange fnExactSpeedOfWrong)

/-- 'laws.FnClosest': WHATEVER THE INPUT: true; the input reads as it did. -/
def fnClosestSpec : ChangeSpec := { name := "fnClosest", fn := fun _ => fun
  | [d] => { results := [.lit (.bool true)], args := [d] }
  | _ => none }
def fnClosestRow : OpenClaim := { program := "ytdgmadpkhdfapaa", sum := "b456cdebb11658a3880971abbe7cdee05bcaa85cd529ece4ba9937ef1dd68e38", func := "loop.example/g00887/laws.FnClosest", spec := "fnClosest", apart := false }
def FnClosestSaid : Prop := fnClosestRow.holds Try.pinned (OpenSpec.ofChange fnClosestSpec)

/-- ITS FALSE NEIGHBOUR: 'it returns false'. Refute it at one input. -/
def fnClosestWrong : ChangeSpec := { name := "fnClosest", fn := fun _ => fun
  | [d] => { results := [.lit (.bool false)], args := [d] }
  | _ => none }
def FnClosestWrongFalsely : Prop := fnClosestRow.holds Try.pinned (OpenSpec.ofChange fnClosestWrong)

/-- 'laws.FnPosition': WHATEVER THE INPUT: true; the input reads as it did. -/
def fnPositionSpec : ChangeSpec := { name := "fnPosition", fn := fun _ => fun
  | [d] => { results := [.lit (.bool true)], args := [d] }
  | _ => none }
def fnPositionRow : OpenClaim := { program := "ytdgmadpkhdfapaa", sum := "b456cdebb11658a3880971abbe7cdee05bcaa85cd529ece4ba9937ef1dd68e38", func := "loop.example/g00887/laws.FnPosition", spec := "fnPosition", apart := false }
def FnPositionSaid : Prop := fnPositionRow.holds Try.pinned (OpenSpec.ofChange fnPositionSpec)

/-- ITS FALSE NEIGHBOUR: 'it returns false'. Refute it at one input. -/
def fnPositionWrong : ChangeSpec := { name := "fnPosition", fn := fun _ => fun
  | [d] => { results := [.lit (.bool false)], args := [d] }
  | _ => none }
def FnPositionWrongFalsely : Prop := fnPositionRow.holds Try.pinned (OpenSpec.ofChange fnPositionWrong)

/- THE SECOND FORM. 'bulk': how many values and letters a reading holds, each counted each time it is reached (what is shared counts as often as it is met; a slice's spare places count too). A statement '..UptoSaid' is the law's where the arguments, and the package variables that the reading takes, are together of bulk at most 1048576: NARROWER than '..Said'. Prove '..Said' where nothing that the law and all that it calls make is longer than what came in: it says more and counts as full. Else prove '..UptoSaid'. A law counts once. -/
mutual
def uptoBulk {H : Type} : DataW H → Nat
  | .lit (.string bytes) => bytes.length + 1
  | .lit _ => 1
  | .nil => 1
  | .ptr d => uptoBulk d + 1
  | .slice elems spare => uptoBulkAll elems + uptoBulkAll spare + 1
  | .agg parts => uptoBulkAll parts + 1
  | .iface _ d => uptoBulk d + 1
  | .map entries => uptoBulkEntries entries + 1
  | .held _ => 1
def uptoBulkAll {H : Type} : List (DataW H) → Nat
  | [] => 0
  | d :: r => uptoBulk d + uptoBulkAll r
def uptoBulkEntries {H : Type} : List (Lit × DataW H) → Nat
  | [] => 0
  | x :: r => uptoBulkEntry x + uptoBulkEntries r
def uptoBulkEntry {H : Type} : Lit × DataW H → Nat
  | (.string bytes, d) => bytes.length + uptoBulk d + 1
  | (_, d) => uptoBulk d + 1
 end
def uptoSmall : (H : Type) → List (DataW H) → Bool := fun _ ds => decide (uptoBulkAll ds ≤ 1048576)
def OpenSpec.upto (s : _root_.Go.ChangeSpec) : _root_.Go.OpenSpec := { _root_.Go.OpenSpec.ofChange s with cond := some uptoSmall }

/-- 'laws.FnExactIsTrack', WHERE WHAT IT READS IS OF BULK AT MOST 1048576: true; the input reads as it did. -/
def fnExactIsTrackUptoRow : OpenClaim := { program := "ytdgmadpkhdfapaa", sum := "b456cdebb11658a3880971abbe7cdee05bcaa85cd529ece4ba9937ef1dd68e38", func := "loop.example/g00887/laws.FnExactIsTrack", spec := "fnExactIsTrack", apart := false, narrowed := true }
def FnExactIsTrackUptoSaid : Prop := fnExactIsTrackUptoRow.holds Try.pinned (OpenSpec.upto fnExactIsTrackSpec)

/-- 'laws.FnExactClosestFix', WHERE WHAT IT READS IS OF BULK AT MOST 1048576: true; the input reads as it did. -/
def fnExactClosestFixUptoRow : OpenClaim := { program := "ytdgmadpkhdfapaa", sum := "b456cdebb11658a3880971abbe7cdee05bcaa85cd529ece4ba9937ef1dd68e38", func := "loop.example/g00887/laws.FnExactClosestFix", spec := "fnExactClosestFix", apart := false, narrowed := true }
def FnExactClosestFixUptoSaid : Prop := fnExactClosestFixUptoRow.holds Try.pinned (OpenSpec.upto fnExactClosestFixSpec)

/-- 'laws.FnExactLegAt', WHERE WHAT IT READS IS OF BULK AT MOST 1048576: true; the input reads as it did. -/
def fnExactLegAtUptoRow : OpenClaim := { program := "ytdgmadpkhdfapaa", sum := "b456cdebb11658a3880971abbe7cdee05bcaa85cd529ece4ba9937ef1dd68e38", func := "loop.example/g00887/laws.FnExactLegAt", spec := "fnExactLegAt", apart := false, narrowed := true }
def FnExactLegAtUptoSaid : Prop := fnExactLegAtUptoRow.holds Try.pinned (OpenSpec.upto fnExactLegAtSpec)

/-- 'laws.FnExactPointAt', WHERE WHAT IT READS IS OF BULK AT MOST 1048576: true; the input reads as it did. -/
def fnExactPointAtUptoRow : OpenClaim := { program := "ytdgmadpkhdfapaa", sum := "b456cdebb11658a3880971abbe7cdee05bcaa85cd529ece4ba9937ef1dd68e38", func := "loop.example/g00887/laws.FnExactPointAt", spec := "fnExactPointAt", named := ["math/bits.divideError", "math/bits.overflowError"], apart := false, narrowed := true }
def FnExactPointAtUptoSaid : Prop := fnExactPointAtUptoRow.holds Try.pinned (OpenSpec.upto fnExactPointAtSpec)

/-- 'laws.FnExactHeadingAt', WHERE WHAT IT READS IS OF BULK AT MOST 1048576: true; the input reads as it did. -/
def fnExactHeadingAtUptoRow : OpenClaim := { program := "ytdgmadpkhdfapaa", sum := "b456cdebb11658a3880971abbe7cdee05bcaa85cd529ece4ba9937ef1dd68e38", func := "loop.example/g00887/laws.FnExactHeadingAt", spec := "fnExactHeadingAt", apart := false, narrowed := true }
def FnExactHeadingAtUptoSaid : Prop := fnExactHeadingAtUptoRow.holds Try.pinned (OpenSpec.upto fnExactHeadingAtSpec)

/-- 'laws.FnExactPositionAt', WHERE WHAT IT READS IS OF BULK AT MOST 1048576: true; the input reads as it did. -/
def fnExactPositionAtUptoRow : OpenClaim := { program := "ytdgmadpkhdfapaa", sum := "b456cdebb11658a3880971abbe7cdee05bcaa85cd529ece4ba9937ef1dd68e38", func := "loop.example/g00887/laws.FnExactPositionAt", spec := "fnExactPositionAt", apart := false, narrowed := true }
def FnExactPositionAtUptoSaid : Prop := fnExactPositionAtUptoRow.holds Try.pinned (OpenSpec.upto fnExactPositionAtSpec)

/-- 'laws.FnExactJoinTracks', WHERE WHAT IT READS IS OF BULK AT MOST 1048576: true; the input reads as it did. -/
def fnExactJoinTracksUptoRow : OpenClaim := { program := "ytdgmadpkhdfapaa", sum := "b456cdebb11658a3880971abbe7cdee05bcaa85cd529ece4ba9937ef1dd68e38", func := "loop.example/g00887/laws.FnExactJoinTracks", spec := "fnExactJoinTracks", apart := false, narrowed := true }
def FnExactJoinTracksUptoSaid : Prop := fnExactJoinTracksUptoRow.holds Try.pinned (OpenSpec.upto fnExactJoinTracksSpec)

/-- 'laws.FnExactSideAt', WHERE WHAT IT READS IS OF BULK AT MOST 1048576: true; the input reads as it did. -/
def fnExactSideAtUptoRow : OpenClaim := { program := "ytdgmadpkhdfapaa", sum := "b456cdebb11658a3880971abbe7cdee05bcaa85cd529ece4ba9937ef1dd68e38", func := "loop.example/g00887/laws.FnExactSideAt", spec := "fnExactSideAt", apart := false, narrowed := true }
def FnExactSideAtUptoSaid : Prop := fnExactSideAtUptoRow.holds Try.pinned (OpenSpec.upto fnExactSideAtSpec)

/-- 'laws.FnExactCutTrack', WHERE WHAT IT READS IS OF BULK AT MOST 1048576: true; the input reads as it did. -/
def fnExactCutTrackUptoRow : OpenClaim := { program := "ytdgmadpkhdfapaa", sum := "b456cdebb11658a3880971abbe7cdee05bcaa85cd529ece4ba9937ef1dd68e38", func := "loop.example/g00887/laws.FnExactCutTrack", spec := "fnExactCutTrack", apart := false, narrowed := true }
def FnExactCutTrackUptoSaid : Prop := fnExactCutTrackUptoRow.holds Try.pinned (OpenSpec.upto fnExactCutTrackSpec)

/-- 'laws.FnExactSpeedOf', WHERE WHAT IT READS IS OF BULK AT MOST 1048576: true; the input reads as it did. -/
def fnExactSpeedOfUptoRow : OpenClaim := { program := "ytdgmadpkhdfapaa", sum := "b456cdebb11658a3880971abbe7cdee05bcaa85cd529ece4ba9937ef1dd68e38", func := "loop.example/g00887/laws.FnExactSpeedOf", spec := "fnExactSpeedOf", inPlace := ["math.sqrt"], apart := false, narrowed := true }
def FnExactSpeedOfUptoSaid : Prop := fnExactSpeedOfUptoRow.holds Try.pinned (OpenSpec.upto fnExactSpeedOfSpec)

/-- 'laws.FnClosest', WHERE WHAT IT READS IS OF BULK AT MOST 1048576: true; the input reads as it did. -/
def fnClosestUptoRow : OpenClaim := { program := "ytdgmadpkhdfapaa", sum := "b456cdebb11658a3880971abbe7cdee05bcaa85cd529ece4ba9937ef1dd68e38", func := "loop.example/g00887/laws.FnClosest", spec := "fnClosest", apart := false, narrowed := true }
def FnClosestUptoSaid : Prop := fnClosestUptoRow.holds Try.pinned (OpenSpec.upto fnClosestSpec)

/-- 'laws.FnPosition', WHERE WHAT IT READS IS OF BULK AT MOST 1048576: true; the input reads as it did. -/
def fnPositionUptoRow : OpenClaim := { program := "ytdgmadpkhdfapaa", sum := "b456cdebb11658a3880971abbe7cdee05bcaa85cd529ece4ba9937ef1dd68e38", func := "loop.example/g00887/laws.FnPosition", spec := "fnPosition", apart := false, narrowed := true }
def FnPositionUptoSaid : Prop := fnPositionUptoRow.holds Try.pinned (OpenSpec.upto fnPositionSpec)

end Rows
end Go.Proofs.Ytdgmadpkhdfapaa
