/-
  NARROWER THAN 'FOR EVERY INPUT', by the rows' own cells (each row's printed sentence says how): FnExactIsCourse: laid · FnExactMarkNamed: laid · FnShorten: laid · FnExactStationsOf: laid · FnExactShortenCourse: laid · FnLegs: laid · FnRounding: laid · FnExactRoundingLine: laid · FnExactLegLengths: laid.
  DERIVED. THE GIVEN ROWS OF THIS SEAT. 9 by the template 'for every input the law returns true; each argument reads behind the call as it read before'; 0 by the template 'total and deterministic' (their statements: YtbeigoejdckpiaaDoorTotals.lean).
  GIVEN WITH THE SEED: the statements are not yours to turn. If you find one false, say at which input.
  Laid BY PROGRAM, IN A SANDBOX (cutbox-rows.mjs): the forced cells as the released guide's own fill.sh prints them over the translation c728347023f4fa12… (all of the seat's roots in one cut). By AI agents, Wed Nov 11 2026. No macro, syntax, notation, axiom, sorry.
-/
import Derived.Test.YtbeigoejdckpiaaDoorChecked
import GoSem.PinnedTables
import GoSem.Claim
import GoSem.ClaimJoined
import GoSem.ClaimMapViews
import Derived.JoinedTies
import Derived.KernelRfl
namespace Go.Proofs.YtbeigoejdckpiaaDoor
/- THE CELL 'sum', in the pinned program and in every row, IS THE sha256 OF THE DUMP (.gsa) THAT YtbeigoejdckpiaaDoorProg.lean LOADS. Nothing in Lean hashes anything: it is a label: what it is worth is what the hold of that sum in a sandbox is worth. -/
noncomputable def Tryd.pinned : Pinned := { name := "ytbeigoejdckpiaadoor", sum := "c728347023f4fa12fcff88f54de63c06a45cbda2fe329f0c18836bb8ffffce24", checked := Tryd.checked }
namespace Rows
def none {H : Type} : Left H := { results := [], args := [] }

/- WHAT THE LISTED PACKAGE-LEVEL VARIABLES READ AS WHEN THE CALL BEGINS. Each datum BY PROGRAM (the guide's laid-datum.mjs) off the statement by which the dump's own 'gosem.cut.vars' lays the variable. In a bare row this is a premise. The card (YtbeigoejdckpiaaDoorCards.lean) ties it to the program's text. -/
def laid_unicode_utf8_acceptRanges {H : Type} : DataW H := .agg [.agg [.lit (.int .u8 128), .lit (.int .u8 191)], .agg [.lit (.int .u8 160), .lit (.int .u8 191)], .agg [.lit (.int .u8 128), .lit (.int .u8 159)], .agg [.lit (.int .u8 144), .lit (.int .u8 191)], .agg [.lit (.int .u8 128), .lit (.int .u8 143)], .agg [.lit (.int .u8 0), .lit (.int .u8 0)], .agg [.lit (.int .u8 0), .lit (.int .u8 0)], .agg [.lit (.int .u8 0), .lit (.int .u8 0)], .agg [.lit (.int .u8 0), .lit (.int .u8 0)], .agg [.lit (.int .u8 0), .lit (.int .u8 0)], .agg [.lit (.int .u8 0), .lit (.int .u8 0)], .agg [.lit (.int .u8 0), .lit (.int .u8 0)], .agg [.lit (.int .u8 0), .lit (.int .u8 0)], .agg [.lit (.int .u8 0), .lit (.int .u8 0)], .agg [.lit (.int .u8 0), .lit (.int .u8 0)], .agg [.lit (.int .u8 0), .lit (.int .u8 0)]]
/-- One of Go's own tables, pinned by name: the form's constant. -/
def laid_unicode_utf8_first : DataW Unit := Go.Pinned.utf8First

/-- 'laws.FnExactIsCourse': WHATEVER THE INPUT: true; the input reads as it did. -/
def fnExactIsCourseSpec : ChangeSpec := { name := "fnExactIsCourse", fn := fun _ => fun
  | [d] => { results := [.lit (.bool true)], args := [d] }
  | _ => none }
def fnExactIsCourseRow : OpenClaim := { program := "ytbeigoejdckpiaadoor", sum := "c728347023f4fa12fcff88f54de63c06a45cbda2fe329f0c18836bb8ffffce24", func := "loop.example/g00887/laws.FnExactIsCourse", spec := "fnExactIsCourse", inPlace := ["internal/bytealg.IndexByteString", "internal/bytealg.IndexString"], unfollowed := true, recurses := true, named := ["unicode/utf8.first", "unicode/utf8.acceptRanges", "internal/bytealg.MaxLen"], apart := false, laid := [("unicode/utf8.acceptRanges", laid_unicode_utf8_acceptRanges), ("unicode/utf8.first", laid_unicode_utf8_first)] }
def FnExactIsCourseSaid : Prop := fnExactIsCourseRow.holds Tryd.pinned (OpenSpec.ofChange fnExactIsCourseSpec)

/-- ITS FALSE NEIGHBOUR: 'it returns false'. Refute it at one input. -/
def fnExactIsCourseWrong : ChangeSpec := { name := "fnExactIsCourse", fn := fun _ => fun
  | [d] => { results := [.lit (.bool false)], args := [d] }
  | _ => none }
def FnExactIsCourseWrongFalsely : Prop := fnExactIsCourseRow.holds Tryd.pinned (OpenSpec.ofChange fnExactIsCourseWrong)

/-- 'laws.FnExactMarkNamed': WHATEVER THE INPUT: true; the input reads as it did. -/
def fnExactMarkNamedSpec : ChangeSpec := { name := "fnExactMarkNamed", fn := fun _ => fun
  | [d1, d2] => { results := [.lit (.bool true)], args := [d1, d2] }
  | _ => none }
def fnExactMarkNamedRow : OpenClaim := { program := "ytbeigoejdckpiaadoor", sum := "c728347023f4fa12fcff88f54de63c06a45cbda2fe329f0c18836bb8ffffce24", func := "loop.example/g00887/laws.FnExactMarkNamed", spec := "fnExactMarkNamed", inPlace := ["internal/bytealg.IndexByteString", "internal/bytealg.IndexString"], unfollowed := true, recurses := true, named := ["unicode/utf8.first", "unicode/utf8.acceptRanges", "internal/bytealg.MaxLen"], apart := false, laid := [("unicode/utf8.acceptRanges", laid_unicode_utf8_acceptRanges), ("unicode/utf8.first", laid_unicode_utf8_first)] }
def FnExactMarkNamedSaid : Prop := fnExactMarkNamedRow.holds Tryd.pinned (OpenSpec.ofChange fnExactMarkNamedSpec)

/-- ITS FALSE NEIGHBOUR: 'it returns false'. Refute it at one input. -/
def fnExactMarkNamedWrong : ChangeSpec := { name := "fnExactMarkNamed", fn := fun _ => fun
  | [d1, d2] => { results := [.lit (.bool false)], args := [d1, d2] }
  | _ => none }
def FnExactMarkNamedWrongFalsely : Prop := fnExactMarkNamedRow.holds Tryd.pinned (OpenSpec.ofChange fnExactMarkNamedWrong)

/-- 'laws.FnShorten': WHATEVER THE INPUT: true; the input reads as it did. -/
def fnShortenSpec : ChangeSpec := { name := "fnShorten", fn := fun _ => fun
  | [d] => { results := [.lit (.bool true)], args := [d] }
  | _ => none }
def fnShortenRow : OpenClaim := { program := "ytbeigoejdckpiaadoor", sum := "c728347023f4fa12fcff88f54de63c06a45cbda2fe329f0c18836bb8ffffce24", func := "loop.example/g00887/laws.FnShorten", spec := "fnShorten", inPlace := ["internal/bytealg.IndexByteString", "internal/bytealg.IndexString"], unfollowed := true, recurses := true, named := ["unicode/utf8.first", "unicode/utf8.acceptRanges", "internal/bytealg.MaxLen"], apart := false, laid := [("unicode/utf8.acceptRanges", laid_unicode_utf8_acceptRanges), ("unicode/utf8.first", laid_unicode_utf8_first)] }
def FnShortenSaid : Prop := fnShortenRow.holds Tryd.pinned (OpenSpec.ofChange fnShortenSpec)

/-- ITS FALSE NEIGHBOUR: 'it returns false'. Refute it at one input. -/
def fnShortenWrong : ChangeSpec := { name := "fnShorten", fn := fun _ => fun
  | [d] => { results := [.lit (.bool false)], args := [d] }
  | _ => none }
def FnShortenWrongFalsely : Prop := fnShortenRow.holds Tryd.pinned (OpenSpec.ofChange fnShortenWrong)

/-- 'laws.FnExactStationsOf': WHATEVER THE INPUT: true; the input reads as it did. -/
def fnExactStationsOfSpec : ChangeSpec := { name := "fnExactStationsOf", fn := fun _ => fun
  | [d] => { results := [.lit (.bool true)], args := [d] }
  | _ => none }
def fnExactStationsOfRow : OpenClaim := { program := "ytbeigoejdckpiaadoor", sum := "c728347023f4fa12fcff88f54de63c06a45cbda2fe329f0c18836bb8ffffce24", func := "loop.example/g00887/laws.FnExactStationsOf", spec := "fnExactStationsOf", inPlace := ["internal/bytealg.IndexByteString", "internal/bytealg.IndexString"], unfollowed := true, recurses := true, named := ["unicode/utf8.first", "unicode/utf8.acceptRanges", "internal/bytealg.MaxLen"], apart := false, laid := [("unicode/utf8.acceptRanges", laid_unicode_utf8_acceptRanges), ("unicode/utf8.first", laid_unicode_utf8_first)] }
def FnExactStationsOfSaid : Prop := fnExactStationsOfRow.holds Tryd.pinned (OpenSpec.ofChange fnExactStationsOfSpec)

/-- ITS FALSE NEIGHBOUR: 'it returns false'. Refute it at one input. -/
def fnExactStationsOfWrong : ChangeSpec := { name := "fnExactStationsOf", fn := fun _ => fun
  | [d] => { results := [.lit (.bool false)], args := [d] }
  | _ => none }
def FnExactStationsOfWrongFalsely : Prop := fnExactStationsOfRow.holds Tryd.pinned (OpenSpec.ofChange fnExactStationsOfWrong)

/-- 'laws.FnExactShortenCourse': WHATEVER THE INPUT: true; the input reads as it did. -/
def fnExactShortenCourseSpec : ChangeSpec := { name := "fnExactShortenCourse", fn := fun _ => fun
  | [d1, d2, d3] => { results := [.lit (.bool true)], args := [d1, d2, d3] }
  | _ => none }
def fnExactShortenCourseRow : OpenClaim := { program := "ytbeigoejdckpiaadoor", sum := "c728347023f4fa12fcff88f54de63c06a45cbda2fe329f0c18836bb8ffffce24", func := "loop.example/g00887/laws.FnExactShortenCourse", spec := "fnExactShortenCourse", inPlace := ["internal/bytealg.IndexByteString", "internal/bytealg.IndexString"], unfollowed := true, recurses := true, named := ["unicode/utf8.first", "unicode/utf8.acceptRanges", "internal/bytealg.MaxLen"], apart := false, laid := [("unicode/utf8.acceptRanges", laid_unicode_utf8_acceptRanges), ("unicode/utf8.first", laid_unicode_utf8_first)] }
def FnExactShortenCourseSaid : Prop := fnExactShortenCourseRow.holds Tryd.pinned (OpenSpec.ofChange fnExactShortenCourseSpec)

/-- ITS FALSE NEIGHBOUR: 'it returns false'. Refute it at one input. -/
def fnExactShortenCourseWrong : ChangeSpec := { name := "fnExactShortenCourse", fn := fun _ => fun
  | [d1, d2, d3] => { results := [.lit (.bool false)], args := [d1, d2, d3] }
  | _ => none }
def FnExactShortenCourseWrongFalsely : Prop := fnExactShortenCourseRow.holds Tryd.pinned (OpenSpec.ofChange fnExactShortenCourseWrong)

/-- 'laws.FnLegs': WHATEVER THE INPUT: true; the input reads as it did. -/
def fnLegsSpec : ChangeSpec := { name := "fnLegs", fn := fun _ => fun
  | [d] => { results := [.lit (.bool true)], args := [d] }
  | _ => none }
def fnLegsRow : OpenClaim := { program := "ytbeigoejdckpiaadoor", sum := "c728347023f4fa12fcff88f54de63c06a45cbda2fe329f0c18836bb8ffffce24", func := "loop.example/g00887/laws.FnLegs", spec := "fnLegs", inPlace := ["internal/bytealg.IndexByteString", "internal/bytealg.IndexString", "math.sqrt"], unfollowed := true, recurses := true, named := ["unicode/utf8.first", "unicode/utf8.acceptRanges", "internal/bytealg.MaxLen"], apart := false, laid := [("unicode/utf8.acceptRanges", laid_unicode_utf8_acceptRanges), ("unicode/utf8.first", laid_unicode_utf8_first)] }
def FnLegsSaid : Prop := fnLegsRow.holds Tryd.pinned (OpenSpec.ofChange fnLegsSpec)

/-- ITS FALSE NEIGHBOUR: 'it returns false'. Refute it at one input. -/
def fnLegsWrong : ChangeSpec := { name := "fnLegs", fn := fun _ => fun
  | [d] => { results := [.lit (.bool false)], args := [d] }
  | _ => none }
def FnLegsWrongFalsely : Prop := fnLegsRow.holds Tryd.pinned (OpenSpec.ofChange fnLegsWrong)

/-- 'laws.FnRounding': WHATEVER THE INPUT: true; the input reads as it did. -/
def fnRoundingSpec : ChangeSpec := { name := "fnRounding", fn := fun _ => fun
  | [d] => { results := [.lit (.bool true)], args := [d] }
  | _ => none }
def fnRoundingRow : OpenClaim := { program := "ytbeigoejdckpiaadoor", sum := "c728347023f4fa12fcff88f54de63c06a45cbda2fe329f0c18836bb8ffffce24", func := "loop.example/g00887/laws.FnRounding", spec := "fnRounding", inPlace := ["internal/bytealg.IndexByteString", "internal/bytealg.IndexString", "math.sqrt"], unfollowed := true, recurses := true, named := ["unicode/utf8.first", "unicode/utf8.acceptRanges", "internal/bytealg.MaxLen"], apart := false, laid := [("unicode/utf8.acceptRanges", laid_unicode_utf8_acceptRanges), ("unicode/utf8.first", laid_unicode_utf8_first)] }
def FnRoundingSaid : Prop := fnRoundingRow.holds Tryd.pinned (OpenSpec.ofChange fnRoundingSpec)

/-- ITS FALSE NEIGHBOUR: 'it returns false'. Refute it at one input. -/
def fnRoundingWrong : ChangeSpec := { name := "fnRounding", fn := fun _ => fun
  | [d] => { results := [.lit (.bool false)], args := [d] }
  | _ => none }
def FnRoundingWrongFalsely : Prop := fnRoundingRow.holds Tryd.pinned (OpenSpec.ofChange fnRoundingWrong)

/-- 'laws.FnExactRoundingLine': WHATEVER THE INPUT: true; the input reads as it did. -/
def fnExactRoundingLineSpec : ChangeSpec := { name := "fnExactRoundingLine", fn := fun _ => fun
  | [d1, d2] => { results := [.lit (.bool true)], args := [d1, d2] }
  | _ => none }
def fnExactRoundingLineRow : OpenClaim := { program := "ytbeigoejdckpiaadoor", sum := "c728347023f4fa12fcff88f54de63c06a45cbda2fe329f0c18836bb8ffffce24", func := "loop.example/g00887/laws.FnExactRoundingLine", spec := "fnExactRoundingLine", inPlace := ["internal/bytealg.IndexByteString", "internal/bytealg.IndexString", "math.sqrt"], unfollowed := true, recurses := true, named := ["unicode/utf8.first", "unicode/utf8.acceptRanges", "internal/bytealg.MaxLen"], apart := false, laid := [("unicode/utf8.acceptRanges", laid_unicode_utf8_acceptRanges), ("unicode/utf8.first", laid_unicode_utf8_first)] }
def FnExactRoundingLineSaid : Prop := fnExactRoundingLineRow.holds Tryd.pinned (OpenSpec.ofChange fnExactRoundingLineSpec)

/-- ITS FALSE NEIGHBOUR: 'it returns false'. Refute it at one input. -/
def fnExactRoundingLineWrong : ChangeSpec := { name := "fnExactRoundingLine", fn := fun _ => fun
  | [d1, d2] => { results := [.lit (.bool false)], args := [d1, d2] }
  | _ => none }
def FnExactRoundingLineWrongFalsely : Prop := fnExactRoundingLineRow.holds Tryd.pinned (OpenSpec.ofChange fnExactRoundingLineWrong)

/-- 'laws.FnExactLegLengths': WHATEVER THE INPUT: true; the input reads as it did. -/
def fnExactLegLengthsSpec : ChangeSpec := { name := "fnExactLegLengths", fn := fun _ => fun
  | [d] => { results := [.lit (.bool true)], args := [d] }
  | _ => none }
def fnExactLegLengthsRow : OpenClaim := { program := "ytbeigoejdckpiaadoor", sum := "c728347023f4fa12fcff88f54de63c06a45cbda2fe329f0c18836bb8ffffce24", func := "loop.example/g00887/laws.FnExactLegLengths", spec := "fnExactLegLengths", inPlace := ["internal/bytealg.IndexByteString", "internal/bytealg.IndexString", "math.sqrt"], unfollowed := true, recurses := true, named := ["unicode/utf8.first", "unicode/utf8.acceptRanges", "internal/bytealg.MaxLen"], apart := false, laid := [("unicode/utf8.acceptRanges", laid_unicode_utf8_acceptRanges), ("unicode/utf8.first", laid_unicode_utf8_first)] }
def FnExactLegLengthsSaid : Prop := fnExactLegLengthsRow.holds Tryd.pinned (OpenSpec.ofChange fnExactLegLengthsSpec)

/-- ITS FALSE NEIGHBOUR: 'it returns false'. Refute it at one input. -/
def fnExactLegLengthsWrong : ChangeSpec := { name := "fnExactLegLengths", fn := fun _ => fun
  | [d] => { results := [.lit (.bool false)], args := [d] }
  | _ => none }
def FnExactLegLengthsWrongFalsely : Prop := fnExactLegLengthsRow.holds Tryd.pinned (OpenSpec.ofChange fnExactLegLengthsWrong)

/- THE SECOND FORM. 'bulk': how many values and letters a reading holds, each counted each time it is reached (what is shared counts as often as it is met; a slice's spare places count too). A statement '..UptoSaid' is the law's where the arguments, and the package variables that the reading takes, are together of bulk at most 1048576: NARROWER than '..Said'. Prove '..Said' where nothing that the law and all that it calls make is longer than what came in: it says more and counts as full. Else prove '..UptoSaid'. A law counts once. -/
mutual
def uptoBulk {H : Type} : DataW H → Nat
  | .lit (.string bytes) => bytes.length + 1
  | .lit _ => 1
  | .nil => 1
  | .ptr d => uptoBulk d + 1
  | .slice elems spare => uptoBulkAll elems + uptoBulkAll spare + 1
  | .agg parts => uptoBulkAll parts + 1
  | .iface _ d => uptoBulk d + 1
  | .map entries => uptoBulkEntries entries + 1
  | .held _ => 1
def uptoBulkAll {H : Type} : List (DataW H) → Nat
  | [] => 0
  | d :: r => uptoBulk d + uptoBulkAll r
def uptoBulkEntries {H : Type} : List (Lit × DataW H) → Nat
  | [] => 0
  | x :: r => uptoBulkEntry x + uptoBulkEntries r
def uptoBulkEntry {H : Type} : Lit × DataW H → Nat
  | (.string bytes, d) => bytes.length + uptoBulk d + 1
  | (_, d) => uptoBulk d + 1
 end
def uptoSmall : (H : Type) → List (DataW H) → Bool := fun _ ds => decide (uptoBulkAll ds ≤ 1048576)
def OpenSpec.upto (s : _root_.Go.ChangeSpec) : _root_.Go.OpenSpec := { _root_.Go.OpenSpec.ofChange s with cond := some uptoSmall }

/-- 'laws.FnExactIsCourse', WHERE WHAT IT READS IS OF BULK AT MOST 1048576: true; the input reads as it did. -/
def fnExactIsCourseUptoRow : OpenClaim := { program := "ytbeigoejdckpiaadoor", sum := "c728347023f4fa12fcff88f54de63c06a45cbda2fe329f0c18836bb8ffffce24", func := "loop.example/g00887/laws.FnExactIsCourse", spec := "fnExactIsCourse", inPlace := ["internal/bytealg.IndexByteString", "internal/bytealg.IndexString"], unfollowed := true, recurses := true, named := ["unicode/utf8.first", "unicode/utf8.acceptRanges", "internal/bytealg.MaxLen"], apart := false, laid := [("unicode/utf8.acceptRanges", laid_unicode_utf8_acceptRanges), ("unicode/utf8.first", laid_unicode_utf8_first)], narrowed := true }
def FnExactIsCourseUptoSaid : Prop := fnExactIsCourseUptoRow.holds Tryd.pinned (OpenSpec.upto fnExactIsCourseSpec)

/-- 'laws.FnExactMarkNamed', WHERE WHAT IT READS IS OF BULK AT MOST 1048576: true; the input reads as it did. -/
def fnExactMarkNamedUptoRow : OpenClaim := { program := "ytbeigoejdckpiaadoor", sum := "c728347023f4fa12fcff88f54de63c06a45cbda2fe329f0c18836bb8ffffce24", func := "loop.example/g00887/laws.FnExactMarkNamed", spec := "fnExactMarkNamed", inPlace := ["internal/bytealg.IndexByteString", "internal/bytealg.IndexString"], unfollowed := true, recurses := true, named := ["unicode/utf8.first", "unicode/utf8.acceptRanges", "internal/bytealg.MaxLen"], apart := false, laid := [("unicode/utf8.acceptRanges", laid_unicode_utf8_acceptRanges), ("unicode/utf8.first", laid_unicode_utf8_first)], narrowed := true }
def FnExactMarkNamedUptoSaid : Prop := fnExactMarkNamedUptoRow.holds Tryd.pinned (OpenSpec.upto fnExactMarkNamedSpec)

/-- 'laws.FnShorten', WHERE WHAT IT READS IS OF BULK AT MOST 1048576: true; the input reads as it did. -/
def fnShortenUptoRow : OpenClaim := { program := "ytbeigoejdckpiaadoor", sum := "c728347023f4fa12fcff88f54de63c06a45cbda2fe329f0c18836bb8ffffce24", func := "loop.example/g00887/laws.FnShorten", spec := "fnShorten", inPlace := ["internal/bytealg.IndexByteString", "internal/bytealg.IndexString"], unfollowed := true, recurses := true, named := ["unicode/utf8.first", "unicode/utf8.acceptRanges", "internal/bytealg.MaxLen"], apart := false, laid := [("unicode/utf8.acceptRanges", laid_unicode_utf8_acceptRanges), ("unicode/utf8.first", laid_unicode_utf8_first)], narrowed := true }
def FnShortenUptoSaid : Prop := fnShortenUptoRow.holds Tryd.pinned (OpenSpec.upto fnShortenSpec)

/-- 'laws.FnExactStationsOf', WHERE WHAT IT READS IS OF BULK AT MOST 1048576: true; the input reads as it did. -/
def fnExactStationsOfUptoRow : OpenClaim := { program := "ytbeigoejdckpiaadoor", sum := "c728347023f4fa12fcff88f54de63c06a45cbda2fe329f0c18836bb8ffffce24", func := "loop.example/g00887/laws.FnExactStationsOf", spec := "fnExactStationsOf", inPlace := ["internal/bytealg.IndexByteString", "internal/bytealg.IndexString"], unfollowed := true, recurses := true, named := ["unicode/utf8.first", "unicode/utf8.acceptRanges", "internal/bytealg.MaxLen"], apart := false, laid := [("unicode/utf8.acceptRanges", laid_unicode_utf8_acceptRanges), ("unicode/utf8.first", laid_unicode_utf8_first)], narrowed := true }
def FnExactStationsOfUptoSaid : Prop := fnExactStationsOfUptoRow.holds Tryd.pinned (OpenSpec.upto fnExactStationsOfSpec)

/-- 'laws.FnExactShortenCourse', WHERE WHAT IT READS IS OF BULK AT MOST 1048576: true; the input reads as it did. -/
def fnExactShortenCourseUptoRow : OpenClaim := { program := "ytbeigoejdckpiaadoor", sum := "c728347023f4fa12fcff88f54de63c06a45cbda2fe329f0c18836bb8ffffce24", func := "loop.example/g00887/laws.FnExactShortenCourse", spec := "fnExactShortenCourse", inPlace := ["internal/bytealg.IndexByteString", "internal/bytealg.IndexString"], unfollowed := true, recurses := true, named := ["unicode/utf8.first", "unicode/utf8.acceptRanges", "internal/bytealg.MaxLen"], apart := false, laid := [("unicode/utf8.acceptRanges", laid_unicode_utf8_acceptRanges), ("unicode/utf8.first", laid_unicode_utf8_first)], narrowed := true }
def FnExactShortenCourseUptoSaid : Prop := fnExactShortenCourseUptoRow.holds Tryd.pinned (OpenSpec.upto fnExactShortenCourseSpec)

/-- 'laws.FnLegs', WHERE WHAT IT READS IS OF BULK AT MOST 1048576: true; the input reads as it did. -/
def fnLegsUptoRow : OpenClaim := { program := "ytbeigoejdckpiaadoor", sum := "c728347023f4fa12fcff88f54de63c06a45cbda2fe329f0c18836bb8ffffce24", func := "loop.example/g00887/laws.FnLegs", spec := "fnLegs", inPlace := ["internal/bytealg.IndexByteString", "internal/bytealg.IndexString", "math.sqrt"], unfollowed := true, recurses := true, named := ["unicode/utf8.first", "unicode/utf8.acceptRanges", "internal/bytealg.MaxLen"], apart := false, laid := [("unicode/utf8.acceptRanges", laid_unicode_utf8_acceptRanges), ("unicode/utf8.first", laid_unicode_utf8_first)], narrowed := true }
def FnLegsUptoSaid : Prop := fnLegsUptoRow.holds Tryd.pinned (OpenSpec.upto fnLegsSpec)

/-- 'laws.FnRounding', WHERE WHAT IT READS IS OF BULK AT MOST 1048576: true; the input reads as it did. -/
def fnRoundingUptoRow : OpenClaim := { program := "ytbeigoejdckpiaadoor", sum := "c728347023f4fa12fcff88f54de63c06a45cbda2fe329f0c18836bb8ffffce24", func := "loop.example/g00887/laws.FnRounding", spec := "fnRounding", inPlace := ["internal/bytealg.IndexByteString", "internal/bytealg.IndexString", "math.sqrt"], unfollowed := true, recurses := true, named := ["unicode/utf8.first", "unicode/utf8.acceptRanges", "internal/bytealg.MaxLen"], apart := false, laid := [("unicode/utf8.acceptRanges", laid_unicode_utf8_acceptRanges), ("unicode/utf8.first", laid_unicode_utf8_first)], narrowed := true }
def FnRoundingUptoSaid : Prop := fnRoundingUptoRow.holds Tryd.pinned (OpenSpec.upto fnRoundingSpec)

/-- 'laws.FnExactRoundingLine', WHERE WHAT IT READS IS OF BULK AT MOST 1048576: true; the input reads as it did. -/
def fnExactRoundingLineUptoRow : OpenClaim := { program := "ytbeigoejdckpiaadoor", sum := "c728347023f4fa12fcff88f54de63c06a45cbda2fe329f0c18836bb8ffffce24", func := "loop.example/g00887/laws.FnExactRoundingLine", spec := "fnExactRoundingLine", inPlace := ["internal/bytealg.IndexByteString", "internal/bytealg.IndexString", "math.sqrt"], unfollowed := true, recurses := true, named := ["unicode/utf8.first", "unicode/utf8.acceptRanges", "internal/bytealg.MaxLen"], apart := false, laid := [("unicode/utf8.acceptRanges", laid_unicode_utf8_acceptRanges), ("unicode/utf8.first", laid_unicode_utf8_first)], narrowed := true }
def FnExactRoundingLineUptoSaid : Prop := fnExactRoundingLineUptoRow.holds Tryd.pinned (OpenSpec.upto fnExactRoundingLineSpec)

/-- 'laws.FnExactLegLengths', WHERE WHAT IT READS IS OF BULK AT MOST 1048576: true; the input reads as it did. -/
def fnExactLegLengthsUptoRow : OpenClaim := { program := "ytbeigoejdckpiaadoor", sum := "c728347023f4fa12fcff88f54de63c06a45cbda2fe329f0c18836bb8ffffce24", func := "loop.example/g00887/laws.FnExactLegLengths", spec := "fnExactLegLengths", inPlace := ["internal/bytealg.IndexByteString", "internal/bytealg.IndexString", "math.sqrt"], unfollowed := true, recurses := true, named := ["unicode/utf8.first", "unicode/utf8.acceptRanges", "internal/bytealg.MaxLen"], apart := false, laid := [("unicode/utf8.acceptRanges", laid_unicode_utf8_acceptRanges), ("unicode/utf8.first", laid_unicode_utf8_first)], narrowed := true }
def FnExactLegLengthsUptoSaid : Prop := fnExactLegLengthsUptoRow.holds Tryd.pinned (OpenSpec.upto fnExactLegLengthsSpec)

end Rows
end Go.Proofs.YtbeigoejdckpiaaDoor
