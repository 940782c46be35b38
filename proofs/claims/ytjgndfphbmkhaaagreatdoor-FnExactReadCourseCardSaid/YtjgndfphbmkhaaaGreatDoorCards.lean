/-
  DERIVED. GIVEN WITH THE SEED: THE CARDS: each row of YtjgndfphbmkhaaaGreatDoorRows.lean that lists a variable, with what it lists TIED to the program's text (the seventh form; the later family's looks); each row that meets fmt, with fmt's text TOLD by the authors' own Lean function (tested against real Go, not proved from fmt's source: count such statements apart). THE CARD IS WHAT COUNTS. Prove the row's statement (the work); the ties are given (YtjgndfphbmkhaaaGreatDoorTie.lean); close each card by the builder's one call (the guide's Derived/Test/ToyasCard.lean, 'card_holds'). Laid BY PROGRAM, IN A SANDBOX (cutbox-door.mjs). By AI agents, Wed Nov 11 2026. No macro, syntax, notation, axiom, sorry.
-/
import Derived.Test.YtjgndfphbmkhaaaGreatDoorRows
import GoSem.ClaimSeven
namespace Go.Proofs.YtjgndfphbmkhaaaGreatDoor
namespace Rows

/-- THE TIED CARD OF 'laws.FnExactReadCourse'. -/
def fnExactReadCourseCard : Claim7 := { stood := { row := fnExactReadCourseRow, standIns := [], harness := (true, "7c6a4b52de26df88741e5d6045f2bb6f117d4df6355eea10407cdb59e5b655be"), looks := true }, kinds := [], alts := [], laidByText := true, laidKinds := [.data, .data, .data, .data, .sentinel, .sentinel, .pinned], laidTests := true, laidLooks := .later }
def FnExactReadCourseCardSaid : Prop := Claim7.holds Tryz.pinned (.plain (OpenSpec.ofChange fnExactReadCourseSpec)) fnExactReadCourseCard

/-- THE TIED CARD OF 'laws.FnCourseText'. -/
def fnCourseTextCard : Claim7 := { stood := { row := fnCourseTextRow, standIns := [], harness := (true, "7c6a4b52de26df88741e5d6045f2bb6f117d4df6355eea10407cdb59e5b655be"), looks := true }, kinds := [], alts := [], laidByText := true, laidKinds := [.data, .data, .data, .data, .sentinel, .sentinel, .pinned], laidTests := true, laidLooks := .later }
def FnCourseTextCardSaid : Prop := Claim7.holds Tryz.pinned (.plain (OpenSpec.ofChange fnCourseTextSpec)) fnCourseTextCard

/-- THE SECOND FORM's CARD OF 'laws.FnExactReadCourse'. -/
def fnExactReadCourseUptoCard : Claim7 := { stood := { row := fnExactReadCourseUptoRow, standIns := [], harness := (true, "7c6a4b52de26df88741e5d6045f2bb6f117d4df6355eea10407cdb59e5b655be"), looks := true }, kinds := [], alts := [], laidByText := true, laidKinds := [.data, .data, .data, .data, .sentinel, .sentinel, .pinned], laidTests := true, laidLooks := .later }
def FnExactReadCourseUptoCardSaid : Prop := Claim7.holds Tryz.pinned (.plain (OpenSpec.upto fnExactReadCourseSpec)) fnExactReadCourseUptoCard

/-- THE SECOND FORM's CARD OF 'laws.FnCourseText'. -/
def fnCourseTextUptoCard : Claim7 := { stood := { row := fnCourseTextUptoRow, standIns := [], harness := (true, "7c6a4b52de26df88741e5d6045f2bb6f117d4df6355eea10407cdb59e5b655be"), looks := true }, kinds := [], alts := [], laidByText := true, laidKinds := [.data, .data, .data, .data, .sentinel, .sentinel, .pinned], laidTests := true, laidLooks := .later }
def FnCourseTextUptoCardSaid : Prop := Claim7.holds Tryz.pinned (.plain (OpenSpec.upto fnCourseTextSpec)) fnCourseTextUptoCard
end Rows
end Go.Proofs.YtjgndfphbmkhaaaGreatDoor
