/-
  DERIVED. GIVEN WITH THE SEED: THE CARDS: each row of YtjgndfphbmkhaaaDoorRows.lean that lists a variable, with what it lists TIED to the program's text (the seventh form; the later family's looks); each row that meets fmt, with fmt's text TOLD by the authors' own Lean function (tested against real Go, not proved from fmt's source: count such statements apart). THE CARD IS WHAT COUNTS. Prove the row's statement (the work); the ties are given (YtjgndfphbmkhaaaDoorTie.lean); close each card by the builder's one call (the guide's Derived/Test/ToyasCard.lean, 'card_holds'). Laid BY PROGRAM, IN A SANDBOX (cutbox-door.mjs). By AI agents, Wed Nov 11 2026. No macro, syntax, notation, axiom, sorry.
-/
import Derived.Test.YtjgndfphbmkhaaaDoorRows
import GoSem.ClaimSeven
namespace Go.Proofs.YtjgndfphbmkhaaaDoor
namespace Rows

/-- THE TIED CARD OF 'laws.FnExactTimeText'. -/
def fnExactTimeTextCard : Claim7 := { stood := { row := fnExactTimeTextRow, standIns := [], harness := (true, "ed96ea063d2c200333f753eab7cef21ae3ac934f090119a8d0bdc4f41c124830"), looks := true }, kinds := [], alts := [], laidByText := true, laidKinds := [.data, .data, .data], laidTests := true, laidLooks := .later }
def FnExactTimeTextCardSaid : Prop := Claim7.holds Tryd.pinned (.plain (OpenSpec.ofChange fnExactTimeTextSpec)) fnExactTimeTextCard

/-- THE TIED CARD OF 'laws.FnExactReadTime'. -/
def fnExactReadTimeCard : Claim7 := { stood := { row := fnExactReadTimeRow, standIns := [], harness := (true, "ed96ea063d2c200333f753eab7cef21ae3ac934f090119a8d0bdc4f41c124830"), looks := true }, kinds := [], alts := [], laidByText := true, laidKinds := [.data, .data, .data, .sentinel, .sentinel], laidTests := true, laidLooks := .later }
def FnExactReadTimeCardSaid : Prop := Claim7.holds Tryd.pinned (.plain (OpenSpec.ofChange fnExactReadTimeSpec)) fnExactReadTimeCard

/-- THE TIED CARD OF 'laws.FnTimeText'. -/
def fnTimeTextCard : Claim7 := { stood := { row := fnTimeTextRow, standIns := [], harness := (true, "ed96ea063d2c200333f753eab7cef21ae3ac934f090119a8d0bdc4f41c124830"), looks := true }, kinds := [], alts := [], laidByText := true, laidKinds := [.data, .data, .data, .sentinel, .sentinel], laidTests := true, laidLooks := .later }
def FnTimeTextCardSaid : Prop := Claim7.holds Tryd.pinned (.plain (OpenSpec.ofChange fnTimeTextSpec)) fnTimeTextCard

/-- THE TIED CARD OF 'laws.FnExactCourseText'. -/
def fnExactCourseTextCard : Claim7 := { stood := { row := fnExactCourseTextRow, standIns := [], harness := (true, "ed96ea063d2c200333f753eab7cef21ae3ac934f090119a8d0bdc4f41c124830"), looks := true }, kinds := [], alts := [], laidByText := true, laidKinds := [.data, .data, .data, .data, .pinned], laidTests := true, laidLooks := .later }
def FnExactCourseTextCardSaid : Prop := Claim7.holds Tryd.pinned (.plain (OpenSpec.ofChange fnExactCourseTextSpec)) fnExactCourseTextCard

/-- THE SECOND FORM's CARD OF 'laws.FnExactTimeText'. -/
def fnExactTimeTextUptoCard : Claim7 := { stood := { row := fnExactTimeTextUptoRow, standIns := [], harness := (true, "ed96ea063d2c200333f753eab7cef21ae3ac934f090119a8d0bdc4f41c124830"), looks := true }, kinds := [], alts := [], laidByText := true, laidKinds := [.data, .data, .data], laidTests := true, laidLooks := .later }
def FnExactTimeTextUptoCardSaid : Prop := Claim7.holds Tryd.pinned (.plain (OpenSpec.upto fnExactTimeTextSpec)) fnExactTimeTextUptoCard

/-- THE SECOND FORM's CARD OF 'laws.FnExactReadTime'. -/
def fnExactReadTimeUptoCard : Claim7 := { stood := { row := fnExactReadTimeUptoRow, standIns := [], harness := (true, "ed96ea063d2c200333f753eab7cef21ae3ac934f090119a8d0bdc4f41c124830"), looks := true }, kinds := [], alts := [], laidByText := true, laidKinds := [.data, .data, .data, .sentinel, .sentinel], laidTests := true, laidLooks := .later }
def FnExactReadTimeUptoCardSaid : Prop := Claim7.holds Tryd.pinned (.plain (OpenSpec.upto fnExactReadTimeSpec)) fnExactReadTimeUptoCard

/-- THE SECOND FORM's CARD OF 'laws.FnTimeText'. -/
def fnTimeTextUptoCard : Claim7 := { stood := { row := fnTimeTextUptoRow, standIns := [], harness := (true, "ed96ea063d2c200333f753eab7cef21ae3ac934f090119a8d0bdc4f41c124830"), looks := true }, kinds := [], alts := [], laidByText := true, laidKinds := [.data, .data, .data, .sentinel, .sentinel], laidTests := true, laidLooks := .later }
def FnTimeTextUptoCardSaid : Prop := Claim7.holds Tryd.pinned (.plain (OpenSpec.upto fnTimeTextSpec)) fnTimeTextUptoCard

/-- THE SECOND FORM's CARD OF 'laws.FnExactCourseText'. -/
def fnExactCourseTextUptoCard : Claim7 := { stood := { row := fnExactCourseTextUptoRow, standIns := [], harness := (true, "ed96ea063d2c200333f753eab7cef21ae3ac934f090119a8d0bdc4f41c124830"), looks := true }, kinds := [], alts := [], laidByText := true, laidKinds := [.data, .data, .data, .data, .pinned], laidTests := true, laidLooks := .later }
def FnExactCourseTextUptoCardSaid : Prop := Claim7.holds Tryd.pinned (.plain (OpenSpec.upto fnExactCourseTextSpec)) fnExactCourseTextUptoCard
end Rows
end Go.Proofs.YtjgndfphbmkhaaaDoor
