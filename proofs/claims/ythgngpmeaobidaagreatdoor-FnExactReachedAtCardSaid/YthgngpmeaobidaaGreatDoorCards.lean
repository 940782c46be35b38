/-
  DERIVED. GIVEN WITH THE SEED: THE CARDS: each row of YthgngpmeaobidaaGreatDoorRows.lean that lists a variable, with what it lists TIED to the program's text (the seventh form; the later family's looks); each row that meets fmt, with fmt's text TOLD by the authors' own Lean function (tested against real Go, not proved from fmt's source: count such statements apart). THE CARD IS WHAT COUNTS. Prove the row's statement (the work); the ties are given (YthgngpmeaobidaaGreatDoorTie.lean); close each card by the builder's one call (the guide's Derived/Test/ToyasCard.lean, 'card_holds'). Laid BY PROGRAM, IN A SANDBOX (cutbox-door.mjs). By AI agents, Wed Nov 11 2026. No macro, syntax, notation, axiom, sorry.
-/
import Derived.Test.YthgngpmeaobidaaGreatDoorRows
import GoSem.ClaimSeven
namespace Go.Proofs.YthgngpmeaobidaaGreatDoor
namespace Rows

/-- THE TIED CARD OF 'laws.FnExactFinishTime'. -/
def fnExactFinishTimeCard : Claim7 := { stood := { row := fnExactFinishTimeRow, standIns := [], harness := (true, "004827cf3173f2104a75a4f0e2739421b577e5948f860c289e343cd18232bb4e"), looks := false }, kinds := [], alts := [], laidByText := true, laidKinds := [.data, .pinned], laidTests := true, laidLooks := .later }
def FnExactFinishTimeCardSaid : Prop := Claim7.holds Tryz.pinned (.plain (OpenSpec.ofChange fnExactFinishTimeSpec)) fnExactFinishTimeCard

/-- THE TIED CARD OF 'laws.FnExactReachedAt'. -/
def fnExactReachedAtCard : Claim7 := { stood := { row := fnExactReachedAtRow, standIns := [], harness := (true, "004827cf3173f2104a75a4f0e2739421b577e5948f860c289e343cd18232bb4e"), looks := false }, kinds := [], alts := [], laidByText := true, laidKinds := [.data, .pinned], laidTests := true, laidLooks := .later }
def FnExactReachedAtCardSaid : Prop := Claim7.holds Tryz.pinned (.plain (OpenSpec.ofChange fnExactReachedAtSpec)) fnExactReachedAtCard

/-- THE SECOND FORM's CARD OF 'laws.FnExactFinishTime'. -/
def fnExactFinishTimeUptoCard : Claim7 := { stood := { row := fnExactFinishTimeUptoRow, standIns := [], harness := (true, "004827cf3173f2104a75a4f0e2739421b577e5948f860c289e343cd18232bb4e"), looks := false }, kinds := [], alts := [], laidByText := true, laidKinds := [.data, .pinned], laidTests := true, laidLooks := .later }
def FnExactFinishTimeUptoCardSaid : Prop := Claim7.holds Tryz.pinned (.plain (OpenSpec.upto fnExactFinishTimeSpec)) fnExactFinishTimeUptoCard

/-- THE SECOND FORM's CARD OF 'laws.FnExactReachedAt'. -/
def fnExactReachedAtUptoCard : Claim7 := { stood := { row := fnExactReachedAtUptoRow, standIns := [], harness := (true, "004827cf3173f2104a75a4f0e2739421b577e5948f860c289e343cd18232bb4e"), looks := false }, kinds := [], alts := [], laidByText := true, laidKinds := [.data, .pinned], laidTests := true, laidLooks := .later }
def FnExactReachedAtUptoCardSaid : Prop := Claim7.holds Tryz.pinned (.plain (OpenSpec.upto fnExactReachedAtSpec)) fnExactReachedAtUptoCard
end Rows
end Go.Proofs.YthgngpmeaobidaaGreatDoor
