/-
  DERIVED. GIVEN WITH THE SEED: THE CARDS: each row of YtbeigoejdckpiaaDoorRows.lean that lists a variable, with what it lists TIED to the program's text (the seventh form; the later family's looks); each row that meets fmt, with fmt's text TOLD by the authors' own Lean function (tested against real Go, not proved from fmt's source: count such statements apart). THE CARD IS WHAT COUNTS. Prove the row's statement (the work); the ties are given (YtbeigoejdckpiaaDoorTie.lean); close each card by the builder's one call (the guide's Derived/Test/ToyasCard.lean, 'card_holds'). Laid BY PROGRAM, IN A SANDBOX (cutbox-door.mjs). By AI agents, Wed Nov 11 2026. No macro, syntax, notation, axiom, sorry.
-/
import Derived.Test.YtbeigoejdckpiaaDoorRows
import GoSem.ClaimSeven
namespace Go.Proofs.YtbeigoejdckpiaaDoor
namespace Rows

/-- THE TIED CARD OF 'laws.FnExactIsCourse'. -/
def fnExactIsCourseCard : Claim7 := { stood := { row := fnExactIsCourseRow, standIns := [], harness := (true, "307a91a8220387b471f0a43c3da6393a48704f163f4c354a897a299e0390cb65"), looks := false }, kinds := [], alts := [], laidByText := true, laidKinds := [.data, .pinned], laidTests := true, laidLooks := .later }
def FnExactIsCourseCardSaid : Prop := Claim7.holds Tryd.pinned (.plain (OpenSpec.ofChange fnExactIsCourseSpec)) fnExactIsCourseCard

/-- THE TIED CARD OF 'laws.FnExactMarkNamed'. -/
def fnExactMarkNamedCard : Claim7 := { stood := { row := fnExactMarkNamedRow, standIns := [], harness := (true, "307a91a8220387b471f0a43c3da6393a48704f163f4c354a897a299e0390cb65"), looks := false }, kinds := [], alts := [], laidByText := true, laidKinds := [.data, .pinned], laidTests := true, laidLooks := .later }
def FnExactMarkNamedCardSaid : Prop := Claim7.holds Tryd.pinned (.plain (OpenSpec.ofChange fnExactMarkNamedSpec)) fnExactMarkNamedCard

/-- THE TIED CARD OF 'laws.FnShorten'. -/
def fnShortenCard : Claim7 := { stood := { row := fnShortenRow, standIns := [], harness := (true, "307a91a8220387b471f0a43c3da6393a48704f163f4c354a897a299e0390cb65"), looks := false }, kinds := [], alts := [], laidByText := true, laidKinds := [.data, .pinned], laidTests := true, laidLooks := .later }
def FnShortenCardSaid : Prop := Claim7.holds Tryd.pinned (.plain (OpenSpec.ofChange fnShortenSpec)) fnShortenCard

/-- THE TIED CARD OF 'laws.FnExactStationsOf'. -/
def fnExactStationsOfCard : Claim7 := { stood := { row := fnExactStationsOfRow, standIns := [], harness := (true, "307a91a8220387b471f0a43c3da6393a48704f163f4c354a897a299e0390cb65"), looks := false }, kinds := [], alts := [], laidByText := true, laidKinds := [.data, .pinned], laidTests := true, laidLooks := .later }
def FnExactStationsOfCardSaid : Prop := Claim7.holds Tryd.pinned (.plain (OpenSpec.ofChange fnExactStationsOfSpec)) fnExactStationsOfCard

/-- THE TIED CARD OF 'laws.FnExactShortenCourse'. -/
def fnExactShortenCourseCard : Claim7 := { stood := { row := fnExactShortenCourseRow, standIns := [], harness := (true, "307a91a8220387b471f0a43c3da6393a48704f163f4c354a897a299e0390cb65"), looks := false }, kinds := [], alts := [], laidByText := true, laidKinds := [.data, .pinned], laidTests := true, laidLooks := .later }
def FnExactShortenCourseCardSaid : Prop := Claim7.holds Tryd.pinned (.plain (OpenSpec.ofChange fnExactShortenCourseSpec)) fnExactShortenCourseCard

/-- THE TIED CARD OF 'laws.FnLegs'. -/
def fnLegsCard : Claim7 := { stood := { row := fnLegsRow, standIns := [], harness := (true, "307a91a8220387b471f0a43c3da6393a48704f163f4c354a897a299e0390cb65"), looks := false }, kinds := [], alts := [], laidByText := true, laidKinds := [.data, .pinned], laidTests := true, laidLooks := .later }
def FnLegsCardSaid : Prop := Claim7.holds Tryd.pinned (.plain (OpenSpec.ofChange fnLegsSpec)) fnLegsCard

/-- THE TIED CARD OF 'laws.FnRounding'. -/
def fnRoundingCard : Claim7 := { stood := { row := fnRoundingRow, standIns := [], harness := (true, "307a91a8220387b471f0a43c3da6393a48704f163f4c354a897a299e0390cb65"), looks := false }, kinds := [], alts := [], laidByText := true, laidKinds := [.data, .pinned], laidTests := true, laidLooks := .later }
def FnRoundingCardSaid : Prop := Claim7.holds Tryd.pinned (.plain (OpenSpec.ofChange fnRoundingSpec)) fnRoundingCard

/-- THE TIED CARD OF 'laws.FnExactRoundingLine'. -/
def fnExactRoundingLineCard : Claim7 := { stood := { row := fnExactRoundingLineRow, standIns := [], harness := (true, "307a91a8220387b471f0a43c3da6393a48704f163f4c354a897a299e0390cb65"), looks := false }, kinds := [], alts := [], laidByText := true, laidKinds := [.data, .pinned], laidTests := true, laidLooks := .later }
def FnExactRoundingLineCardSaid : Prop := Claim7.holds Tryd.pinned (.plain (OpenSpec.ofChange fnExactRoundingLineSpec)) fnExactRoundingLineCard

/-- THE TIED CARD OF 'laws.FnExactLegLengths'. -/
def fnExactLegLengthsCard : Claim7 := { stood := { row := fnExactLegLengthsRow, standIns := [], harness := (true, "307a91a8220387b471f0a43c3da6393a48704f163f4c354a897a299e0390cb65"), looks := false }, kinds := [], alts := [], laidByText := true, laidKinds := [.data, .pinned], laidTests := true, laidLooks := .later }
def FnExactLegLengthsCardSaid : Prop := Claim7.holds Tryd.pinned (.plain (OpenSpec.ofChange fnExactLegLengthsSpec)) fnExactLegLengthsCard

/-- THE SECOND FORM's CARD OF 'laws.FnExactIsCourse'. -/
def fnExactIsCourseUptoCard : Claim7 := { stood := { row := fnExactIsCourseUptoRow, standIns := [], harness := (true, "307a91a8220387b471f0a43c3da6393a48704f163f4c354a897a299e0390cb65"), looks := false }, kinds := [], alts := [], laidByText := true, laidKinds := [.data, .pinned], laidTests := true, laidLooks := .later }
def FnExactIsCourseUptoCardSaid : Prop := Claim7.holds Tryd.pinned (.plain (OpenSpec.upto fnExactIsCourseSpec)) fnExactIsCourseUptoCard

/-- THE SECOND FORM's CARD OF 'laws.FnExactMarkNamed'. -/
def fnExactMarkNamedUptoCard : Claim7 := { stood := { row := fnExactMarkNamedUptoRow, standIns := [], harness := (true, "307a91a8220387b471f0a43c3da6393a48704f163f4c354a897a299e0390cb65"), looks := false }, kinds := [], alts := [], laidByText := true, laidKinds := [.data, .pinned], laidTests := true, laidLooks := .later }
def FnExactMarkNamedUptoCardSaid : Prop := Claim7.holds Tryd.pinned (.plain (OpenSpec.upto fnExactMarkNamedSpec)) fnExactMarkNamedUptoCard

/-- THE SECOND FORM's CARD OF 'laws.FnShorten'. -/
def fnShortenUptoCard : Claim7 := { stood := { row := fnShortenUptoRow, standIns := [], harness := (true, "307a91a8220387b471f0a43c3da6393a48704f163f4c354a897a299e0390cb65"), looks := false }, kinds := [], alts := [], laidByText := true, laidKinds := [.data, .pinned], laidTests := true, laidLooks := .later }
def FnShortenUptoCardSaid : Prop := Claim7.holds Tryd.pinned (.plain (OpenSpec.upto fnShortenSpec)) fnShortenUptoCard

/-- THE SECOND FORM's CARD OF 'laws.FnExactStationsOf'. -/
def fnExactStationsOfUptoCard : Claim7 := { stood := { row := fnExactStationsOfUptoRow, standIns := [], harness := (true, "307a91a8220387b471f0a43c3da6393a48704f163f4c354a897a299e0390cb65"), looks := false }, kinds := [], alts := [], laidByText := true, laidKinds := [.data, .pinned], laidTests := true, laidLooks := .later }
def FnExactStationsOfUptoCardSaid : Prop := Claim7.holds Tryd.pinned (.plain (OpenSpec.upto fnExactStationsOfSpec)) fnExactStationsOfUptoCard

/-- THE SECOND FORM's CARD OF 'laws.FnExactShortenCourse'. -/
def fnExactShortenCourseUptoCard : Claim7 := { stood := { row := fnExactShortenCourseUptoRow, standIns := [], harness := (true, "307a91a8220387b471f0a43c3da6393a48704f163f4c354a897a299e0390cb65"), looks := false }, kinds := [], alts := [], laidByText := true, laidKinds := [.data, .pinned], laidTests := true, laidLooks := .later }
def FnExactShortenCourseUptoCardSaid : Prop := Claim7.holds Tryd.pinned (.plain (OpenSpec.upto fnExactShortenCourseSpec)) fnExactShortenCourseUptoCard

/-- THE SECOND FORM's CARD OF 'laws.FnLegs'. -/
def fnLegsUptoCard : Claim7 := { stood := { row := fnLegsUptoRow, standIns := [], harness := (true, "307a91a8220387b471f0a43c3da6393a48704f163f4c354a897a299e0390cb65"), looks := false }, kinds := [], alts := [], laidByText := true, laidKinds := [.data, .pinned], laidTests := true, laidLooks := .later }
def FnLegsUptoCardSaid : Prop := Claim7.holds Tryd.pinned (.plain (OpenSpec.upto fnLegsSpec)) fnLegsUptoCard

/-- THE SECOND FORM's CARD OF 'laws.FnRounding'. -/
def fnRoundingUptoCard : Claim7 := { stood := { row := fnRoundingUptoRow, standIns := [], harness := (true, "307a91a8220387b471f0a43c3da6393a48704f163f4c354a897a299e0390cb65"), looks := false }, kinds := [], alts := [], laidByText := true, laidKinds := [.data, .pinned], laidTests := true, laidLooks := .later }
def FnRoundingUptoCardSaid : Prop := Claim7.holds Tryd.pinned (.plain (OpenSpec.upto fnRoundingSpec)) fnRoundingUptoCard

/-- THE SECOND FORM's CARD OF 'laws.FnExactRoundingLine'. -/
def fnExactRoundingLineUptoCard : Claim7 := { stood := { row := fnExactRoundingLineUptoRow, standIns := [], harness := (true, "307a91a8220387b471f0a43c3da6393a48704f163f4c354a897a299e0390cb65"), looks := false }, kinds := [], alts := [], laidByText := true, laidKinds := [.data, .pinned], laidTests := true, laidLooks := .later }
def FnExactRoundingLineUptoCardSaid : Prop := Claim7.holds Tryd.pinned (.plain (OpenSpec.upto fnExactRoundingLineSpec)) fnExactRoundingLineUptoCard

/-- THE SECOND FORM's CARD OF 'laws.FnExactLegLengths'. -/
def fnExactLegLengthsUptoCard : Claim7 := { stood := { row := fnExactLegLengthsUptoRow, standIns := [], harness := (true, "307a91a8220387b471f0a43c3da6393a48704f163f4c354a897a299e0390cb65"), looks := false }, kinds := [], alts := [], laidByText := true, laidKinds := [.data, .pinned], laidTests := true, laidLooks := .later }
def FnExactLegLengthsUptoCardSaid : Prop := Claim7.holds Tryd.pinned (.plain (OpenSpec.upto fnExactLegLengthsSpec)) fnExactLegLengthsUptoCard
end Rows
end Go.Proofs.YtbeigoejdckpiaaDoor
