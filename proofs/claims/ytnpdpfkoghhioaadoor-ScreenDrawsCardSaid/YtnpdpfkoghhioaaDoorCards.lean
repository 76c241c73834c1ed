/-
  DERIVED. GIVEN WITH THE SEED: THE CARDS: each row of YtnpdpfkoghhioaaDoorRows.lean that lists a variable, with what it lists TIED to the program's text (the seventh form; the later family's looks); each row that meets fmt, with fmt's text TOLD by the authors' own Lean function (tested against real Go, not proved from fmt's source: count such statements apart). THE CARD IS WHAT COUNTS. Prove the row's statement (the work); the ties are given (YtnpdpfkoghhioaaDoorTie.lean); close each card by the builder's one call (the guide's Derived/Test/ToyasCard.lean, 'card_holds'). Laid BY PROGRAM, IN A SANDBOX (cutbox-door.mjs). By AI agents, Wed Nov 11 2026. No macro, syntax, notation, axiom, sorry.
-/
import Derived.Test.YtnpdpfkoghhioaaDoorRows
import GoSem.ClaimSeven
namespace Go.Proofs.YtnpdpfkoghhioaaDoor
namespace Rows

/-- THE TIED CARD OF 'inkhornlaw29.ScreenDraws'. -/
def screenDrawsCard : Claim7 := { stood := { row := screenDrawsRow, standIns := [], harness := (true, "84cb5dbd3d514b0d3553ba684517cb519fcb736ba4e7475fa2fef92dbe853d11"), looks := false }, kinds := [], alts := [], laidByText := true, laidKinds := [.data, .data, .data], laidTests := true, laidLooks := .later }
def ScreenDrawsCardSaid : Prop := Claim7.holds Tryd.pinned (.plain (OpenSpec.ofChange screenDrawsSpec)) screenDrawsCard

/-- THE TIED CARD OF 'inkhornlaw29.ScreenSeen'. -/
def screenSeenCard : Claim7 := { stood := { row := screenSeenRow, standIns := [], harness := (true, "84cb5dbd3d514b0d3553ba684517cb519fcb736ba4e7475fa2fef92dbe853d11"), looks := false }, kinds := [], alts := [], laidByText := true, laidKinds := [.data, .data, .data], laidTests := true, laidLooks := .later }
def ScreenSeenCardSaid : Prop := Claim7.holds Tryd.pinned (.plain (OpenSpec.ofChange screenSeenSpec)) screenSeenCard

/-- THE TIED CARD OF 'inkhornlaw14.WrapsCells'. -/
def wrapsCellsCard : Claim7 := { stood := { row := wrapsCellsRow, standIns := [], harness := (true, "84cb5dbd3d514b0d3553ba684517cb519fcb736ba4e7475fa2fef92dbe853d11"), looks := false }, kinds := [], alts := [], laidByText := true, laidKinds := [.data, .data, .data], laidTests := true, laidLooks := .later }
def WrapsCellsCardSaid : Prop := Claim7.holds Tryd.pinned (.plain (OpenSpec.ofChange wrapsCellsSpec)) wrapsCellsCard

/-- THE TIED CARD OF 'inkhornlaw14.WrapsRows'. -/
def wrapsRowsCard : Claim7 := { stood := { row := wrapsRowsRow, standIns := [], harness := (true, "84cb5dbd3d514b0d3553ba684517cb519fcb736ba4e7475fa2fef92dbe853d11"), looks := false }, kinds := [], alts := [], laidByText := true, laidKinds := [.data, .data, .data], laidTests := true, laidLooks := .later }
def WrapsRowsCardSaid : Prop := Claim7.holds Tryd.pinned (.plain (OpenSpec.ofChange wrapsRowsSpec)) wrapsRowsCard

/-- THE TIED CARD OF 'inkhornlaw14.WrapsWhole'. -/
def wrapsWholeCard : Claim7 := { stood := { row := wrapsWholeRow, standIns := [], harness := (true, "84cb5dbd3d514b0d3553ba684517cb519fcb736ba4e7475fa2fef92dbe853d11"), looks := false }, kinds := [], alts := [], laidByText := true, laidKinds := [.data, .data, .data], laidTests := true, laidLooks := .later }
def WrapsWholeCardSaid : Prop := Claim7.holds Tryd.pinned (.plain (OpenSpec.ofChange wrapsWholeSpec)) wrapsWholeCard

/-- THE TIED CARD OF 'inkhornlaw14.WrapsPlaces'. -/
def wrapsPlacesCard : Claim7 := { stood := { row := wrapsPlacesRow, standIns := [], harness := (true, "84cb5dbd3d514b0d3553ba684517cb519fcb736ba4e7475fa2fef92dbe853d11"), looks := false }, kinds := [], alts := [], laidByText := true, laidKinds := [.data, .data, .data], laidTests := true, laidLooks := .later }
def WrapsPlacesCardSaid : Prop := Claim7.holds Tryd.pinned (.plain (OpenSpec.ofChange wrapsPlacesSpec)) wrapsPlacesCard

/-- THE TIED CARD OF 'inkhornlaw14.WrapsAhead'. -/
def wrapsAheadCard : Claim7 := { stood := { row := wrapsAheadRow, standIns := [], harness := (true, "84cb5dbd3d514b0d3553ba684517cb519fcb736ba4e7475fa2fef92dbe853d11"), looks := false }, kinds := [], alts := [], laidByText := true, laidKinds := [.data, .data, .data], laidTests := true, laidLooks := .later }
def WrapsAheadCardSaid : Prop := Claim7.holds Tryd.pinned (.plain (OpenSpec.ofChange wrapsAheadSpec)) wrapsAheadCard

/-- THE TIED CARD OF 'inkhornlaw14.WrapsCursor'. -/
def wrapsCursorCard : Claim7 := { stood := { row := wrapsCursorRow, standIns := [], harness := (true, "84cb5dbd3d514b0d3553ba684517cb519fcb736ba4e7475fa2fef92dbe853d11"), looks := false }, kinds := [], alts := [], laidByText := true, laidKinds := [.data, .data, .data], laidTests := true, laidLooks := .later }
def WrapsCursorCardSaid : Prop := Claim7.holds Tryd.pinned (.plain (OpenSpec.ofChange wrapsCursorSpec)) wrapsCursorCard

/-- THE TIED CARD OF 'inkhornlaw29.ScreenPlain'. -/
def screenPlainCard : Claim7 := { stood := { row := screenPlainRow, standIns := [], harness := (true, "84cb5dbd3d514b0d3553ba684517cb519fcb736ba4e7475fa2fef92dbe853d11"), looks := false }, kinds := [], alts := [], laidByText := true, laidKinds := [.data, .data, .data], laidTests := true, laidLooks := .later }
def ScreenPlainCardSaid : Prop := Claim7.holds Tryd.pinned (.plain (OpenSpec.ofChange screenPlainSpec)) screenPlainCard

/-- THE SECOND FORM's CARD OF 'inkhornlaw29.ScreenDraws'. -/
def screenDrawsUptoCard : Claim7 := { stood := { row := screenDrawsUptoRow, standIns := [], harness := (true, "84cb5dbd3d514b0d3553ba684517cb519fcb736ba4e7475fa2fef92dbe853d11"), looks := false }, kinds := [], alts := [], laidByText := true, laidKinds := [.data, .data, .data], laidTests := true, laidLooks := .later }
def ScreenDrawsUptoCardSaid : Prop := Claim7.holds Tryd.pinned (.plain (OpenSpec.upto screenDrawsSpec)) screenDrawsUptoCard

/-- THE SECOND FORM's CARD OF 'inkhornlaw29.ScreenSeen'. -/
def screenSeenUptoCard : Claim7 := { stood := { row := screenSeenUptoRow, standIns := [], harness := (true, "84cb5dbd3d514b0d3553ba684517cb519fcb736ba4e7475fa2fef92dbe853d11"), looks := false }, kinds := [], alts := [], laidByText := true, laidKinds := [.data, .data, .data], laidTests := true, laidLooks := .later }
def ScreenSeenUptoCardSaid : Prop := Claim7.holds Tryd.pinned (.plain (OpenSpec.upto screenSeenSpec)) screenSeenUptoCard

/-- THE SECOND FORM's CARD OF 'inkhornlaw14.WrapsCells'. -/
def wrapsCellsUptoCard : Claim7 := { stood := { row := wrapsCellsUptoRow, standIns := [], harness := (true, "84cb5dbd3d514b0d3553ba684517cb519fcb736ba4e7475fa2fef92dbe853d11"), looks := false }, kinds := [], alts := [], laidByText := true, laidKinds := [.data, .data, .data], laidTests := true, laidLooks := .later }
def WrapsCellsUptoCardSaid : Prop := Claim7.holds Tryd.pinned (.plain (OpenSpec.upto wrapsCellsSpec)) wrapsCellsUptoCard

/-- THE SECOND FORM's CARD OF 'inkhornlaw14.WrapsRows'. -/
def wrapsRowsUptoCard : Claim7 := { stood := { row := wrapsRowsUptoRow, standIns := [], harness := (true, "84cb5dbd3d514b0d3553ba684517cb519fcb736ba4e7475fa2fef92dbe853d11"), looks := false }, kinds := [], alts := [], laidByText := true, laidKinds := [.data, .data, .data], laidTests := true, laidLooks := .later }
def WrapsRowsUptoCardSaid : Prop := Claim7.holds Tryd.pinned (.plain (OpenSpec.upto wrapsRowsSpec)) wrapsRowsUptoCard

/-- THE SECOND FORM's CARD OF 'inkhornlaw14.WrapsWhole'. -/
def wrapsWholeUptoCard : Claim7 := { stood := { row := wrapsWholeUptoRow, standIns := [], harness := (true, "84cb5dbd3d514b0d3553ba684517cb519fcb736ba4e7475fa2fef92dbe853d11"), looks := false }, kinds := [], alts := [], laidByText := true, laidKinds := [.data, .data, .data], laidTests := true, laidLooks := .later }
def WrapsWholeUptoCardSaid : Prop := Claim7.holds Tryd.pinned (.plain (OpenSpec.upto wrapsWholeSpec)) wrapsWholeUptoCard

/-- THE SECOND FORM's CARD OF 'inkhornlaw14.WrapsPlaces'. -/
def wrapsPlacesUptoCard : Claim7 := { stood := { row := wrapsPlacesUptoRow, standIns := [], harness := (true, "84cb5dbd3d514b0d3553ba684517cb519fcb736ba4e7475fa2fef92dbe853d11"), looks := false }, kinds := [], alts := [], laidByText := true, laidKinds := [.data, .data, .data], laidTests := true, laidLooks := .later }
def WrapsPlacesUptoCardSaid : Prop := Claim7.holds Tryd.pinned (.plain (OpenSpec.upto wrapsPlacesSpec)) wrapsPlacesUptoCard

/-- THE SECOND FORM's CARD OF 'inkhornlaw14.WrapsAhead'. -/
def wrapsAheadUptoCard : Claim7 := { stood := { row := wrapsAheadUptoRow, standIns := [], harness := (true, "84cb5dbd3d514b0d3553ba684517cb519fcb736ba4e7475fa2fef92dbe853d11"), looks := false }, kinds := [], alts := [], laidByText := true, laidKinds := [.data, .data, .data], laidTests := true, laidLooks := .later }
def WrapsAheadUptoCardSaid : Prop := Claim7.holds Tryd.pinned (.plain (OpenSpec.upto wrapsAheadSpec)) wrapsAheadUptoCard

/-- THE SECOND FORM's CARD OF 'inkhornlaw14.WrapsCursor'. -/
def wrapsCursorUptoCard : Claim7 := { stood := { row := wrapsCursorUptoRow, standIns := [], harness := (true, "84cb5dbd3d514b0d3553ba684517cb519fcb736ba4e7475fa2fef92dbe853d11"), looks := false }, kinds := [], alts := [], laidByText := true, laidKinds := [.data, .data, .data], laidTests := true, laidLooks := .later }
def WrapsCursorUptoCardSaid : Prop := Claim7.holds Tryd.pinned (.plain (OpenSpec.upto wrapsCursorSpec)) wrapsCursorUptoCard

/-- THE SECOND FORM's CARD OF 'inkhornlaw29.ScreenPlain'. -/
def screenPlainUptoCard : Claim7 := { stood := { row := screenPlainUptoRow, standIns := [], harness := (true, "84cb5dbd3d514b0d3553ba684517cb519fcb736ba4e7475fa2fef92dbe853d11"), looks := false }, kinds := [], alts := [], laidByText := true, laidKinds := [.data, .data, .data], laidTests := true, laidLooks := .later }
def ScreenPlainUptoCardSaid : Prop := Claim7.holds Tryd.pinned (.plain (OpenSpec.upto screenPlainSpec)) screenPlainUptoCard
end Rows
end Go.Proofs.YtnpdpfkoghhioaaDoor
