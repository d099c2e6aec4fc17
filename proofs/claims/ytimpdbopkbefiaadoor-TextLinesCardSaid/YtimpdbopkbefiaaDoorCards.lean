/-
  DERIVED. GIVEN WITH THE SEED: THE CARDS: each row of YtimpdbopkbefiaaDoorRows.lean that lists a variable, with what it lists TIED to the program's text (the seventh form; the later family's looks); each row that meets fmt, with fmt's text TOLD by the authors' own Lean function (tested against real Go, not proved from fmt's source: count such statements apart). THE CARD IS WHAT COUNTS. Prove the row's statement (the work); the ties are given (YtimpdbopkbefiaaDoorTie.lean); close each card by the builder's one call (the guide's Derived/Test/ToyasCard.lean, 'card_holds'). Laid BY PROGRAM, IN A SANDBOX (cutbox-door.mjs). By AI agents, Wed Nov 11 2026. No macro, syntax, notation, axiom, sorry.
-/
import Derived.Test.YtimpdbopkbefiaaDoorRows
import GoSem.ClaimSeven
namespace Go.Proofs.YtimpdbopkbefiaaDoor
namespace Rows

/-- THE TIED CARD OF 'rehearsallaw14.FdsClosed'. -/
def fdsClosedCard : Claim7 := { stood := { row := fdsClosedRow, standIns := [], harness := (true, "dafc4e8590245edf5330f1b9e2b25c3167aa4031b5e00d37a86fceaf0eab262a"), looks := false }, kinds := [], alts := [], laidByText := true, laidKinds := [.data, .pinned], laidTests := true, laidLooks := .later }
def FdsClosedCardSaid : Prop := Claim7.holds Tryd.pinned (.plain (OpenSpec.ofChange fdsClosedSpec)) fdsClosedCard

/-- THE TIED CARD OF 'rehearsallaw14.FdsFiles'. -/
def fdsFilesCard : Claim7 := { stood := { row := fdsFilesRow, standIns := [], harness := (true, "dafc4e8590245edf5330f1b9e2b25c3167aa4031b5e00d37a86fceaf0eab262a"), looks := false }, kinds := [], alts := [], laidByText := true, laidKinds := [.data, .pinned], laidTests := true, laidLooks := .later }
def FdsFilesCardSaid : Prop := Claim7.holds Tryd.pinned (.plain (OpenSpec.ofChange fdsFilesSpec)) fdsFilesCard

/-- THE TIED CARD OF 'rehearsallaw14.FdsCopies'. -/
def fdsCopiesCard : Claim7 := { stood := { row := fdsCopiesRow, standIns := [], harness := (true, "dafc4e8590245edf5330f1b9e2b25c3167aa4031b5e00d37a86fceaf0eab262a"), looks := false }, kinds := [], alts := [], laidByText := true, laidKinds := [.data, .pinned], laidTests := true, laidLooks := .later }
def FdsCopiesCardSaid : Prop := Claim7.holds Tryd.pinned (.plain (OpenSpec.ofChange fdsCopiesSpec)) fdsCopiesCard

/-- THE TIED CARD OF 'rehearsallaw14.FdsLines'. -/
def fdsLinesCard : Claim7 := { stood := { row := fdsLinesRow, standIns := [], harness := (true, "dafc4e8590245edf5330f1b9e2b25c3167aa4031b5e00d37a86fceaf0eab262a"), looks := false }, kinds := [], alts := [], laidByText := true, laidKinds := [.data, .pinned], laidTests := true, laidLooks := .later }
def FdsLinesCardSaid : Prop := Claim7.holds Tryd.pinned (.plain (OpenSpec.ofChange fdsLinesSpec)) fdsLinesCard

/-- THE TIED CARD OF 'rehearsallaw15.TextPrints'. -/
def textPrintsCard : Claim7 := { stood := { row := textPrintsRow, standIns := [], harness := (true, "dafc4e8590245edf5330f1b9e2b25c3167aa4031b5e00d37a86fceaf0eab262a"), looks := false }, kinds := [], alts := [], laidByText := true, laidKinds := [.data, .pinned], laidTests := true, laidLooks := .later }
def TextPrintsCardSaid : Prop := Claim7.holds Tryd.pinned (.plain (OpenSpec.ofChange textPrintsSpec)) textPrintsCard

/-- THE TIED CARD OF 'rehearsallaw15.TextLines'. -/
def textLinesCard : Claim7 := { stood := { row := textLinesRow, standIns := [], harness := (true, "dafc4e8590245edf5330f1b9e2b25c3167aa4031b5e00d37a86fceaf0eab262a"), looks := false }, kinds := [], alts := [], laidByText := true, laidKinds := [.data, .pinned], laidTests := true, laidLooks := .later }
def TextLinesCardSaid : Prop := Claim7.holds Tryd.pinned (.plain (OpenSpec.ofChange textLinesSpec)) textLinesCard

/-- THE TIED CARD OF 'rehearsallaw15.TextNumbers'. -/
def textNumbersCard : Claim7 := { stood := { row := textNumbersRow, standIns := [], harness := (true, "dafc4e8590245edf5330f1b9e2b25c3167aa4031b5e00d37a86fceaf0eab262a"), looks := false }, kinds := [], alts := [], laidByText := true, laidKinds := [.data, .pinned], laidTests := true, laidLooks := .later }
def TextNumbersCardSaid : Prop := Claim7.holds Tryd.pinned (.plain (OpenSpec.ofChange textNumbersSpec)) textNumbersCard

/-- THE SECOND FORM's CARD OF 'rehearsallaw14.FdsClosed'. -/
def fdsClosedUptoCard : Claim7 := { stood := { row := fdsClosedUptoRow, standIns := [], harness := (true, "dafc4e8590245edf5330f1b9e2b25c3167aa4031b5e00d37a86fceaf0eab262a"), looks := false }, kinds := [], alts := [], laidByText := true, laidKinds := [.data, .pinned], laidTests := true, laidLooks := .later }
def FdsClosedUptoCardSaid : Prop := Claim7.holds Tryd.pinned (.plain (OpenSpec.upto fdsClosedSpec)) fdsClosedUptoCard

/-- THE SECOND FORM's CARD OF 'rehearsallaw14.FdsFiles'. -/
def fdsFilesUptoCard : Claim7 := { stood := { row := fdsFilesUptoRow, standIns := [], harness := (true, "dafc4e8590245edf5330f1b9e2b25c3167aa4031b5e00d37a86fceaf0eab262a"), looks := false }, kinds := [], alts := [], laidByText := true, laidKinds := [.data, .pinned], laidTests := true, laidLooks := .later }
def FdsFilesUptoCardSaid : Prop := Claim7.holds Tryd.pinned (.plain (OpenSpec.upto fdsFilesSpec)) fdsFilesUptoCard

/-- THE SECOND FORM's CARD OF 'rehearsallaw14.FdsCopies'. -/
def fdsCopiesUptoCard : Claim7 := { stood := { row := fdsCopiesUptoRow, standIns := [], harness := (true, "dafc4e8590245edf5330f1b9e2b25c3167aa4031b5e00d37a86fceaf0eab262a"), looks := false }, kinds := [], alts := [], laidByText := true, laidKinds := [.data, .pinned], laidTests := true, laidLooks := .later }
def FdsCopiesUptoCardSaid : Prop := Claim7.holds Tryd.pinned (.plain (OpenSpec.upto fdsCopiesSpec)) fdsCopiesUptoCard

/-- THE SECOND FORM's CARD OF 'rehearsallaw14.FdsLines'. -/
def fdsLinesUptoCard : Claim7 := { stood := { row := fdsLinesUptoRow, standIns := [], harness := (true, "dafc4e8590245edf5330f1b9e2b25c3167aa4031b5e00d37a86fceaf0eab262a"), looks := false }, kinds := [], alts := [], laidByText := true, laidKinds := [.data, .pinned], laidTests := true, laidLooks := .later }
def FdsLinesUptoCardSaid : Prop := Claim7.holds Tryd.pinned (.plain (OpenSpec.upto fdsLinesSpec)) fdsLinesUptoCard

/-- THE SECOND FORM's CARD OF 'rehearsallaw15.TextPrints'. -/
def textPrintsUptoCard : Claim7 := { stood := { row := textPrintsUptoRow, standIns := [], harness := (true, "dafc4e8590245edf5330f1b9e2b25c3167aa4031b5e00d37a86fceaf0eab262a"), looks := false }, kinds := [], alts := [], laidByText := true, laidKinds := [.data, .pinned], laidTests := true, laidLooks := .later }
def TextPrintsUptoCardSaid : Prop := Claim7.holds Tryd.pinned (.plain (OpenSpec.upto textPrintsSpec)) textPrintsUptoCard

/-- THE SECOND FORM's CARD OF 'rehearsallaw15.TextLines'. -/
def textLinesUptoCard : Claim7 := { stood := { row := textLinesUptoRow, standIns := [], harness := (true, "dafc4e8590245edf5330f1b9e2b25c3167aa4031b5e00d37a86fceaf0eab262a"), looks := false }, kinds := [], alts := [], laidByText := true, laidKinds := [.data, .pinned], laidTests := true, laidLooks := .later }
def TextLinesUptoCardSaid : Prop := Claim7.holds Tryd.pinned (.plain (OpenSpec.upto textLinesSpec)) textLinesUptoCard

/-- THE SECOND FORM's CARD OF 'rehearsallaw15.TextNumbers'. -/
def textNumbersUptoCard : Claim7 := { stood := { row := textNumbersUptoRow, standIns := [], harness := (true, "dafc4e8590245edf5330f1b9e2b25c3167aa4031b5e00d37a86fceaf0eab262a"), looks := false }, kinds := [], alts := [], laidByText := true, laidKinds := [.data, .pinned], laidTests := true, laidLooks := .later }
def TextNumbersUptoCardSaid : Prop := Claim7.holds Tryd.pinned (.plain (OpenSpec.upto textNumbersSpec)) textNumbersUptoCard
end Rows
end Go.Proofs.YtimpdbopkbefiaaDoor
