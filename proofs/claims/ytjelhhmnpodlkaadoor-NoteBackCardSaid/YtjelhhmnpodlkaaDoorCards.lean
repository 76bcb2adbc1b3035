/-
  DERIVED. GIVEN WITH THE SEED: THE CARDS: each row of YtjelhhmnpodlkaaDoorRows.lean that lists a variable, with what it lists TIED to the program's text (the seventh form; the later family's looks); each row that meets fmt, with fmt's text TOLD by the authors' own Lean function (tested against real Go, not proved from fmt's source: count such statements apart). THE CARD IS WHAT COUNTS. Prove the row's statement (the work); the ties are given (YtjelhhmnpodlkaaDoorTie.lean); close each card by the builder's one call (the guide's Derived/Test/ToyasCard.lean, 'card_holds'). Laid BY PROGRAM, IN A SANDBOX (cutbox-door.mjs). By AI agents, Wed Nov 11 2026. No macro, syntax, notation, axiom, sorry.
-/
import Derived.Test.YtjelhhmnpodlkaaDoorRows
import GoSem.ClaimSeven
namespace Go.Proofs.YtjelhhmnpodlkaaDoor
namespace Rows

/-- THE TIED CARD OF 'ridgewaylaw05.NoteIs'. -/
def noteIsCard : Claim7 := { stood := { row := noteIsRow, standIns := [], harness := (true, "70b6594649dbf412701f2e71c4a31bd369f335b9c5934d129e16f940ca3866d3"), looks := false }, kinds := [], alts := [], laidByText := true, laidKinds := [.data, .data, .data, .data, .data], laidTests := true, laidLooks := .later }
def NoteIsCardSaid : Prop := Claim7.holds Tryd.pinned (.plain (OpenSpec.ofChange noteIsSpec)) noteIsCard

/-- THE TIED CARD OF 'ridgewaylaw05.NoteNames'. -/
def noteNamesCard : Claim7 := { stood := { row := noteNamesRow, standIns := [], harness := (true, "70b6594649dbf412701f2e71c4a31bd369f335b9c5934d129e16f940ca3866d3"), looks := false }, kinds := [], alts := [], laidByText := true, laidKinds := [.data, .data, .data, .data, .data], laidTests := true, laidLooks := .later }
def NoteNamesCardSaid : Prop := Claim7.holds Tryd.pinned (.plain (OpenSpec.ofChange noteNamesSpec)) noteNamesCard

/-- THE TIED CARD OF 'ridgewaylaw05.NoteKnown'. -/
def noteKnownCard : Claim7 := { stood := { row := noteKnownRow, standIns := [], harness := (true, "70b6594649dbf412701f2e71c4a31bd369f335b9c5934d129e16f940ca3866d3"), looks := false }, kinds := [], alts := [], laidByText := true, laidKinds := [.data, .data, .data, .data, .data], laidTests := true, laidLooks := .later }
def NoteKnownCardSaid : Prop := Claim7.holds Tryd.pinned (.plain (OpenSpec.ofChange noteKnownSpec)) noteKnownCard

/-- THE TIED CARD OF 'ridgewaylaw05.NoteBack'. -/
def noteBackCard : Claim7 := { stood := { row := noteBackRow, standIns := [], harness := (true, "70b6594649dbf412701f2e71c4a31bd369f335b9c5934d129e16f940ca3866d3"), looks := false }, kinds := [], alts := [], laidByText := true, laidKinds := [.data, .data, .data, .data, .data], laidTests := true, laidLooks := .later }
def NoteBackCardSaid : Prop := Claim7.holds Tryd.pinned (.plain (OpenSpec.ofChange noteBackSpec)) noteBackCard

/-- THE SECOND FORM's CARD OF 'ridgewaylaw05.NoteIs'. -/
def noteIsUptoCard : Claim7 := { stood := { row := noteIsUptoRow, standIns := [], harness := (true, "70b6594649dbf412701f2e71c4a31bd369f335b9c5934d129e16f940ca3866d3"), looks := false }, kinds := [], alts := [], laidByText := true, laidKinds := [.data, .data, .data, .data, .data], laidTests := true, laidLooks := .later }
def NoteIsUptoCardSaid : Prop := Claim7.holds Tryd.pinned (.plain (OpenSpec.upto noteIsSpec)) noteIsUptoCard

/-- THE SECOND FORM's CARD OF 'ridgewaylaw05.NoteNames'. -/
def noteNamesUptoCard : Claim7 := { stood := { row := noteNamesUptoRow, standIns := [], harness := (true, "70b6594649dbf412701f2e71c4a31bd369f335b9c5934d129e16f940ca3866d3"), looks := false }, kinds := [], alts := [], laidByText := true, laidKinds := [.data, .data, .data, .data, .data], laidTests := true, laidLooks := .later }
def NoteNamesUptoCardSaid : Prop := Claim7.holds Tryd.pinned (.plain (OpenSpec.upto noteNamesSpec)) noteNamesUptoCard

/-- THE SECOND FORM's CARD OF 'ridgewaylaw05.NoteKnown'. -/
def noteKnownUptoCard : Claim7 := { stood := { row := noteKnownUptoRow, standIns := [], harness := (true, "70b6594649dbf412701f2e71c4a31bd369f335b9c5934d129e16f940ca3866d3"), looks := false }, kinds := [], alts := [], laidByText := true, laidKinds := [.data, .data, .data, .data, .data], laidTests := true, laidLooks := .later }
def NoteKnownUptoCardSaid : Prop := Claim7.holds Tryd.pinned (.plain (OpenSpec.upto noteKnownSpec)) noteKnownUptoCard

/-- THE SECOND FORM's CARD OF 'ridgewaylaw05.NoteBack'. -/
def noteBackUptoCard : Claim7 := { stood := { row := noteBackUptoRow, standIns := [], harness := (true, "70b6594649dbf412701f2e71c4a31bd369f335b9c5934d129e16f940ca3866d3"), looks := false }, kinds := [], alts := [], laidByText := true, laidKinds := [.data, .data, .data, .data, .data], laidTests := true, laidLooks := .later }
def NoteBackUptoCardSaid : Prop := Claim7.holds Tryd.pinned (.plain (OpenSpec.upto noteBackSpec)) noteBackUptoCard
end Rows
end Go.Proofs.YtjelhhmnpodlkaaDoor
