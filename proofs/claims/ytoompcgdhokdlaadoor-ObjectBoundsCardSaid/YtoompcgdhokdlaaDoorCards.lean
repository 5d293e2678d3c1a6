/-
  DERIVED. GIVEN WITH THE SEED: THE CARDS: each row of YtoompcgdhokdlaaDoorRows.lean that lists a variable, with what it lists TIED to the program's text (the seventh form; the later family's looks); each row that meets fmt, with fmt's text TOLD by the authors' own Lean function (tested against real Go, not proved from fmt's source: count such statements apart). THE CARD IS WHAT COUNTS. Prove the row's statement (the work); the ties are given (YtoompcgdhokdlaaDoorTie.lean); close each card by the builder's one call (the guide's Derived/Test/ToyasCard.lean, 'card_holds'). Laid BY PROGRAM, IN A SANDBOX (cutbox-door.mjs). By AI agents, Wed Nov 11 2026. No macro, syntax, notation, axiom, sorry.
-/
import Derived.Test.YtoompcgdhokdlaaDoorRows
import GoSem.ClaimSeven
namespace Go.Proofs.YtoompcgdhokdlaaDoor
namespace Rows

/-- THE TIED CARD OF 'coffretlaw10.ObjectMakes'. -/
def objectMakesCard : Claim7 := { stood := { row := objectMakesRow, standIns := [], harness := (true, "f4a832a5c414fe00bdaae4aeef92c89a48406e0de551855969cdda9c94cb76b9"), looks := true }, kinds := [], alts := [], laidByText := true, laidKinds := [.data, .pinned], laidTests := true, laidLooks := .later }
def ObjectMakesCardSaid : Prop := Claim7.holds Tryd.pinned (.plain (OpenSpec.ofChange objectMakesSpec)) objectMakesCard

/-- THE TIED CARD OF 'coffretlaw10.ObjectBounds'. -/
def objectBoundsCard : Claim7 := { stood := { row := objectBoundsRow, standIns := [], harness := (true, "f4a832a5c414fe00bdaae4aeef92c89a48406e0de551855969cdda9c94cb76b9"), looks := true }, kinds := [], alts := [], laidByText := true, laidKinds := [.data, .pinned], laidTests := true, laidLooks := .later }
def ObjectBoundsCardSaid : Prop := Claim7.holds Tryd.pinned (.plain (OpenSpec.ofChange objectBoundsSpec)) objectBoundsCard

/-- THE TIED CARD OF 'coffretlaw10.ObjectBack'. -/
def objectBackCard : Claim7 := { stood := { row := objectBackRow, standIns := [], harness := (true, "f4a832a5c414fe00bdaae4aeef92c89a48406e0de551855969cdda9c94cb76b9"), looks := true }, kinds := [], alts := [], laidByText := true, laidKinds := [.data, .pinned], laidTests := true, laidLooks := .later }
def ObjectBackCardSaid : Prop := Claim7.holds Tryd.pinned (.plain (OpenSpec.ofChange objectBackSpec)) objectBackCard

/-- THE TIED CARD OF 'coffretlaw10.ObjectIds'. -/
def objectIdsCard : Claim7 := { stood := { row := objectIdsRow, standIns := [], harness := (true, "f4a832a5c414fe00bdaae4aeef92c89a48406e0de551855969cdda9c94cb76b9"), looks := true }, kinds := [], alts := [], laidByText := true, laidKinds := [.data, .pinned], laidTests := true, laidLooks := .later }
def ObjectIdsCardSaid : Prop := Claim7.holds Tryd.pinned (.plain (OpenSpec.ofChange objectIdsSpec)) objectIdsCard

/-- THE SECOND FORM's CARD OF 'coffretlaw10.ObjectMakes'. -/
def objectMakesUptoCard : Claim7 := { stood := { row := objectMakesUptoRow, standIns := [], harness := (true, "f4a832a5c414fe00bdaae4aeef92c89a48406e0de551855969cdda9c94cb76b9"), looks := true }, kinds := [], alts := [], laidByText := true, laidKinds := [.data, .pinned], laidTests := true, laidLooks := .later }
def ObjectMakesUptoCardSaid : Prop := Claim7.holds Tryd.pinned (.plain (OpenSpec.upto objectMakesSpec)) objectMakesUptoCard

/-- THE SECOND FORM's CARD OF 'coffretlaw10.ObjectBounds'. -/
def objectBoundsUptoCard : Claim7 := { stood := { row := objectBoundsUptoRow, standIns := [], harness := (true, "f4a832a5c414fe00bdaae4aeef92c89a48406e0de551855969cdda9c94cb76b9"), looks := true }, kinds := [], alts := [], laidByText := true, laidKinds := [.data, .pinned], laidTests := true, laidLooks := .later }
def ObjectBoundsUptoCardSaid : Prop := Claim7.holds Tryd.pinned (.plain (OpenSpec.upto objectBoundsSpec)) objectBoundsUptoCard

/-- THE SECOND FORM's CARD OF 'coffretlaw10.ObjectBack'. -/
def objectBackUptoCard : Claim7 := { stood := { row := objectBackUptoRow, standIns := [], harness := (true, "f4a832a5c414fe00bdaae4aeef92c89a48406e0de551855969cdda9c94cb76b9"), looks := true }, kinds := [], alts := [], laidByText := true, laidKinds := [.data, .pinned], laidTests := true, laidLooks := .later }
def ObjectBackUptoCardSaid : Prop := Claim7.holds Tryd.pinned (.plain (OpenSpec.upto objectBackSpec)) objectBackUptoCard

/-- THE SECOND FORM's CARD OF 'coffretlaw10.ObjectIds'. -/
def objectIdsUptoCard : Claim7 := { stood := { row := objectIdsUptoRow, standIns := [], harness := (true, "f4a832a5c414fe00bdaae4aeef92c89a48406e0de551855969cdda9c94cb76b9"), looks := true }, kinds := [], alts := [], laidByText := true, laidKinds := [.data, .pinned], laidTests := true, laidLooks := .later }
def ObjectIdsUptoCardSaid : Prop := Claim7.holds Tryd.pinned (.plain (OpenSpec.upto objectIdsSpec)) objectIdsUptoCard
end Rows
end Go.Proofs.YtoompcgdhokdlaaDoor
