/-
  DERIVED. GIVEN WITH THE SEED: THE CARDS: each row of YtanofjmkkhocaaaGreatDoorRows.lean that lists a variable, with what it lists TIED to the program's text (the seventh form; the later family's looks); each row that meets fmt, with fmt's text TOLD by the authors' own Lean function (tested against real Go, not proved from fmt's source: count such statements apart). THE CARD IS WHAT COUNTS. Prove the row's statement (the work); the ties are given (YtanofjmkkhocaaaGreatDoorTie.lean); close each card by the builder's one call (the guide's Derived/Test/ToyasCard.lean, 'card_holds'). Laid BY PROGRAM, IN A SANDBOX (cutbox-door.mjs). By AI agents, Wed Nov 11 2026. No macro, syntax, notation, axiom, sorry.
-/
import Derived.Test.YtanofjmkkhocaaaGreatDoorRows
import GoSem.ClaimSeven
namespace Go.Proofs.YtanofjmkkhocaaaGreatDoor
namespace Rows

/-- THE TIED CARD OF 'polyglottop.TopClients'. -/
def topClientsCard : Claim7 := { stood := { row := topClientsRow, standIns := [], harness := (true, "24397cc46db7cf277cecd66f43e5a1ed75a9c0a67ce5a9ddb36f2984fc38cc87"), looks := true }, kinds := [], alts := [], laidByText := true, laidKinds := [.data, .pinned], laidTests := true, laidLooks := .later }
def TopClientsCardSaid : Prop := Claim7.holds Tryz.pinned (.plain (OpenSpec.ofChange topClientsSpec)) topClientsCard

/-- THE SECOND FORM's CARD OF 'polyglottop.TopClients'. -/
def topClientsUptoCard : Claim7 := { stood := { row := topClientsUptoRow, standIns := [], harness := (true, "24397cc46db7cf277cecd66f43e5a1ed75a9c0a67ce5a9ddb36f2984fc38cc87"), looks := true }, kinds := [], alts := [], laidByText := true, laidKinds := [.data, .pinned], laidTests := true, laidLooks := .later }
def TopClientsUptoCardSaid : Prop := Claim7.holds Tryz.pinned (.plain (OpenSpec.upto topClientsSpec)) topClientsUptoCard
end Rows
end Go.Proofs.YtanofjmkkhocaaaGreatDoor
