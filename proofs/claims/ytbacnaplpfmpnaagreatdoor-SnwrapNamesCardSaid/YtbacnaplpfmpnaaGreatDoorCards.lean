/-
  DERIVED. GIVEN WITH THE SEED: THE CARDS: each row of YtbacnaplpfmpnaaGreatDoorRows.lean that lists a variable, with what it lists TIED to the program's text (the seventh form; the later family's looks); each row that meets fmt, with fmt's text TOLD by the authors' own Lean function (tested against real Go, not proved from fmt's source: count such statements apart). THE CARD IS WHAT COUNTS. Prove the row's statement (the work); the ties are given (YtbacnaplpfmpnaaGreatDoorTie.lean); close each card by the builder's one call (the guide's Derived/Test/ToyasCard.lean, 'card_holds'). Laid BY PROGRAM, IN A SANDBOX (cutbox-door.mjs). By AI agents, Wed Nov 11 2026. No macro, syntax, notation, axiom, sorry.
-/
import Derived.Test.YtbacnaplpfmpnaaGreatDoorRows
import GoSem.ClaimSeven
namespace Go.Proofs.YtbacnaplpfmpnaaGreatDoor
namespace Rows

/-- THE TIED CARD OF 'polyglotlaw22.SnmsgCalls'. -/
def snmsgCallsCard : Claim7 := { stood := { row := snmsgCallsRow, standIns := [], harness := (true, "7aadc8180006389b0c1d8a9891b6f9f9e63af1d39e3b037bfa3081ed8a2ecbec"), looks := false }, kinds := [], alts := [], laidByText := true, laidKinds := [.data, .pinned], laidTests := true, laidLooks := .later }
def SnmsgCallsCardSaid : Prop := Claim7.holds Tryz.pinned (.plain (OpenSpec.ofChange snmsgCallsSpec)) snmsgCallsCard

/-- THE TIED CARD OF 'polyglotlaw23.SnwrapHops'. -/
def snwrapHopsCard : Claim7 := { stood := { row := snwrapHopsRow, standIns := [], harness := (true, "7aadc8180006389b0c1d8a9891b6f9f9e63af1d39e3b037bfa3081ed8a2ecbec"), looks := false }, kinds := [], alts := [], laidByText := true, laidKinds := [.data, .pinned], laidTests := true, laidLooks := .later }
def SnwrapHopsCardSaid : Prop := Claim7.holds Tryz.pinned (.plain (OpenSpec.ofChange snwrapHopsSpec)) snwrapHopsCard

/-- THE TIED CARD OF 'polyglotlaw23.SnwrapCuts'. -/
def snwrapCutsCard : Claim7 := { stood := { row := snwrapCutsRow, standIns := [], harness := (true, "7aadc8180006389b0c1d8a9891b6f9f9e63af1d39e3b037bfa3081ed8a2ecbec"), looks := false }, kinds := [], alts := [], laidByText := true, laidKinds := [.data, .pinned], laidTests := true, laidLooks := .later }
def SnwrapCutsCardSaid : Prop := Claim7.holds Tryz.pinned (.plain (OpenSpec.ofChange snwrapCutsSpec)) snwrapCutsCard

/-- THE TIED CARD OF 'polyglotlaw23.SnwrapNames'. -/
def snwrapNamesCard : Claim7 := { stood := { row := snwrapNamesRow, standIns := [], harness := (true, "7aadc8180006389b0c1d8a9891b6f9f9e63af1d39e3b037bfa3081ed8a2ecbec"), looks := false }, kinds := [], alts := [], laidByText := true, laidKinds := [.data, .pinned], laidTests := true, laidLooks := .later }
def SnwrapNamesCardSaid : Prop := Claim7.holds Tryz.pinned (.plain (OpenSpec.ofChange snwrapNamesSpec)) snwrapNamesCard

/-- THE TIED CARD OF 'polyglotlaw23.SnwrapCalls'. -/
def snwrapCallsCard : Claim7 := { stood := { row := snwrapCallsRow, standIns := [], harness := (true, "7aadc8180006389b0c1d8a9891b6f9f9e63af1d39e3b037bfa3081ed8a2ecbec"), looks := false }, kinds := [], alts := [], laidByText := true, laidKinds := [.data, .pinned], laidTests := true, laidLooks := .later }
def SnwrapCallsCardSaid : Prop := Claim7.holds Tryz.pinned (.plain (OpenSpec.ofChange snwrapCallsSpec)) snwrapCallsCard

/-- THE SECOND FORM's CARD OF 'polyglotlaw22.SnmsgCalls'. -/
def snmsgCallsUptoCard : Claim7 := { stood := { row := snmsgCallsUptoRow, standIns := [], harness := (true, "7aadc8180006389b0c1d8a9891b6f9f9e63af1d39e3b037bfa3081ed8a2ecbec"), looks := false }, kinds := [], alts := [], laidByText := true, laidKinds := [.data, .pinned], laidTests := true, laidLooks := .later }
def SnmsgCallsUptoCardSaid : Prop := Claim7.holds Tryz.pinned (.plain (OpenSpec.upto snmsgCallsSpec)) snmsgCallsUptoCard

/-- THE SECOND FORM's CARD OF 'polyglotlaw23.SnwrapHops'. -/
def snwrapHopsUptoCard : Claim7 := { stood := { row := snwrapHopsUptoRow, standIns := [], harness := (true, "7aadc8180006389b0c1d8a9891b6f9f9e63af1d39e3b037bfa3081ed8a2ecbec"), looks := false }, kinds := [], alts := [], laidByText := true, laidKinds := [.data, .pinned], laidTests := true, laidLooks := .later }
def SnwrapHopsUptoCardSaid : Prop := Claim7.holds Tryz.pinned (.plain (OpenSpec.upto snwrapHopsSpec)) snwrapHopsUptoCard

/-- THE SECOND FORM's CARD OF 'polyglotlaw23.SnwrapCuts'. -/
def snwrapCutsUptoCard : Claim7 := { stood := { row := snwrapCutsUptoRow, standIns := [], harness := (true, "7aadc8180006389b0c1d8a9891b6f9f9e63af1d39e3b037bfa3081ed8a2ecbec"), looks := false }, kinds := [], alts := [], laidByText := true, laidKinds := [.data, .pinned], laidTests := true, laidLooks := .later }
def SnwrapCutsUptoCardSaid : Prop := Claim7.holds Tryz.pinned (.plain (OpenSpec.upto snwrapCutsSpec)) snwrapCutsUptoCard

/-- THE SECOND FORM's CARD OF 'polyglotlaw23.SnwrapNames'. -/
def snwrapNamesUptoCard : Claim7 := { stood := { row := snwrapNamesUptoRow, standIns := [], harness := (true, "7aadc8180006389b0c1d8a9891b6f9f9e63af1d39e3b037bfa3081ed8a2ecbec"), looks := false }, kinds := [], alts := [], laidByText := true, laidKinds := [.data, .pinned], laidTests := true, laidLooks := .later }
def SnwrapNamesUptoCardSaid : Prop := Claim7.holds Tryz.pinned (.plain (OpenSpec.upto snwrapNamesSpec)) snwrapNamesUptoCard

/-- THE SECOND FORM's CARD OF 'polyglotlaw23.SnwrapCalls'. -/
def snwrapCallsUptoCard : Claim7 := { stood := { row := snwrapCallsUptoRow, standIns := [], harness := (true, "7aadc8180006389b0c1d8a9891b6f9f9e63af1d39e3b037bfa3081ed8a2ecbec"), looks := false }, kinds := [], alts := [], laidByText := true, laidKinds := [.data, .pinned], laidTests := true, laidLooks := .later }
def SnwrapCallsUptoCardSaid : Prop := Claim7.holds Tryz.pinned (.plain (OpenSpec.upto snwrapCallsSpec)) snwrapCallsUptoCard
end Rows
end Go.Proofs.YtbacnaplpfmpnaaGreatDoor
