/-
  DERIVED. GIVEN WITH THE SEED: THE CARDS: each row of YtbacnaplpfmpnaaDoorRows.lean that lists a variable, with what it lists TIED to the program's text (the seventh form; the later family's looks); each row that meets fmt, with fmt's text TOLD by the authors' own Lean function (tested against real Go, not proved from fmt's source: count such statements apart). THE CARD IS WHAT COUNTS. Prove the row's statement (the work); the ties are given (YtbacnaplpfmpnaaDoorTie.lean); close each card by the builder's one call (the guide's Derived/Test/ToyasCard.lean, 'card_holds'). Laid BY PROGRAM, IN A SANDBOX (cutbox-door.mjs). By AI agents, Wed Nov 11 2026. No macro, syntax, notation, axiom, sorry.
-/
import Derived.Test.YtbacnaplpfmpnaaDoorRows
import GoSem.ClaimSeven
namespace Go.Proofs.YtbacnaplpfmpnaaDoor
namespace Rows

/-- THE TIED CARD OF 'polyglotlaw22.SnmsgUnused'. -/
def snmsgUnusedCard : Claim7 := { stood := { row := snmsgUnusedRow, standIns := [], harness := (true, "5928dde3cef6890febb9184153bb5a34111d15fdf8de6cb78f8a7437b4da6cbc"), looks := false }, kinds := [], alts := [], laidByText := true, laidKinds := [.data, .pinned], laidTests := true, laidLooks := .later }
def SnmsgUnusedCardSaid : Prop := Claim7.holds Tryd.pinned (.plain (OpenSpec.ofChange snmsgUnusedSpec)) snmsgUnusedCard

/-- THE TIED CARD OF 'polyglotlaw22.SnmsgTopics'. -/
def snmsgTopicsCard : Claim7 := { stood := { row := snmsgTopicsRow, standIns := [], harness := (true, "5928dde3cef6890febb9184153bb5a34111d15fdf8de6cb78f8a7437b4da6cbc"), looks := false }, kinds := [], alts := [], laidByText := true, laidKinds := [.data, .pinned], laidTests := true, laidLooks := .later }
def SnmsgTopicsCardSaid : Prop := Claim7.holds Tryd.pinned (.plain (OpenSpec.ofChange snmsgTopicsSpec)) snmsgTopicsCard

/-- THE TIED CARD OF 'polyglotlaw22.SnmsgKinds'. -/
def snmsgKindsCard : Claim7 := { stood := { row := snmsgKindsRow, standIns := [], harness := (true, "5928dde3cef6890febb9184153bb5a34111d15fdf8de6cb78f8a7437b4da6cbc"), looks := false }, kinds := [], alts := [], laidByText := true, laidKinds := [.data, .pinned], laidTests := true, laidLooks := .later }
def SnmsgKindsCardSaid : Prop := Claim7.holds Tryd.pinned (.plain (OpenSpec.ofChange snmsgKindsSpec)) snmsgKindsCard

/-- THE TIED CARD OF 'polyglotlaw22.SnmsgBack'. -/
def snmsgBackCard : Claim7 := { stood := { row := snmsgBackRow, standIns := [], harness := (true, "5928dde3cef6890febb9184153bb5a34111d15fdf8de6cb78f8a7437b4da6cbc"), looks := false }, kinds := [], alts := [], laidByText := true, laidKinds := [.data, .pinned], laidTests := true, laidLooks := .later }
def SnmsgBackCardSaid : Prop := Claim7.holds Tryd.pinned (.plain (OpenSpec.ofChange snmsgBackSpec)) snmsgBackCard

/-- THE TIED CARD OF 'polyglotlaw22.SnmsgNames'. -/
def snmsgNamesCard : Claim7 := { stood := { row := snmsgNamesRow, standIns := [], harness := (true, "5928dde3cef6890febb9184153bb5a34111d15fdf8de6cb78f8a7437b4da6cbc"), looks := false }, kinds := [], alts := [], laidByText := true, laidKinds := [.data, .pinned], laidTests := true, laidLooks := .later }
def SnmsgNamesCardSaid : Prop := Claim7.holds Tryd.pinned (.plain (OpenSpec.ofChange snmsgNamesSpec)) snmsgNamesCard

/-- THE TIED CARD OF 'polyglotlaw23.SnwrapBack'. -/
def snwrapBackCard : Claim7 := { stood := { row := snwrapBackRow, standIns := [], harness := (true, "5928dde3cef6890febb9184153bb5a34111d15fdf8de6cb78f8a7437b4da6cbc"), looks := false }, kinds := [], alts := [], laidByText := true, laidKinds := [.data, .pinned], laidTests := true, laidLooks := .later }
def SnwrapBackCardSaid : Prop := Claim7.holds Tryd.pinned (.plain (OpenSpec.ofChange snwrapBackSpec)) snwrapBackCard

/-- THE SECOND FORM's CARD OF 'polyglotlaw22.SnmsgUnused'. -/
def snmsgUnusedUptoCard : Claim7 := { stood := { row := snmsgUnusedUptoRow, standIns := [], harness := (true, "5928dde3cef6890febb9184153bb5a34111d15fdf8de6cb78f8a7437b4da6cbc"), looks := false }, kinds := [], alts := [], laidByText := true, laidKinds := [.data, .pinned], laidTests := true, laidLooks := .later }
def SnmsgUnusedUptoCardSaid : Prop := Claim7.holds Tryd.pinned (.plain (OpenSpec.upto snmsgUnusedSpec)) snmsgUnusedUptoCard

/-- THE SECOND FORM's CARD OF 'polyglotlaw22.SnmsgTopics'. -/
def snmsgTopicsUptoCard : Claim7 := { stood := { row := snmsgTopicsUptoRow, standIns := [], harness := (true, "5928dde3cef6890febb9184153bb5a34111d15fdf8de6cb78f8a7437b4da6cbc"), looks := false }, kinds := [], alts := [], laidByText := true, laidKinds := [.data, .pinned], laidTests := true, laidLooks := .later }
def SnmsgTopicsUptoCardSaid : Prop := Claim7.holds Tryd.pinned (.plain (OpenSpec.upto snmsgTopicsSpec)) snmsgTopicsUptoCard

/-- THE SECOND FORM's CARD OF 'polyglotlaw22.SnmsgKinds'. -/
def snmsgKindsUptoCard : Claim7 := { stood := { row := snmsgKindsUptoRow, standIns := [], harness := (true, "5928dde3cef6890febb9184153bb5a34111d15fdf8de6cb78f8a7437b4da6cbc"), looks := false }, kinds := [], alts := [], laidByText := true, laidKinds := [.data, .pinned], laidTests := true, laidLooks := .later }
def SnmsgKindsUptoCardSaid : Prop := Claim7.holds Tryd.pinned (.plain (OpenSpec.upto snmsgKindsSpec)) snmsgKindsUptoCard

/-- THE SECOND FORM's CARD OF 'polyglotlaw22.SnmsgBack'. -/
def snmsgBackUptoCard : Claim7 := { stood := { row := snmsgBackUptoRow, standIns := [], harness := (true, "5928dde3cef6890febb9184153bb5a34111d15fdf8de6cb78f8a7437b4da6cbc"), looks := false }, kinds := [], alts := [], laidByText := true, laidKinds := [.data, .pinned], laidTests := true, laidLooks := .later }
def SnmsgBackUptoCardSaid : Prop := Claim7.holds Tryd.pinned (.plain (OpenSpec.upto snmsgBackSpec)) snmsgBackUptoCard

/-- THE SECOND FORM's CARD OF 'polyglotlaw22.SnmsgNames'. -/
def snmsgNamesUptoCard : Claim7 := { stood := { row := snmsgNamesUptoRow, standIns := [], harness := (true, "5928dde3cef6890febb9184153bb5a34111d15fdf8de6cb78f8a7437b4da6cbc"), looks := false }, kinds := [], alts := [], laidByText := true, laidKinds := [.data, .pinned], laidTests := true, laidLooks := .later }
def SnmsgNamesUptoCardSaid : Prop := Claim7.holds Tryd.pinned (.plain (OpenSpec.upto snmsgNamesSpec)) snmsgNamesUptoCard

/-- THE SECOND FORM's CARD OF 'polyglotlaw23.SnwrapBack'. -/
def snwrapBackUptoCard : Claim7 := { stood := { row := snwrapBackUptoRow, standIns := [], harness := (true, "5928dde3cef6890febb9184153bb5a34111d15fdf8de6cb78f8a7437b4da6cbc"), looks := false }, kinds := [], alts := [], laidByText := true, laidKinds := [.data, .pinned], laidTests := true, laidLooks := .later }
def SnwrapBackUptoCardSaid : Prop := Claim7.holds Tryd.pinned (.plain (OpenSpec.upto snwrapBackSpec)) snwrapBackUptoCard
end Rows
end Go.Proofs.YtbacnaplpfmpnaaDoor
