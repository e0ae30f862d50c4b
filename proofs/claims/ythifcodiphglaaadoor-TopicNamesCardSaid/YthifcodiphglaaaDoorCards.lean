/-
  DERIVED. GIVEN WITH THE SEED: THE CARDS: each row of YthifcodiphglaaaDoorRows.lean that lists a variable, with what it lists TIED to the program's text (the seventh form; the later family's looks); each row that meets fmt, with fmt's text TOLD by the authors' own Lean function (tested against real Go, not proved from fmt's source: count such statements apart). THE CARD IS WHAT COUNTS. Prove the row's statement (the work); the ties are given (YthifcodiphglaaaDoorTie.lean); close each card by the builder's one call (the guide's Derived/Test/ToyasCard.lean, 'card_holds'). Laid BY PROGRAM, IN A SANDBOX (cutbox-door.mjs). By AI agents, Wed Nov 11 2026. No macro, syntax, notation, axiom, sorry.
-/
import Derived.Test.YthifcodiphglaaaDoorRows
import GoSem.ClaimSeven
namespace Go.Proofs.YthifcodiphglaaaDoor
namespace Rows

/-- THE TIED CARD OF 'polyglotlaw04.TopicWithin'. -/
def topicWithinCard : Claim7 := { stood := { row := topicWithinRow, standIns := [], harness := (true, "b23211b65907997778454a954a27aadd6092eec55f3067e7c462471e22e59b52"), looks := false }, kinds := [], alts := [], laidByText := true, laidKinds := [.data, .pinned], laidTests := true, laidLooks := .later }
def TopicWithinCardSaid : Prop := Claim7.holds Tryd.pinned (.plain (OpenSpec.ofChange topicWithinSpec)) topicWithinCard

/-- THE TIED CARD OF 'polyglotlaw04.TopicShares'. -/
def topicSharesCard : Claim7 := { stood := { row := topicSharesRow, standIns := [], harness := (true, "b23211b65907997778454a954a27aadd6092eec55f3067e7c462471e22e59b52"), looks := false }, kinds := [], alts := [], laidByText := true, laidKinds := [.data, .pinned], laidTests := true, laidLooks := .later }
def TopicSharesCardSaid : Prop := Claim7.holds Tryd.pinned (.plain (OpenSpec.ofChange topicSharesSpec)) topicSharesCard

/-- THE TIED CARD OF 'polyglotlaw04.TopicLevels'. -/
def topicLevelsCard : Claim7 := { stood := { row := topicLevelsRow, standIns := [], harness := (true, "b23211b65907997778454a954a27aadd6092eec55f3067e7c462471e22e59b52"), looks := false }, kinds := [], alts := [], laidByText := true, laidKinds := [.data, .pinned], laidTests := true, laidLooks := .later }
def TopicLevelsCardSaid : Prop := Claim7.holds Tryd.pinned (.plain (OpenSpec.ofChange topicLevelsSpec)) topicLevelsCard

/-- THE TIED CARD OF 'polyglotlaw04.TopicWilds'. -/
def topicWildsCard : Claim7 := { stood := { row := topicWildsRow, standIns := [], harness := (true, "b23211b65907997778454a954a27aadd6092eec55f3067e7c462471e22e59b52"), looks := false }, kinds := [], alts := [], laidByText := true, laidKinds := [.data, .pinned], laidTests := true, laidLooks := .later }
def TopicWildsCardSaid : Prop := Claim7.holds Tryd.pinned (.plain (OpenSpec.ofChange topicWildsSpec)) topicWildsCard

/-- THE TIED CARD OF 'polyglotlaw04.TopicNames'. -/
def topicNamesCard : Claim7 := { stood := { row := topicNamesRow, standIns := [], harness := (true, "b23211b65907997778454a954a27aadd6092eec55f3067e7c462471e22e59b52"), looks := false }, kinds := [], alts := [], laidByText := true, laidKinds := [.data, .pinned], laidTests := true, laidLooks := .later }
def TopicNamesCardSaid : Prop := Claim7.holds Tryd.pinned (.plain (OpenSpec.ofChange topicNamesSpec)) topicNamesCard

/-- THE SECOND FORM's CARD OF 'polyglotlaw04.TopicWithin'. -/
def topicWithinUptoCard : Claim7 := { stood := { row := topicWithinUptoRow, standIns := [], harness := (true, "b23211b65907997778454a954a27aadd6092eec55f3067e7c462471e22e59b52"), looks := false }, kinds := [], alts := [], laidByText := true, laidKinds := [.data, .pinned], laidTests := true, laidLooks := .later }
def TopicWithinUptoCardSaid : Prop := Claim7.holds Tryd.pinned (.plain (OpenSpec.upto topicWithinSpec)) topicWithinUptoCard

/-- THE SECOND FORM's CARD OF 'polyglotlaw04.TopicShares'. -/
def topicSharesUptoCard : Claim7 := { stood := { row := topicSharesUptoRow, standIns := [], harness := (true, "b23211b65907997778454a954a27aadd6092eec55f3067e7c462471e22e59b52"), looks := false }, kinds := [], alts := [], laidByText := true, laidKinds := [.data, .pinned], laidTests := true, laidLooks := .later }
def TopicSharesUptoCardSaid : Prop := Claim7.holds Tryd.pinned (.plain (OpenSpec.upto topicSharesSpec)) topicSharesUptoCard

/-- THE SECOND FORM's CARD OF 'polyglotlaw04.TopicLevels'. -/
def topicLevelsUptoCard : Claim7 := { stood := { row := topicLevelsUptoRow, standIns := [], harness := (true, "b23211b65907997778454a954a27aadd6092eec55f3067e7c462471e22e59b52"), looks := false }, kinds := [], alts := [], laidByText := true, laidKinds := [.data, .pinned], laidTests := true, laidLooks := .later }
def TopicLevelsUptoCardSaid : Prop := Claim7.holds Tryd.pinned (.plain (OpenSpec.upto topicLevelsSpec)) topicLevelsUptoCard

/-- THE SECOND FORM's CARD OF 'polyglotlaw04.TopicWilds'. -/
def topicWildsUptoCard : Claim7 := { stood := { row := topicWildsUptoRow, standIns := [], harness := (true, "b23211b65907997778454a954a27aadd6092eec55f3067e7c462471e22e59b52"), looks := false }, kinds := [], alts := [], laidByText := true, laidKinds := [.data, .pinned], laidTests := true, laidLooks := .later }
def TopicWildsUptoCardSaid : Prop := Claim7.holds Tryd.pinned (.plain (OpenSpec.upto topicWildsSpec)) topicWildsUptoCard

/-- THE SECOND FORM's CARD OF 'polyglotlaw04.TopicNames'. -/
def topicNamesUptoCard : Claim7 := { stood := { row := topicNamesUptoRow, standIns := [], harness := (true, "b23211b65907997778454a954a27aadd6092eec55f3067e7c462471e22e59b52"), looks := false }, kinds := [], alts := [], laidByText := true, laidKinds := [.data, .pinned], laidTests := true, laidLooks := .later }
def TopicNamesUptoCardSaid : Prop := Claim7.holds Tryd.pinned (.plain (OpenSpec.upto topicNamesSpec)) topicNamesUptoCard
end Rows
end Go.Proofs.YthifcodiphglaaaDoor
