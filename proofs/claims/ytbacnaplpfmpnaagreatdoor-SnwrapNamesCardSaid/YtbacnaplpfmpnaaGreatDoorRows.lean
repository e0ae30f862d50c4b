/-
  NARROWER THAN 'FOR EVERY INPUT', by the rows' own cells (each row's printed sentence says how): SnmsgCalls: laid · SnwrapHops: laid · SnwrapCuts: laid · SnwrapNames: laid · SnwrapCalls: laid.
  DERIVED. THE GIVEN ROWS OF THIS SEAT. 5 by the template 'for every input the law returns true; each argument reads behind the call as it read before'; 0 by the template 'total and deterministic' (their statements: YtbacnaplpfmpnaaGreatDoorTotals.lean).
  GIVEN WITH THE SEED: the statements are not yours to turn. If you find one false, say at which input.
  Laid BY PROGRAM, IN A SANDBOX (cutbox-rows.mjs): the forced cells as the released guide's own fill.sh prints them over the translation 6854229bf952b88d… (all of the seat's roots in one cut). By AI agents, Wed Nov 11 2026. No macro, syntax, notation, axiom, sorry.
-/
import Derived.Test.YtbacnaplpfmpnaaGreatDoorChecked
import GoSem.PinnedTables
import GoSem.Claim
import GoSem.ClaimJoined
import GoSem.ClaimMapViews
import Derived.JoinedTies
import Derived.KernelRfl
namespace Go.Proofs.YtbacnaplpfmpnaaGreatDoor
/- THE CELL 'sum', in the pinned program and in every row, IS THE sha256 OF THE DUMP (.gsa) THAT YtbacnaplpfmpnaaGreatDoorProg.lean LOADS. Nothing in Lean hashes anything: it is a label: what it is worth is what the hold of that sum in a sandbox is worth. -/
noncomputable def Tryz.pinned : Pinned := { name := "ytbacnaplpfmpnaagreatdoor", sum := "6854229bf952b88d75369fffa9f4cbb6f983baeebef29237dd9f5be6d34bb252", checked := Tryz.checked }
namespace Rows
def none {H : Type} : Left H := { results := [], args := [] }

/- WHAT THE LISTED PACKAGE-LEVEL VARIABLES READ AS WHEN THE CALL BEGINS. Each datum BY PROGRAM (the guide's laid-datum.mjs) off the statement by which the dump's own 'gosem.cut.vars' lays the variable. In a bare row this is a premise. The card (YtbacnaplpfmpnaaGreatDoorCards.lean) ties it to the program's text. -/
def laid_unicode_utf8_acceptRanges {H : Type} : DataW H := .agg [.agg [.lit (.int .u8 128), .lit (.int .u8 191)], .agg [.lit (.int .u8 160), .lit (.int .u8 191)], .agg [.lit (.int .u8 128), .lit (.int .u8 159)], .agg [.lit (.int .u8 144), .lit (.int .u8 191)], .agg [.lit (.int .u8 128), .lit (.int .u8 143)], .agg [.lit (.int .u8 0), .lit (.int .u8 0)], .agg [.lit (.int .u8 0), .lit (.int .u8 0)], .agg [.lit (.int .u8 0), .lit (.int .u8 0)], .agg [.lit (.int .u8 0), .lit (.int .u8 0)], .agg [.lit (.int .u8 0), .lit (.int .u8 0)], .agg [.lit (.int .u8 0), .lit (.int .u8 0)], .agg [.lit (.int .u8 0), .lit (.int .u8 0)], .agg [.lit (.int .u8 0), .lit (.int .u8 0)], .agg [.lit (.int .u8 0), .lit (.int .u8 0)], .agg [.lit (.int .u8 0), .lit (.int .u8 0)], .agg [.lit (.int .u8 0), .lit (.int .u8 0)]]
/-- One of Go's own tables, pinned by name: the form's constant. -/
def laid_unicode_utf8_first : DataW Unit := Go.Pinned.utf8First

/-- 'polyglotlaw22.SnmsgCalls': WHATEVER THE INPUT: true; the input reads as it did. -/
def snmsgCallsSpec : ChangeSpec := { name := "snmsgCalls", fn := fun _ => fun
  | [d1, d2, d3, d4] => { results := [.lit (.bool true)], args := [d1, d2, d3, d4] }
  | _ => none }
def snmsgCallsRow : OpenClaim := { program := "ytbacnaplpfmpnaagreatdoor", sum := "6854229bf952b88d75369fffa9f4cbb6f983baeebef29237dd9f5be6d34bb252", func := "polyglot/polyglotlaw22.SnmsgCalls", spec := "snmsgCalls", inPlace := ["internal/bytealg.IndexByteString", "internal/bytealg.IndexString", "internal/bytealg.CountString"], unfollowed := true, recurses := true, named := ["unicode/utf8.first", "unicode/utf8.acceptRanges", "internal/bytealg.MaxLen"], apart := false, laid := [("unicode/utf8.acceptRanges", laid_unicode_utf8_acceptRanges), ("unicode/utf8.first", laid_unicode_utf8_first)] }
def SnmsgCallsSaid : Prop := snmsgCallsRow.holds Tryz.pinned (OpenSpec.ofChange snmsgCallsSpec)

/-- ITS FALSE NEIGHBOUR: 'it returns false'. Refute it at one input. -/
def snmsgCallsWrong : ChangeSpec := { name := "snmsgCalls", fn := fun _ => fun
  | [d1, d2, d3, d4] => { results := [.lit (.bool false)], args := [d1, d2, d3, d4] }
  | _ => none }
def SnmsgCallsWrongFalsely : Prop := snmsgCallsRow.holds Tryz.pinned (OpenSpec.ofChange snmsgCallsWrong)

/-- 'polyglotlaw23.SnwrapHops': WHATEVER THE INPUT: true; the input reads as it did. -/
def snwrapHopsSpec : ChangeSpec := { name := "snwrapHops", fn := fun _ => fun
  | [d1, d2] => { results := [.lit (.bool true)], args := [d1, d2] }
  | _ => none }
def snwrapHopsRow : OpenClaim := { program := "ytbacnaplpfmpnaagreatdoor", sum := "6854229bf952b88d75369fffa9f4cbb6f983baeebef29237dd9f5be6d34bb252", func := "polyglot/polyglotlaw23.SnwrapHops", spec := "snwrapHops", inPlace := ["internal/bytealg.IndexByteString", "internal/bytealg.IndexString", "internal/bytealg.CountString"], unfollowed := true, recurses := true, named := ["unicode/utf8.first", "unicode/utf8.acceptRanges", "internal/bytealg.MaxLen"], apart := false, laid := [("unicode/utf8.acceptRanges", laid_unicode_utf8_acceptRanges), ("unicode/utf8.first", laid_unicode_utf8_first)] }
def SnwrapHopsSaid : Prop := snwrapHopsRow.holds Tryz.pinned (OpenSpec.ofChange snwrapHopsSpec)

/-- ITS FALSE NEIGHBOUR: 'it returns false'. Refute it at one input. -/
def snwrapHopsWrong : ChangeSpec := { name := "snwrapHops", fn := fun _ => fun
  | [d1, d2] => { results := [.lit (.bool false)], args := [d1, d2] }
  | _ => none }
def SnwrapHopsWrongFalsely : Prop := snwrapHopsRow.holds Tryz.pinned (OpenSpec.ofChange snwrapHopsWrong)

/-- 'polyglotlaw23.SnwrapCuts': WHATEVER THE INPUT: true; the input reads as it did. -/
def snwrapCutsSpec : ChangeSpec := { name := "snwrapCuts", fn := fun _ => fun
  | [d1, d2, d3] => { results := [.lit (.bool true)], args := [d1, d2, d3] }
  | _ => none }
def snwrapCutsRow : OpenClaim := { program := "ytbacnaplpfmpnaagreatdoor", sum := "6854229bf952b88d75369fffa9f4cbb6f983baeebef29237dd9f5be6d34bb252", func := "polyglot/polyglotlaw23.SnwrapCuts", spec := "snwrapCuts", inPlace := ["internal/bytealg.IndexByteString", "internal/bytealg.IndexString", "internal/bytealg.CountString"], unfollowed := true, recurses := true, named := ["unicode/utf8.first", "unicode/utf8.acceptRanges", "internal/bytealg.MaxLen"], apart := false, laid := [("unicode/utf8.acceptRanges", laid_unicode_utf8_acceptRanges), ("unicode/utf8.first", laid_unicode_utf8_first)] }
def SnwrapCutsSaid : Prop := snwrapCutsRow.holds Tryz.pinned (OpenSpec.ofChange snwrapCutsSpec)

/-- ITS FALSE NEIGHBOUR: 'it returns false'. Refute it at one input. -/
def snwrapCutsWrong : ChangeSpec := { name := "snwrapCuts", fn := fun _ => fun
  | [d1, d2, d3] => { results := [.lit (.bool false)], args := [d1, d2, d3] }
  | _ => none }
def SnwrapCutsWrongFalsely : Prop := snwrapCutsRow.holds Tryz.pinned (OpenSpec.ofChange snwrapCutsWrong)

/-- 'polyglotlaw23.SnwrapNames': WHATEVER THE INPUT: true; the input reads as it did. -/
def snwrapNamesSpec : ChangeSpec := { name := "snwrapNames", fn := fun _ => fun
  | [] => { results := [.lit (.bool true)], args := [] }
  | _ => none }
def snwrapNamesRow : OpenClaim := { program := "ytbacnaplpfmpnaagreatdoor", sum := "6854229bf952b88d75369fffa9f4cbb6f983baeebef29237dd9f5be6d34bb252", func := "polyglot/polyglotlaw23.SnwrapNames", spec := "snwrapNames", inPlace := ["internal/bytealg.IndexByteString", "internal/bytealg.IndexString", "internal/bytealg.CountString"], unfollowed := true, recurses := true, named := ["unicode/utf8.first", "unicode/utf8.acceptRanges", "internal/bytealg.MaxLen"], apart := false, laid := [("unicode/utf8.acceptRanges", laid_unicode_utf8_acceptRanges), ("unicode/utf8.first", laid_unicode_utf8_first)] }
def SnwrapNamesSaid : Prop := snwrapNamesRow.holds Tryz.pinned (OpenSpec.ofChange snwrapNamesSpec)

/-- ITS FALSE NEIGHBOUR: 'it returns false'. Refute it at one input. -/
def snwrapNamesWrong : ChangeSpec := { name := "snwrapNames", fn := fun _ => fun
  | [] => { results := [.lit (.bool false)], args := [] }
  | _ => none }
def SnwrapNamesWrongFalsely : Prop := snwrapNamesRow.holds Tryz.pinned (OpenSpec.ofChange snwrapNamesWrong)

/-- 'polyglotlaw23.SnwrapCalls': WHATEVER THE INPUT: true; the input reads as it did. -/
def snwrapCallsSpec : ChangeSpec := { name := "snwrapCalls", fn := fun _ => fun
  | [d1, d2, d3, d4, d5] => { results := [.lit (.bool true)], args := [d1, d2, d3, d4, d5] }
  | _ => none }
def snwrapCallsRow : OpenClaim := { program := "ytbacnaplpfmpnaagreatdoor", sum := "6854229bf952b88d75369fffa9f4cbb6f983baeebef29237dd9f5be6d34bb252", func := "polyglot/polyglotlaw23.SnwrapCalls", spec := "snwrapCalls", inPlace := ["internal/bytealg.IndexByteString", "internal/bytealg.IndexString", "internal/bytealg.CountString"], unfollowed := true, recurses := true, named := ["unicode/utf8.first", "unicode/utf8.acceptRanges", "internal/bytealg.MaxLen"], apart := false, laid := [("unicode/utf8.acceptRanges", laid_unicode_utf8_acceptRanges), ("unicode/utf8.first", laid_unicode_utf8_first)] }
def SnwrapCallsSaid : Prop := snwrapCallsRow.holds Tryz.pinned (OpenSpec.ofChange snwrapCallsSpec)

/-- ITS FALSE NEIGHBOUR: 'it returns false'. Refute it at one input. -/
def snwrapCallsWrong : ChangeSpec := { name := "snwrapCalls", fn := fun _ => fun
  | [d1, d2, d3, d4, d5] => { results := [.lit (.bool false)], args := [d1, d2, d3, d4, d5] }
  | _ => none }
def SnwrapCallsWrongFalsely : Prop := snwrapCallsRow.holds Tryz.pinned (OpenSpec.ofChange snwrapCallsWrong)

/- THE SECOND FORM. 'bulk': how many values and letters a reading holds, each counted each time it is reached (what is shared counts as often as it is met; a slice's spare places count too). A statement '..UptoSaid' is the law's where the arguments, and the package variables that the reading takes, are together of bulk at most 1048576: NARROWER than '..Said'. Prove '..Said' where nothing that the law and all that it calls make is longer than what came in: it says more and counts as full. Else prove '..UptoSaid'. A law counts once. -/
mutual
def uptoBulk {H : Type} : DataW H → Nat
  | .lit (.string bytes) => bytes.length + 1
  | .lit _ => 1
  | .nil => 1
  | .ptr d => uptoBulk d + 1
  | .slice elems spare => uptoBulkAll elems + uptoBulkAll spare + 1
  | .agg parts => uptoBulkAll parts + 1
  | .iface _ d => uptoBulk d + 1
  | .map entries => uptoBulkEntries entries + 1
  | .held _ => 1
def uptoBulkAll {H : Type} : List (DataW H) → Nat
  | [] => 0
  | d :: r => uptoBulk d + uptoBulkAll r
def uptoBulkEntries {H : Type} : List (Lit × DataW H) → Nat
  | [] => 0
  | x :: r => uptoBulkEntry x + uptoBulkEntries r
def uptoBulkEntry {H : Type} : Lit × DataW H → Nat
  | (.string bytes, d) => bytes.length + uptoBulk d + 1
  | (_, d) => uptoBulk d + 1
 end
def uptoSmall : (H : Type) → List (DataW H) → Bool := fun _ ds => decide (uptoBulkAll ds ≤ 1048576)
def OpenSpec.upto (s : _root_.Go.ChangeSpec) : _root_.Go.OpenSpec := { _root_.Go.OpenSpec.ofChange s with cond := some uptoSmall }

/-- 'polyglotlaw22.SnmsgCalls', WHERE WHAT IT READS IS OF BULK AT MOST 1048576: true; the input reads as it did. -/
def snmsgCallsUptoRow : OpenClaim := { program := "ytbacnaplpfmpnaagreatdoor", sum := "6854229bf952b88d75369fffa9f4cbb6f983baeebef29237dd9f5be6d34bb252", func := "polyglot/polyglotlaw22.SnmsgCalls", spec := "snmsgCalls", inPlace := ["internal/bytealg.IndexByteString", "internal/bytealg.IndexString", "internal/bytealg.CountString"], unfollowed := true, recurses := true, named := ["unicode/utf8.first", "unicode/utf8.acceptRanges", "internal/bytealg.MaxLen"], apart := false, laid := [("unicode/utf8.acceptRanges", laid_unicode_utf8_acceptRanges), ("unicode/utf8.first", laid_unicode_utf8_first)], narrowed := true }
def SnmsgCallsUptoSaid : Prop := snmsgCallsUptoRow.holds Tryz.pinned (OpenSpec.upto snmsgCallsSpec)

/-- 'polyglotlaw23.SnwrapHops', WHERE WHAT IT READS IS OF BULK AT MOST 1048576: true; the input reads as it did. -/
def snwrapHopsUptoRow : OpenClaim := { program := "ytbacnaplpfmpnaagreatdoor", sum := "6854229bf952b88d75369fffa9f4cbb6f983baeebef29237dd9f5be6d34bb252", func := "polyglot/polyglotlaw23.SnwrapHops", spec := "snwrapHops", inPlace := ["internal/bytealg.IndexByteString", "internal/bytealg.IndexString", "internal/bytealg.CountString"], unfollowed := true, recurses := true, named := ["unicode/utf8.first", "unicode/utf8.acceptRanges", "internal/bytealg.MaxLen"], apart := false, laid := [("unicode/utf8.acceptRanges", laid_unicode_utf8_acceptRanges), ("unicode/utf8.first", laid_unicode_utf8_first)], narrowed := true }
def SnwrapHopsUptoSaid : Prop := snwrapHopsUptoRow.holds Tryz.pinned (OpenSpec.upto snwrapHopsSpec)

/-- 'polyglotlaw23.SnwrapCuts', WHERE WHAT IT READS IS OF BULK AT MOST 1048576: true; the input reads as it did. -/
def snwrapCutsUptoRow : OpenClaim := { program := "ytbacnaplpfmpnaagreatdoor", sum := "6854229bf952b88d75369fffa9f4cbb6f983baeebef29237dd9f5be6d34bb252", func := "polyglot/polyglotlaw23.SnwrapCuts", spec := "snwrapCuts", inPlace := ["internal/bytealg.IndexByteString", "internal/bytealg.IndexString", "internal/bytealg.CountString"], unfollowed := true, recurses := true, named := ["unicode/utf8.first", "unicode/utf8.acceptRanges", "internal/bytealg.MaxLen"], apart := false, laid := [("unicode/utf8.acceptRanges", laid_unicode_utf8_acceptRanges), ("unicode/utf8.first", laid_unicode_utf8_first)], narrowed := true }
def SnwrapCutsUptoSaid : Prop := snwrapCutsUptoRow.holds Tryz.pinned (OpenSpec.upto snwrapCutsSpec)

/-- 'polyglotlaw23.SnwrapNames', WHERE WHAT IT READS IS OF BULK AT MOST 1048576: true; the input reads as it did. -/
def snwrapNamesUptoRow : OpenClaim := { program := "ytbacnaplpfmpnaagreatdoor", sum := "6854229bf952b88d75369fffa9f4cbb6f983baeebef29237dd9f5be6d34bb252", func := "polyglot/polyglotlaw23.SnwrapNames", spec := "snwrapNames", inPlace := ["internal/bytealg.IndexByteString", "internal/bytealg.IndexString", "internal/bytealg.CountString"], unfollowed := true, recurses := true, named := ["unicode/utf8.first", "unicode/utf8.acceptRanges", "internal/bytealg.MaxLen"], apart := false, laid := [("unicode/utf8.acceptRanges", laid_unicode_utf8_acceptRanges), ("unicode/utf8.first", laid_unicode_utf8_first)], narrowed := true }
def SnwrapNamesUptoSaid : Prop := snwrapNamesUptoRow.holds Tryz.pinned (OpenSpec.upto snwrapNamesSpec)

/-- 'polyglotlaw23.SnwrapCalls', WHERE WHAT IT READS IS OF BULK AT MOST 1048576: true; the input reads as it did. -/
def snwrapCallsUptoRow : OpenClaim := { program := "ytbacnaplpfmpnaagreatdoor", sum := "6854229bf952b88d75369fffa9f4cbb6f983baeebef29237dd9f5be6d34bb252", func := "polyglot/polyglotlaw23.SnwrapCalls", spec := "snwrapCalls", inPlace := ["internal/bytealg.IndexByteString", "internal/bytealg.IndexString", "internal/bytealg.CountString"], unfollowed := true, recurses := true, named := ["unicode/utf8.first", "unicode/utf8.acceptRanges", "internal/bytealg.MaxLen"], apart := false, laid := [("unicode/utf8.acceptRanges", laid_unicode_utf8_acceptRanges), ("unicode/utf8.first", laid_unicode_utf8_first)], narrowed := true }
def SnwrapCallsUptoSaid : Prop := snwrapCallsUptoRow.holds Tryz.pinned (OpenSpec.upto snwrapCallsSpec)

end Rows
end Go.Proofs.YtbacnaplpfmpnaaGreatDoor
