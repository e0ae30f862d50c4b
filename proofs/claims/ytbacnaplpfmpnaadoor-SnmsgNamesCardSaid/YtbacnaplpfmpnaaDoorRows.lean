/-
  NARROWER THAN 'FOR EVERY INPUT', by the rows' own cells (each row's printed sentence says how): SnmsgUnused: laid · SnmsgTopics: laid · SnmsgKinds: laid · SnmsgBack: laid · SnmsgNames: laid · SnwrapBack: laid.
  DERIVED. THE GIVEN ROWS OF THIS SEAT. 6 by the template 'for every input the law returns true; each argument reads behind the call as it read before'; 0 by the template 'total and deterministic' (their statements: YtbacnaplpfmpnaaDoorTotals.lean).
  GIVEN WITH THE SEED: the statements are not yours to turn. If you find one false, say at which input.
  Laid BY PROGRAM, IN A SANDBOX (cutbox-rows.mjs): the forced cells as the released guide's own fill.sh prints them over the translation 05000fc0bc3d8d32… (all of the seat's roots in one cut). By AI agents, Wed Nov 11 2026. No macro, syntax, notation, axiom, sorry.
-/
import Derived.Test.YtbacnaplpfmpnaaDoorChecked
import GoSem.PinnedTables
import GoSem.Claim
import GoSem.ClaimJoined
import GoSem.ClaimMapViews
import Derived.JoinedTies
import Derived.KernelRfl
namespace Go.Proofs.YtbacnaplpfmpnaaDoor
/- THE CELL 'sum', in the pinned program and in every row, IS THE sha256 OF THE DUMP (.gsa) THAT YtbacnaplpfmpnaaDoorProg.lean LOADS. Nothing in Lean hashes anything: it is a label: what it is worth is what the hold of that sum in a sandbox is worth. -/
noncomputable def Tryd.pinned : Pinned := { name := "ytbacnaplpfmpnaadoor", sum := "05000fc0bc3d8d32398a8a6217c10700208e21623751f9e000700539e587e543", checked := Tryd.checked }
namespace Rows
def none {H : Type} : Left H := { results := [], args := [] }

/- WHAT THE LISTED PACKAGE-LEVEL VARIABLES READ AS WHEN THE CALL BEGINS. Each datum BY PROGRAM (the guide's laid-datum.mjs) off the statement by which the dump's own 'gosem.cut.vars' lays the variable. In a bare row this is a premise. The card (YtbacnaplpfmpnaaDoorCards.lean) ties it to the program's text. -/
def laid_unicode_utf8_acceptRanges {H : Type} : DataW H := .agg [.agg [.lit (.int .u8 128), .lit (.int .u8 191)], .agg [.lit (.int .u8 160), .lit (.int .u8 191)], .agg [.lit (.int .u8 128), .lit (.int .u8 159)], .agg [.lit (.int .u8 144), .lit (.int .u8 191)], .agg [.lit (.int .u8 128), .lit (.int .u8 143)], .agg [.lit (.int .u8 0), .lit (.int .u8 0)], .agg [.lit (.int .u8 0), .lit (.int .u8 0)], .agg [.lit (.int .u8 0), .lit (.int .u8 0)], .agg [.lit (.int .u8 0), .lit (.int .u8 0)], .agg [.lit (.int .u8 0), .lit (.int .u8 0)], .agg [.lit (.int .u8 0), .lit (.int .u8 0)], .agg [.lit (.int .u8 0), .lit (.int .u8 0)], .agg [.lit (.int .u8 0), .lit (.int .u8 0)], .agg [.lit (.int .u8 0), .lit (.int .u8 0)], .agg [.lit (.int .u8 0), .lit (.int .u8 0)], .agg [.lit (.int .u8 0), .lit (.int .u8 0)]]
/-- One of Go's own tables, pinned by name: the form's constant. -/
def laid_unicode_utf8_first : DataW Unit := Go.Pinned.utf8First

/-- 'polyglotlaw22.SnmsgUnused': WHATEVER THE INPUT: true; the input reads as it did. -/
def snmsgUnusedSpec : ChangeSpec := { name := "snmsgUnused", fn := fun _ => fun
  | [d] => { results := [.lit (.bool true)], args := [d] }
  | _ => none }
def snmsgUnusedRow : OpenClaim := { program := "ytbacnaplpfmpnaadoor", sum := "05000fc0bc3d8d32398a8a6217c10700208e21623751f9e000700539e587e543", func := "polyglot/polyglotlaw22.SnmsgUnused", spec := "snmsgUnused", inPlace := ["internal/bytealg.IndexByteString", "internal/bytealg.IndexString", "internal/bytealg.CountString"], unfollowed := true, recurses := true, named := ["unicode/utf8.first", "unicode/utf8.acceptRanges", "internal/bytealg.MaxLen"], apart := false, laid := [("unicode/utf8.acceptRanges", laid_unicode_utf8_acceptRanges), ("unicode/utf8.first", laid_unicode_utf8_first)] }
def SnmsgUnusedSaid : Prop := snmsgUnusedRow.holds Tryd.pinned (OpenSpec.ofChange snmsgUnusedSpec)

/-- ITS FALSE NEIGHBOUR: 'it returns false'. Refute it at one input. -/
def snmsgUnusedWrong : ChangeSpec := { name := "snmsgUnused", fn := fun _ => fun
  | [d] => { results := [.lit (.bool false)], args := [d] }
  | _ => none }
def SnmsgUnusedWrongFalsely : Prop := snmsgUnusedRow.holds Tryd.pinned (OpenSpec.ofChange snmsgUnusedWrong)

/-- 'polyglotlaw22.SnmsgTopics': WHATEVER THE INPUT: true; the input reads as it did. -/
def snmsgTopicsSpec : ChangeSpec := { name := "snmsgTopics", fn := fun _ => fun
  | [d1, d2, d3, d4] => { results := [.lit (.bool true)], args := [d1, d2, d3, d4] }
  | _ => none }
def snmsgTopicsRow : OpenClaim := { program := "ytbacnaplpfmpnaadoor", sum := "05000fc0bc3d8d32398a8a6217c10700208e21623751f9e000700539e587e543", func := "polyglot/polyglotlaw22.SnmsgTopics", spec := "snmsgTopics", inPlace := ["internal/bytealg.IndexByteString", "internal/bytealg.IndexString", "internal/bytealg.CountString"], unfollowed := true, recurses := true, named := ["unicode/utf8.first", "unicode/utf8.acceptRanges", "internal/bytealg.MaxLen"], apart := false, laid := [("unicode/utf8.acceptRanges", laid_unicode_utf8_acceptRanges), ("unicode/utf8.first", laid_unicode_utf8_first)] }
def SnmsgTopicsSaid : Prop := snmsgTopicsRow.holds Tryd.pinned (OpenSpec.ofChange snmsgTopicsSpec)

/-- ITS FALSE NEIGHBOUR: 'it returns false'. Refute it at one input. -/
def snmsgTopicsWrong : ChangeSpec := { name := "snmsgTopics", fn := fun _ => fun
  | [d1, d2, d3, d4] => { results := [.lit (.bool false)], args := [d1, d2, d3, d4] }
  | _ => none }
def SnmsgTopicsWrongFalsely : Prop := snmsgTopicsRow.holds Tryd.pinned (OpenSpec.ofChange snmsgTopicsWrong)

/-- 'polyglotlaw22.SnmsgKinds': WHATEVER THE INPUT: true; the input reads as it did. -/
def snmsgKindsSpec : ChangeSpec := { name := "snmsgKinds", fn := fun _ => fun
  | [d] => { results := [.lit (.bool true)], args := [d] }
  | _ => none }
def snmsgKindsRow : OpenClaim := { program := "ytbacnaplpfmpnaadoor", sum := "05000fc0bc3d8d32398a8a6217c10700208e21623751f9e000700539e587e543", func := "polyglot/polyglotlaw22.SnmsgKinds", spec := "snmsgKinds", inPlace := ["internal/bytealg.IndexByteString", "internal/bytealg.IndexString", "internal/bytealg.CountString"], unfollowed := true, recurses := true, named := ["unicode/utf8.first", "unicode/utf8.acceptRanges", "internal/bytealg.MaxLen"], apart := false, laid := [("unicode/utf8.acceptRanges", laid_unicode_utf8_acceptRanges), ("unicode/utf8.first", laid_unicode_utf8_first)] }
def SnmsgKindsSaid : Prop := snmsgKindsRow.holds Tryd.pinned (OpenSpec.ofChange snmsgKindsSpec)

/-- ITS FALSE NEIGHBOUR: 'it returns false'. Refute it at one input. -/
def snmsgKindsWrong : ChangeSpec := { name := "snmsgKinds", fn := fun _ => fun
  | [d] => { results := [.lit (.bool false)], args := [d] }
  | _ => none }
def SnmsgKindsWrongFalsely : Prop := snmsgKindsRow.holds Tryd.pinned (OpenSpec.ofChange snmsgKindsWrong)

/-- 'polyglotlaw22.SnmsgBack': WHATEVER THE INPUT: true; the input reads as it did. -/
def snmsgBackSpec : ChangeSpec := { name := "snmsgBack", fn := fun _ => fun
  | [d1, d2, d3] => { results := [.lit (.bool true)], args := [d1, d2, d3] }
  | _ => none }
def snmsgBackRow : OpenClaim := { program := "ytbacnaplpfmpnaadoor", sum := "05000fc0bc3d8d32398a8a6217c10700208e21623751f9e000700539e587e543", func := "polyglot/polyglotlaw22.SnmsgBack", spec := "snmsgBack", inPlace := ["internal/bytealg.IndexByteString", "internal/bytealg.IndexString", "internal/bytealg.CountString"], unfollowed := true, recurses := true, named := ["unicode/utf8.first", "unicode/utf8.acceptRanges", "internal/bytealg.MaxLen"], apart := false, laid := [("unicode/utf8.acceptRanges", laid_unicode_utf8_acceptRanges), ("unicode/utf8.first", laid_unicode_utf8_first)] }
def SnmsgBackSaid : Prop := snmsgBackRow.holds Tryd.pinned (OpenSpec.ofChange snmsgBackSpec)

/-- ITS FALSE NEIGHBOUR: 'it returns false'. Refute it at one input. -/
def snmsgBackWrong : ChangeSpec := { name := "snmsgBack", fn := fun _ => fun
  | [d1, d2, d3] => { results := [.lit (.bool false)], args := [d1, d2, d3] }
  | _ => none }
def SnmsgBackWrongFalsely : Prop := snmsgBackRow.holds Tryd.pinned (OpenSpec.ofChange snmsgBackWrong)

/-- 'polyglotlaw22.SnmsgNames': WHATEVER THE INPUT: true; the input reads as it did. -/
def snmsgNamesSpec : ChangeSpec := { name := "snmsgNames", fn := fun _ => fun
  | [] => { results := [.lit (.bool true)], args := [] }
  | _ => none }
def snmsgNamesRow : OpenClaim := { program := "ytbacnaplpfmpnaadoor", sum := "05000fc0bc3d8d32398a8a6217c10700208e21623751f9e000700539e587e543", func := "polyglot/polyglotlaw22.SnmsgNames", spec := "snmsgNames", inPlace := ["internal/bytealg.IndexByteString", "internal/bytealg.IndexString", "internal/bytealg.CountString"], unfollowed := true, recurses := true, named := ["unicode/utf8.first", "unicode/utf8.acceptRanges", "internal/bytealg.MaxLen"], apart := false, laid := [("unicode/utf8.acceptRanges", laid_unicode_utf8_acceptRanges), ("unicode/utf8.first", laid_unicode_utf8_first)] }
def SnmsgNamesSaid : Prop := snmsgNamesRow.holds Tryd.pinned (OpenSpec.ofChange snmsgNamesSpec)

/-- ITS FALSE NEIGHBOUR: 'it returns false'. Refute it at one input. -/
def snmsgNamesWrong : ChangeSpec := { name := "snmsgNames", fn := fun _ => fun
  | [] => { results := [.lit (.bool false)], args := [] }
  | _ => none }
def SnmsgNamesWrongFalsely : Prop := snmsgNamesRow.holds Tryd.pinned (OpenSpec.ofChange snmsgNamesWrong)

/-- 'polyglotlaw23.SnwrapBack': WHATEVER THE INPUT: true; the input reads as it did. -/
def snwrapBackSpec : ChangeSpec := { name := "snwrapBack", fn := fun _ => fun
  | [d1, d2, d3, d4, d5] => { results := [.lit (.bool true)], args := [d1, d2, d3, d4, d5] }
  | _ => none }
def snwrapBackRow : OpenClaim := { program := "ytbacnaplpfmpnaadoor", sum := "05000fc0bc3d8d32398a8a6217c10700208e21623751f9e000700539e587e543", func := "polyglot/polyglotlaw23.SnwrapBack", spec := "snwrapBack", inPlace := ["internal/bytealg.IndexByteString", "internal/bytealg.IndexString", "internal/bytealg.CountString"], unfollowed := true, recurses := true, named := ["unicode/utf8.first", "unicode/utf8.acceptRanges", "internal/bytealg.MaxLen"], apart := false, laid := [("unicode/utf8.acceptRanges", laid_unicode_utf8_acceptRanges), ("unicode/utf8.first", laid_unicode_utf8_first)] }
def SnwrapBackSaid : Prop := snwrapBackRow.holds Tryd.pinned (OpenSpec.ofChange snwrapBackSpec)

/-- ITS FALSE NEIGHBOUR: 'it returns false'. Refute it at one input. -/
def snwrapBackWrong : ChangeSpec := { name := "snwrapBack", fn := fun _ => fun
  | [d1, d2, d3, d4, d5] => { results := [.lit (.bool false)], args := [d1, d2, d3, d4, d5] }
  | _ => none }
def SnwrapBackWrongFalsely : Prop := snwrapBackRow.holds Tryd.pinned (OpenSpec.ofChange snwrapBackWrong)

/- THE SECOND FORM. 'bulk': how many values and letters a reading holds, each counted each time it is reached (what is shared counts as often as it is met; a slice's spare places count too). A statement '..UptoSaid' is the law's where the arguments, and the package variables that the reading takes, are together of bulk at most 1048576: NARROWER than '..Said'. Prove '..Said' where nothing that the law and all that it calls make is longer than what came in: it says more and counts as full. Else prove '..UptoSaid'. A law counts once. -/
mutual
def uptoBulk {H : Type} : DataW H → Nat
  | .lit (.string bytes) => bytes.length + 1
  | .lit _ => 1
  | .nil => 1
  | .ptr d => uptoBulk d + 1
  | .slice elems spare => uptoBulkAll elems + uptoBulkAll spare + 1
  | .agg parts => uptoBulkAll parts + 1
  | .iface _ d => uptoBulk d + 1
  | .map entries => uptoBulkEntries entries + 1
  | .held _ => 1
def uptoBulkAll {H : Type} : List (DataW H) → Nat
  | [] => 0
  | d :: r => uptoBulk d + uptoBulkAll r
def uptoBulkEntries {H : Type} : List (Lit × DataW H) → Nat
  | [] => 0
  | x :: r => uptoBulkEntry x + uptoBulkEntries r
def uptoBulkEntry {H : Type} : Lit × DataW H → Nat
  | (.string bytes, d) => bytes.length + uptoBulk d + 1
  | (_, d) => uptoBulk d + 1
 end
def uptoSmall : (H : Type) → List (DataW H) → Bool := fun _ ds => decide (uptoBulkAll ds ≤ 1048576)
def OpenSpec.upto (s : _root_.Go.ChangeSpec) : _root_.Go.OpenSpec := { _root_.Go.OpenSpec.ofChange s with cond := some uptoSmall }

/-- 'polyglotlaw22.SnmsgUnused', WHERE WHAT IT READS IS OF BULK AT MOST 1048576: true; the input reads as it did. -/
def snmsgUnusedUptoRow : OpenClaim := { program := "ytbacnaplpfmpnaadoor", sum := "05000fc0bc3d8d32398a8a6217c10700208e21623751f9e000700539e587e543", func := "polyglot/polyglotlaw22.SnmsgUnused", spec := "snmsgUnused", inPlace := ["internal/bytealg.IndexByteString", "internal/bytealg.IndexString", "internal/bytealg.CountString"], unfollowed := true, recurses := true, named := ["unicode/utf8.first", "unicode/utf8.acceptRanges", "internal/bytealg.MaxLen"], apart := false, laid := [("unicode/utf8.acceptRanges", laid_unicode_utf8_acceptRanges), ("unicode/utf8.first", laid_unicode_utf8_first)], narrowed := true }
def SnmsgUnusedUptoSaid : Prop := snmsgUnusedUptoRow.holds Tryd.pinned (OpenSpec.upto snmsgUnusedSpec)

/-- 'polyglotlaw22.SnmsgTopics', WHERE WHAT IT READS IS OF BULK AT MOST 1048576: true; the input reads as it did. -/
def snmsgTopicsUptoRow : OpenClaim := { program := "ytbacnaplpfmpnaadoor", sum := "05000fc0bc3d8d32398a8a6217c10700208e21623751f9e000700539e587e543", func := "polyglot/polyglotlaw22.SnmsgTopics", spec := "snmsgTopics", inPlace := ["internal/bytealg.IndexByteString", "internal/bytealg.IndexString", "internal/bytealg.CountString"], unfollowed := true, recurses := true, named := ["unicode/utf8.first", "unicode/utf8.acceptRanges", "internal/bytealg.MaxLen"], apart := false, laid := [("unicode/utf8.acceptRanges", laid_unicode_utf8_acceptRanges), ("unicode/utf8.first", laid_unicode_utf8_first)], narrowed := true }
def SnmsgTopicsUptoSaid : Prop := snmsgTopicsUptoRow.holds Tryd.pinned (OpenSpec.upto snmsgTopicsSpec)

/-- 'polyglotlaw22.SnmsgKinds', WHERE WHAT IT READS IS OF BULK AT MOST 1048576: true; the input reads as it did. -/
def snmsgKindsUptoRow : OpenClaim := { program := "ytbacnaplpfmpnaadoor", sum := "05000fc0bc3d8d32398a8a6217c10700208e21623751f9e000700539e587e543", func := "polyglot/polyglotlaw22.SnmsgKinds", spec := "snmsgKinds", inPlace := ["internal/bytealg.IndexByteString", "internal/bytealg.IndexString", "internal/bytealg.CountString"], unfollowed := true, recurses := true, named := ["unicode/utf8.first", "unicode/utf8.acceptRanges", "internal/bytealg.MaxLen"], apart := false, laid := [("unicode/utf8.acceptRanges", laid_unicode_utf8_acceptRanges), ("unicode/utf8.first", laid_unicode_utf8_first)], narrowed := true }
def SnmsgKindsUptoSaid : Prop := snmsgKindsUptoRow.holds Tryd.pinned (OpenSpec.upto snmsgKindsSpec)

/-- 'polyglotlaw22.SnmsgBack', WHERE WHAT IT READS IS OF BULK AT MOST 1048576: true; the input reads as it did. -/
def snmsgBackUptoRow : OpenClaim := { program := "ytbacnaplpfmpnaadoor", sum := "05000fc0bc3d8d32398a8a6217c10700208e21623751f9e000700539e587e543", func := "polyglot/polyglotlaw22.SnmsgBack", spec := "snmsgBack", inPlace := ["internal/bytealg.IndexByteString", "internal/bytealg.IndexString", "internal/bytealg.CountString"], unfollowed := true, recurses := true, named := ["unicode/utf8.first", "unicode/utf8.acceptRanges", "internal/bytealg.MaxLen"], apart := false, laid := [("unicode/utf8.acceptRanges", laid_unicode_utf8_acceptRanges), ("unicode/utf8.first", laid_unicode_utf8_first)], narrowed := true }
def SnmsgBackUptoSaid : Prop := snmsgBackUptoRow.holds Tryd.pinned (OpenSpec.upto snmsgBackSpec)

/-- 'polyglotlaw22.SnmsgNames', WHERE WHAT IT READS IS OF BULK AT MOST 1048576: true; the input reads as it did. -/
def snmsgNamesUptoRow : OpenClaim := { program := "ytbacnaplpfmpnaadoor", sum := "05000fc0bc3d8d32398a8a6217c10700208e21623751f9e000700539e587e543", func := "polyglot/polyglotlaw22.SnmsgNames", spec := "snmsgNames", inPlace := ["internal/bytealg.IndexByteString", "internal/bytealg.IndexString", "internal/bytealg.CountString"], unfollowed := true, recurses := true, named := ["unicode/utf8.first", "unicode/utf8.acceptRanges", "internal/bytealg.MaxLen"], apart := false, laid := [("unicode/utf8.acceptRanges", laid_unicode_utf8_acceptRanges), ("unicode/utf8.first", laid_unicode_utf8_first)], narrowed := true }
def SnmsgNamesUptoSaid : Prop := snmsgNamesUptoRow.holds Tryd.pinned (OpenSpec.upto snmsgNamesSpec)

/-- 'polyglotlaw23.SnwrapBack', WHERE WHAT IT READS IS OF BULK AT MOST 1048576: true; the input reads as it did. -/
def snwrapBackUptoRow : OpenClaim := { program := "ytbacnaplpfmpnaadoor", sum := "05000fc0bc3d8d32398a8a6217c10700208e21623751f9e000700539e587e543", func := "polyglot/polyglotlaw23.SnwrapBack", spec := "snwrapBack", inPlace := ["internal/bytealg.IndexByteString", "internal/bytealg.IndexString", "internal/bytealg.CountString"], unfollowed := true, recurses := true, named := ["unicode/utf8.first", "unicode/utf8.acceptRanges", "internal/bytealg.MaxLen"], apart := false, laid := [("unicode/utf8.acceptRanges", laid_unicode_utf8_acceptRanges), ("unicode/utf8.first", laid_unicode_utf8_first)], narrowed := true }
def SnwrapBackUptoSaid : Prop := snwrapBackUptoRow.holds Tryd.pinned (OpenSpec.upto snwrapBackSpec)

end Rows
end Go.Proofs.YtbacnaplpfmpnaaDoor
