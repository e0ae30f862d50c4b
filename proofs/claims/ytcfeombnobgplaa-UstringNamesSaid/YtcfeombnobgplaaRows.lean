/-
  No cell of these rows narrows 'for every input' (looked for: loops, veiled, ifaces, maps, wideKeys, modest, calm, conditions, laid).
  DERIVED. THE GIVEN ROWS OF THIS SEAT. 14 by the template 'for every input the law returns true; each argument reads behind the call as it read before'; 0 by the template 'total and deterministic' (their statements: YtcfeombnobgplaaTotals.lean).
  GIVEN WITH THE SEED: the statements are not yours to turn. If you find one false, say at which input.
  Laid BY PROGRAM, IN A SANDBOX (cutbox-rows.mjs): the forced cells as the released guide's own fill.sh prints them over the translation 95ff566948ef30a1… (all of the seat's roots in one cut). By AI agents, Wed Nov 11 2026. No macro, syntax, notation, axiom, sorry.
-/
import Derived.Test.YtcfeombnobgplaaChecked
import GoSem.Claim
import GoSem.ClaimJoined
import GoSem.ClaimMapViews
import Derived.JoinedTies
import Derived.KernelRfl
namespace Go.Proofs.Ytcfeombnobgplaa
/- THE CELL 'sum', in the pinned program and in every row, IS THE sha256 OF THE DUMP (.gsa) THAT YtcfeombnobgplaaProg.lean LOADS. Nothing in Lean hashes anything: it is a label: what it is worth is what the hold of that sum in a sandbox is worth. -/
noncomputable def Try.pinned : Pinned := { name := "ytcfeombnobgplaa", sum := "95ff566948ef30a1d5a2eb848d9210ddab1df3ea880b449f0ce33fdf1fac4e60", checked := Try.checked }
namespace Rows
def none {H : Type} : Left H := { results := [], args := [] }

/-- 'polyglotlaw01.OctetBack': WHATEVER THE INPUT: true; the input reads as it did. -/
def octetBackSpec : ChangeSpec := { name := "octetBack", fn := fun _ => fun
  | [d1, d2, d3, d4] => { results := [.lit (.bool true)], args := [d1, d2, d3, d4] }
  | _ => none }
def octetBackRow : OpenClaim := { program := "ytcfeombnobgplaa", sum := "95ff566948ef30a1d5a2eb848d9210ddab1df3ea880b449f0ce33fdf1fac4e60", func := "polyglot/polyglotlaw01.OctetBack", spec := "octetBack", apart := false }
def OctetBackSaid : Prop := octetBackRow.holds Try.pinned (OpenSpec.ofChange octetBackSpec)

/-- ITS FALSE NEIGHBOUR: 'it returns false'. Refute it at one input. -/
def octetBackWrong : ChangeSpec := { name := "octetBack", fn := fun _ => fun
  | [d1, d2, d3, d4] => { results := [.lit (.bool false)], args := [d1, d2, d3, d4] }
  | _ => none }
def OctetBackWrongFalsely : Prop := octetBackRow.holds Try.pinned (OpenSpec.ofChange octetBackWrong)

/-- 'polyglotlaw03.UstringJoins': WHATEVER THE INPUT: true; the input reads as it did. -/
def ustringJoinsSpec : ChangeSpec := { name := "ustringJoins", fn := fun _ => fun
  | [d1, d2] => { results := [.lit (.bool true)], args := [d1, d2] }
  | _ => none }
def ustringJoinsRow : OpenClaim := { program := "ytcfeombnobgplaa", sum := "95ff566948ef30a1d5a2eb848d9210ddab1df3ea880b449f0ce33fdf1fac4e60", func := "polyglot/polyglotlaw03.UstringJoins", spec := "ustringJoins", apart := false }
def UstringJoinsSaid : Prop := ustringJoinsRow.holds Try.pinned (OpenSpec.ofChange ustringJoinsSpec)

/-- ITS FALSE NEIGHBOUR: 'it returns false'. Refute it at one input. -/
def ustringJoinsWrong : ChangeSpec := { name := "ustringJoins", fn := fun _ => fun
  | [d1, d2] => { results := [.lit (.bool false)], args := [d1, d2] }
  | _ => none }
def UstringJoinsWrongFalsely : Prop := ustringJoinsRow.holds Try.pinned (OpenSpec.ofChange ustringJoinsWrong)

/-- 'polyglotlaw02.VarintPushes': WHATEVER THE INPUT: true; the input reads as it did. -/
def varintPushesSpec : ChangeSpec := { name := "varintPushes", fn := fun _ => fun
  | [d1, d2] => { results := [.lit (.bool true)], args := [d1, d2] }
  | _ => none }
def varintPushesRow : OpenClaim := { program := "ytcfeombnobgplaa", sum := "95ff566948ef30a1d5a2eb848d9210ddab1df3ea880b449f0ce33fdf1fac4e60", func := "polyglot/polyglotlaw02.VarintPushes", spec := "varintPushes", apart := false }
def VarintPushesSaid : Prop := varintPushesRow.holds Try.pinned (OpenSpec.ofChange varintPushesSpec)

/-- ITS FALSE NEIGHBOUR: 'it returns false'. Refute it at one input. -/
def varintPushesWrong : ChangeSpec := { name := "varintPushes", fn := fun _ => fun
  | [d1, d2] => { results := [.lit (.bool false)], args := [d1, d2] }
  | _ => none }
def VarintPushesWrongFalsely : Prop := varintPushesRow.holds Try.pinned (OpenSpec.ofChange varintPushesWrong)

/-- 'polyglotlaw03.UstringHalves': WHATEVER THE INPUT: true; the input reads as it did. -/
def ustringHalvesSpec : ChangeSpec := { name := "ustringHalves", fn := fun _ => fun
  | [d1, d2] => { results := [.lit (.bool true)], args := [d1, d2] }
  | _ => none }
def ustringHalvesRow : OpenClaim := { program := "ytcfeombnobgplaa", sum := "95ff566948ef30a1d5a2eb848d9210ddab1df3ea880b449f0ce33fdf1fac4e60", func := "polyglot/polyglotlaw03.UstringHalves", spec := "ustringHalves", unfollowed := true, recurses := true, apart := false }
def UstringHalvesSaid : Prop := ustringHalvesRow.holds Try.pinned (OpenSpec.ofChange ustringHalvesSpec)

/-- ITS FALSE NEIGHBOUR: 'it returns false'. Refute it at one input. -/
def ustringHalvesWrong : ChangeSpec := { name := "ustringHalves", fn := fun _ => fun
  | [d1, d2] => { results := [.lit (.bool false)], args := [d1, d2] }
  | _ => none }
def UstringHalvesWrongFalsely : Prop := ustringHalvesRow.holds Try.pinned (OpenSpec.ofChange ustringHalvesWrong)

/-- 'polyglotlaw02.VarintCalls': WHATEVER THE INPUT: true; the input reads as it did. -/
def varintCallsSpec : ChangeSpec := { name := "varintCalls", fn := fun _ => fun
  | [d1, d2] => { results := [.lit (.bool true)], args := [d1, d2] }
  | _ => none }
def varintCallsRow : OpenClaim := { program := "ytcfeombnobgplaa", sum := "95ff566948ef30a1d5a2eb848d9210ddab1df3ea880b449f0ce33fdf1fac4e60", func := "polyglot/polyglotlaw02.VarintCalls", spec := "varintCalls", apart := false }
def VarintCallsSaid : Prop := varintCallsRow.holds Try.pinned (OpenSpec.ofChange varintCallsSpec)

/-- ITS FALSE NEIGHBOUR: 'it returns false'. Refute it at one input. -/
def varintCallsWrong : ChangeSpec := { name := "varintCalls", fn := fun _ => fun
  | [d1, d2] => { results := [.lit (.bool false)], args := [d1, d2] }
  | _ => none }
def VarintCallsWrongFalsely : Prop := varintCallsRow.holds Try.pinned (OpenSpec.ofChange varintCallsWrong)

/-- 'polyglotlaw02.VarintBack': WHATEVER THE INPUT: true; the input reads as it did. -/
def varintBackSpec : ChangeSpec := { name := "varintBack", fn := fun _ => fun
  | [d1, d2, d3] => { results := [.lit (.bool true)], args := [d1, d2, d3] }
  | _ => none }
def varintBackRow : OpenClaim := { program := "ytcfeombnobgplaa", sum := "95ff566948ef30a1d5a2eb848d9210ddab1df3ea880b449f0ce33fdf1fac4e60", func := "polyglot/polyglotlaw02.VarintBack", spec := "varintBack", apart := false }
def VarintBackSaid : Prop := varintBackRow.holds Try.pinned (OpenSpec.ofChange varintBackSpec)

/-- ITS FALSE NEIGHBOUR: 'it returns false'. Refute it at one input. -/
def varintBackWrong : ChangeSpec := { name := "varintBack", fn := fun _ => fun
  | [d1, d2, d3] => { results := [.lit (.bool false)], args := [d1, d2, d3] }
  | _ => none }
def VarintBackWrongFalsely : Prop := varintBackRow.holds Try.pinned (OpenSpec.ofChange varintBackWrong)

/-- 'polyglotlaw02.VarintFronts': WHATEVER THE INPUT: true; the input reads as it did. -/
def varintFrontsSpec : ChangeSpec := { name := "varintFronts", fn := fun _ => fun
  | [d1, d2] => { results := [.lit (.bool true)], args := [d1, d2] }
  | _ => none }
def varintFrontsRow : OpenClaim := { program := "ytcfeombnobgplaa", sum := "95ff566948ef30a1d5a2eb848d9210ddab1df3ea880b449f0ce33fdf1fac4e60", func := "polyglot/polyglotlaw02.VarintFronts", spec := "varintFronts", apart := false }
def VarintFrontsSaid : Prop := varintFrontsRow.holds Try.pinned (OpenSpec.ofChange varintFrontsSpec)

/-- ITS FALSE NEIGHBOUR: 'it returns false'. Refute it at one input. -/
def varintFrontsWrong : ChangeSpec := { name := "varintFronts", fn := fun _ => fun
  | [d1, d2] => { results := [.lit (.bool false)], args := [d1, d2] }
  | _ => none }
def VarintFrontsWrongFalsely : Prop := varintFrontsRow.holds Try.pinned (OpenSpec.ofChange varintFrontsWrong)

/-- 'polyglotlaw01.OctetParts': WHATEVER THE INPUT: true; the input reads as it did. -/
def octetPartsSpec : ChangeSpec := { name := "octetParts", fn := fun _ => fun
  | [d1, d2] => { results := [.lit (.bool true)], args := [d1, d2] }
  | _ => none }
def octetPartsRow : OpenClaim := { program := "ytcfeombnobgplaa", sum := "95ff566948ef30a1d5a2eb848d9210ddab1df3ea880b449f0ce33fdf1fac4e60", func := "polyglot/polyglotlaw01.OctetParts", spec := "octetParts", apart := false }
def OctetPartsSaid : Prop := octetPartsRow.holds Try.pinned (OpenSpec.ofChange octetPartsSpec)

/-- ITS FALSE NEIGHBOUR: 'it returns false'. Refute it at one input. -/
def octetPartsWrong : ChangeSpec := { name := "octetParts", fn := fun _ => fun
  | [d1, d2] => { results := [.lit (.bool false)], args := [d1, d2] }
  | _ => none }
def OctetPartsWrongFalsely : Prop := octetPartsRow.holds Try.pinned (OpenSpec.ofChange octetPartsWrong)

/-- 'polyglotlaw01.OctetNames': WHATEVER THE INPUT: true; the input reads as it did. -/
def octetNamesSpec : ChangeSpec := { name := "octetNames", fn := fun _ => fun
  | [] => { results := [.lit (.bool true)], args := [] }
  | _ => none }
def octetNamesRow : OpenClaim := { program := "ytcfeombnobgplaa", sum := "95ff566948ef30a1d5a2eb848d9210ddab1df3ea880b449f0ce33fdf1fac4e60", func := "polyglot/polyglotlaw01.OctetNames", spec := "octetNames", apart := false }
def OctetNamesSaid : Prop := octetNamesRow.holds Try.pinned (OpenSpec.ofChange octetNamesSpec)

/-- ITS FALSE NEIGHBOUR: 'it returns false'. Refute it at one input. -/
def octetNamesWrong : ChangeSpec := { name := "octetNames", fn := fun _ => fun
  | [] => { results := [.lit (.bool false)], args := [] }
  | _ => none }
def OctetNamesWrongFalsely : Prop := octetNamesRow.holds Try.pinned (OpenSpec.ofChange octetNamesWrong)

/-- 'polyglotlaw01.OctetScript': WHATEVER THE INPUT: true; the input reads as it did. -/
def octetScriptSpec : ChangeSpec := { name := "octetScript", fn := fun _ => fun
  | [d1, d2] => { results := [.lit (.bool true)], args := [d1, d2] }
  | _ => none }
def octetScriptRow : OpenClaim := { program := "ytcfeombnobgplaa", sum := "95ff566948ef30a1d5a2eb848d9210ddab1df3ea880b449f0ce33fdf1fac4e60", func := "polyglot/polyglotlaw01.OctetScript", spec := "octetScript", apart := false }
def OctetScriptSaid : Prop := octetScriptRow.holds Try.pinned (OpenSpec.ofChange octetScriptSpec)

/-- ITS FALSE NEIGHBOUR: 'it returns false'. Refute it at one input. -/
def octetScriptWrong : ChangeSpec := { name := "octetScript", fn := fun _ => fun
  | [d1, d2] => { results := [.lit (.bool false)], args := [d1, d2] }
  | _ => none }
def OctetScriptWrongFalsely : Prop := octetScriptRow.holds Try.pinned (OpenSpec.ofChange octetScriptWrong)

/-- 'polyglotlaw02.VarintNames': WHATEVER THE INPUT: true; the input reads as it did. -/
def varintNamesSpec : ChangeSpec := { name := "varintNames", fn := fun _ => fun
  | [] => { results := [.lit (.bool true)], args := [] }
  | _ => none }
def varintNamesRow : OpenClaim := { program := "ytcfeombnobgplaa", sum := "95ff566948ef30a1d5a2eb848d9210ddab1df3ea880b449f0ce33fdf1fac4e60", func := "polyglot/polyglotlaw02.VarintNames", spec := "varintNames", apart := false }
def VarintNamesSaid : Prop := varintNamesRow.holds Try.pinned (OpenSpec.ofChange varintNamesSpec)

/-- ITS FALSE NEIGHBOUR: 'it returns false'. Refute it at one input. -/
def varintNamesWrong : ChangeSpec := { name := "varintNames", fn := fun _ => fun
  | [] => { results := [.lit (.bool false)], args := [] }
  | _ => none }
def VarintNamesWrongFalsely : Prop := varintNamesRow.holds Try.pinned (OpenSpec.ofChange varintNamesWrong)

/-- 'polyglotlaw03.UstringBack': WHATEVER THE INPUT: true; the input reads as it did. -/
def ustringBackSpec : ChangeSpec := { name := "ustringBack", fn := fun _ => fun
  | [d1, d2, d3] => { results := [.lit (.bool true)], args := [d1, d2, d3] }
  | _ => none }
def ustringBackRow : OpenClaim := { program := "ytcfeombnobgplaa", sum := "95ff566948ef30a1d5a2eb848d9210ddab1df3ea880b449f0ce33fdf1fac4e60", func := "polyglot/polyglotlaw03.UstringBack", spec := "ustringBack", apart := false }
def UstringBackSaid : Prop := ustringBackRow.holds Try.pinned (OpenSpec.ofChange ustringBackSpec)

/-- ITS FALSE NEIGHBOUR: 'it returns false'. Refute it at one input. -/
def ustringBackWrong : ChangeSpec := { name := "ustringBack", fn := fun _ => fun
  | [d1, d2, d3] => { results := [.lit (.bool false)], args := [d1, d2, d3] }
  | _ => none }
def UstringBackWrongFalsely : Prop := ustringBackRow.holds Try.pinned (OpenSpec.ofChange ustringBackWrong)

/-- 'polyglotlaw03.UstringNames': WHATEVER THE INPUT: true; the input reads as it did. -/
def ustringNamesSpec : ChangeSpec := { name := "ustringNames", fn := fun _ => fun
  | [] => { results := [.lit (.bool true)], args := [] }
  | _ => none }
def ustringNamesRow : OpenClaim := { program := "ytcfeombnobgplaa", sum := "95ff566948ef30a1d5a2eb848d9210ddab1df3ea880b449f0ce33fdf1fac4e60", func := "polyglot/polyglotlaw03.UstringNames", spec := "ustringNames", unfollowed := true, recurses := true, apart := false }
def UstringNamesSaid : Prop := ustringNamesRow.holds Try.pinned (OpenSpec.ofChange ustringNamesSpec)

/-- ITS FALSE NEIGHBOUR: 'it returns false'. Refute it at one input. -/
def ustringNamesWrong : ChangeSpec := { name := "ustringNames", fn := fun _ => fun
  | [] => { results := [.lit (.bool false)], args := [] }
  | _ => none }
def UstringNamesWrongFalsely : Prop := ustringNamesRow.holds Try.pinned (OpenSpec.ofChange ustringNamesWrong)

/-- 'polyglotlaw03.UstringCalls': WHATEVER THE INPUT: true; the input reads as it did. -/
def ustringCallsSpec : ChangeSpec := { name := "ustringCalls", fn := fun _ => fun
  | [d1, d2] => { results := [.lit (.bool true)], args := [d1, d2] }
  | _ => none }
def ustringCallsRow : OpenClaim := { program := "ytcfeombnobgplaa", sum := "95ff566948ef30a1d5a2eb848d9210ddab1df3ea880b449f0ce33fdf1fac4e60", func := "polyglot/polyglotlaw03.UstringCalls", spec := "ustringCalls", unfollowed := true, recurses := true, apart := false }
def UstringCallsSaid : Prop := ustringCallsRow.holds Try.pinned (OpenSpec.ofChange ustringCallsSpec)

/-- ITS FALSE NEIGHBOUR: 'it returns false'. Refute it at one input. -/
def ustringCallsWrong : ChangeSpec := { name := "ustringCalls", fn := fun _ => fun
  | [d1, d2] => { results := [.lit (.bool false)], args := [d1, d2] }
  | _ => none }
def UstringCallsWrongFalsely : Prop := ustringCallsRow.holds Try.pinned (OpenSpec.ofChange ustringCallsWrong)

/- THE SECOND FORM. 'bulk': how many values and letters a reading holds, each counted each time it is reached (what is shared counts as often as it is met; a slice's spare places count too). A statement '..UptoSaid' is the law's where the arguments, and the package variables that the reading takes, are together of bulk at most 1048576: NARROWER than '..Said'. Prove '..Said' where nothing that the law and all that it calls make is longer than what came in: it says more and counts as full. Else prove '..UptoSaid'. A law counts once. -/
mutual
def uptoBulk {H : Type} : DataW H → Nat
  | .lit (.string bytes) => bytes.length + 1
  | .lit _ => 1
  | .nil => 1
  | .ptr d => uptoBulk d + 1
  | .slice elems spare => uptoBulkAll elems + uptoBulkAll spare + 1
  | .agg parts => uptoBulkAll parts + 1
  | .iface _ d => uptoBulk d + 1
  | .map entries => uptoBulkEntries entries + 1
  | .held _ => 1
def uptoBulkAll {H : Type} : List (DataW H) → Nat
  | [] => 0
  | d :: r => uptoBulk d + uptoBulkAll r
def uptoBulkEntries {H : Type} : List (Lit × DataW H) → Nat
  | [] => 0
  | x :: r => uptoBulkEntry x + uptoBulkEntries r
def uptoBulkEntry {H : Type} : Lit × DataW H → Nat
  | (.string bytes, d) => bytes.length + uptoBulk d + 1
  | (_, d) => uptoBulk d + 1
 end
def uptoSmall : (H : Type) → List (DataW H) → Bool := fun _ ds => decide (uptoBulkAll ds ≤ 1048576)
def OpenSpec.upto (s : _root_.Go.ChangeSpec) : _root_.Go.OpenSpec := { _root_.Go.OpenSpec.ofChange s with cond := some uptoSmall }

/-- 'polyglotlaw01.OctetBack', WHERE WHAT IT READS IS OF BULK AT MOST 1048576: true; the input reads as it did. -/
def octetBackUptoRow : OpenClaim := { program := "ytcfeombnobgplaa", sum := "95ff566948ef30a1d5a2eb848d9210ddab1df3ea880b449f0ce33fdf1fac4e60", func := "polyglot/polyglotlaw01.OctetBack", spec := "octetBack", apart := false, narrowed := true }
def OctetBackUptoSaid : Prop := octetBackUptoRow.holds Try.pinned (OpenSpec.upto octetBackSpec)

/-- 'polyglotlaw03.UstringJoins', WHERE WHAT IT READS IS OF BULK AT MOST 1048576: true; the input reads as it did. -/
def ustringJoinsUptoRow : OpenClaim := { program := "ytcfeombnobgplaa", sum := "95ff566948ef30a1d5a2eb848d9210ddab1df3ea880b449f0ce33fdf1fac4e60", func := "polyglot/polyglotlaw03.UstringJoins", spec := "ustringJoins", apart := false, narrowed := true }
def UstringJoinsUptoSaid : Prop := ustringJoinsUptoRow.holds Try.pinned (OpenSpec.upto ustringJoinsSpec)

/-- 'polyglotlaw02.VarintPushes', WHERE WHAT IT READS IS OF BULK AT MOST 1048576: true; the input reads as it did. -/
def varintPushesUptoRow : OpenClaim := { program := "ytcfeombnobgplaa", sum := "95ff566948ef30a1d5a2eb848d9210ddab1df3ea880b449f0ce33fdf1fac4e60", func := "polyglot/polyglotlaw02.VarintPushes", spec := "varintPushes", apart := false, narrowed := true }
def VarintPushesUptoSaid : Prop := varintPushesUptoRow.holds Try.pinned (OpenSpec.upto varintPushesSpec)

/-- 'polyglotlaw03.UstringHalves', WHERE WHAT IT READS IS OF BULK AT MOST 1048576: true; the input reads as it did. -/
def ustringHalvesUptoRow : OpenClaim := { program := "ytcfeombnobgplaa", sum := "95ff566948ef30a1d5a2eb848d9210ddab1df3ea880b449f0ce33fdf1fac4e60", func := "polyglot/polyglotlaw03.UstringHalves", spec := "ustringHalves", unfollowed := true, recurses := true, apart := false, narrowed := true }
def UstringHalvesUptoSaid : Prop := ustringHalvesUptoRow.holds Try.pinned (OpenSpec.upto ustringHalvesSpec)

/-- 'polyglotlaw02.VarintCalls', WHERE WHAT IT READS IS OF BULK AT MOST 1048576: true; the input reads as it did. -/
def varintCallsUptoRow : OpenClaim := { program := "ytcfeombnobgplaa", sum := "95ff566948ef30a1d5a2eb848d9210ddab1df3ea880b449f0ce33fdf1fac4e60", func := "polyglot/polyglotlaw02.VarintCalls", spec := "varintCalls", apart := false, narrowed := true }
def VarintCallsUptoSaid : Prop := varintCallsUptoRow.holds Try.pinned (OpenSpec.upto varintCallsSpec)

/-- 'polyglotlaw02.VarintBack', WHERE WHAT IT READS IS OF BULK AT MOST 1048576: true; the input reads as it did. -/
def varintBackUptoRow : OpenClaim := { program := "ytcfeombnobgplaa", sum := "95ff566948ef30a1d5a2eb848d9210ddab1df3ea880b449f0ce33fdf1fac4e60", func := "polyglot/polyglotlaw02.VarintBack", spec := "varintBack", apart := false, narrowed := true }
def VarintBackUptoSaid : Prop := varintBackUptoRow.holds Try.pinned (OpenSpec.upto varintBackSpec)

/-- 'polyglotlaw02.VarintFronts', WHERE WHAT IT READS IS OF BULK AT MOST 1048576: true; the input reads as it did. -/
def varintFrontsUptoRow : OpenClaim := { program := "ytcfeombnobgplaa", sum := "95ff566948ef30a1d5a2eb848d9210ddab1df3ea880b449f0ce33fdf1fac4e60", func := "polyglot/polyglotlaw02.VarintFronts", spec := "varintFronts", apart := false, narrowed := true }
def VarintFrontsUptoSaid : Prop := varintFrontsUptoRow.holds Try.pinned (OpenSpec.upto varintFrontsSpec)

/-- 'polyglotlaw01.OctetParts', WHERE WHAT IT READS IS OF BULK AT MOST 1048576: true; the input reads as it did. -/
def octetPartsUptoRow : OpenClaim := { program := "ytcfeombnobgplaa", sum := "95ff566948ef30a1d5a2eb848d9210ddab1df3ea880b449f0ce33fdf1fac4e60", func := "polyglot/polyglotlaw01.OctetParts", spec := "octetParts", apart := false, narrowed := true }
def OctetPartsUptoSaid : Prop := octetPartsUptoRow.holds Try.pinned (OpenSpec.upto octetPartsSpec)

/-- 'polyglotlaw01.OctetNames', WHERE WHAT IT READS IS OF BULK AT MOST 1048576: true; the input reads as it did. -/
def octetNamesUptoRow : OpenClaim := { program := "ytcfeombnobgplaa", sum := "95ff566948ef30a1d5a2eb848d9210ddab1df3ea880b449f0ce33fdf1fac4e60", func := "polyglot/polyglotlaw01.OctetNames", spec := "octetNames", apart := false, narrowed := true }
def OctetNamesUptoSaid : Prop := octetNamesUptoRow.holds Try.pinned (OpenSpec.upto octetNamesSpec)

/-- 'polyglotlaw01.OctetScript', WHERE WHAT IT READS IS OF BULK AT MOST 1048576: true; the input reads as it did. -/
def octetScriptUptoRow : OpenClaim := { program := "ytcfeombnobgplaa", sum := "95ff566948ef30a1d5a2eb848d9210ddab1df3ea880b449f0ce33fdf1fac4e60", func := "polyglot/polyglotlaw01.OctetScript", spec := "octetScript", apart := false, narrowed := true }
def OctetScriptUptoSaid : Prop := octetScriptUptoRow.holds Try.pinned (OpenSpec.upto octetScriptSpec)

/-- 'polyglotlaw02.VarintNames', WHERE WHAT IT READS IS OF BULK AT MOST 1048576: true; the input reads as it did. -/
def varintNamesUptoRow : OpenClaim := { program := "ytcfeombnobgplaa", sum := "95ff566948ef30a1d5a2eb848d9210ddab1df3ea880b449f0ce33fdf1fac4e60", func := "polyglot/polyglotlaw02.VarintNames", spec := "varintNames", apart := false, narrowed := true }
def VarintNamesUptoSaid : Prop := varintNamesUptoRow.holds Try.pinned (OpenSpec.upto varintNamesSpec)

/-- 'polyglotlaw03.UstringBack', WHERE WHAT IT READS IS OF BULK AT MOST 1048576: true; the input reads as it did. -/
def ustringBackUptoRow : OpenClaim := { program := "ytcfeombnobgplaa", sum := "95ff566948ef30a1d5a2eb848d9210ddab1df3ea880b449f0ce33fdf1fac4e60", func := "polyglot/polyglotlaw03.UstringBack", spec := "ustringBack", apart := false, narrowed := true }
def UstringBackUptoSaid : Prop := ustringBackUptoRow.holds Try.pinned (OpenSpec.upto ustringBackSpec)

/-- 'polyglotlaw03.UstringNames', WHERE WHAT IT READS IS OF BULK AT MOST 1048576: true; the input reads as it did. -/
def ustringNamesUptoRow : OpenClaim := { program := "ytcfeombnobgplaa", sum := "95ff566948ef30a1d5a2eb848d9210ddab1df3ea880b449f0ce33fdf1fac4e60", func := "polyglot/polyglotlaw03.UstringNames", spec := "ustringNames", unfollowed := true, recurses := true, apart := false, narrowed := true }
def UstringNamesUptoSaid : Prop := ustringNamesUptoRow.holds Try.pinned (OpenSpec.upto ustringNamesSpec)

/-- 'polyglotlaw03.UstringCalls', WHERE WHAT IT READS IS OF BULK AT MOST 1048576: true; the input reads as it did. -/
def ustringCallsUptoRow : OpenClaim := { program := "ytcfeombnobgplaa", sum := "95ff566948ef30a1d5a2eb848d9210ddab1df3ea880b449f0ce33fdf1fac4e60", func := "polyglot/polyglotlaw03.UstringCalls", spec := "ustringCalls", unfollowed := true, recurses := true, apart := false, narrowed := true }
def UstringCallsUptoSaid : Prop := ustringCallsUptoRow.holds Try.pinned (OpenSpec.upto ustringCallsSpec)

end Rows
end Go.Proofs.Ytcfeombnobgplaa
