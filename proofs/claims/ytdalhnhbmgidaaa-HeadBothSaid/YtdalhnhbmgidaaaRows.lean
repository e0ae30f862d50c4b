/-
  No cell of these rows narrows 'for every input' (looked for: loops, veiled, ifaces, maps, wideKeys, modest, calm, conditions, laid).
  DERIVED. THE GIVEN ROWS OF THIS SEAT. 9 by the template 'for every input the law returns true; each argument reads behind the call as it read before'; 0 by the template 'total and deterministic' (their statements: YtdalhnhbmgidaaaTotals.lean).
  GIVEN WITH THE SEED: the statements are not yours to turn. If you find one false, say at which input.
  Laid BY PROGRAM, IN A SANDBOX (cutbox-rows.mjs): the forced cells as the released guide's own fill.sh prints them over the translation a93ba8790eb00acd… (all of the seat's roots in one cut). By AI agents, Wed Nov 11 2026. No macro, syntax, notation, axiom, sorry.
-/
import Derived.Test.YtdalhnhbmgidaaaChecked
import GoSem.Claim
import GoSem.ClaimJoined
import GoSem.ClaimMapViews
import Derived.JoinedTies
import Derived.KernelRfl
namespace Go.Proofs.Ytdalhnhbmgidaaa
/- THE CELL 'sum', in the pinned program and in every row, IS THE sha256 OF THE DUMP (.gsa) THAT YtdalhnhbmgidaaaProg.lean LOADS. Nothing in Lean hashes anything: it is a label: what it is worth is what the hold of that sum in a sandbox is worth. -/
noncomputable def Try.pinned : Pinned := { name := "ytdalhnhbmgidaaa", sum := "a93ba8790eb00acdb4fc8057d2228b99cd4f4ba30e2dc3acaac1067c9d42e21d", checked := Try.checked }
namespace Rows
def none {H : Type} : Left H := { results := [], args := [] }

/-- 'polyglotlaw21.SnheadLengths': WHATEVER THE INPUT: true; the input reads as it did. -/
def snheadLengthsSpec : ChangeSpec := { name := "snheadLengths", fn := fun _ => fun
  | [d1, d2] => { results := [.lit (.bool true)], args := [d1, d2] }
  | _ => none }
def snheadLengthsRow : OpenClaim := { program := "ytdalhnhbmgidaaa", sum := "a93ba8790eb00acdb4fc8057d2228b99cd4f4ba30e2dc3acaac1067c9d42e21d", func := "polyglot/polyglotlaw21.SnheadLengths", spec := "snheadLengths", apart := false }
def SnheadLengthsSaid : Prop := snheadLengthsRow.holds Try.pinned (OpenSpec.ofChange snheadLengthsSpec)

/-- ITS FALSE NEIGHBOUR: 'it returns false'. Refute it at one input. -/
def snheadLengthsWrong : ChangeSpec := { name := "snheadLengths", fn := fun _ => fun
  | [d1, d2] => { results := [.lit (.bool false)], args := [d1, d2] }
  | _ => none }
def SnheadLengthsWrongFalsely : Prop := snheadLengthsRow.holds Try.pinned (OpenSpec.ofChange snheadLengthsWrong)

/-- 'polyglotlaw07.HeadFlags': WHATEVER THE INPUT: true; the input reads as it did. -/
def headFlagsSpec : ChangeSpec := { name := "headFlags", fn := fun _ => fun
  | [d1, d2, d3, d4, d5, d6] => { results := [.lit (.bool true)], args := [d1, d2, d3, d4, d5, d6] }
  | _ => none }
def headFlagsRow : OpenClaim := { program := "ytdalhnhbmgidaaa", sum := "a93ba8790eb00acdb4fc8057d2228b99cd4f4ba30e2dc3acaac1067c9d42e21d", func := "polyglot/polyglotlaw07.HeadFlags", spec := "headFlags", apart := false }
def HeadFlagsSaid : Prop := headFlagsRow.holds Try.pinned (OpenSpec.ofChange headFlagsSpec)

/-- ITS FALSE NEIGHBOUR: 'it returns false'. Refute it at one input. -/
def headFlagsWrong : ChangeSpec := { name := "headFlags", fn := fun _ => fun
  | [d1, d2, d3, d4, d5, d6] => { results := [.lit (.bool false)], args := [d1, d2, d3, d4, d5, d6] }
  | _ => none }
def HeadFlagsWrongFalsely : Prop := headFlagsRow.holds Try.pinned (OpenSpec.ofChange headFlagsWrong)

/-- 'polyglotlaw21.SnheadFlags': WHATEVER THE INPUT: true; the input reads as it did. -/
def snheadFlagsSpec : ChangeSpec := { name := "snheadFlags", fn := fun _ => fun
  | [d1, d2, d3] => { results := [.lit (.bool true)], args := [d1, d2, d3] }
  | _ => none }
def snheadFlagsRow : OpenClaim := { program := "ytdalhnhbmgidaaa", sum := "a93ba8790eb00acdb4fc8057d2228b99cd4f4ba30e2dc3acaac1067c9d42e21d", func := "polyglot/polyglotlaw21.SnheadFlags", spec := "snheadFlags", unfollowed := true, recurses := true, apart := false }
def SnheadFlagsSaid : Prop := snheadFlagsRow.holds Try.pinned (OpenSpec.ofChange snheadFlagsSpec)

/-- ITS FALSE NEIGHBOUR: 'it returns false'. Refute it at one input. -/
def snheadFlagsWrong : ChangeSpec := { name := "snheadFlags", fn := fun _ => fun
  | [d1, d2, d3] => { results := [.lit (.bool false)], args := [d1, d2, d3] }
  | _ => none }
def SnheadFlagsWrongFalsely : Prop := snheadFlagsRow.holds Try.pinned (OpenSpec.ofChange snheadFlagsWrong)

/-- 'polyglotlaw07.HeadBack': WHATEVER THE INPUT: true; the input reads as it did. -/
def headBackSpec : ChangeSpec := { name := "headBack", fn := fun _ => fun
  | [d1, d2, d3, d4] => { results := [.lit (.bool true)], args := [d1, d2, d3, d4] }
  | _ => none }
def headBackRow : OpenClaim := { program := "ytdalhnhbmgidaaa", sum := "a93ba8790eb00acdb4fc8057d2228b99cd4f4ba30e2dc3acaac1067c9d42e21d", func := "polyglot/polyglotlaw07.HeadBack", spec := "headBack", apart := false }
def HeadBackSaid : Prop := headBackRow.holds Try.pinned (OpenSpec.ofChange headBackSpec)

/-- ITS FALSE NEIGHBOUR: 'it returns false'. Refute it at one input. -/
def headBackWrong : ChangeSpec := { name := "headBack", fn := fun _ => fun
  | [d1, d2, d3, d4] => { results := [.lit (.bool false)], args := [d1, d2, d3, d4] }
  | _ => none }
def HeadBackWrongFalsely : Prop := headBackRow.holds Try.pinned (OpenSpec.ofChange headBackWrong)

/-- 'polyglotlaw07.HeadBoth': WHATEVER THE INPUT: true; the input reads as it did. -/
def headBothSpec : ChangeSpec := { name := "headBoth", fn := fun _ => fun
  | [d] => { results := [.lit (.bool true)], args := [d] }
  | _ => none }
def headBothRow : OpenClaim := { program := "ytdalhnhbmgidaaa", sum := "a93ba8790eb00acdb4fc8057d2228b99cd4f4ba30e2dc3acaac1067c9d42e21d", func := "polyglot/polyglotlaw07.HeadBoth", spec := "headBoth", apart := false }
def HeadBothSaid : Prop := headBothRow.holds Try.pinned (OpenSpec.ofChange headBothSpec)

/-- ITS FALSE NEIGHBOUR: 'it returns false'. Refute it at one input. -/
def headBothWrong : ChangeSpec := { name := "headBoth", fn := fun _ => fun
  | [d] => { results := [.lit (.bool false)], args := [d] }
  | _ => none }
def HeadBothWrongFalsely : Prop := headBothRow.holds Try.pinned (OpenSpec.ofChange headBothWrong)

/-- 'polyglotlaw21.SnheadNames': WHATEVER THE INPUT: true; the input reads as it did. -/
def snheadNamesSpec : ChangeSpec := { name := "snheadNames", fn := fun _ => fun
  | [] => { results := [.lit (.bool true)], args := [] }
  | _ => none }
def snheadNamesRow : OpenClaim := { program := "ytdalhnhbmgidaaa", sum := "a93ba8790eb00acdb4fc8057d2228b99cd4f4ba30e2dc3acaac1067c9d42e21d", func := "polyglot/polyglotlaw21.SnheadNames", spec := "snheadNames", unfollowed := true, recurses := true, apart := false }
def SnheadNamesSaid : Prop := snheadNamesRow.holds Try.pinned (OpenSpec.ofChange snheadNamesSpec)

/-- ITS FALSE NEIGHBOUR: 'it returns false'. Refute it at one input. -/
def snheadNamesWrong : ChangeSpec := { name := "snheadNames", fn := fun _ => fun
  | [] => { results := [.lit (.bool false)], args := [] }
  | _ => none }
def SnheadNamesWrongFalsely : Prop := snheadNamesRow.holds Try.pinned (OpenSpec.ofChange snheadNamesWrong)

/-- 'polyglotlaw21.SnheadCalls': WHATEVER THE INPUT: true; the input reads as it did. -/
def snheadCallsSpec : ChangeSpec := { name := "snheadCalls", fn := fun _ => fun
  | [d1, d2, d3, d4] => { results := [.lit (.bool true)], args := [d1, d2, d3, d4] }
  | _ => none }
def snheadCallsRow : OpenClaim := { program := "ytdalhnhbmgidaaa", sum := "a93ba8790eb00acdb4fc8057d2228b99cd4f4ba30e2dc3acaac1067c9d42e21d", func := "polyglot/polyglotlaw21.SnheadCalls", spec := "snheadCalls", unfollowed := true, recurses := true, apart := false }
def SnheadCallsSaid : Prop := snheadCallsRow.holds Try.pinned (OpenSpec.ofChange snheadCallsSpec)

/-- ITS FALSE NEIGHBOUR: 'it returns false'. Refute it at one input. -/
def snheadCallsWrong : ChangeSpec := { name := "snheadCalls", fn := fun _ => fun
  | [d1, d2, d3, d4] => { results := [.lit (.bool false)], args := [d1, d2, d3, d4] }
  | _ => none }
def SnheadCallsWrongFalsely : Prop := snheadCallsRow.holds Try.pinned (OpenSpec.ofChange snheadCallsWrong)

/-- 'polyglotlaw07.HeadNames': WHATEVER THE INPUT: true; the input reads as it did. -/
def headNamesSpec : ChangeSpec := { name := "headNames", fn := fun _ => fun
  | [] => { results := [.lit (.bool true)], args := [] }
  | _ => none }
def headNamesRow : OpenClaim := { program := "ytdalhnhbmgidaaa", sum := "a93ba8790eb00acdb4fc8057d2228b99cd4f4ba30e2dc3acaac1067c9d42e21d", func := "polyglot/polyglotlaw07.HeadNames", spec := "headNames", unfollowed := true, recurses := true, apart := false }
def HeadNamesSaid : Prop := headNamesRow.holds Try.pinned (OpenSpec.ofChange headNamesSpec)

/-- ITS FALSE NEIGHBOUR: 'it returns false'. Refute it at one input. -/
def headNamesWrong : ChangeSpec := { name := "headNames", fn := fun _ => fun
  | [] => { results := [.lit (.bool false)], args := [] }
  | _ => none }
def HeadNamesWrongFalsely : Prop := headNamesRow.holds Try.pinned (OpenSpec.ofChange headNamesWrong)

/-- 'polyglotlaw07.HeadCalls': WHATEVER THE INPUT: true; the input reads as it did. -/
def headCallsSpec : ChangeSpec := { name := "headCalls", fn := fun _ => fun
  | [d1, d2, d3, d4, d5] => { results := [.lit (.bool true)], args := [d1, d2, d3, d4, d5] }
  | _ => none }
def headCallsRow : OpenClaim := { program := "ytdalhnhbmgidaaa", sum := "a93ba8790eb00acdb4fc8057d2228b99cd4f4ba30e2dc3acaac1067c9d42e21d", func := "polyglot/polyglotlaw07.HeadCalls", spec := "headCalls", unfollowed := true, recurses := true, apart := false }
def HeadCallsSaid : Prop := headCallsRow.holds Try.pinned (OpenSpec.ofChange headCallsSpec)

/-- ITS FALSE NEIGHBOUR: 'it returns false'. Refute it at one input. -/
def headCallsWrong : ChangeSpec := { name := "headCalls", fn := fun _ => fun
  | [d1, d2, d3, d4, d5] => { results := [.lit (.bool false)], args := [d1, d2, d3, d4, d5] }
  | _ => none }
def HeadCallsWrongFalsely : Prop := headCallsRow.holds Try.pinned (OpenSpec.ofChange headCallsWrong)

/- THE SECOND FORM. 'bulk': how many values and letters a reading holds, each counted each time it is reached (what is shared counts as often as it is met; a slice's spare places count too). A statement '..UptoSaid' is the law's where the arguments, and the package variables that the reading takes, are together of bulk at most 1048576: NARROWER than '..Said'. Prove '..Said' where nothing that the law and all that it calls make is longer than what came in: it says more and counts as full. Else prove '..UptoSaid'. A law counts once. -/
mutual
def uptoBulk {H : Type} : DataW H → Nat
  | .lit (.string bytes) => bytes.length + 1
  | .lit _ => 1
  | .nil => 1
  | .ptr d => uptoBulk d + 1
  | .slice elems spare => uptoBulkAll elems + uptoBulkAll spare + 1
  | .agg parts => uptoBulkAll parts + 1
  | .iface _ d => uptoBulk d + 1
  | .map entries => uptoBulkEntries entries + 1
  | .held _ => 1
def uptoBulkAll {H : Type} : List (DataW H) → Nat
  | [] => 0
  | d :: r => uptoBulk d + uptoBulkAll r
def uptoBulkEntries {H : Type} : List (Lit × DataW H) → Nat
  | [] => 0
  | x :: r => uptoBulkEntry x + uptoBulkEntries r
def uptoBulkEntry {H : Type} : Lit × DataW H → Nat
  | (.string bytes, d) => bytes.length + uptoBulk d + 1
  | (_, d) => uptoBulk d + 1
 end
def uptoSmall : (H : Type) → List (DataW H) → Bool := fun _ ds => decide (uptoBulkAll ds ≤ 1048576)
def OpenSpec.upto (s : _root_.Go.ChangeSpec) : _root_.Go.OpenSpec := { _root_.Go.OpenSpec.ofChange s with cond := some uptoSmall }

/-- 'polyglotlaw21.SnheadLengths', WHERE WHAT IT READS IS OF BULK AT MOST 1048576: true; the input reads as it did. -/
def snheadLengthsUptoRow : OpenClaim := { program := "ytdalhnhbmgidaaa", sum := "a93ba8790eb00acdb4fc8057d2228b99cd4f4ba30e2dc3acaac1067c9d42e21d", func := "polyglot/polyglotlaw21.SnheadLengths", spec := "snheadLengths", apart := false, narrowed := true }
def SnheadLengthsUptoSaid : Prop := snheadLengthsUptoRow.holds Try.pinned (OpenSpec.upto snheadLengthsSpec)

/-- 'polyglotlaw07.HeadFlags', WHERE WHAT IT READS IS OF BULK AT MOST 1048576: true; the input reads as it did. -/
def headFlagsUptoRow : OpenClaim := { program := "ytdalhnhbmgidaaa", sum := "a93ba8790eb00acdb4fc8057d2228b99cd4f4ba30e2dc3acaac1067c9d42e21d", func := "polyglot/polyglotlaw07.HeadFlags", spec := "headFlags", apart := false, narrowed := true }
def HeadFlagsUptoSaid : Prop := headFlagsUptoRow.holds Try.pinned (OpenSpec.upto headFlagsSpec)

/-- 'polyglotlaw21.SnheadFlags', WHERE WHAT IT READS IS OF BULK AT MOST 1048576: true; the input reads as it did. -/
def snheadFlagsUptoRow : OpenClaim := { program := "ytdalhnhbmgidaaa", sum := "a93ba8790eb00acdb4fc8057d2228b99cd4f4ba30e2dc3acaac1067c9d42e21d", func := "polyglot/polyglotlaw21.SnheadFlags", spec := "snheadFlags", unfollowed := true, recurses := true, apart := false, narrowed := true }
def SnheadFlagsUptoSaid : Prop := snheadFlagsUptoRow.holds Try.pinned (OpenSpec.upto snheadFlagsSpec)

/-- 'polyglotlaw07.HeadBack', WHERE WHAT IT READS IS OF BULK AT MOST 1048576: true; the input reads as it did. -/
def headBackUptoRow : OpenClaim := { program := "ytdalhnhbmgidaaa", sum := "a93ba8790eb00acdb4fc8057d2228b99cd4f4ba30e2dc3acaac1067c9d42e21d", func := "polyglot/polyglotlaw07.HeadBack", spec := "headBack", apart := false, narrowed := true }
def HeadBackUptoSaid : Prop := headBackUptoRow.holds Try.pinned (OpenSpec.upto headBackSpec)

/-- 'polyglotlaw07.HeadBoth', WHERE WHAT IT READS IS OF BULK AT MOST 1048576: true; the input reads as it did. -/
def headBothUptoRow : OpenClaim := { program := "ytdalhnhbmgidaaa", sum := "a93ba8790eb00acdb4fc8057d2228b99cd4f4ba30e2dc3acaac1067c9d42e21d", func := "polyglot/polyglotlaw07.HeadBoth", spec := "headBoth", apart := false, narrowed := true }
def HeadBothUptoSaid : Prop := headBothUptoRow.holds Try.pinned (OpenSpec.upto headBothSpec)

/-- 'polyglotlaw21.SnheadNames', WHERE WHAT IT READS IS OF BULK AT MOST 1048576: true; the input reads as it did. -/
def snheadNamesUptoRow : OpenClaim := { program := "ytdalhnhbmgidaaa", sum := "a93ba8790eb00acdb4fc8057d2228b99cd4f4ba30e2dc3acaac1067c9d42e21d", func := "polyglot/polyglotlaw21.SnheadNames", spec := "snheadNames", unfollowed := true, recurses := true, apart := false, narrowed := true }
def SnheadNamesUptoSaid : Prop := snheadNamesUptoRow.holds Try.pinned (OpenSpec.upto snheadNamesSpec)

/-- 'polyglotlaw21.SnheadCalls', WHERE WHAT IT READS IS OF BULK AT MOST 1048576: true; the input reads as it did. -/
def snheadCallsUptoRow : OpenClaim := { program := "ytdalhnhbmgidaaa", sum := "a93ba8790eb00acdb4fc8057d2228b99cd4f4ba30e2dc3acaac1067c9d42e21d", func := "polyglot/polyglotlaw21.SnheadCalls", spec := "snheadCalls", unfollowed := true, recurses := true, apart := false, narrowed := true }
def SnheadCallsUptoSaid : Prop := snheadCallsUptoRow.holds Try.pinned (OpenSpec.upto snheadCallsSpec)

/-- 'polyglotlaw07.HeadNames', WHERE WHAT IT READS IS OF BULK AT MOST 1048576: true; the input reads as it did. -/
def headNamesUptoRow : OpenClaim := { program := "ytdalhnhbmgidaaa", sum := "a93ba8790eb00acdb4fc8057d2228b99cd4f4ba30e2dc3acaac1067c9d42e21d", func := "polyglot/polyglotlaw07.HeadNames", spec := "headNames", unfollowed := true, recurses := true, apart := false, narrowed := true }
def HeadNamesUptoSaid : Prop := headNamesUptoRow.holds Try.pinned (OpenSpec.upto headNamesSpec)

/-- 'polyglotlaw07.HeadCalls', WHERE WHAT IT READS IS OF BULK AT MOST 1048576: true; the input reads as it did. -/
def headCallsUptoRow : OpenClaim := { program := "ytdalhnhbmgidaaa", sum := "a93ba8790eb00acdb4fc8057d2228b99cd4f4ba30e2dc3acaac1067c9d42e21d", func := "polyglot/polyglotlaw07.HeadCalls", spec := "headCalls", unfollowed := true, recurses := true, apart := false, narrowed := true }
def HeadCallsUptoSaid : Prop := headCallsUptoRow.holds Try.pinned (OpenSpec.upto headCallsSpec)

end Rows
end Go.Proofs.Ytdalhnhbmgidaaa
