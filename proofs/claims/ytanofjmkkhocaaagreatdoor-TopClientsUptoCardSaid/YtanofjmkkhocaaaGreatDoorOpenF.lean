/- A struct argument opened: each field's cell is of its type. Limits as an argument, opened. -/
import Derived.Test.YtanofjmkkhocaaaGreatDoorBase
import Derived.Test.YtanofjmkkhocaaaGreatDoorChecked
import Derived.Deep.Slices
import Derived.ChangeSame
import Derived.ProofKit
import Derived.OpenShut
import Derived.WalkKit
import Derived.Deep.Fields
set_option linter.unusedVariables false
set_option linter.unusedSimpArgs false
namespace Go.Proofs.YtanofjmkkhocaaaGreatDoor
open Go.RowKit Go.ChangeShapes Go.WideShapes
section
variable {H : Type} {enc : TypeId × Value → H} {P : Program} {w : World} {base : Nat} {spare : Nat → Bool} {held : Bool}
end
end Go.Proofs.YtanofjmkkhocaaaGreatDoor
namespace Go.Proofs.YtanofjmkkhocaaaGreatDoor
open Go Go.RowKit Go.ChangeShapes Go.WideShapes Go.Deep
end Go.Proofs.YtanofjmkkhocaaaGreatDoor
