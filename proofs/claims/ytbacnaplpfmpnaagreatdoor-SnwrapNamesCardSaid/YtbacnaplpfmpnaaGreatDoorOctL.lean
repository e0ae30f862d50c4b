/- polyglotlaw01.lives, polyglotkit.Pick. -/
import Derived.Test.YtbacnaplpfmpnaaGreatDoorOctA
import Derived.Deep.QuietTactic
namespace Go.Proofs.YtbacnaplpfmpnaaGreatDoor
open Go.RowKit

end Go.Proofs.YtbacnaplpfmpnaaGreatDoor
