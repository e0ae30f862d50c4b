/- polyglotlaw01.lives, polyglotkit.Pick. -/
import Derived.Test.YtjkmfdkhfjhegaaOctA
import Derived.Deep.QuietTactic
namespace Go.Proofs.Ytjkmfdkhfjhegaa
open Go.RowKit

end Go.Proofs.Ytjkmfdkhfjhegaa
