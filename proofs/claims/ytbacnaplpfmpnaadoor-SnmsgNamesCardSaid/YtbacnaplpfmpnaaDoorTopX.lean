/- topic: the walks of strings.HasPrefix, strings.CutPrefix, Dollar. -/
import Derived.Test.YtbacnaplpfmpnaaDoorTopW
namespace Go.Proofs.YtbacnaplpfmpnaaDoor
open Go.RowKit
theorem dollar_prefix (s : List UInt8) : Lib.hasPrefix s [36] = dollarB s := by
  cases s with
  | nil => rfl
  | cons a r =>
    show (36 == a && [].isPrefixOf r) = (some a == some 36)
    by_cases h : a = 36
    · subst h; rfl
    · have h2 : ¬ 36 = a := fun e => h e.symm
      have e1 : ((36 : UInt8) == a) = false := by simpa using h2
      have e2 : ((some a : Option UInt8) == some 36) = false := by simpa using h
      rw [e1, e2]; rfl

end Go.Proofs.YtbacnaplpfmpnaaDoor
