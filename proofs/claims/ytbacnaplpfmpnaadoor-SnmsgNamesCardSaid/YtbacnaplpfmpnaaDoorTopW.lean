/- topic: the walks of text and wild. -/
import Derived.Test.YtbacnaplpfmpnaaDoorUstA
import Derived.Test.YtbacnaplpfmpnaaDoorTopA
namespace Go.Proofs.YtbacnaplpfmpnaaDoor
open Go.RowKit
set_option linter.unusedVariables false

theorem wild_any (t : List UInt8) (w : World) : Calls Tryd.prog 98 #[.string ⟨t.toArray⟩] w fun e w' => e = .returned (.bool (wildB t)) ∧ w = w' := by
  by_cases h1 : t = [43]
  · subst h1
    go_enter Tryd.func98, Tryd.ntmps98
    go_wp2
    go_ret
    exact ⟨rfl, rfl⟩
  have h1' : (t == [43]) = false := by simpa using h1
  have HK := Lib.hid (show (t == [43] || t == [35]) = wildB t from rfl)
  go_enter Tryd.func98, Tryd.ntmps98
  go_wp2
  go_ret
  exact ⟨by rw [← HK.out, h1']; rfl, rfl⟩

theorem text_any (t : List UInt8) (ht : (t.length : Int) ≤ 9223372036854775807) (w : World) :
    Calls Tryd.prog 66 #[.string ⟨t.toArray⟩] w fun e w' => e = .returned (.bool (textB t)) ∧ Below w.heap.size w w' := by
  by_cases h1 : t = []
  · subst h1
    go_enter Tryd.func66, Tryd.ntmps66
    go_wp2
    go_ret
    exact ⟨rfl, Below.refl _ _⟩
  have HK := Lib.hid (show textB t = vld t by
    unfold textB
    cases t with
    | nil => exact absurd rfl h1
    | cons a b => rfl)
  go_enter Tryd.func66, Tryd.ntmps66
  go_wp2_with fail
  refine (valid_any t ht _).mono ?_
  rintro e w1 ⟨rfl, hb⟩
  go_wp2
  go_ret
  exact ⟨rfl, hb⟩
end Go.Proofs.YtbacnaplpfmpnaaDoor
