/- polyglotlaw04.lives; MaxLen at a row's first world. -/
import Derived.Test.YthifcodiphglaaaDoorTopO
import Derived.Shelf.Vars
namespace Go.Proofs.YthifcodiphglaaaDoor
open Go.RowKit
set_option linter.unusedVariables false

theorem mx_of_shaped {w : World} (h : w.ShapedOpen Tryd.prog) : Mx w := by
  obtain ⟨m, hm⟩ := cell_of_shapedOpen_int (g := 0) (t := 3) (k := .i64) (zero := #[.int .i64 0]) h (of_decide_eq_true (by kernel_rfl)) (by kernel_rfl) rfl (by kernel_rfl) (by kernel_rfl) (by kernel_rfl)
  refine ⟨?_, m, hm⟩
  rcases Nat.eq_zero_or_pos w.heap.size with h0 | h0
  · simp [World.cell?, Array.size_eq_zero_iff.1 h0] at hm
  · exact h0

set_option maxRecDepth 100000 in
theorem lives04 (w : World) (hm : Mx w) : Calls Tryd.prog 8 #[] w fun e w' => e = .returned (.bool true) ∧ Below w.heap.size w w' := by
  have e1 : matchesB [97, 47, 35] [97] = true := by decide +kernel
  have e2 : matchesB [43, 47, 98] [47, 98] = true := by decide +kernel
  have e3 : matchesB [35] [36, 120] = false := by decide +kernel
  have H := Lib.hid (And.intro e1 (And.intro e2 e3))
  clear e1 e2 e3
  go_enter Tryd.func8, Tryd.ntmps8
  go_wp2_with fail
  refine (matches_any [97, 47, 35] [97] (by decide) (by decide) _ hm).mono ?_
  rintro e w1 ⟨rfl, hb⟩
  rw [H.out.1]
  go_wp2_with fail
  refine (matches_any [43, 47, 98] [47, 98] (by decide) (by decide) _ (hm.next hb)).mono ?_
  rintro e w2 ⟨rfl, hb2⟩
  rw [H.out.2.1]
  have hB := hb.trans (hb2.mono hb.size)
  go_wp2_with fail
  refine (matches_any [35] [36, 120] (by decide) (by decide) _ (hm.next hB)).mono ?_
  rintro e w3 ⟨rfl, hb3⟩
  rw [H.out.2.2]
  go_wp2
  go_ret
  exact ⟨rfl, hB.trans (hb3.mono hB.size)⟩
end Go.Proofs.YthifcodiphglaaaDoor
