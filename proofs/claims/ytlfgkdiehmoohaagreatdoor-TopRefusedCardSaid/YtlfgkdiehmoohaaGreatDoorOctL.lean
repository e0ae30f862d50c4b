/- polyglotlaw01.lives, polyglotkit.Pick. -/
import Derived.Test.YtlfgkdiehmoohaaGreatDoorOctA
import Derived.Deep.QuietTactic
namespace Go.Proofs.YtlfgkdiehmoohaaGreatDoor
open Go.RowKit

set_option maxHeartbeats 400000 in
/-- polyglotkit.Pick. -/
theorem pick_any (n m : Int) (hm : 1 ≤ m) (hm2 : m ≤ 4611686018427387904) (w : World) :
    Calls Tryz.prog 6 #[.int .i64 n, .int .i64 m] w fun e w' => e = .returned (.int .i64 (n % m)) ∧ w = w' := by
  have h0 := Int.tmod_lt_of_pos n (show 0 < m by omega)
  have h1 : -m < n.tmod m := by have := Int.lt_tmod_of_pos n (show 0 < m by omega); omega
  by_cases h : n.tmod m < 0
  · have e : n.tmod m + m = n % m := by
      rw [Int.tmod_eq_emod] at h ⊢
      split at h
      · have := Int.emod_nonneg n (show m ≠ 0 by omega); omega
      · rw [if_neg ‹_›]; have : (m.natAbs : Int) = m := by omega
        omega
    have E := Lib.hid e; clear e
    go_enter Tryz.func6, Tryz.ntmps6
    go_wp2
    go_ret
    exact ⟨congrArg (fun x => Ending.returned (Value.int .i64 x)) E.out, rfl⟩
  · have e : n.tmod m = n % m := by
      rw [Int.tmod_eq_emod] at h ⊢
      split at h
      · rename_i hh; rw [if_pos hh]; simp
      · rename_i hh; rw [if_neg hh]
        have h2 := Int.emod_lt_of_pos n (show 0 < m by omega)
        omega
    have E := Lib.hid e; clear e
    go_enter Tryz.func6, Tryz.ntmps6
    go_wp2
    go_ret
    exact ⟨congrArg (fun x => Ending.returned (Value.int .i64 x)) E.out, rfl⟩

end Go.Proofs.YtlfgkdiehmoohaaGreatDoor
