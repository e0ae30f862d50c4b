/- polyglotlaw01.lives, polyglotkit.Pick. -/
import Derived.Test.YtcfeombnobgplaaOctW
import Derived.Deep.QuietTactic
namespace Go.Proofs.Ytcfeombnobgplaa
open Go.RowKit

set_option maxHeartbeats 400000 in
/-- polyglotkit.Pick. -/
theorem pick_any (n m : Int) (hm : 1 ≤ m) (hm2 : m ≤ 4611686018427387904) (w : World) :
    Calls Try.prog 18 #[.int .i64 n, .int .i64 m] w fun e w' => e = .returned (.int .i64 (n % m)) ∧ w = w' := by
  have h0 := Int.tmod_lt_of_pos n (show 0 < m by omega)
  have h1 : -m < n.tmod m := by have := Int.lt_tmod_of_pos n (show 0 < m by omega); omega
  by_cases h : n.tmod m < 0
  · have e : n.tmod m + m = n % m := by
      rw [Int.tmod_eq_emod] at h ⊢
      split at h
      · have := Int.emod_nonneg n (show m ≠ 0 by omega); omega
      · rw [if_neg ‹_›]; have : (m.natAbs : Int) = m := by omega
        omega
    have E := Lib.hid e; clear e
    go_enter Try.func18, Try.ntmps18
    go_wp2
    go_ret
    exact ⟨congrArg (fun x => Ending.returned (Value.int .i64 x)) E.out, rfl⟩
  · have e : n.tmod m = n % m := by
      rw [Int.tmod_eq_emod] at h ⊢
      split at h
      · rename_i hh; rw [if_pos hh]; simp
      · rename_i hh; rw [if_neg hh]
        have h2 := Int.emod_lt_of_pos n (show 0 < m by omega)
        omega
    have E := Lib.hid e; clear e
    go_enter Try.func18, Try.ntmps18
    go_wp2
    go_ret
    exact ⟨congrArg (fun x => Ending.returned (Value.int .i64 x)) E.out, rfl⟩

set_option maxHeartbeats 400000 in
theorem lives01 (w : World) : Calls Try.prog 17 #[] w fun e w' => e = .returned (.bool true) ∧ Below w.heap.size w w' := by
  go_enter Try.func17, Try.ntmps17
  have e1 : putL 258 2 = [1, 2] := by decide
  have e2 : getL [1, 2] = 258 := by decide
  go_wp2_with fail
  refine (put_any _ _ _).mono ?_
  rintro e w1 ⟨rfl, hb⟩
  go_wp2_with fail
  refine (get_any [1, 2] (by decide) _).mono ?_
  rintro e w2 ⟨rfl, rfl⟩
  go_wp2
  go_ret
  exact ⟨rfl, hb⟩
end Go.Proofs.Ytcfeombnobgplaa
