/- head: known, kinds, fixed, flagged, Check, Flags. -/
import Derived.Test.YtlfgkdiehmoohaaGreatDoorVarW
import Derived.Test.YtlfgkdiehmoohaaGreatDoorOctA
namespace Go.Proofs.YtlfgkdiehmoohaaGreatDoor
open Go.RowKit

def knownV (v : Int) : Bool := decide (v = 4 ∨ v = 5)
def kindsV (v k : Int) : Bool := decide (1 ≤ k ∧ (k ≤ 14 ∨ k = 15 ∧ v = 5))
def fixedF (k : Int) : Int := if k = 6 ∨ k = 8 ∨ k = 10 then 2 else 0
def flaggedF (k f : Int) : Bool := if k = 3 then decide (0 ≤ f ∧ f ≤ 15 ∧ f / 2 % 4 ≠ 3 ∧ (f / 2 % 4 ≠ 0 ∨ f < 8)) else decide (f = fixedF k)
def checkF (v k f l : Int) : Int := if knownV v = false then 2 else if kindsV v k = false then 8 else if flaggedF k f = false then 7 else if vmay l = false then 2 else 0

set_option maxHeartbeats 400000 in
theorem known_v (v : Int) (w : World) : Calls Tryz.prog 32 #[.int .i64 v] w fun e w' => e = .returned (.bool (knownV v)) ∧ w = w' := by
  by_cases h1 : v = 4
  · subst h1
    go_enter Tryz.func32, Tryz.ntmps32
    go_wp2
    go_ret
    exact ⟨rfl, rfl⟩
  by_cases h2 : v = 5
  · subst h2
    go_enter Tryz.func32, Tryz.ntmps32
    go_wp2
    go_ret
    exact ⟨rfl, rfl⟩
  have HK := Lib.hid (show knownV v = false by unfold knownV; simp [h1, h2])
  have q1 : (v == 4) = false := by simpa using h1
  have q2 : (v == 5) = false := by simpa using h2
  clear h1 h2
  go_enter Tryz.func32, Tryz.ntmps32
  go_wp2
  go_ret
  exact ⟨by rw [HK.out]; rfl, rfl⟩

set_option maxHeartbeats 400000 in
theorem kinds_v (v k : Int) (w : World) : Calls Tryz.prog 51 #[.int .i64 v, .int .i64 k] w fun e w' => e = .returned (.bool (kindsV v k)) ∧ w = w' := by
  by_cases h1 : v = 5
  · subst h1
    have e : kindsV 5 k = decide (1 ≤ k ∧ k ≤ 15) := by unfold kindsV; apply decide_eq_decide.2; omega
    rw [e]
    by_cases h2 : 1 ≤ k
    · by_cases h3 : k ≤ 15
      · rw [show decide (1 ≤ k ∧ k ≤ 15) = true by simp [h2, h3]]
        go_enter Tryz.func51, Tryz.ntmps51
        go_wp2
        go_ret
        exact ⟨rfl, rfl⟩
      · rw [show decide (1 ≤ k ∧ k ≤ 15) = false by simp [h3]]
        go_enter Tryz.func51, Tryz.ntmps51
        go_wp2
        go_ret
        exact ⟨rfl, rfl⟩
    · rw [show decide (1 ≤ k ∧ k ≤ 15) = false by simp [h2]]
      go_enter Tryz.func51, Tryz.ntmps51
      go_wp2
      go_ret
      exact ⟨rfl, rfl⟩
  · have e : kindsV v k = decide (1 ≤ k ∧ k ≤ 14) := by unfold kindsV; apply decide_eq_decide.2; omega
    rw [e]
    have q1 : (v == 5) = false := by simpa using h1
    clear h1
    by_cases h2 : 1 ≤ k
    · by_cases h3 : k ≤ 14
      · rw [show decide (1 ≤ k ∧ k ≤ 14) = true by simp [h2, h3]]
        go_enter Tryz.func51, Tryz.ntmps51
        go_wp2
        go_ret
        exact ⟨rfl, rfl⟩
      · rw [show decide (1 ≤ k ∧ k ≤ 14) = false by simp [h3]]
        go_enter Tryz.func51, Tryz.ntmps51
        go_wp2
        go_ret
        exact ⟨rfl, rfl⟩
    · rw [show decide (1 ≤ k ∧ k ≤ 14) = false by simp [h2]]
      go_enter Tryz.func51, Tryz.ntmps51
      go_wp2
      go_ret
      exact ⟨rfl, rfl⟩

set_option maxHeartbeats 400000 in
theorem fixed_f (k : Int) (w : World) : Calls Tryz.prog 67 #[.int .i64 k] w fun e w' => e = .returned (.int .i64 (fixedF k)) ∧ w = w' := by
  by_cases h1 : k = 6
  · subst h1
    go_enter Tryz.func67, Tryz.ntmps67
    go_wp2
    go_ret
    exact ⟨rfl, rfl⟩
  by_cases h2 : k = 8
  · subst h2
    go_enter Tryz.func67, Tryz.ntmps67
    go_wp2
    go_ret
    exact ⟨rfl, rfl⟩
  by_cases h3 : k = 10
  · subst h3
    go_enter Tryz.func67, Tryz.ntmps67
    go_wp2
    go_ret
    exact ⟨rfl, rfl⟩
  have HK := Lib.hid (show fixedF k = 0 by unfold fixedF; rw [if_neg (by omega)])
  have q1 : (k == 6) = false := by simpa using h1
  have q2 : (k == 8) = false := by simpa using h2
  have q3 : (k == 10) = false := by simpa using h3
  clear h1 h2 h3
  go_enter Tryz.func67, Tryz.ntmps67
  go_wp2
  go_ret
  exact ⟨by rw [HK.out]; rfl, rfl⟩

set_option maxHeartbeats 1600000 in
theorem flagged_f (k f : Int) (w : World) : Calls Tryz.prog 52 #[.int .i64 k, .int .i64 f] w fun e w' => e = .returned (.bool (flaggedF k f)) ∧ w = w' := by
  by_cases h1 : k = 3
  · subst h1
    by_cases h2 : 0 ≤ f
    · by_cases h3 : f ≤ 15
      · rcases (by omega : f = 0 ∨ f = 1 ∨ f = 2 ∨ f = 3 ∨ f = 4 ∨ f = 5 ∨ f = 6 ∨ f = 7 ∨ f = 8 ∨ f = 9 ∨ f = 10 ∨ f = 11 ∨ f = 12 ∨ f = 13 ∨ f = 14 ∨ f = 15) with rfl | rfl | rfl | rfl | rfl | rfl | rfl | rfl | rfl | rfl | rfl | rfl | rfl | rfl | rfl | rfl
        all_goals (clear h2 h3; go_enter Tryz.func52, Tryz.ntmps52)
        all_goals go_wp2
        all_goals go_ret
        all_goals exact ⟨rfl, rfl⟩
      · have HK := Lib.hid (show flaggedF 3 f = false by unfold flaggedF; simp; omega)
        go_enter Tryz.func52, Tryz.ntmps52
        go_wp2
        go_ret
        exact ⟨by rw [HK.out]; rfl, rfl⟩
    · have HK := Lib.hid (show flaggedF 3 f = false by unfold flaggedF; simp; omega)
      go_enter Tryz.func52, Tryz.ntmps52
      go_wp2
      go_ret
      exact ⟨by rw [HK.out]; rfl, rfl⟩
  · have HK := Lib.hid (show flaggedF k f = (f == fixedF k) by unfold flaggedF; rw [if_neg h1]; rfl)
    have q1 : (k == 3) = false := by simpa using h1
    have q2 : (k != 3) = true := by simp [h1]
    clear h1
    go_enter Tryz.func52, Tryz.ntmps52
    go_wp2_with fail
    refine (fixed_f k _).mono ?_
    rintro r w' ⟨rfl, rfl⟩
    go_wp2
    go_ret
    exact ⟨by rw [HK.out]; rfl, rfl⟩

set_option maxHeartbeats 400000 in
/-- head.Check. -/
theorem check_any (v k f l : Int) (w : World) : Calls Tryz.prog 33 #[.int .i64 v, .agg #[.int .i64 k, .int .i64 f, .int .i64 l]] w fun e w' => e = .returned (.int .i64 (checkF v k f l)) ∧ Below w.heap.size w w' := by
  have hA : Below w.heap.size w (w.alloc (.cells #[.int .i64 k, .int .i64 f, .int .i64 l] 93 (0, 0))) := (Below.refl _ _).alloc (Nat.le_refl _) _
  cases h1 : knownV v with
  | false =>
    rw [show checkF v k f l = 2 by unfold checkF; rw [if_pos h1]]
    have H1 := Lib.hid h1
    clear h1
    go_enter Tryz.func33, Tryz.ntmps33
    go_wp2_with fail
    refine (known_v v _).mono ?_
    rintro r w' ⟨rfl, rfl⟩
    rw [H1.out]
    go_wp2
    go_ret
    exact ⟨rfl, hA⟩
  | true =>
  cases h2 : kindsV v k with
  | false =>
    rw [show checkF v k f l = 8 by unfold checkF; rw [if_neg (by simp [h1]), if_pos h2]]
    have H1 := Lib.hid h1
    have H2 := Lib.hid h2
    clear h1 h2
    go_enter Tryz.func33, Tryz.ntmps33
    go_wp2_with fail
    refine (known_v v _).mono ?_
    rintro r w' ⟨rfl, rfl⟩
    rw [H1.out]
    go_wp2_with fail
    refine (kinds_v v k _).mono ?_
    rintro r w' ⟨rfl, rfl⟩
    rw [H2.out]
    go_wp2
    go_ret
    exact ⟨rfl, hA⟩
  | true =>
  cases h3 : flaggedF k f with
  | false =>
    rw [show checkF v k f l = 7 by unfold checkF; rw [if_neg (by simp [h1]), if_neg (by simp [h2]), if_pos h3]]
    have H1 := Lib.hid h1
    have H2 := Lib.hid h2
    have H3 := Lib.hid h3
    clear h1 h2 h3
    go_enter Tryz.func33, Tryz.ntmps33
    go_wp2_with fail
    refine (known_v v _).mono ?_
    rintro r w' ⟨rfl, rfl⟩
    rw [H1.out]
    go_wp2_with fail
    refine (kinds_v v k _).mono ?_
    rintro r w' ⟨rfl, rfl⟩
    rw [H2.out]
    go_wp2_with fail
    refine (flagged_f k f _).mono ?_
    rintro r w' ⟨rfl, rfl⟩
    rw [H3.out]
    go_wp2
    go_ret
    exact ⟨rfl, hA⟩
  | true =>
  have hz : (vsz l = 0 ∧ checkF v k f l = 2) ∨ (¬ vsz l = 0 ∧ checkF v k f l = 0) := by
    have e : checkF v k f l = if vmay l = false then 2 else 0 := by unfold checkF; rw [if_neg (by simp [h1]), if_neg (by simp [h2]), if_neg (by simp [h3])]
    rw [e]
    cases hm : vmay l with
    | false => exact .inl ⟨by unfold vsz; rw [if_pos (by simp [vmay] at hm; omega)], rfl⟩
    | true => exact .inr ⟨by simp [vmay] at hm; have := (vsz_pos hm.1 hm.2).1; omega, rfl⟩
  have H1 := Lib.hid h1
  have H2 := Lib.hid h2
  have H3 := Lib.hid h3
  clear h1 h2 h3
  rcases hz with ⟨hv, hc⟩ | ⟨hv, hc⟩
  · have HV := Lib.hid hv
    rw [hc]
    clear hv hc
    go_enter Tryz.func33, Tryz.ntmps33
    go_wp2_with fail
    refine (known_v v _).mono ?_
    rintro r w' ⟨rfl, rfl⟩
    rw [H1.out]
    go_wp2_with fail
    refine (kinds_v v k _).mono ?_
    rintro r w' ⟨rfl, rfl⟩
    rw [H2.out]
    go_wp2_with fail
    refine (flagged_f k f _).mono ?_
    rintro r w' ⟨rfl, rfl⟩
    rw [H3.out]
    go_wp2_with fail
    refine (vsz_any l _).mono ?_
    rintro r w' ⟨rfl, rfl⟩
    rw [HV.out]
    go_wp2
    go_ret
    exact ⟨rfl, hA⟩
  · have HV : (vsz l == 0) = false := by simpa using hv
    rw [hc]
    clear hv hc
    go_enter Tryz.func33, Tryz.ntmps33
    go_wp2_with fail
    refine (known_v v _).mono ?_
    rintro r w' ⟨rfl, rfl⟩
    rw [H1.out]
    go_wp2_with fail
    refine (kinds_v v k _).mono ?_
    rintro r w' ⟨rfl, rfl⟩
    rw [H2.out]
    go_wp2_with fail
    refine (flagged_f k f _).mono ?_
    rintro r w' ⟨rfl, rfl⟩
    rw [H3.out]
    go_wp2_with fail
    refine (vsz_any l _).mono ?_
    rintro r w' ⟨rfl, rfl⟩
    go_wp2
    go_ret
    exact ⟨rfl, hA⟩
end Go.Proofs.YtlfgkdiehmoohaaGreatDoor
