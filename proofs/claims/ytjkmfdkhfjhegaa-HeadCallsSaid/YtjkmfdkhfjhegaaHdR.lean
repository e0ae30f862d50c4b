/- The reference of chapter 7: Version, kind, flags, Check. -/
import Derived.Test.YtjkmfdkhfjhegaaHdB
namespace Go.Proofs.Ytjkmfdkhfjhegaa
open Go.RowKit
set_option linter.unusedVariables false

set_option maxHeartbeats 400000 in
theorem rversion_v (v : Int) (w : World) : Calls Try.prog 36 #[.int .i64 v] w fun e w' => e = .returned (.bool (knownV v)) ∧ w = w' := by
  by_cases h1 : v = 4
  · subst h1
    go_enter Try.func36, Try.ntmps36
    go_wp2
    go_ret
    exact ⟨rfl, rfl⟩
  by_cases h2 : v = 5
  · subst h2
    go_enter Try.func36, Try.ntmps36
    go_wp2
    go_ret
    exact ⟨rfl, rfl⟩
  have HK := Lib.hid (show knownV v = false by unfold knownV; simp [h1, h2])
  have q1 : (v == 4) = false := by simpa using h1
  have q2 : (v == 5) = false := by simpa using h2
  clear h1 h2
  go_enter Try.func36, Try.ntmps36
  go_wp2
  go_ret
  exact ⟨by rw [HK.out]; rfl, rfl⟩

set_option maxHeartbeats 800000 in
theorem rkind_v (v k : Int) (w : World) : Calls Try.prog 37 #[.int .i64 v, .int .i64 k] w fun e w' => e = .returned (.bool (kindsV v k)) ∧ w = w' := by
  rcases (by omega : k < 1 ∨ (1 ≤ k ∧ k < 15) ∨ k = 15 ∨ 15 < k) with h | ⟨h, h2⟩ | h | h
  · have HK := Lib.hid (show kindsV v k = false by unfold kindsV; simp; omega)
    rw [HK.out]
    go_enter Try.func37, Try.ntmps37
    go_wp2
    go_ret
    exact ⟨rfl, rfl⟩
  · have HK := Lib.hid (show kindsV v k = true by unfold kindsV; simp; omega)
    rw [HK.out]
    go_enter Try.func37, Try.ntmps37
    go_wp2
    go_ret
    exact ⟨rfl, rfl⟩
  · subst h
    by_cases h5 : v = 5
    · subst h5
      go_enter Try.func37, Try.ntmps37
      go_wp2
      go_ret
      exact ⟨rfl, rfl⟩
    · have HK := Lib.hid (show kindsV v 15 = false by unfold kindsV; simp [h5])
      rw [HK.out]
      have q : (v == 5) = false := by simpa using h5
      clear h5
      go_enter Try.func37, Try.ntmps37
      go_wp2
      go_ret
      exact ⟨rfl, rfl⟩
  · have HK := Lib.hid (show kindsV v k = false by unfold kindsV; simp; omega)
    rw [HK.out]
    have q : (k == 15) = false := by simp; omega
    have d : decide (k < 15) = false := decide_eq_false (by omega)
    go_enter Try.func37, Try.ntmps37
    go_wp2
    go_ret
    exact ⟨rfl, rfl⟩

set_option maxHeartbeats 1600000 in
theorem rflags2_f (k f : Int) (w : World) : Calls Try.prog 43 #[.int .i64 k, .int .i64 f] w fun e w' => e = .returned (.bool (flaggedF k f)) ∧ w = w' := by
  by_cases h1 : k = 3
  · subst h1
    by_cases h2 : 0 ≤ f
    · by_cases h3 : f ≤ 15
      · rcases (by omega : f = 0 ∨ f = 1 ∨ f = 2 ∨ f = 3 ∨ f = 4 ∨ f = 5 ∨ f = 6 ∨ f = 7 ∨ f = 8 ∨ f = 9 ∨ f = 10 ∨ f = 11 ∨ f = 12 ∨ f = 13 ∨ f = 14 ∨ f = 15) with rfl | rfl | rfl | rfl | rfl | rfl | rfl | rfl | rfl | rfl | rfl | rfl | rfl | rfl | rfl | rfl
        all_goals (clear h2 h3; go_enter Try.func43, Try.ntmps43)
        all_goals go_wp2
        all_goals go_ret
        all_goals exact ⟨rfl, rfl⟩
      · have HK := Lib.hid (show flaggedF 3 f = false by unfold flaggedF; simp; omega)
        rw [HK.out]
        go_enter Try.func43, Try.ntmps43
        go_wp2
        go_ret
        exact ⟨rfl, rfl⟩
    · have HK := Lib.hid (show flaggedF 3 f = false by unfold flaggedF; simp; omega)
      rw [HK.out]
      go_enter Try.func43, Try.ntmps43
      go_wp2
      go_ret
      exact ⟨rfl, rfl⟩
  · have HF := Lib.hid (show flaggedF k f = (f == fixedF k) by unfold flaggedF; rw [if_neg h1]; rfl)
    have q0 : (k == 3) = false := by simpa using h1
    rw [HF.out]
    rcases (by omega : k = 6 ∨ k = 8 ∨ k = 10 ∨ (k ≠ 6 ∧ k ≠ 8 ∧ k ≠ 10)) with rfl | rfl | rfl | ⟨n1, n2, n3⟩
    rotate_right
    · have HX := Lib.hid (show fixedF k = 0 by unfold fixedF; rw [if_neg (by omega)])
      rw [HX.out]
      have q1 : (k == 6) = false := by simpa using n1
      have q2 : (k == 8) = false := by simpa using n2
      have q3 : (k == 10) = false := by simpa using n3
      clear n1 n2 n3 h1
      go_enter Try.func43, Try.ntmps43
      go_wp2
      go_ret
      exact ⟨rfl, rfl⟩
    all_goals
      clear h1 q0
      go_enter Try.func43, Try.ntmps43
      go_wp2
      go_ret
      exact ⟨rfl, rfl⟩
set_option maxHeartbeats 400000 in
/-- The reference's Check. -/
theorem rcheck_any (v k f l : Int) (w : World) : Calls Try.prog 17 #[.int .i64 v, .agg #[.int .i64 k, .int .i64 f, .int .i64 l]] w fun e w' => e = .returned (.int .i64 (checkF v k f l)) ∧ Below w.heap.size w w' := by
  have hA : Below w.heap.size w (w.alloc (.cells #[.int .i64 k, .int .i64 f, .int .i64 l] 26 (0, 0))) := (Below.refl _ _).alloc (Nat.le_refl _) _
  cases h1 : knownV v with
  | false =>
    rw [show checkF v k f l = 2 by unfold checkF; rw [if_pos h1]]
    have H1 := Lib.hid h1
    clear h1
    go_enter Try.func17, Try.ntmps17
    go_wp2_with fail
    refine (rversion_v v _).mono ?_
    rintro r w' ⟨rfl, rfl⟩
    rw [H1.out]
    go_wp2
    go_ret
    exact ⟨rfl, hA⟩
  | true =>
  cases h2 : kindsV v k with
  | false =>
    rw [show checkF v k f l = 8 by unfold checkF; rw [if_neg (by simp [h1]), if_pos h2]]
    have H1 := Lib.hid h1
    have H2 := Lib.hid h2
    clear h1 h2
    go_enter Try.func17, Try.ntmps17
    go_wp2_with fail
    refine (rversion_v v _).mono ?_
    rintro r w' ⟨rfl, rfl⟩
    rw [H1.out]
    go_wp2_with fail
    refine (rkind_v v k _).mono ?_
    rintro r w' ⟨rfl, rfl⟩
    rw [H2.out]
    go_wp2
    go_ret
    exact ⟨rfl, hA⟩
  | true =>
  cases h3 : flaggedF k f with
  | false =>
    rw [show checkF v k f l = 7 by unfold checkF; rw [if_neg (by simp [h1]), if_neg (by simp [h2]), if_pos h3]]
    have H1 := Lib.hid h1
    have H2 := Lib.hid h2
    have H3 := Lib.hid h3
    clear h1 h2 h3
    go_enter Try.func17, Try.ntmps17
    go_wp2_with fail
    refine (rversion_v v _).mono ?_
    rintro r w' ⟨rfl, rfl⟩
    rw [H1.out]
    go_wp2_with fail
    refine (rkind_v v k _).mono ?_
    rintro r w' ⟨rfl, rfl⟩
    rw [H2.out]
    go_wp2_with fail
    refine (rflags2_f k f _).mono ?_
    rintro r w' ⟨rfl, rfl⟩
    rw [H3.out]
    go_wp2
    go_ret
    exact ⟨rfl, hA⟩
  | true =>
  have e : checkF v k f l = if vmay l = false then 2 else 0 := by unfold checkF; rw [if_neg (by simp [h1]), if_neg (by simp [h2]), if_neg (by simp [h3])]
  rw [e]
  have H1 := Lib.hid h1
  have H2 := Lib.hid h2
  have H3 := Lib.hid h3
  clear h1 h2 h3 e
  rcases (by omega : l < 0 ∨ (0 ≤ l ∧ 268435455 < l) ∨ (0 ≤ l ∧ l ≤ 268435455)) with h | ⟨h0, h⟩ | ⟨h0, h⟩
  · rw [if_pos (show vmay l = false by simp [vmay]; omega)]
    go_enter Try.func17, Try.ntmps17
    go_wp2_with fail
    refine (rversion_v v _).mono ?_
    rintro r w' ⟨rfl, rfl⟩
    rw [H1.out]
    go_wp2_with fail
    refine (rkind_v v k _).mono ?_
    rintro r w' ⟨rfl, rfl⟩
    rw [H2.out]
    go_wp2_with fail
    refine (rflags2_f k f _).mono ?_
    rintro r w' ⟨rfl, rfl⟩
    rw [H3.out]
    go_wp2
    go_ret
    exact ⟨rfl, hA⟩
  · rw [if_pos (show vmay l = false by simp [vmay]; omega)]
    go_enter Try.func17, Try.ntmps17
    go_wp2_with fail
    refine (rversion_v v _).mono ?_
    rintro r w' ⟨rfl, rfl⟩
    rw [H1.out]
    go_wp2_with fail
    refine (rkind_v v k _).mono ?_
    rintro r w' ⟨rfl, rfl⟩
    rw [H2.out]
    go_wp2_with fail
    refine (rflags2_f k f _).mono ?_
    rintro r w' ⟨rfl, rfl⟩
    rw [H3.out]
    go_wp2
    go_ret
    exact ⟨rfl, hA⟩
  · rw [if_neg (by simp [vmay]; omega)]
    go_enter Try.func17, Try.ntmps17
    go_wp2_with fail
    refine (rversion_v v _).mono ?_
    rintro r w' ⟨rfl, rfl⟩
    rw [H1.out]
    go_wp2_with fail
    refine (rkind_v v k _).mono ?_
    rintro r w' ⟨rfl, rfl⟩
    rw [H2.out]
    go_wp2_with fail
    refine (rflags2_f k f _).mono ?_
    rintro r w' ⟨rfl, rfl⟩
    rw [H3.out]
    go_wp2
    go_ret
    exact ⟨rfl, hA⟩
end Go.Proofs.Ytjkmfdkhfjhegaa
