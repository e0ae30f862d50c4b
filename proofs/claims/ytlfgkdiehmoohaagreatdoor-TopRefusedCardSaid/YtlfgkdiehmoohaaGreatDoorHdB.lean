/- head.Flags, head.Bytes; polyglotlaw07.lives. -/
import Derived.Test.YtlfgkdiehmoohaaGreatDoorHdA
import Derived.Test.YtlfgkdiehmoohaaGreatDoorOctL
import Derived.Test.YtlfgkdiehmoohaaGreatDoorVarQ
namespace Go.Proofs.YtlfgkdiehmoohaaGreatDoor
open Go.RowKit

def flagsF (v k : Int) (dup retain : Bool) (q : Int) : Int × Int :=
  if knownV v = false then (0, 2) else if kindsV v k = false then (0, 8) else if k ≠ 3 then (fixedF k, 0)
  else if q < 0 ∨ 2 < q ∨ (q = 0 ∧ dup = true) then (0, 7) else (2 * q + (if retain then 1 else 0) + (if dup then 8 else 0), 0)

set_option maxHeartbeats 800000 in
/-- head.Flags. -/
theorem flags_any (v k : Int) (dup retain : Bool) (q : Int) (c4 c5 c6 c7 c8 c9 c10 c11 c12 c13 c14 c15 c16 c17 c18 c19 c20 c21 c22 c23 c24 : Value) (w : World) :
    Calls Tryz.prog 142 #[.int .i64 v, .agg #[.int .i64 k, .bool dup, .bool retain, .int .i64 q, c4, c5, c6, c7, c8, c9, c10, c11, c12, c13, c14, c15, c16, c17, c18, c19, c20, c21, c22, c23, c24]] w fun e w' =>
      e = .returned (.tuple #[.int .i64 (flagsF v k dup retain q).1, .int .i64 (flagsF v k dup retain q).2]) ∧ Below w.heap.size w w' := by
  have hA : ∀ cs : Array Value, Below w.heap.size w (w.alloc (.cells cs 55 (0, 0))) := fun _ => (Below.refl _ _).alloc (Nat.le_refl _) _
  cases h1 : knownV v with
  | false =>
    rw [show flagsF v k dup retain q = (0, 2) by unfold flagsF; rw [if_pos h1]]
    have H1 := Lib.hid h1
    clear h1
    go_enter Tryz.func142, Tryz.ntmps142
    go_wp2_with fail
    refine (known_v v _).mono ?_
    rintro r w' ⟨rfl, rfl⟩
    rw [H1.out]
    go_wp2
    go_ret2
    exact ⟨rfl, hA _⟩
  | true =>
  cases h2 : kindsV v k with
  | false =>
    rw [show flagsF v k dup retain q = (0, 8) by unfold flagsF; rw [if_neg (by simp [h1]), if_pos h2]]
    have H1 := Lib.hid h1
    have H2 := Lib.hid h2
    clear h1 h2
    go_enter Tryz.func142, Tryz.ntmps142
    go_wp2_with fail
    refine (known_v v _).mono ?_
    rintro r w' ⟨rfl, rfl⟩
    rw [H1.out]
    go_wp2_with fail
    refine (kinds_v v _ _).mono ?_
    rintro r w' ⟨rfl, rfl⟩
    rw [H2.out]
    go_wp2
    go_ret2
    exact ⟨rfl, hA _⟩
  | true =>
  have H1 := Lib.hid h1
  by_cases h3 : k = 3
  · subst h3
    have H2 := Lib.hid h2
    have e : flagsF v 3 dup retain q = if q < 0 ∨ 2 < q ∨ (q = 0 ∧ dup = true) then (0, 7) else (2 * q + (if retain then 1 else 0) + (if dup then 8 else 0), 0) := by unfold flagsF; rw [if_neg (by simp [h1]), if_neg (by simp [h2]), if_neg (by simp)]
    rw [e]
    clear h1 h2 e
    by_cases h4 : q < 0
    · rw [if_pos (.inl h4)]
      go_enter Tryz.func142, Tryz.ntmps142
      go_wp2_with fail
      refine (known_v v _).mono ?_
      rintro r w' ⟨rfl, rfl⟩
      rw [H1.out]
      go_wp2_with fail
      refine (kinds_v v _ _).mono ?_
      rintro r w' ⟨rfl, rfl⟩
      rw [H2.out]
      go_wp2
      go_ret2
      exact ⟨rfl, hA _⟩
    by_cases h5 : 2 < q
    · rw [if_pos (.inr (.inl h5))]
      go_enter Tryz.func142, Tryz.ntmps142
      go_wp2_with fail
      refine (known_v v _).mono ?_
      rintro r w' ⟨rfl, rfl⟩
      rw [H1.out]
      go_wp2_with fail
      refine (kinds_v v _ _).mono ?_
      rintro r w' ⟨rfl, rfl⟩
      rw [H2.out]
      go_wp2
      go_ret2
      exact ⟨rfl, hA _⟩
    rcases (by omega : q = 0 ∨ q = 1 ∨ q = 2) with rfl | rfl | rfl <;> cases dup <;> cases retain
    all_goals go_enter Tryz.func142, Tryz.ntmps142
    all_goals go_wp2_with fail
    all_goals refine (known_v v _).mono ?_
    all_goals rintro r w' ⟨rfl, rfl⟩
    all_goals rw [H1.out]
    all_goals go_wp2_with fail
    all_goals refine (kinds_v v _ _).mono ?_
    all_goals rintro r w' ⟨rfl, rfl⟩
    all_goals rw [H2.out]
    all_goals go_wp2
    all_goals go_ret2
    all_goals exact ⟨rfl, hA _⟩
  · have e : flagsF v k dup retain q = (fixedF k, 0) := by unfold flagsF; rw [if_neg (by simp [h1]), if_neg (by simp [h2]), if_pos h3]
    rw [e]
    have H2 := Lib.hid h2
    have q1 : (k == 3) = false := by simpa using h3
    have q2 : (k != 3) = true := by simp [h3]
    clear h1 h2 h3 e
    go_enter Tryz.func142, Tryz.ntmps142
    go_wp2_with fail
    refine (known_v v _).mono ?_
    rintro r w' ⟨rfl, rfl⟩
    rw [H1.out]
    go_wp2_with fail
    refine (kinds_v v _ _).mono ?_
    rintro r w' ⟨rfl, rfl⟩
    rw [H2.out]
    go_wp2_with fail
    refine (fixed_f k _).mono ?_
    rintro r w' ⟨rfl, rfl⟩
    go_wp2
    go_ret2
    exact ⟨rfl, hA _⟩

def bytesF (v k f l : Int) : List UInt8 × Int := if checkF v k f l ≠ 0 then ([], checkF v k f l) else (putL (16 * k + f) 1 ++ vbytes l, 0)
theorem checkF_ok {v k f l : Int} (h : checkF v k f l = 0) : knownV v = true ∧ kindsV v k = true ∧ flaggedF k f = true ∧ vmay l = true := by
  unfold checkF at h
  split at h
  · cases h
  split at h
  · cases h
  split at h
  · cases h
  split at h
  · cases h
  · simp_all
theorem flaggedF_range {k f : Int} (h : flaggedF k f = true) : 0 ≤ f ∧ f ≤ 15 := by
  unfold flaggedF at h
  split at h
  · simp at h; omega
  · have : f = fixedF k := by simpa using h
    unfold fixedF at this
    split at this <;> omega
theorem kindsV_range {v k : Int} (h : kindsV v k = true) : 1 ≤ k ∧ k ≤ 15 := by
  unfold kindsV at h; simp at h; omega
theorem vmay_range {l : Int} (h : vmay l = true) : 0 ≤ l ∧ l ≤ 268435455 := by simpa [vmay] using h

end Go.Proofs.YtlfgkdiehmoohaaGreatDoor
