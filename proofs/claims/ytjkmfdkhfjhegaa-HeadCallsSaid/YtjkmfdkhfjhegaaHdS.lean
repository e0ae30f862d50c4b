/- The reference of chapter 7: Flags, Bytes, Read; names. -/
import Derived.Test.YtjkmfdkhfjhegaaHdR
import Derived.Test.YtjkmfdkhfjhegaaHdE
import Derived.Test.YtjkmfdkhfjhegaaVarR
import Derived.Test.YtjkmfdkhfjhegaaRefA
namespace Go.Proofs.Ytjkmfdkhfjhegaa
open Go.RowKit
set_option linter.unusedVariables false

set_option maxHeartbeats 1600000 in
theorem rhdbytes_any (v k f l : Int) (w : World) : Calls Try.prog 15 #[.int .i64 v, .agg #[.int .i64 k, .int .i64 f, .int .i64 l]] w fun e w' => e = .returned (.tuple #[.string ⟨(bytesF v k f l).1.toArray⟩, .int .i64 (bytesF v k f l).2]) ∧ Below w.heap.size w w' := by
  have hA : Below w.heap.size w (w.alloc (.cells #[.int .i64 k, .int .i64 f, .int .i64 l] 26 (0, 0))) := (Below.refl _ _).alloc (Nat.le_refl _) _
  have HO := Lib.hid (Obj?.new w #[.int .i64 k, .int .i64 f, .int .i64 l] 26)
  by_cases hc : checkF v k f l = 0
  · have e : bytesF v k f l = (putL (16 * k + f) 1 ++ vbytes l, 0) := by unfold bytesF; rw [if_neg (by simp [hc])]
    obtain ⟨c1, c2, c3, c4⟩ := checkF_ok hc
    have r2 := kindsV_range c2
    have r3 := flaggedF_range c3
    have r4 := vmay_range c4
    rw [e]
    have hu : IntKind.u64.wrap (16 * k + f) = 16 * k + f := wraps_u64 _ (by omega) (by omega)
    have hx : ByteArray.mk (putL (16 * k + f) 1).toArray ++ ByteArray.mk (vbytes l).toArray = ByteArray.mk (putL (16 * k + f) 1 ++ vbytes l).toArray := ByteArray.mk_append_mk _ _
    have hl1 : (putL (16 * k + f) 1).length ≤ 1 := by rw [length_putL]; decide
    have hl2 : (vbytes l).length ≤ 4 := by rw [length_vbytes]; exact (vsz_pos r4.1 r4.2).2
    have HB := Lib.hid hu
    have HC := Lib.hid hc
    clear hc e c1 c2 c3 c4 hu
    go_enter Try.func15, Try.ntmps15
    go_wp2_with fail
    refine (rcheck_any v k f l _).mono ?_
    rintro r w1 ⟨rfl, hb⟩
    rw [HC.out]
    have O := HO.out.below hb HO.out.lt
    have hB1 := hA.trans (hb.mono hA.size)
    have kc := O.cells
    have HO1 := Lib.hid O
    clear hb O
    go_wp2_with fail
    refine (rvbytes_any l r4.1 r4.2 _).mono ?_
    rintro r w2 ⟨rfl, hb⟩
    have hB2 := hB1.trans (hb.mono hB1.size)
    have O2 := HO1.out.below hb HO1.out.lt
    clear kc hb
    have kc := O2.cells
    clear O2
    go_wp2_with fail
    (try rw [HB.out])
    refine (rput_any _ _ _).mono ?_
    rintro r w3 ⟨rfl, hb⟩
    have hB3 := hB2.trans (hb.mono hB2.size)
    clear hb kc
    go_wp2
    go_ret2
    exact ⟨rfl, hB3⟩
  · have e : bytesF v k f l = ([], checkF v k f l) := by unfold bytesF; rw [if_pos hc]
    have q1 : (checkF v k f l == 0) = false := by simpa using hc
    have q2 : (checkF v k f l != 0) = true := by simp [hc]
    rw [e]
    obtain ⟨x, hx⟩ : ∃ x, x = checkF v k f l := ⟨_, rfl⟩
    rw [← hx] at q1 q2 ⊢
    have HX := Lib.hid hx
    clear hc e hx
    go_enter Try.func15, Try.ntmps15
    go_wp2_with fail
    refine (rcheck_any v k f l _).mono ?_
    rintro r w1 ⟨rfl, hb⟩
    rw [← HX.out]
    have hB1 := hA.trans (hb.mono hA.size)
    clear hb
    go_wp2
    go_ret2
    exact ⟨rfl, hB1⟩
set_option maxHeartbeats 1600000 in
/-- The reference's Flags. -/
theorem rhflags_any (v k : Int) (dup retain : Bool) (q : Int) (c4 c5 c6 c7 c8 c9 c10 c11 c12 c13 c14 c15 c16 c17 c18 c19 c20 c21 c22 c23 c24 : Value) (w : World) :
    Calls Try.prog 13 #[.int .i64 v, .agg #[.int .i64 k, .bool dup, .bool retain, .int .i64 q, c4, c5, c6, c7, c8, c9, c10, c11, c12, c13, c14, c15, c16, c17, c18, c19, c20, c21, c22, c23, c24]] w fun e w' =>
      e = .returned (.tuple #[.int .i64 (flagsF v k dup retain q).1, .int .i64 (flagsF v k dup retain q).2]) ∧ Below w.heap.size w w' := by
  have hA : ∀ cs : Array Value, Below w.heap.size w (w.alloc (.cells cs 35 (0, 0))) := fun _ => (Below.refl _ _).alloc (Nat.le_refl _) _
  cases h1 : knownV v with
  | false =>
    rw [show flagsF v k dup retain q = (0, 2) by unfold flagsF; rw [if_pos h1]]
    have H1 := Lib.hid h1
    clear h1
    go_enter Try.func13, Try.ntmps13
    go_wp2_with fail
    refine (rversion_v v _).mono ?_
    rintro r w' ⟨rfl, rfl⟩
    rw [H1.out]
    go_wp2
    go_ret2
    exact ⟨rfl, hA _⟩
  | true =>
  cases h2 : kindsV v k with
  | false =>
    rw [show flagsF v k dup retain q = (0, 8) by unfold flagsF; rw [if_neg (by simp [h1]), if_pos h2]]
    have H1 := Lib.hid h1
    have H2 := Lib.hid h2
    clear h1 h2
    go_enter Try.func13, Try.ntmps13
    go_wp2_with fail
    refine (rversion_v v _).mono ?_
    rintro r w' ⟨rfl, rfl⟩
    rw [H1.out]
    go_wp2_with fail
    refine (rkind_v v _ _).mono ?_
    rintro r w' ⟨rfl, rfl⟩
    rw [H2.out]
    go_wp2
    go_ret2
    exact ⟨rfl, hA _⟩
  | true =>
  have H1 := Lib.hid h1
  by_cases h3 : k = 3
  · subst h3
    have H2 := Lib.hid h2
    have e : flagsF v 3 dup retain q = if q < 0 ∨ 2 < q ∨ (q = 0 ∧ dup = true) then (0, 7) else (2 * q + (if retain then 1 else 0) + (if dup then 8 else 0), 0) := by unfold flagsF; rw [if_neg (by simp [h1]), if_neg (by simp [h2]), if_neg (by simp)]
    rw [e]
    clear h1 h2 e
    by_cases h4 : q < 0
    · rw [if_pos (.inl h4)]
      go_enter Try.func13, Try.ntmps13
      go_wp2_with fail
      refine (rversion_v v _).mono ?_
      rintro r w' ⟨rfl, rfl⟩
      rw [H1.out]
      go_wp2_with fail
      refine (rkind_v v _ _).mono ?_
      rintro r w' ⟨rfl, rfl⟩
      rw [H2.out]
      go_wp2
      go_ret2
      exact ⟨rfl, hA _⟩
    by_cases h5 : 2 < q
    · rw [if_pos (.inr (.inl h5))]
      go_enter Try.func13, Try.ntmps13
      go_wp2_with fail
      refine (rversion_v v _).mono ?_
      rintro r w' ⟨rfl, rfl⟩
      rw [H1.out]
      go_wp2_with fail
      refine (rkind_v v _ _).mono ?_
      rintro r w' ⟨rfl, rfl⟩
      rw [H2.out]
      go_wp2
      go_ret2
      exact ⟨rfl, hA _⟩
    rcases (by omega : q = 0 ∨ q = 1 ∨ q = 2) with rfl | rfl | rfl <;> cases dup <;> cases retain
    all_goals go_enter Try.func13, Try.ntmps13
    all_goals go_wp2_with fail
    all_goals refine (rversion_v v _).mono ?_
    all_goals rintro r w' ⟨rfl, rfl⟩
    all_goals rw [H1.out]
    all_goals go_wp2_with fail
    all_goals refine (rkind_v v _ _).mono ?_
    all_goals rintro r w' ⟨rfl, rfl⟩
    all_goals rw [H2.out]
    all_goals go_wp2
    all_goals go_ret2
    all_goals exact ⟨rfl, hA _⟩
  · have e : flagsF v k dup retain q = (fixedF k, 0) := by unfold flagsF; rw [if_neg (by simp [h1]), if_neg (by simp [h2]), if_pos h3]
    rw [e]
    have H2 := Lib.hid h2
    have q0 : (k == 3) = false := by simpa using h3
    clear h1 h2 e
    rcases (by omega : k = 6 ∨ k = 8 ∨ k = 10 ∨ (k ≠ 6 ∧ k ≠ 8 ∧ k ≠ 10)) with rfl | rfl | rfl | ⟨n1, n2, n3⟩
    rotate_right
    · have HX := Lib.hid (show fixedF k = 0 by unfold fixedF; rw [if_neg (by omega)])
      rw [HX.out]
      have q1 : (k == 6) = false := by simpa using n1
      have q2 : (k == 8) = false := by simpa using n2
      have q3 : (k == 10) = false := by simpa using n3
      clear n1 n2 n3 h3
      go_enter Try.func13, Try.ntmps13
      go_wp2_with fail
      refine (rversion_v v _).mono ?_
      rintro r w' ⟨rfl, rfl⟩
      rw [H1.out]
      go_wp2_with fail
      refine (rkind_v v _ _).mono ?_
      rintro r w' ⟨rfl, rfl⟩
      rw [H2.out]
      go_wp2
      go_ret2
      exact ⟨rfl, hA _⟩
    all_goals
      clear h3 q0
      go_enter Try.func13, Try.ntmps13
      go_wp2_with fail
      refine (rversion_v v _).mono ?_
      rintro r w' ⟨rfl, rfl⟩
      rw [H1.out]
      go_wp2_with fail
      refine (rkind_v v _ _).mono ?_
      rintro r w' ⟨rfl, rfl⟩
      rw [H2.out]
      go_wp2
      go_ret2
      exact ⟨rfl, hA _⟩

end Go.Proofs.Ytjkmfdkhfjhegaa
