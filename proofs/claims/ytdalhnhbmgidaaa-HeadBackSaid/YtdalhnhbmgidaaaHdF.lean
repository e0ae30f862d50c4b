/- HeadBack. -/
import Derived.Test.YtdalhnhbmgidaaaHdE
namespace Go.Proofs.Ytdalhnhbmgidaaa
open Go.RowKit
set_option linter.unusedVariables false

set_option maxRecDepth 100000 in
set_option maxHeartbeats 800000 in
theorem headBack_long (v k f l : Int) (bh t : List UInt8) (h : 60 < bh.length ∨ (bh.length ≤ 60 ∧ 60 < t.length)) (w : World) :
    Calls Try.prog 6 #[.int .i64 v, .agg #[.int .i64 k, .int .i64 f, .int .i64 l], .string ⟨bh.toArray⟩, .string ⟨t.toArray⟩] w fun e w' => e = .returned (.bool true) ∧ Below w.heap.size w w' := by
  have hA : Below w.heap.size w (w.alloc (.cells #[.int .i64 k, .int .i64 f, .int .i64 l] 42 (0, 0))) := (Below.refl _ _).alloc (Nat.le_refl _) _
  rcases h with h | ⟨h, h2⟩
  all_goals
    go_enter Try.func6, Try.ntmps6
    go_wp2_with fail
    refine (lives07 _).mono ?_
    rintro e w1 ⟨rfl, hb⟩
    have hB1 := hA.trans (hb.mono hA.size)
    clear hb
    go_wp2_with fail
    go_ret
    exact ⟨rfl, hB1⟩

set_option maxRecDepth 100000 in
set_option maxHeartbeats 1600000 in
theorem headBack_no_ok (v k f l : Int) (bh t : List UInt8) (hbh : bh.length ≤ 60) (ht : t.length ≤ 60) (E : Int) (hE : (E == 0) = false) (hE2 : (E != 0) = true) (HC : Hid (bytesF v k f l = ([], E) ∧ checkF v k f l = E ∧ True)) (k2 f2 l2 : Int) (n : Nat) (HR : Hid (rdH v t = (k2, f2, l2, (n : Int), 0) ∧ checkF v k2 f2 l2 = 0 ∧ n ≤ t.length ∧ hdA k2 f2 l2 = t.take n)) (w : World) :
    Calls Try.prog 6 #[.int .i64 v, .agg #[.int .i64 k, .int .i64 f, .int .i64 l], .string ⟨bh.toArray⟩, .string ⟨t.toArray⟩] w fun e w' => e = .returned (.bool true) ∧ Below w.heap.size w w' := by
  have hA : Below w.heap.size w (w.alloc (.cells #[.int .i64 k, .int .i64 f, .int .i64 l] 42 (0, 0))) := (Below.refl _ _).alloc (Nat.le_refl _) _
  have HF0 := Lib.hid (Obj?.new w #[.int .i64 k, .int .i64 f, .int .i64 l] 42)
  go_enter Try.func6, Try.ntmps6
  go_wp2_with fail
  refine (lives07 _).mono ?_
  rintro e w1 ⟨rfl, hb⟩
  have hB1 := hA.trans (hb.mono hA.size)
  have HF1 := Lib.hid (HF0.out.below hb HF0.out.lt)
  clear HF0
  clear hb
  have kcF := HF1.out.cells
  have kfF := HF1.out.froz
  have kzF := HF1.out.lt
  go_wp2_with fail
  refine (hdbytes_any v k f l _).mono ?_
  rintro e w2 ⟨rfl, hb⟩
  rw [HC.out.1]
  clear kcF kfF kzF
  have hB2 := hB1.trans (hb.mono hB1.size)
  have HF2 := Lib.hid (HF1.out.below hb HF1.out.lt)
  clear HF1
  clear hb
  have kcF := HF2.out.cells
  have kfF := HF2.out.froz
  have kzF := HF2.out.lt
  go_wp2_with fail
  refine (check_any v k f l _).mono ?_
  rintro e w3 ⟨rfl, hb⟩
  rw [HC.out.2.1]
  clear kcF kfF kzF
  have hB3 := hB2.trans (hb.mono hB2.size)
  have HF3 := Lib.hid (HF2.out.below hb HF2.out.lt)
  clear HF2
  clear hb
  go_wp2_with fail
  refine (hdread_any v t (by omega) _).mono ?_
  rintro e w21 ⟨rfl, hb⟩
  rw [HR.out.1]
  have hB21 := hB3.trans (hb.mono hB3.size)
  clear hb
  have hB21' := below_al hB21 (.cells #[.int .i64 k2, .int .i64 f2, .int .i64 l2] 42 (0, 0))
  have HG0 := Lib.hid (Obj?.new w21 #[.int .i64 k2, .int .i64 f2, .int .i64 l2] 42)
  have kcG := HG0.out.cells
  have kfG := HG0.out.froz
  have kzG := HG0.out.lt
  go_wp2_with fail
  refine (hdbytes_any v k2 f2 l2 _).mono ?_
  rintro e w22 ⟨rfl, hb⟩
  rw [bytesF_ok HR.out.2.1]
  clear kcG kfG kzG
  have hB22 := hB21'.trans (hb.mono hB21'.size)
  have HG1 := Lib.hid (HG0.out.below hb HG0.out.lt)
  clear HG0
  clear hb
  have hex : (ByteArray.mk t.toArray).extract 0 n = ByteArray.mk (t.take n).toArray := by rw [ByteArray.extract_mk]; simp
  have hn := HR.out.2.2.1
  rw [HR.out.2.2.2]
  go_wp2_with fail
  go_ret
  exact ⟨rfl, hB22⟩

set_option maxRecDepth 100000 in
set_option maxHeartbeats 1600000 in
theorem headBack_yes_ok (v k f l : Int) (bh t : List UInt8) (hbh : bh.length ≤ 60) (ht : t.length ≤ 60) (A : List UInt8) (hA1 : 2 ≤ A.length) (hA2 : A.length ≤ 5) (HC : Hid (bytesF v k f l = (A, 0) ∧ checkF v k f l = 0 ∧ rdH v (A ++ bh) = (k, f, l, (A.length : Int), 0) ∧ ∀ i, i < A.length → rdH v (A.take i) = (0, 0, 0, 0, 3))) (k2 f2 l2 : Int) (n : Nat) (HR : Hid (rdH v t = (k2, f2, l2, (n : Int), 0) ∧ checkF v k2 f2 l2 = 0 ∧ n ≤ t.length ∧ hdA k2 f2 l2 = t.take n)) (w : World) :
    Calls Try.prog 6 #[.int .i64 v, .agg #[.int .i64 k, .int .i64 f, .int .i64 l], .string ⟨bh.toArray⟩, .string ⟨t.toArray⟩] w fun e w' => e = .returned (.bool true) ∧ Below w.heap.size w w' := by
  have hA : Below w.heap.size w (w.alloc (.cells #[.int .i64 k, .int .i64 f, .int .i64 l] 42 (0, 0))) := (Below.refl _ _).alloc (Nat.le_refl _) _
  have HF0 := Lib.hid (Obj?.new w #[.int .i64 k, .int .i64 f, .int .i64 l] 42)
  go_enter Try.func6, Try.ntmps6
  go_wp2_with fail
  refine (lives07 _).mono ?_
  rintro e w1 ⟨rfl, hb⟩
  have hB1 := hA.trans (hb.mono hA.size)
  have HF1 := Lib.hid (HF0.out.below hb HF0.out.lt)
  clear HF0
  clear hb
  have kcF := HF1.out.cells
  have kfF := HF1.out.froz
  have kzF := HF1.out.lt
  go_wp2_with fail
  refine (hdbytes_any v k f l _).mono ?_
  rintro e w2 ⟨rfl, hb⟩
  rw [HC.out.1]
  clear kcF kfF kzF
  have hB2 := hB1.trans (hb.mono hB1.size)
  have HF2 := Lib.hid (HF1.out.below hb HF1.out.lt)
  clear HF1
  clear hb
  have kcF := HF2.out.cells
  have kfF := HF2.out.froz
  have kzF := HF2.out.lt
  go_wp2_with fail
  refine (check_any v k f l _).mono ?_
  rintro e w3 ⟨rfl, hb⟩
  rw [HC.out.2.1]
  clear kcF kfF kzF
  have hB3 := hB2.trans (hb.mono hB2.size)
  have HF3 := Lib.hid (HF2.out.below hb HF2.out.lt)
  clear HF2
  clear hb
  have hap : ByteArray.mk A.toArray ++ ByteArray.mk bh.toArray = ByteArray.mk (A ++ bh).toArray := ByteArray.mk_append_mk _ _
  have hs1 : ¬ 9223372036854775807 < A.length + bh.length := by omega
  go_wp2_with fail
  refine (hdread_any v (A ++ bh) (by rw [List.length_append]; omega) _).mono ?_
  rintro e w4 ⟨rfl, hb⟩
  rw [HC.out.2.2.1]
  have hB4 := hB3.trans (hb.mono hB3.size)
  have HF4 := Lib.hid (HF3.out.below hb HF3.out.lt)
  clear HF3
  clear hb
  clear hap
  have hB4' := below_al hB4 (.cells #[.int .i64 k, .int .i64 f, .int .i64 l] 42 (0, 0))
  have HF5 := Lib.hid (HF4.out.alloc (.cells #[.int .i64 k, .int .i64 f, .int .i64 l] 42 (0, 0)))
  clear HF4
  have HG0 := Lib.hid (Obj?.new w4 #[.int .i64 k, .int .i64 f, .int .i64 l] 42)
  have kcF := HF5.out.cells
  have kfF := HF5.out.froz
  have kzF := HF5.out.lt
  have kcG := HG0.out.cells
  have kfG := HG0.out.froz
  have kzG := HG0.out.lt
  go_wp2_with fail
  clear kcF kfF kzF kcG kfG kzG
  go_loopw [14] (fun i wr => ∃ j : Nat, j ≤ A.length ∧ i = .int .i64 j ∧ Below w.heap.size w wr) (fun i _ => A.length - (intOf i).toNat)
  case atStart => exact ⟨0, Nat.zero_le _, rfl, hB4'⟩
  case round =>
    obtain ⟨j, hj, rfl, hB⟩ := hrel
    by_cases hlt : j < A.length
    · have hex : (ByteArray.mk A.toArray).extract 0 j = ByteArray.mk (A.take j).toArray := by rw [ByteArray.extract_mk]; simp
      go_wp2_with fail
      refine (hdread_any v (A.take j) (by rw [List.length_take]; omega) _).mono ?_
      rintro e w9 ⟨rfl, hb⟩
      rw [HC.out.2.2.2 j hlt]
      have hB9 := below_al (hB.trans (hb.mono hB.size)) (.cells #[.int .i64 0, .int .i64 0, .int .i64 0] 42 (0, 0))
      clear hb hex
      go_wp2_with fail
      go_roundw
      case rel => exact ⟨j + 1, by omega, by go_num, hB9⟩
      case measure => simp [intOf]; omega
    · obtain rfl : j = A.length := by omega
      go_wp2_with fail
      refine (hdread_any v t (by omega) _).mono ?_
      rintro e w21 ⟨rfl, hb⟩
      rw [HR.out.1]
      have hB21 := hB.trans (hb.mono hB.size)
      clear hb
      have hB21' := below_al hB21 (.cells #[.int .i64 k2, .int .i64 f2, .int .i64 l2] 42 (0, 0))
      have HG0 := Lib.hid (Obj?.new w21 #[.int .i64 k2, .int .i64 f2, .int .i64 l2] 42)
      have kcG := HG0.out.cells
      have kfG := HG0.out.froz
      have kzG := HG0.out.lt
      go_wp2_with fail
      refine (hdbytes_any v k2 f2 l2 _).mono ?_
      rintro e w22 ⟨rfl, hb⟩
      rw [bytesF_ok HR.out.2.1]
      clear kcG kfG kzG
      have hB22 := hB21'.trans (hb.mono hB21'.size)
      have HG1 := Lib.hid (HG0.out.below hb HG0.out.lt)
      clear HG0
      clear hb
      have hex : (ByteArray.mk t.toArray).extract 0 n = ByteArray.mk (t.take n).toArray := by rw [ByteArray.extract_mk]; simp
      have hn := HR.out.2.2.1
      rw [HR.out.2.2.2]
      go_wp2_with fail
      go_ret
      exact ⟨rfl, hB22⟩

set_option maxRecDepth 100000 in
set_option maxHeartbeats 1600000 in
theorem headBack_no_err (v k f l : Int) (bh t : List UInt8) (hbh : bh.length ≤ 60) (ht : t.length ≤ 60) (E : Int) (hE : (E == 0) = false) (hE2 : (E != 0) = true) (HC : Hid (bytesF v k f l = ([], E) ∧ checkF v k f l = E ∧ True)) (e0 : Int) (he0 : (e0 == 0) = false) (he1 : (e0 != 0) = true) (HR : Hid (rdH v t = (0, 0, 0, 0, e0) ∧ True)) (w : World) :
    Calls Try.prog 6 #[.int .i64 v, .agg #[.int .i64 k, .int .i64 f, .int .i64 l], .string ⟨bh.toArray⟩, .string ⟨t.toArray⟩] w fun e w' => e = .returned (.bool true) ∧ Below w.heap.size w w' := by
  have hA : Below w.heap.size w (w.alloc (.cells #[.int .i64 k, .int .i64 f, .int .i64 l] 42 (0, 0))) := (Below.refl _ _).alloc (Nat.le_refl _) _
  have HF0 := Lib.hid (Obj?.new w #[.int .i64 k, .int .i64 f, .int .i64 l] 42)
  go_enter Try.func6, Try.ntmps6
  go_wp2_with fail
  refine (lives07 _).mono ?_
  rintro e w1 ⟨rfl, hb⟩
  have hB1 := hA.trans (hb.mono hA.size)
  have HF1 := Lib.hid (HF0.out.below hb HF0.out.lt)
  clear HF0
  clear hb
  have kcF := HF1.out.cells
  have kfF := HF1.out.froz
  have kzF := HF1.out.lt
  go_wp2_with fail
  refine (hdbytes_any v k f l _).mono ?_
  rintro e w2 ⟨rfl, hb⟩
  rw [HC.out.1]
  clear kcF kfF kzF
  have hB2 := hB1.trans (hb.mono hB1.size)
  have HF2 := Lib.hid (HF1.out.below hb HF1.out.lt)
  clear HF1
  clear hb
  have kcF := HF2.out.cells
  have kfF := HF2.out.froz
  have kzF := HF2.out.lt
  go_wp2_with fail
  refine (check_any v k f l _).mono ?_
  rintro e w3 ⟨rfl, hb⟩
  rw [HC.out.2.1]
  clear kcF kfF kzF
  have hB3 := hB2.trans (hb.mono hB2.size)
  have HF3 := Lib.hid (HF2.out.below hb HF2.out.lt)
  clear HF2
  clear hb
  go_wp2_with fail
  refine (hdread_any v t (by omega) _).mono ?_
  rintro e w21 ⟨rfl, hb⟩
  rw [HR.out.1]
  have hB21 := hB3.trans (hb.mono hB3.size)
  clear hb
  have hB21' := below_al hB21 (.cells #[.int .i64 0, .int .i64 0, .int .i64 0] 42 (0, 0))
  go_wp2_with fail
  go_ret
  exact ⟨rfl, hB21'⟩

set_option maxRecDepth 100000 in
set_option maxHeartbeats 1600000 in
theorem headBack_yes_err (v k f l : Int) (bh t : List UInt8) (hbh : bh.length ≤ 60) (ht : t.length ≤ 60) (A : List UInt8) (hA1 : 2 ≤ A.length) (hA2 : A.length ≤ 5) (HC : Hid (bytesF v k f l = (A, 0) ∧ checkF v k f l = 0 ∧ rdH v (A ++ bh) = (k, f, l, (A.length : Int), 0) ∧ ∀ i, i < A.length → rdH v (A.take i) = (0, 0, 0, 0, 3))) (e0 : Int) (he0 : (e0 == 0) = false) (he1 : (e0 != 0) = true) (HR : Hid (rdH v t = (0, 0, 0, 0, e0) ∧ True)) (w : World) :
    Calls Try.prog 6 #[.int .i64 v, .agg #[.int .i64 k, .int .i64 f, .int .i64 l], .string ⟨bh.toArray⟩, .string ⟨t.toArray⟩] w fun e w' => e = .returned (.bool true) ∧ Below w.heap.size w w' := by
  have hA : Below w.heap.size w (w.alloc (.cells #[.int .i64 k, .int .i64 f, .int .i64 l] 42 (0, 0))) := (Below.refl _ _).alloc (Nat.le_refl _) _
  have HF0 := Lib.hid (Obj?.new w #[.int .i64 k, .int .i64 f, .int .i64 l] 42)
  go_enter Try.func6, Try.ntmps6
  go_wp2_with fail
  refine (lives07 _).mono ?_
  rintro e w1 ⟨rfl, hb⟩
  have hB1 := hA.trans (hb.mono hA.size)
  have HF1 := Lib.hid (HF0.out.below hb HF0.out.lt)
  clear HF0
  clear hb
  have kcF := HF1.out.cells
  have kfF := HF1.out.froz
  have kzF := HF1.out.lt
  go_wp2_with fail
  refine (hdbytes_any v k f l _).mono ?_
  rintro e w2 ⟨rfl, hb⟩
  rw [HC.out.1]
  clear kcF kfF kzF
  have hB2 := hB1.trans (hb.mono hB1.size)
  have HF2 := Lib.hid (HF1.out.below hb HF1.out.lt)
  clear HF1
  clear hb
  have kcF := HF2.out.cells
  have kfF := HF2.out.froz
  have kzF := HF2.out.lt
  go_wp2_with fail
  refine (check_any v k f l _).mono ?_
  rintro e w3 ⟨rfl, hb⟩
  rw [HC.out.2.1]
  clear kcF kfF kzF
  have hB3 := hB2.trans (hb.mono hB2.size)
  have HF3 := Lib.hid (HF2.out.below hb HF2.out.lt)
  clear HF2
  clear hb
  have hap : ByteArray.mk A.toArray ++ ByteArray.mk bh.toArray = ByteArray.mk (A ++ bh).toArray := ByteArray.mk_append_mk _ _
  have hs1 : ¬ 9223372036854775807 < A.length + bh.length := by omega
  go_wp2_with fail
  refine (hdread_any v (A ++ bh) (by rw [List.length_append]; omega) _).mono ?_
  rintro e w4 ⟨rfl, hb⟩
  rw [HC.out.2.2.1]
  have hB4 := hB3.trans (hb.mono hB3.size)
  have HF4 := Lib.hid (HF3.out.below hb HF3.out.lt)
  clear HF3
  clear hb
  clear hap
  have hB4' := below_al hB4 (.cells #[.int .i64 k, .int .i64 f, .int .i64 l] 42 (0, 0))
  have HF5 := Lib.hid (HF4.out.alloc (.cells #[.int .i64 k, .int .i64 f, .int .i64 l] 42 (0, 0)))
  clear HF4
  have HG0 := Lib.hid (Obj?.new w4 #[.int .i64 k, .int .i64 f, .int .i64 l] 42)
  have kcF := HF5.out.cells
  have kfF := HF5.out.froz
  have kzF := HF5.out.lt
  have kcG := HG0.out.cells
  have kfG := HG0.out.froz
  have kzG := HG0.out.lt
  go_wp2_with fail
  clear kcF kfF kzF kcG kfG kzG
  go_loopw [14] (fun i wr => ∃ j : Nat, j ≤ A.length ∧ i = .int .i64 j ∧ Below w.heap.size w wr) (fun i _ => A.length - (intOf i).toNat)
  case atStart => exact ⟨0, Nat.zero_le _, rfl, hB4'⟩
  case round =>
    obtain ⟨j, hj, rfl, hB⟩ := hrel
    by_cases hlt : j < A.length
    · have hex : (ByteArray.mk A.toArray).extract 0 j = ByteArray.mk (A.take j).toArray := by rw [ByteArray.extract_mk]; simp
      go_wp2_with fail
      refine (hdread_any v (A.take j) (by rw [List.length_take]; omega) _).mono ?_
      rintro e w9 ⟨rfl, hb⟩
      rw [HC.out.2.2.2 j hlt]
      have hB9 := below_al (hB.trans (hb.mono hB.size)) (.cells #[.int .i64 0, .int .i64 0, .int .i64 0] 42 (0, 0))
      clear hb hex
      go_wp2_with fail
      go_roundw
      case rel => exact ⟨j + 1, by omega, by go_num, hB9⟩
      case measure => simp [intOf]; omega
    · obtain rfl : j = A.length := by omega
      go_wp2_with fail
      refine (hdread_any v t (by omega) _).mono ?_
      rintro e w21 ⟨rfl, hb⟩
      rw [HR.out.1]
      have hB21 := hB.trans (hb.mono hB.size)
      clear hb
      have hB21' := below_al hB21 (.cells #[.int .i64 0, .int .i64 0, .int .i64 0] 42 (0, 0))
      go_wp2_with fail
      go_ret
      exact ⟨rfl, hB21'⟩

set_option maxRecDepth 100000 in
theorem headBack_walk (v k f l : Int) (bh t : List UInt8) (w : World) :
    Calls Try.prog 6 #[.int .i64 v, .agg #[.int .i64 k, .int .i64 f, .int .i64 l], .string ⟨bh.toArray⟩, .string ⟨t.toArray⟩] w fun e w' => e = .returned (.bool true) ∧ Below w.heap.size w w' := by
  by_cases h1 : 60 < bh.length
  · exact headBack_long v k f l bh t (.inl h1) w
  by_cases h2 : 60 < t.length
  · exact headBack_long v k f l bh t (.inr ⟨by omega, h2⟩) w
  by_cases hc : checkF v k f l = 0
  · have hl := hdA_len hc
    rcases rdH_inv v t with ⟨q1, q2⟩ | ⟨k2, f2, l2, n, q1, q2, q3, q4⟩
    · exact headBack_yes_err v k f l bh t (by omega) (by omega) (hdA k f l) hl.2.1 hl.2.2 ⟨bytesF_ok hc, hc, rdH_hdA hc bh, fun i hi => rdH_cut hc i hi⟩ _ (by simpa using q1) (by simpa using q1) ⟨q2, trivial⟩ w
    · exact headBack_yes_ok v k f l bh t (by omega) (by omega) (hdA k f l) hl.2.1 hl.2.2 ⟨bytesF_ok hc, hc, rdH_hdA hc bh, fun i hi => rdH_cut hc i hi⟩ k2 f2 l2 n ⟨q1, q2, q3, q4⟩ w
  · rcases rdH_inv v t with ⟨q1, q2⟩ | ⟨k2, f2, l2, n, q1, q2, q3, q4⟩
    · exact headBack_no_err v k f l bh t (by omega) (by omega) _ (by simpa using hc) (by simpa using hc) ⟨bytesF_no hc, rfl, trivial⟩ _ (by simpa using q1) (by simpa using q1) ⟨q2, trivial⟩ w
    · exact headBack_no_ok v k f l bh t (by omega) (by omega) _ (by simpa using hc) (by simpa using hc) ⟨bytesF_no hc, rfl, trivial⟩ k2 f2 l2 n ⟨q1, q2, q3, q4⟩ w
end Go.Proofs.Ytdalhnhbmgidaaa
