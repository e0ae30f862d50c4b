/- HeadFlags. -/
import Derived.Test.YtdalhnhbmgidaaaHdB
import Derived.Deep.Cut
import Derived.Deep.WholeRow
import Derived.Great.BuildSlice
namespace Go.Proofs.Ytdalhnhbmgidaaa
open Go.RowKit
set_option linter.unusedVariables false

theorem flagged_fixed (k : Int) (h : k ≠ 3) (f : Int) : flaggedF k f = (f == fixedF k) := by unfold flaggedF; rw [if_neg h]; rfl
theorem checkF_go {v k f l : Int} (h1 : knownV v = true) (h2 : kindsV v k = true) (h3 : flaggedF k f = true) (h4 : vmay l = true) : checkF v k f l = 0 := by
  unfold checkF; simp [h1, h2, h3, h4]

theorem infoPk : (Try.prog.info? 37).map (·.size) = some 25 := by kernel_rfl
theorem below_via {w w1 w2 : World} {o : Obj} (hB : Below w.heap.size w w1) (hb : Below (w1.alloc o).heap.size (w1.alloc o) w2) : Below w.heap.size w w2 :=
  (Below.alloc hB hB.size o).trans (hb.mono (Below.alloc hB hB.size o).size)


set_option maxRecDepth 100000 in
set_option maxHeartbeats 1600000 in
theorem hf_refused (v k fl : Int) (dup retain : Bool) (qos Q : Int) (HQ : Hid (qos % 3 = Q)) (e : Int) (he : (e == 0) = false) (HF : Hid (flagsF v k dup retain Q = (0, e))) (HC : Hid (checkF v k fl 0 = e)) (w : World) :
    Calls Try.prog 4 #[.int .i64 v, .int .i64 k, .int .i64 fl, .bool dup, .bool retain, .int .i64 qos] w fun e w' => e = .returned (.bool true) ∧ Below w.heap.size w w' := by
  go_enter Try.func4, Try.ntmps4
  go_wp2_with fail
  refine (lives07 _).mono ?_
  rintro x w1 ⟨rfl, hB1⟩
  go_wp2_with fail
  refine (pick_any _ 3 (by decide) (by decide) _).mono ?_
  rintro x w ⟨rfl, rfl⟩
  rw [HQ.out]
  go_upto_region 4 with fail
  go_step
  go_step
  go_step
  go_step
  go_step
  go_step
  go_step
  go_step
  go_step
  go_step
  go_step
  go_step
  go_step
  go_step
  go_step
  go_step
  go_step
  go_step
  go_step
  refine wpList_store_rowTo rfl 37 _ _ rfl rfl _ _ rfl rfl 37 _ (heap_alloc_last _ _) infoPk rfl (by simp [Value.oneCell']) ?_
  rw [World.setRow_alloc_new]
  go_step
  go_step
  go_step
  go_step
  go_step
  go_step
  go_step
  go_step
  refine wpList_load_row rfl 37 _ rfl _ rfl 37 _ _ _ (heap_alloc_last _ _) Try.underlying37 rfl infoPk ?_
  go_wp2_with fail
  refine (flags_any v k dup retain Q _ _ _ _ _ _ _ _ _ _ _ _ _ _ _ _ _ _ _ _ _ _).mono ?_
  rintro x w2 ⟨rfl, hb⟩
  have hB2 := below_via hB1 hb
  clear hb
  rw [HF.out]
  go_wp2_with fail
  refine (check_any v k fl 0 _).mono ?_
  rintro x w3 ⟨rfl, hb⟩
  have hB3 := hB2.trans (hb.mono hB2.size)
  clear hb
  rw [HC.out]
  go_wp2
  go_ret
  exact ⟨rfl, hB3⟩

set_option maxRecDepth 100000 in
set_option maxHeartbeats 1600000 in
theorem hf_zero (v fl : Int) (retain : Bool) (qos : Int) (HQ : Hid (qos % 3 = 0)) (HF : Hid (flagsF v 3 true retain 0 = (0, 7))) (HC : Hid (checkF v 3 fl 0 = 0)) (w : World) :
    Calls Try.prog 4 #[.int .i64 v, .int .i64 3, .int .i64 fl, .bool true, .bool retain, .int .i64 qos] w fun e w' => e = .returned (.bool true) ∧ Below w.heap.size w w' := by
  go_enter Try.func4, Try.ntmps4
  go_wp2_with fail
  refine (lives07 _).mono ?_
  rintro x w1 ⟨rfl, hB1⟩
  go_wp2_with fail
  refine (pick_any _ 3 (by decide) (by decide) _).mono ?_
  rintro x w ⟨rfl, rfl⟩
  rw [HQ.out]
  go_upto_region 4 with fail
  go_step
  go_step
  go_step
  go_step
  go_step
  go_step
  go_step
  go_step
  go_step
  go_step
  go_step
  go_step
  go_step
  go_step
  go_step
  go_step
  go_step
  go_step
  go_step
  refine wpList_store_rowTo rfl 37 _ _ rfl rfl _ _ rfl rfl 37 _ (heap_alloc_last _ _) infoPk rfl (by simp [Value.oneCell']) ?_
  rw [World.setRow_alloc_new]
  go_step
  go_step
  go_step
  go_step
  go_step
  go_step
  go_step
  go_step
  refine wpList_load_row rfl 37 _ rfl _ rfl 37 _ _ _ (heap_alloc_last _ _) Try.underlying37 rfl infoPk ?_
  go_wp2_with fail
  refine (flags_any v 3 true retain 0 _ _ _ _ _ _ _ _ _ _ _ _ _ _ _ _ _ _ _ _ _ _).mono ?_
  rintro x w2 ⟨rfl, hb⟩
  have hB2 := below_via hB1 hb
  clear hb
  rw [HF.out]
  go_wp2_with fail
  refine (check_any v 3 fl 0 _).mono ?_
  rintro x w3 ⟨rfl, hb⟩
  have hB3 := hB2.trans (hb.mono hB2.size)
  clear hb
  rw [HC.out]
  go_wp2
  go_ret
  exact ⟨rfl, hB3⟩

set_option maxRecDepth 100000 in
set_option maxHeartbeats 1600000 in
theorem hf_zero_no (v fl : Int) (retain : Bool) (qos : Int) (HQ : Hid (qos % 3 = 0)) (HF : Hid (flagsF v 3 true retain 0 = (0, 7))) (y : Int) (hy1 : (y == 0) = false) (HC : Hid (checkF v 3 fl 0 = y)) (w : World) :
    Calls Try.prog 4 #[.int .i64 v, .int .i64 3, .int .i64 fl, .bool true, .bool retain, .int .i64 qos] w fun e w' => e = .returned (.bool true) ∧ Below w.heap.size w w' := by
  go_enter Try.func4, Try.ntmps4
  go_wp2_with fail
  refine (lives07 _).mono ?_
  rintro x w1 ⟨rfl, hB1⟩
  go_wp2_with fail
  refine (pick_any _ 3 (by decide) (by decide) _).mono ?_
  rintro x w ⟨rfl, rfl⟩
  rw [HQ.out]
  go_upto_region 4 with fail
  go_step
  go_step
  go_step
  go_step
  go_step
  go_step
  go_step
  go_step
  go_step
  go_step
  go_step
  go_step
  go_step
  go_step
  go_step
  go_step
  go_step
  go_step
  go_step
  refine wpList_store_rowTo rfl 37 _ _ rfl rfl _ _ rfl rfl 37 _ (heap_alloc_last _ _) infoPk rfl (by simp [Value.oneCell']) ?_
  rw [World.setRow_alloc_new]
  go_step
  go_step
  go_step
  go_step
  go_step
  go_step
  go_step
  go_step
  refine wpList_load_row rfl 37 _ rfl _ rfl 37 _ _ _ (heap_alloc_last _ _) Try.underlying37 rfl infoPk ?_
  go_wp2_with fail
  refine (flags_any v 3 true retain 0 _ _ _ _ _ _ _ _ _ _ _ _ _ _ _ _ _ _ _ _ _ _).mono ?_
  rintro x w2 ⟨rfl, hb⟩
  have hB2 := below_via hB1 hb
  clear hb
  rw [HF.out]
  go_wp2_with fail
  refine (check_any v 3 fl 0 _).mono ?_
  rintro x w3 ⟨rfl, hb⟩
  have hB3 := hB2.trans (hb.mono hB2.size)
  clear hb
  rw [HC.out]
  go_wp2
  go_ret
  exact ⟨rfl, hB3⟩

set_option maxRecDepth 100000 in
set_option maxHeartbeats 1600000 in
theorem hf_0 (v fl : Int) (qos : Int) (HQ : Hid (qos % 3 = 0)) (HF : Hid (flagsF v 3 false false 0 = (0, 0))) (HC2 : Hid (checkF v 3 0 0 = 0)) (y : Int) (HC : Hid (checkF v 3 fl 0 = y)) (w : World) :
    Calls Try.prog 4 #[.int .i64 v, .int .i64 3, .int .i64 fl, .bool false, .bool false, .int .i64 qos] w fun e w' => e = .returned (.bool true) ∧ Below w.heap.size w w' := by
  go_enter Try.func4, Try.ntmps4
  go_wp2_with fail
  refine (lives07 _).mono ?_
  rintro x w1 ⟨rfl, hB1⟩
  go_wp2_with fail
  refine (pick_any _ 3 (by decide) (by decide) _).mono ?_
  rintro x w ⟨rfl, rfl⟩
  rw [HQ.out]
  go_upto_region 4 with fail
  go_step
  go_step
  go_step
  go_step
  go_step
  go_step
  go_step
  go_step
  go_step
  go_step
  go_step
  go_step
  go_step
  go_step
  go_step
  go_step
  go_step
  go_step
  go_step
  refine wpList_store_rowTo rfl 37 _ _ rfl rfl _ _ rfl rfl 37 _ (heap_alloc_last _ _) infoPk rfl (by simp [Value.oneCell']) ?_
  rw [World.setRow_alloc_new]
  go_step
  go_step
  go_step
  go_step
  go_step
  go_step
  go_step
  go_step
  refine wpList_load_row rfl 37 _ rfl _ rfl 37 _ _ _ (heap_alloc_last _ _) Try.underlying37 rfl infoPk ?_
  go_wp2_with fail
  refine (flags_any v 3 false false 0 _ _ _ _ _ _ _ _ _ _ _ _ _ _ _ _ _ _ _ _ _ _).mono ?_
  rintro x w2 ⟨rfl, hb⟩
  have hB2 := below_via hB1 hb
  clear hb
  rw [HF.out]
  go_wp2_with fail
  refine (check_any v 3 fl 0 _).mono ?_
  rintro x w3 ⟨rfl, hb⟩
  have hB3 := hB2.trans (hb.mono hB2.size)
  clear hb
  rw [HC.out]
  go_wp2_with fail
  refine (check_any v 3 _ 0 _).mono ?_
  rintro x w4 ⟨rfl, hb⟩
  have hB4 := hB3.trans (hb.mono hB3.size)
  clear hb
  rw [HC2.out]
  go_wp2
  go_ret
  exact ⟨rfl, hB4⟩

set_option maxRecDepth 100000 in
set_option maxHeartbeats 1600000 in
theorem hf_1 (v fl : Int) (qos : Int) (HQ : Hid (qos % 3 = 0)) (HF : Hid (flagsF v 3 false true 0 = (1, 0))) (HC2 : Hid (checkF v 3 1 0 = 0)) (y : Int) (HC : Hid (checkF v 3 fl 0 = y)) (w : World) :
    Calls Try.prog 4 #[.int .i64 v, .int .i64 3, .int .i64 fl, .bool false, .bool true, .int .i64 qos] w fun e w' => e = .returned (.bool true) ∧ Below w.heap.size w w' := by
  go_enter Try.func4, Try.ntmps4
  go_wp2_with fail
  refine (lives07 _).mono ?_
  rintro x w1 ⟨rfl, hB1⟩
  go_wp2_with fail
  refine (pick_any _ 3 (by decide) (by decide) _).mono ?_
  rintro x w ⟨rfl, rfl⟩
  rw [HQ.out]
  go_upto_region 4 with fail
  go_step
  go_step
  go_step
  go_step
  go_step
  go_step
  go_step
  go_step
  go_step
  go_step
  go_step
  go_step
  go_step
  go_step
  go_step
  go_step
  go_step
  go_step
  go_step
  refine wpList_store_rowTo rfl 37 _ _ rfl rfl _ _ rfl rfl 37 _ (heap_alloc_last _ _) infoPk rfl (by simp [Value.oneCell']) ?_
  rw [World.setRow_alloc_new]
  go_step
  go_step
  go_step
  go_step
  go_step
  go_step
  go_step
  go_step
  refine wpList_load_row rfl 37 _ rfl _ rfl 37 _ _ _ (heap_alloc_last _ _) Try.underlying37 rfl infoPk ?_
  go_wp2_with fail
  refine (flags_any v 3 false true 0 _ _ _ _ _ _ _ _ _ _ _ _ _ _ _ _ _ _ _ _ _ _).mono ?_
  rintro x w2 ⟨rfl, hb⟩
  have hB2 := below_via hB1 hb
  clear hb
  rw [HF.out]
  go_wp2_with fail
  refine (check_any v 3 fl 0 _).mono ?_
  rintro x w3 ⟨rfl, hb⟩
  have hB3 := hB2.trans (hb.mono hB2.size)
  clear hb
  rw [HC.out]
  go_wp2_with fail
  refine (check_any v 3 _ 0 _).mono ?_
  rintro x w4 ⟨rfl, hb⟩
  have hB4 := hB3.trans (hb.mono hB3.size)
  clear hb
  rw [HC2.out]
  go_wp2
  go_ret
  exact ⟨rfl, hB4⟩

set_option maxRecDepth 100000 in
set_option maxHeartbeats 1600000 in
theorem hf_2 (v fl : Int) (qos : Int) (HQ : Hid (qos % 3 = 1)) (HF : Hid (flagsF v 3 false false 1 = (2, 0))) (HC2 : Hid (checkF v 3 2 0 = 0)) (y : Int) (HC : Hid (checkF v 3 fl 0 = y)) (w : World) :
    Calls Try.prog 4 #[.int .i64 v, .int .i64 3, .int .i64 fl, .bool false, .bool false, .int .i64 qos] w fun e w' => e = .returned (.bool true) ∧ Below w.heap.size w w' := by
  go_enter Try.func4, Try.ntmps4
  go_wp2_with fail
  refine (lives07 _).mono ?_
  rintro x w1 ⟨rfl, hB1⟩
  go_wp2_with fail
  refine (pick_any _ 3 (by decide) (by decide) _).mono ?_
  rintro x w ⟨rfl, rfl⟩
  rw [HQ.out]
  go_upto_region 4 with fail
  go_step
  go_step
  go_step
  go_step
  go_step
  go_step
  go_step
  go_step
  go_step
  go_step
  go_step
  go_step
  go_step
  go_step
  go_step
  go_step
  go_step
  go_step
  go_step
  refine wpList_store_rowTo rfl 37 _ _ rfl rfl _ _ rfl rfl 37 _ (heap_alloc_last _ _) infoPk rfl (by simp [Value.oneCell']) ?_
  rw [World.setRow_alloc_new]
  go_step
  go_step
  go_step
  go_step
  go_step
  go_step
  go_step
  go_step
  refine wpList_load_row rfl 37 _ rfl _ rfl 37 _ _ _ (heap_alloc_last _ _) Try.underlying37 rfl infoPk ?_
  go_wp2_with fail
  refine (flags_any v 3 false false 1 _ _ _ _ _ _ _ _ _ _ _ _ _ _ _ _ _ _ _ _ _ _).mono ?_
  rintro x w2 ⟨rfl, hb⟩
  have hB2 := below_via hB1 hb
  clear hb
  rw [HF.out]
  go_wp2_with fail
  refine (check_any v 3 fl 0 _).mono ?_
  rintro x w3 ⟨rfl, hb⟩
  have hB3 := hB2.trans (hb.mono hB2.size)
  clear hb
  rw [HC.out]
  go_wp2_with fail
  refine (check_any v 3 _ 0 _).mono ?_
  rintro x w4 ⟨rfl, hb⟩
  have hB4 := hB3.trans (hb.mono hB3.size)
  clear hb
  rw [HC2.out]
  go_wp2
  go_ret
  exact ⟨rfl, hB4⟩

set_option maxRecDepth 100000 in
set_option maxHeartbeats 1600000 in
theorem hf_3 (v fl : Int) (qos : Int) (HQ : Hid (qos % 3 = 1)) (HF : Hid (flagsF v 3 false true 1 = (3, 0))) (HC2 : Hid (checkF v 3 3 0 = 0)) (y : Int) (HC : Hid (checkF v 3 fl 0 = y)) (w : World) :
    Calls Try.prog 4 #[.int .i64 v, .int .i64 3, .int .i64 fl, .bool false, .bool true, .int .i64 qos] w fun e w' => e = .returned (.bool true) ∧ Below w.heap.size w w' := by
  go_enter Try.func4, Try.ntmps4
  go_wp2_with fail
  refine (lives07 _).mono ?_
  rintro x w1 ⟨rfl, hB1⟩
  go_wp2_with fail
  refine (pick_any _ 3 (by decide) (by decide) _).mono ?_
  rintro x w ⟨rfl, rfl⟩
  rw [HQ.out]
  go_upto_region 4 with fail
  go_step
  go_step
  go_step
  go_step
  go_step
  go_step
  go_step
  go_step
  go_step
  go_step
  go_step
  go_step
  go_step
  go_step
  go_step
  go_step
  go_step
  go_step
  go_step
  refine wpList_store_rowTo rfl 37 _ _ rfl rfl _ _ rfl rfl 37 _ (heap_alloc_last _ _) infoPk rfl (by simp [Value.oneCell']) ?_
  rw [World.setRow_alloc_new]
  go_step
  go_step
  go_step
  go_step
  go_step
  go_step
  go_step
  go_step
  refine wpList_load_row rfl 37 _ rfl _ rfl 37 _ _ _ (heap_alloc_last _ _) Try.underlying37 rfl infoPk ?_
  go_wp2_with fail
  refine (flags_any v 3 false true 1 _ _ _ _ _ _ _ _ _ _ _ _ _ _ _ _ _ _ _ _ _ _).mono ?_
  rintro x w2 ⟨rfl, hb⟩
  have hB2 := below_via hB1 hb
  clear hb
  rw [HF.out]
  go_wp2_with fail
  refine (check_any v 3 fl 0 _).mono ?_
  rintro x w3 ⟨rfl, hb⟩
  have hB3 := hB2.trans (hb.mono hB2.size)
  clear hb
  rw [HC.out]
  go_wp2_with fail
  refine (check_any v 3 _ 0 _).mono ?_
  rintro x w4 ⟨rfl, hb⟩
  have hB4 := hB3.trans (hb.mono hB3.size)
  clear hb
  rw [HC2.out]
  go_wp2
  go_ret
  exact ⟨rfl, hB4⟩

set_option maxRecDepth 100000 in
set_option maxHeartbeats 1600000 in
theorem hf_10 (v fl : Int) (qos : Int) (HQ : Hid (qos % 3 = 1)) (HF : Hid (flagsF v 3 true false 1 = (10, 0))) (HC2 : Hid (checkF v 3 10 0 = 0)) (y : Int) (HC : Hid (checkF v 3 fl 0 = y)) (w : World) :
    Calls Try.prog 4 #[.int .i64 v, .int .i64 3, .int .i64 fl, .bool true, .bool false, .int .i64 qos] w fun e w' => e = .returned (.bool true) ∧ Below w.heap.size w w' := by
  go_enter Try.func4, Try.ntmps4
  go_wp2_with fail
  refine (lives07 _).mono ?_
  rintro x w1 ⟨rfl, hB1⟩
  go_wp2_with fail
  refine (pick_any _ 3 (by decide) (by decide) _).mono ?_
  rintro x w ⟨rfl, rfl⟩
  rw [HQ.out]
  go_upto_region 4 with fail
  go_step
  go_step
  go_step
  go_step
  go_step
  go_step
  go_step
  go_step
  go_step
  go_step
  go_step
  go_step
  go_step
  go_step
  go_step
  go_step
  go_step
  go_step
  go_step
  refine wpList_store_rowTo rfl 37 _ _ rfl rfl _ _ rfl rfl 37 _ (heap_alloc_last _ _) infoPk rfl (by simp [Value.oneCell']) ?_
  rw [World.setRow_alloc_new]
  go_step
  go_step
  go_step
  go_step
  go_step
  go_step
  go_step
  go_step
  refine wpList_load_row rfl 37 _ rfl _ rfl 37 _ _ _ (heap_alloc_last _ _) Try.underlying37 rfl infoPk ?_
  go_wp2_with fail
  refine (flags_any v 3 true false 1 _ _ _ _ _ _ _ _ _ _ _ _ _ _ _ _ _ _ _ _ _ _).mono ?_
  rintro x w2 ⟨rfl, hb⟩
  have hB2 := below_via hB1 hb
  clear hb
  rw [HF.out]
  go_wp2_with fail
  refine (check_any v 3 fl 0 _).mono ?_
  rintro x w3 ⟨rfl, hb⟩
  have hB3 := hB2.trans (hb.mono hB2.size)
  clear hb
  rw [HC.out]
  go_wp2_with fail
  refine (check_any v 3 _ 0 _).mono ?_
  rintro x w4 ⟨rfl, hb⟩
  have hB4 := hB3.trans (hb.mono hB3.size)
  clear hb
  rw [HC2.out]
  go_wp2
  go_ret
  exact ⟨rfl, hB4⟩

set_option maxRecDepth 100000 in
set_option maxHeartbeats 1600000 in
theorem hf_11 (v fl : Int) (qos : Int) (HQ : Hid (qos % 3 = 1)) (HF : Hid (flagsF v 3 true true 1 = (11, 0))) (HC2 : Hid (checkF v 3 11 0 = 0)) (y : Int) (HC : Hid (checkF v 3 fl 0 = y)) (w : World) :
    Calls Try.prog 4 #[.int .i64 v, .int .i64 3, .int .i64 fl, .bool true, .bool true, .int .i64 qos] w fun e w' => e = .returned (.bool true) ∧ Below w.heap.size w w' := by
  go_enter Try.func4, Try.ntmps4
  go_wp2_with fail
  refine (lives07 _).mono ?_
  rintro x w1 ⟨rfl, hB1⟩
  go_wp2_with fail
  refine (pick_any _ 3 (by decide) (by decide) _).mono ?_
  rintro x w ⟨rfl, rfl⟩
  rw [HQ.out]
  go_upto_region 4 with fail
  go_step
  go_step
  go_step
  go_step
  go_step
  go_step
  go_step
  go_step
  go_step
  go_step
  go_step
  go_step
  go_step
  go_step
  go_step
  go_step
  go_step
  go_step
  go_step
  refine wpList_store_rowTo rfl 37 _ _ rfl rfl _ _ rfl rfl 37 _ (heap_alloc_last _ _) infoPk rfl (by simp [Value.oneCell']) ?_
  rw [World.setRow_alloc_new]
  go_step
  go_step
  go_step
  go_step
  go_step
  go_step
  go_step
  go_step
  refine wpList_load_row rfl 37 _ rfl _ rfl 37 _ _ _ (heap_alloc_last _ _) Try.underlying37 rfl infoPk ?_
  go_wp2_with fail
  refine (flags_any v 3 true true 1 _ _ _ _ _ _ _ _ _ _ _ _ _ _ _ _ _ _ _ _ _ _).mono ?_
  rintro x w2 ⟨rfl, hb⟩
  have hB2 := below_via hB1 hb
  clear hb
  rw [HF.out]
  go_wp2_with fail
  refine (check_any v 3 fl 0 _).mono ?_
  rintro x w3 ⟨rfl, hb⟩
  have hB3 := hB2.trans (hb.mono hB2.size)
  clear hb
  rw [HC.out]
  go_wp2_with fail
  refine (check_any v 3 _ 0 _).mono ?_
  rintro x w4 ⟨rfl, hb⟩
  have hB4 := hB3.trans (hb.mono hB3.size)
  clear hb
  rw [HC2.out]
  go_wp2
  go_ret
  exact ⟨rfl, hB4⟩

set_option maxRecDepth 100000 in
set_option maxHeartbeats 1600000 in
theorem hf_4 (v fl : Int) (qos : Int) (HQ : Hid (qos % 3 = 2)) (HF : Hid (flagsF v 3 false false 2 = (4, 0))) (HC2 : Hid (checkF v 3 4 0 = 0)) (y : Int) (HC : Hid (checkF v 3 fl 0 = y)) (w : World) :
    Calls Try.prog 4 #[.int .i64 v, .int .i64 3, .int .i64 fl, .bool false, .bool false, .int .i64 qos] w fun e w' => e = .returned (.bool true) ∧ Below w.heap.size w w' := by
  go_enter Try.func4, Try.ntmps4
  go_wp2_with fail
  refine (lives07 _).mono ?_
  rintro x w1 ⟨rfl, hB1⟩
  go_wp2_with fail
  refine (pick_any _ 3 (by decide) (by decide) _).mono ?_
  rintro x w ⟨rfl, rfl⟩
  rw [HQ.out]
  go_upto_region 4 with fail
  go_step
  go_step
  go_step
  go_step
  go_step
  go_step
  go_step
  go_step
  go_step
  go_step
  go_step
  go_step
  go_step
  go_step
  go_step
  go_step
  go_step
  go_step
  go_step
  refine wpList_store_rowTo rfl 37 _ _ rfl rfl _ _ rfl rfl 37 _ (heap_alloc_last _ _) infoPk rfl (by simp [Value.oneCell']) ?_
  rw [World.setRow_alloc_new]
  go_step
  go_step
  go_step
  go_step
  go_step
  go_step
  go_step
  go_step
  refine wpList_load_row rfl 37 _ rfl _ rfl 37 _ _ _ (heap_alloc_last _ _) Try.underlying37 rfl infoPk ?_
  go_wp2_with fail
  refine (flags_any v 3 false false 2 _ _ _ _ _ _ _ _ _ _ _ _ _ _ _ _ _ _ _ _ _ _).mono ?_
  rintro x w2 ⟨rfl, hb⟩
  have hB2 := below_via hB1 hb
  clear hb
  rw [HF.out]
  go_wp2_with fail
  refine (check_any v 3 fl 0 _).mono ?_
  rintro x w3 ⟨rfl, hb⟩
  have hB3 := hB2.trans (hb.mono hB2.size)
  clear hb
  rw [HC.out]
  go_wp2_with fail
  refine (check_any v 3 _ 0 _).mono ?_
  rintro x w4 ⟨rfl, hb⟩
  have hB4 := hB3.trans (hb.mono hB3.size)
  clear hb
  rw [HC2.out]
  go_wp2
  go_ret
  exact ⟨rfl, hB4⟩

set_option maxRecDepth 100000 in
set_option maxHeartbeats 1600000 in
theorem hf_5 (v fl : Int) (qos : Int) (HQ : Hid (qos % 3 = 2)) (HF : Hid (flagsF v 3 false true 2 = (5, 0))) (HC2 : Hid (checkF v 3 5 0 = 0)) (y : Int) (HC : Hid (checkF v 3 fl 0 = y)) (w : World) :
    Calls Try.prog 4 #[.int .i64 v, .int .i64 3, .int .i64 fl, .bool false, .bool true, .int .i64 qos] w fun e w' => e = .returned (.bool true) ∧ Below w.heap.size w w' := by
  go_enter Try.func4, Try.ntmps4
  go_wp2_with fail
  refine (lives07 _).mono ?_
  rintro x w1 ⟨rfl, hB1⟩
  go_wp2_with fail
  refine (pick_any _ 3 (by decide) (by decide) _).mono ?_
  rintro x w ⟨rfl, rfl⟩
  rw [HQ.out]
  go_upto_region 4 with fail
  go_step
  go_step
  go_step
  go_step
  go_step
  go_step
  go_step
  go_step
  go_step
  go_step
  go_step
  go_step
  go_step
  go_step
  go_step
  go_step
  go_step
  go_step
  go_step
  refine wpList_store_rowTo rfl 37 _ _ rfl rfl _ _ rfl rfl 37 _ (heap_alloc_last _ _) infoPk rfl (by simp [Value.oneCell']) ?_
  rw [World.setRow_alloc_new]
  go_step
  go_step
  go_step
  go_step
  go_step
  go_step
  go_step
  go_step
  refine wpList_load_row rfl 37 _ rfl _ rfl 37 _ _ _ (heap_alloc_last _ _) Try.underlying37 rfl infoPk ?_
  go_wp2_with fail
  refine (flags_any v 3 false true 2 _ _ _ _ _ _ _ _ _ _ _ _ _ _ _ _ _ _ _ _ _ _).mono ?_
  rintro x w2 ⟨rfl, hb⟩
  have hB2 := below_via hB1 hb
  clear hb
  rw [HF.out]
  go_wp2_with fail
  refine (check_any v 3 fl 0 _).mono ?_
  rintro x w3 ⟨rfl, hb⟩
  have hB3 := hB2.trans (hb.mono hB2.size)
  clear hb
  rw [HC.out]
  go_wp2_with fail
  refine (check_any v 3 _ 0 _).mono ?_
  rintro x w4 ⟨rfl, hb⟩
  have hB4 := hB3.trans (hb.mono hB3.size)
  clear hb
  rw [HC2.out]
  go_wp2
  go_ret
  exact ⟨rfl, hB4⟩

set_option maxRecDepth 100000 in
set_option maxHeartbeats 1600000 in
theorem hf_12 (v fl : Int) (qos : Int) (HQ : Hid (qos % 3 = 2)) (HF : Hid (flagsF v 3 true false 2 = (12, 0))) (HC2 : Hid (checkF v 3 12 0 = 0)) (y : Int) (HC : Hid (checkF v 3 fl 0 = y)) (w : World) :
    Calls Try.prog 4 #[.int .i64 v, .int .i64 3, .int .i64 fl, .bool true, .bool false, .int .i64 qos] w fun e w' => e = .returned (.bool true) ∧ Below w.heap.size w w' := by
  go_enter Try.func4, Try.ntmps4
  go_wp2_with fail
  refine (lives07 _).mono ?_
  rintro x w1 ⟨rfl, hB1⟩
  go_wp2_with fail
  refine (pick_any _ 3 (by decide) (by decide) _).mono ?_
  rintro x w ⟨rfl, rfl⟩
  rw [HQ.out]
  go_upto_region 4 with fail
  go_step
  go_step
  go_step
  go_step
  go_step
  go_step
  go_step
  go_step
  go_step
  go_step
  go_step
  go_step
  go_step
  go_step
  go_step
  go_step
  go_step
  go_step
  go_step
  refine wpList_store_rowTo rfl 37 _ _ rfl rfl _ _ rfl rfl 37 _ (heap_alloc_last _ _) infoPk rfl (by simp [Value.oneCell']) ?_
  rw [World.setRow_alloc_new]
  go_step
  go_step
  go_step
  go_step
  go_step
  go_step
  go_step
  go_step
  refine wpList_load_row rfl 37 _ rfl _ rfl 37 _ _ _ (heap_alloc_last _ _) Try.underlying37 rfl infoPk ?_
  go_wp2_with fail
  refine (flags_any v 3 true false 2 _ _ _ _ _ _ _ _ _ _ _ _ _ _ _ _ _ _ _ _ _ _).mono ?_
  rintro x w2 ⟨rfl, hb⟩
  have hB2 := below_via hB1 hb
  clear hb
  rw [HF.out]
  go_wp2_with fail
  refine (check_any v 3 fl 0 _).mono ?_
  rintro x w3 ⟨rfl, hb⟩
  have hB3 := hB2.trans (hb.mono hB2.size)
  clear hb
  rw [HC.out]
  go_wp2_with fail
  refine (check_any v 3 _ 0 _).mono ?_
  rintro x w4 ⟨rfl, hb⟩
  have hB4 := hB3.trans (hb.mono hB3.size)
  clear hb
  rw [HC2.out]
  go_wp2
  go_ret
  exact ⟨rfl, hB4⟩

set_option maxRecDepth 100000 in
set_option maxHeartbeats 1600000 in
theorem hf_13 (v fl : Int) (qos : Int) (HQ : Hid (qos % 3 = 2)) (HF : Hid (flagsF v 3 true true 2 = (13, 0))) (HC2 : Hid (checkF v 3 13 0 = 0)) (y : Int) (HC : Hid (checkF v 3 fl 0 = y)) (w : World) :
    Calls Try.prog 4 #[.int .i64 v, .int .i64 3, .int .i64 fl, .bool true, .bool true, .int .i64 qos] w fun e w' => e = .returned (.bool true) ∧ Below w.heap.size w w' := by
  go_enter Try.func4, Try.ntmps4
  go_wp2_with fail
  refine (lives07 _).mono ?_
  rintro x w1 ⟨rfl, hB1⟩
  go_wp2_with fail
  refine (pick_any _ 3 (by decide) (by decide) _).mono ?_
  rintro x w ⟨rfl, rfl⟩
  rw [HQ.out]
  go_upto_region 4 with fail
  go_step
  go_step
  go_step
  go_step
  go_step
  go_step
  go_step
  go_step
  go_step
  go_step
  go_step
  go_step
  go_step
  go_step
  go_step
  go_step
  go_step
  go_step
  go_step
  refine wpList_store_rowTo rfl 37 _ _ rfl rfl _ _ rfl rfl 37 _ (heap_alloc_last _ _) infoPk rfl (by simp [Value.oneCell']) ?_
  rw [World.setRow_alloc_new]
  go_step
  go_step
  go_step
  go_step
  go_step
  go_step
  go_step
  go_step
  refine wpList_load_row rfl 37 _ rfl _ rfl 37 _ _ _ (heap_alloc_last _ _) Try.underlying37 rfl infoPk ?_
  go_wp2_with fail
  refine (flags_any v 3 true true 2 _ _ _ _ _ _ _ _ _ _ _ _ _ _ _ _ _ _ _ _ _ _).mono ?_
  rintro x w2 ⟨rfl, hb⟩
  have hB2 := below_via hB1 hb
  clear hb
  rw [HF.out]
  go_wp2_with fail
  refine (check_any v 3 fl 0 _).mono ?_
  rintro x w3 ⟨rfl, hb⟩
  have hB3 := hB2.trans (hb.mono hB2.size)
  clear hb
  rw [HC.out]
  go_wp2_with fail
  refine (check_any v 3 _ 0 _).mono ?_
  rintro x w4 ⟨rfl, hb⟩
  have hB4 := hB3.trans (hb.mono hB3.size)
  clear hb
  rw [HC2.out]
  go_wp2
  go_ret
  exact ⟨rfl, hB4⟩

set_option maxRecDepth 100000 in
set_option maxHeartbeats 1600000 in
theorem hf_other (v k fl : Int) (dup retain : Bool) (qos Q : Int) (HQ : Hid (qos % 3 = Q)) (f0 : Int) (q1 : (k == 3) = false) (q2 : (k != 3) = true) (HF : Hid (flagsF v k dup retain Q = (f0, 0))) (HC2 : Hid (checkF v k f0 0 = 0)) (HC : Hid (checkF v k fl 0 = 0)) (hd : (fl == f0) = true) (w : World) :
    Calls Try.prog 4 #[.int .i64 v, .int .i64 k, .int .i64 fl, .bool dup, .bool retain, .int .i64 qos] w fun e w' => e = .returned (.bool true) ∧ Below w.heap.size w w' := by
  go_enter Try.func4, Try.ntmps4
  go_wp2_with fail
  refine (lives07 _).mono ?_
  rintro x w1 ⟨rfl, hB1⟩
  go_wp2_with fail
  refine (pick_any _ 3 (by decide) (by decide) _).mono ?_
  rintro x w ⟨rfl, rfl⟩
  rw [HQ.out]
  go_upto_region 4 with fail
  go_step
  go_step
  go_step
  go_step
  go_step
  go_step
  go_step
  go_step
  go_step
  go_step
  go_step
  go_step
  go_step
  go_step
  go_step
  go_step
  go_step
  go_step
  go_step
  refine wpList_store_rowTo rfl 37 _ _ rfl rfl _ _ rfl rfl 37 _ (heap_alloc_last _ _) infoPk rfl (by simp [Value.oneCell']) ?_
  rw [World.setRow_alloc_new]
  go_step
  go_step
  go_step
  go_step
  go_step
  go_step
  go_step
  go_step
  refine wpList_load_row rfl 37 _ rfl _ rfl 37 _ _ _ (heap_alloc_last _ _) Try.underlying37 rfl infoPk ?_
  go_wp2_with fail
  refine (flags_any v k dup retain Q _ _ _ _ _ _ _ _ _ _ _ _ _ _ _ _ _ _ _ _ _ _).mono ?_
  rintro x w2 ⟨rfl, hb⟩
  have hB2 := below_via hB1 hb
  clear hb
  rw [HF.out]
  go_wp2_with fail
  refine (check_any v k fl 0 _).mono ?_
  rintro x w3 ⟨rfl, hb⟩
  have hB3 := hB2.trans (hb.mono hB2.size)
  clear hb
  rw [HC.out]
  go_wp2_with fail
  refine (check_any v k _ 0 _).mono ?_
  rintro x w4 ⟨rfl, hb⟩
  have hB4 := hB3.trans (hb.mono hB3.size)
  clear hb
  rw [HC2.out]
  go_wp2
  go_ret
  exact ⟨rfl, hB4⟩

set_option maxRecDepth 100000 in
set_option maxHeartbeats 1600000 in
theorem hf_other_no (v k fl : Int) (dup retain : Bool) (qos Q : Int) (HQ : Hid (qos % 3 = Q)) (f0 : Int) (q1 : (k == 3) = false) (q2 : (k != 3) = true) (HF : Hid (flagsF v k dup retain Q = (f0, 0))) (HC2 : Hid (checkF v k f0 0 = 0)) (HC : Hid (checkF v k fl 0 = 7)) (hd : (fl == f0) = false) (w : World) :
    Calls Try.prog 4 #[.int .i64 v, .int .i64 k, .int .i64 fl, .bool dup, .bool retain, .int .i64 qos] w fun e w' => e = .returned (.bool true) ∧ Below w.heap.size w w' := by
  go_enter Try.func4, Try.ntmps4
  go_wp2_with fail
  refine (lives07 _).mono ?_
  rintro x w1 ⟨rfl, hB1⟩
  go_wp2_with fail
  refine (pick_any _ 3 (by decide) (by decide) _).mono ?_
  rintro x w ⟨rfl, rfl⟩
  rw [HQ.out]
  go_upto_region 4 with fail
  go_step
  go_step
  go_step
  go_step
  go_step
  go_step
  go_step
  go_step
  go_step
  go_step
  go_step
  go_step
  go_step
  go_step
  go_step
  go_step
  go_step
  go_step
  go_step
  refine wpList_store_rowTo rfl 37 _ _ rfl rfl _ _ rfl rfl 37 _ (heap_alloc_last _ _) infoPk rfl (by simp [Value.oneCell']) ?_
  rw [World.setRow_alloc_new]
  go_step
  go_step
  go_step
  go_step
  go_step
  go_step
  go_step
  go_step
  refine wpList_load_row rfl 37 _ rfl _ rfl 37 _ _ _ (heap_alloc_last _ _) Try.underlying37 rfl infoPk ?_
  go_wp2_with fail
  refine (flags_any v k dup retain Q _ _ _ _ _ _ _ _ _ _ _ _ _ _ _ _ _ _ _ _ _ _).mono ?_
  rintro x w2 ⟨rfl, hb⟩
  have hB2 := below_via hB1 hb
  clear hb
  rw [HF.out]
  go_wp2_with fail
  refine (check_any v k fl 0 _).mono ?_
  rintro x w3 ⟨rfl, hb⟩
  have hB3 := hB2.trans (hb.mono hB2.size)
  clear hb
  rw [HC.out]
  go_wp2_with fail
  refine (check_any v k _ 0 _).mono ?_
  rintro x w4 ⟨rfl, hb⟩
  have hB4 := hB3.trans (hb.mono hB3.size)
  clear hb
  rw [HC2.out]
  go_wp2
  go_ret
  exact ⟨rfl, hB4⟩

theorem headFlags_walk (v k fl : Int) (dup retain : Bool) (qos : Int) (w : World) :
    Calls Try.prog 4 #[.int .i64 v, .int .i64 k, .int .i64 fl, .bool dup, .bool retain, .int .i64 qos] w fun e w' => e = .returned (.bool true) ∧ Below w.heap.size w w' := by
  obtain ⟨Q, hQ⟩ : ∃ Q, Q = qos % 3 := ⟨_, rfl⟩
  have hq1 : 0 ≤ Q ∧ Q ≤ 2 := by omega
  have HQ := Lib.hid hQ.symm
  clear hQ
  cases h1 : knownV v with
  | false => exact hf_refused v k fl dup retain qos Q HQ 2 rfl (Lib.hid (show flagsF v k dup retain Q = (0, 2) by unfold flagsF; rw [if_pos h1])) (Lib.hid (show checkF v k fl 0 = 2 by unfold checkF; rw [if_pos h1])) w
  | true =>
  cases h2 : kindsV v k with
  | false => exact hf_refused v k fl dup retain qos Q HQ 8 rfl (Lib.hid (show flagsF v k dup retain Q = (0, 8) by unfold flagsF; rw [if_neg (by simp [h1]), if_pos h2])) (Lib.hid (show checkF v k fl 0 = 8 by unfold checkF; rw [if_neg (by simp [h1]), if_pos h2])) w
  | true =>
  by_cases h3 : k = 3
  · subst h3
    have hF : ∀ dup retain Q, flagsF v 3 dup retain Q = if Q < 0 ∨ 2 < Q ∨ (Q = 0 ∧ dup = true) then (0, 7) else (2 * Q + (if retain then 1 else 0) + (if dup then 8 else 0), 0) := by intro dup retain Q; unfold flagsF; rw [if_neg (by simp [h1]), if_neg (by simp [h2]), if_neg (by simp)]
    have hn : ∀ n : Int, flaggedF 3 n = true → checkF v 3 n 0 = 0 := fun n h => checkF_go h1 h2 h (by decide)
    by_cases h4 : Q = 0 ∧ dup = true
    · obtain ⟨rfl, rfl⟩ := h4
      have HF := Lib.hid (show flagsF v 3 true retain 0 = (0, 7) by rw [hF]; rfl)
      by_cases h5 : checkF v 3 fl 0 = 0
      · exact hf_zero v fl retain qos HQ HF (Lib.hid h5) w
      · exact hf_zero_no v fl retain qos HQ HF _ (by simpa using h5) (Lib.hid rfl) w
    · rcases (by omega : Q = 0 ∨ Q = 1 ∨ Q = 2) with rfl | rfl | rfl <;> cases dup <;> cases retain
      · exact hf_0 v fl qos HQ (Lib.hid (by rw [hF]; rfl)) (Lib.hid (hn _ (by decide))) _ (Lib.hid rfl) w
      · exact hf_1 v fl qos HQ (Lib.hid (by rw [hF]; rfl)) (Lib.hid (hn _ (by decide))) _ (Lib.hid rfl) w
      · exact absurd ⟨rfl, rfl⟩ h4
      · exact absurd ⟨rfl, rfl⟩ h4
      · exact hf_2 v fl qos HQ (Lib.hid (by rw [hF]; rfl)) (Lib.hid (hn _ (by decide))) _ (Lib.hid rfl) w
      · exact hf_3 v fl qos HQ (Lib.hid (by rw [hF]; rfl)) (Lib.hid (hn _ (by decide))) _ (Lib.hid rfl) w
      · exact hf_10 v fl qos HQ (Lib.hid (by rw [hF]; rfl)) (Lib.hid (hn _ (by decide))) _ (Lib.hid rfl) w
      · exact hf_11 v fl qos HQ (Lib.hid (by rw [hF]; rfl)) (Lib.hid (hn _ (by decide))) _ (Lib.hid rfl) w
      · exact hf_4 v fl qos HQ (Lib.hid (by rw [hF]; rfl)) (Lib.hid (hn _ (by decide))) _ (Lib.hid rfl) w
      · exact hf_5 v fl qos HQ (Lib.hid (by rw [hF]; rfl)) (Lib.hid (hn _ (by decide))) _ (Lib.hid rfl) w
      · exact hf_12 v fl qos HQ (Lib.hid (by rw [hF]; rfl)) (Lib.hid (hn _ (by decide))) _ (Lib.hid rfl) w
      · exact hf_13 v fl qos HQ (Lib.hid (by rw [hF]; rfl)) (Lib.hid (hn _ (by decide))) _ (Lib.hid rfl) w
  · have HF := Lib.hid (show flagsF v k dup retain Q = (fixedF k, 0) by unfold flagsF; rw [if_neg (by simp [h1]), if_neg (by simp [h2]), if_pos h3])
    have HC2 := Lib.hid (show checkF v k (fixedF k) 0 = 0 from checkF_go h1 h2 (by rw [flagged_fixed k h3]; simp) (by decide))
    have q1 : (k == 3) = false := by simpa using h3
    have q2 : (k != 3) = true := by simp [h3]
    by_cases h4 : fl = fixedF k
    · exact hf_other v k fl dup retain qos Q HQ _ q1 q2 HF HC2 (Lib.hid (show checkF v k fl 0 = 0 from checkF_go h1 h2 (by rw [flagged_fixed k h3]; simp [h4]) (by decide))) (by simp [h4]) w
    · exact hf_other_no v k fl dup retain qos Q HQ _ q1 q2 HF HC2 (Lib.hid (show checkF v k fl 0 = 7 by unfold checkF; rw [if_neg (by simp [h1]), if_neg (by simp [h2]), if_pos (by rw [flagged_fixed k h3]; simp [h4])])) (by simpa using h4) w
end Go.Proofs.Ytdalhnhbmgidaaa
