/- HeadBoth. -/
import Derived.Test.YtdalhnhbmgidaaaHdE
namespace Go.Proofs.Ytdalhnhbmgidaaa
open Go.RowKit
set_option linter.unusedVariables false

theorem kinds_45 (k : Int) (h : k ≠ 15) : kindsV 4 k = kindsV 5 k := by unfold kindsV; apply decide_eq_decide.2; omega
theorem check_45 (k f l : Int) (h : k ≠ 15) : checkF 4 k f l = checkF 5 k f l := by
  unfold checkF; rw [kinds_45 k h]; rfl
theorem check_15 (f l : Int) : checkF 4 15 f l = 8 := rfl
theorem check_15' (f l : Int) : checkF 5 15 f l ≠ 8 := by
  unfold checkF
  rw [if_neg (by decide), if_neg (by decide)]
  split
  · decide
  · split <;> decide
theorem rdH_15 (f l : Int) (h : checkF 5 15 f l = 0) : rdH 4 (hdA 15 f l) = (0, 0, 0, 0, 8) := by
  obtain ⟨c, e, e1, e2, k0, f0, h0, h1⟩ := hdA_shape h
  rw [e]
  have ek : ((c.toNat / 16 : Nat) : Int) = 15 := by rw [e1]; rfl
  unfold rdH
  rw [if_neg (by decide)]
  simp only
  rw [ek, check_15]
  rfl

set_option maxRecDepth 100000 in
set_option maxHeartbeats 1600000 in
theorem headBoth_a (k f l : Int) (A : List UInt8) (hA2 : A.length ≤ 5) (HC : Hid (bytesF 4 k f l = (A, 0) ∧ bytesF 5 k f l = (A, 0) ∧ rdH 5 A = (k, f, l, (A.length : Int), 0))) (w : World) :
    Calls Try.prog 7 #[.agg #[.int .i64 k, .int .i64 f, .int .i64 l]] w fun e w' => e = .returned (.bool true) ∧ Below w.heap.size w w' := by
  have hA : Below w.heap.size w (w.alloc (.cells #[.int .i64 k, .int .i64 f, .int .i64 l] 42 (0, 0))) := (Below.refl _ _).alloc (Nat.le_refl _) _
  have HF0 := Lib.hid (Obj?.new w #[.int .i64 k, .int .i64 f, .int .i64 l] 42)
  go_enter Try.func7, Try.ntmps7
  go_wp2_with fail
  refine (lives07 _).mono ?_
  rintro e w1 ⟨rfl, hb⟩
  have hB1 := hA.trans (hb.mono hA.size)
  have HF1 := Lib.hid (HF0.out.below hb HF0.out.lt)
  clear HF0
  clear hb
  have kcF := HF1.out.cells
  have kfF := HF1.out.froz
  have kzF := HF1.out.lt
  go_wp2_with fail
  refine (hdbytes_any 4 k f l _).mono ?_
  rintro e w2 ⟨rfl, hb⟩
  rw [HC.out.1]
  clear kcF kfF kzF
  have hB2 := hB1.trans (hb.mono hB1.size)
  have HF2 := Lib.hid (HF1.out.below hb HF1.out.lt)
  clear HF1
  clear hb
  have kcF := HF2.out.cells
  have kfF := HF2.out.froz
  have kzF := HF2.out.lt
  go_wp2_with fail
  refine (hdbytes_any 5 k f l _).mono ?_
  rintro e w3 ⟨rfl, hb⟩
  rw [HC.out.2.1]
  clear kcF kfF kzF
  have hB3 := hB2.trans (hb.mono hB2.size)
  have HF3 := Lib.hid (HF2.out.below hb HF2.out.lt)
  clear HF2
  clear hb
  go_wp2_with fail
  refine (hdread_any 5 A (by omega) _).mono ?_
  rintro e w4 ⟨rfl, hb⟩
  rw [HC.out.2.2]
  have hB4 := hB3.trans (hb.mono hB3.size)
  have HF4 := Lib.hid (HF3.out.below hb HF3.out.lt)
  clear HF3
  clear hb
  have hB4' := below_al hB4 (.cells #[.int .i64 k, .int .i64 f, .int .i64 l] 42 (0, 0))
  have HF5 := Lib.hid (HF4.out.alloc (.cells #[.int .i64 k, .int .i64 f, .int .i64 l] 42 (0, 0)))
  clear HF4
  have HG0 := Lib.hid (Obj?.new w4 #[.int .i64 k, .int .i64 f, .int .i64 l] 42)
  have kcF := HF5.out.cells
  have kfF := HF5.out.froz
  have kzF := HF5.out.lt
  have kcG := HG0.out.cells
  have kfG := HG0.out.froz
  have kzG := HG0.out.lt
  go_wp2_with fail
  go_ret
  exact ⟨rfl, hB4'⟩

set_option maxRecDepth 100000 in
set_option maxHeartbeats 1600000 in
theorem headBoth_b (f l : Int) (A : List UInt8) (hA2 : A.length ≤ 5) (HC : Hid (bytesF 4 15 f l = ([], 8) ∧ bytesF 5 15 f l = (A, 0) ∧ rdH 4 A = (0, 0, 0, 0, 8))) (w : World) :
    Calls Try.prog 7 #[.agg #[.int .i64 15, .int .i64 f, .int .i64 l]] w fun e w' => e = .returned (.bool true) ∧ Below w.heap.size w w' := by
  have hA : Below w.heap.size w (w.alloc (.cells #[.int .i64 15, .int .i64 f, .int .i64 l] 42 (0, 0))) := (Below.refl _ _).alloc (Nat.le_refl _) _
  have HF0 := Lib.hid (Obj?.new w #[.int .i64 15, .int .i64 f, .int .i64 l] 42)
  go_enter Try.func7, Try.ntmps7
  go_wp2_with fail
  refine (lives07 _).mono ?_
  rintro e w1 ⟨rfl, hb⟩
  have hB1 := hA.trans (hb.mono hA.size)
  have HF1 := Lib.hid (HF0.out.below hb HF0.out.lt)
  clear HF0
  clear hb
  have kcF := HF1.out.cells
  have kfF := HF1.out.froz
  have kzF := HF1.out.lt
  go_wp2_with fail
  refine (hdbytes_any 4 15 f l _).mono ?_
  rintro e w2 ⟨rfl, hb⟩
  rw [HC.out.1]
  clear kcF kfF kzF
  have hB2 := hB1.trans (hb.mono hB1.size)
  have HF2 := Lib.hid (HF1.out.below hb HF1.out.lt)
  clear HF1
  clear hb
  have kcF := HF2.out.cells
  have kfF := HF2.out.froz
  have kzF := HF2.out.lt
  go_wp2_with fail
  refine (hdbytes_any 5 15 f l _).mono ?_
  rintro e w3 ⟨rfl, hb⟩
  rw [HC.out.2.1]
  clear kcF kfF kzF
  have hB3 := hB2.trans (hb.mono hB2.size)
  have HF3 := Lib.hid (HF2.out.below hb HF2.out.lt)
  clear HF2
  clear hb
  go_wp2_with fail
  refine (hdread_any 4 A (by omega) _).mono ?_
  rintro e w4 ⟨rfl, hb⟩
  rw [HC.out.2.2]
  have hB4 := hB3.trans (hb.mono hB3.size)
  have HF4 := Lib.hid (HF3.out.below hb HF3.out.lt)
  clear HF3
  clear hb
  have hB4' := below_al hB4 (.cells #[.int .i64 0, .int .i64 0, .int .i64 0] 42 (0, 0))
  have HF5 := Lib.hid (HF4.out.alloc (.cells #[.int .i64 0, .int .i64 0, .int .i64 0] 42 (0, 0)))
  clear HF4
  have kcF := HF5.out.cells
  have kfF := HF5.out.froz
  have kzF := HF5.out.lt
  go_wp2_with fail
  go_ret
  exact ⟨rfl, hB4'⟩

set_option maxRecDepth 100000 in
set_option maxHeartbeats 1600000 in
theorem headBoth_c (k f l E : Int) (hE : (E == 0) = false) (HC : Hid (bytesF 4 k f l = ([], E) ∧ bytesF 5 k f l = ([], E) ∧ True)) (w : World) :
    Calls Try.prog 7 #[.agg #[.int .i64 k, .int .i64 f, .int .i64 l]] w fun e w' => e = .returned (.bool true) ∧ Below w.heap.size w w' := by
  have hA : Below w.heap.size w (w.alloc (.cells #[.int .i64 k, .int .i64 f, .int .i64 l] 42 (0, 0))) := (Below.refl _ _).alloc (Nat.le_refl _) _
  have HF0 := Lib.hid (Obj?.new w #[.int .i64 k, .int .i64 f, .int .i64 l] 42)
  go_enter Try.func7, Try.ntmps7
  go_wp2_with fail
  refine (lives07 _).mono ?_
  rintro e w1 ⟨rfl, hb⟩
  have hB1 := hA.trans (hb.mono hA.size)
  have HF1 := Lib.hid (HF0.out.below hb HF0.out.lt)
  clear HF0
  clear hb
  have kcF := HF1.out.cells
  have kfF := HF1.out.froz
  have kzF := HF1.out.lt
  go_wp2_with fail
  refine (hdbytes_any 4 k f l _).mono ?_
  rintro e w2 ⟨rfl, hb⟩
  rw [HC.out.1]
  clear kcF kfF kzF
  have hB2 := hB1.trans (hb.mono hB1.size)
  have HF2 := Lib.hid (HF1.out.below hb HF1.out.lt)
  clear HF1
  clear hb
  have kcF := HF2.out.cells
  have kfF := HF2.out.froz
  have kzF := HF2.out.lt
  go_wp2_with fail
  refine (hdbytes_any 5 k f l _).mono ?_
  rintro e w3 ⟨rfl, hb⟩
  rw [HC.out.2.1]
  clear kcF kfF kzF
  have hB3 := hB2.trans (hb.mono hB2.size)
  have HF3 := Lib.hid (HF2.out.below hb HF2.out.lt)
  clear HF2
  clear hb
  have kcF := HF3.out.cells
  have kfF := HF3.out.froz
  have kzF := HF3.out.lt
  go_wp2_with fail
  go_ret
  exact ⟨rfl, hB3⟩

set_option maxRecDepth 100000 in
set_option maxHeartbeats 1600000 in
theorem headBoth_d (f l E : Int) (hE : (E == 0) = false) (hE8 : ((8 : Int) == E) = false) (HC : Hid (bytesF 4 15 f l = ([], 8) ∧ bytesF 5 15 f l = ([], E) ∧ True)) (w : World) :
    Calls Try.prog 7 #[.agg #[.int .i64 15, .int .i64 f, .int .i64 l]] w fun e w' => e = .returned (.bool true) ∧ Below w.heap.size w w' := by
  have hA : Below w.heap.size w (w.alloc (.cells #[.int .i64 15, .int .i64 f, .int .i64 l] 42 (0, 0))) := (Below.refl _ _).alloc (Nat.le_refl _) _
  have HF0 := Lib.hid (Obj?.new w #[.int .i64 15, .int .i64 f, .int .i64 l] 42)
  go_enter Try.func7, Try.ntmps7
  go_wp2_with fail
  refine (lives07 _).mono ?_
  rintro e w1 ⟨rfl, hb⟩
  have hB1 := hA.trans (hb.mono hA.size)
  have HF1 := Lib.hid (HF0.out.below hb HF0.out.lt)
  clear HF0
  clear hb
  have kcF := HF1.out.cells
  have kfF := HF1.out.froz
  have kzF := HF1.out.lt
  go_wp2_with fail
  refine (hdbytes_any 4 15 f l _).mono ?_
  rintro e w2 ⟨rfl, hb⟩
  rw [HC.out.1]
  clear kcF kfF kzF
  have hB2 := hB1.trans (hb.mono hB1.size)
  have HF2 := Lib.hid (HF1.out.below hb HF1.out.lt)
  clear HF1
  clear hb
  have kcF := HF2.out.cells
  have kfF := HF2.out.froz
  have kzF := HF2.out.lt
  go_wp2_with fail
  refine (hdbytes_any 5 15 f l _).mono ?_
  rintro e w3 ⟨rfl, hb⟩
  rw [HC.out.2.1]
  clear kcF kfF kzF
  have hB3 := hB2.trans (hb.mono hB2.size)
  have HF3 := Lib.hid (HF2.out.below hb HF2.out.lt)
  clear HF2
  clear hb
  have kcF := HF3.out.cells
  have kfF := HF3.out.froz
  have kzF := HF3.out.lt
  go_wp2_with fail
  go_ret
  exact ⟨rfl, hB3⟩

theorem headBoth_walk (k f l : Int) (w : World) : Calls Try.prog 7 #[.agg #[.int .i64 k, .int .i64 f, .int .i64 l]] w fun e w' => e = .returned (.bool true) ∧ Below w.heap.size w w' := by
  by_cases hk : k = 15
  · subst hk
    by_cases h : checkF 5 15 f l = 0
    · exact headBoth_b f l (hdA 15 f l) (hdA_len h).2.2 ⟨bytesF_no (by rw [check_15]; decide), bytesF_ok h, rdH_15 f l h⟩ w
    · exact headBoth_d f l (checkF 5 15 f l) (by simpa using h) (by simpa using fun e => check_15' f l e.symm) ⟨bytesF_no (by rw [check_15]; decide), bytesF_no h, trivial⟩ w
  · have e := check_45 k f l hk
    by_cases h : checkF 5 k f l = 0
    · have h4 : checkF 4 k f l = 0 := by rw [e, h]
      have hr := rdH_hdA h []
      rw [List.append_nil] at hr
      exact headBoth_a k f l (hdA k f l) (hdA_len h).2.2 ⟨bytesF_ok h4, bytesF_ok h, hr⟩ w
    · have h4 : checkF 4 k f l ≠ 0 := by rw [e]; exact h
      exact headBoth_c k f l (checkF 5 k f l) (by simpa using h) ⟨by rw [bytesF_no h4, e], bytesF_no h, trivial⟩ w
end Go.Proofs.Ytdalhnhbmgidaaa
