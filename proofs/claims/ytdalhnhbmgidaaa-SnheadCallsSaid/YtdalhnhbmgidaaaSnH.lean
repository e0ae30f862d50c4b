/- SnheadFlags. -/
import Derived.Test.YtdalhnhbmgidaaaSnG
namespace Go.Proofs.Ytdalhnhbmgidaaa
open Go.RowKit
set_option linter.unusedVariables false

theorem flag_rf (f : Fl) (h : flagOk f.q f.typ = true) : (flagV f).2 = 0 ∧ 0 ≤ (flagV f).1 ∧ (flagV f).1 ≤ 255 ∧ rfE (flagV f).1 = 0 ∧ rfF (flagV f).1 = f := by
  obtain ⟨dup, q, retain, will, clean, t⟩ := f
  have h' : -1 ≤ q ∧ q ≤ 2 ∧ 0 ≤ t ∧ t ≤ 2 := by simpa [flagOk] using h
  rcases (by omega : q = -1 ∨ q = 0 ∨ q = 1 ∨ q = 2) with rfl | rfl | rfl | rfl <;> rcases (by omega : t = 0 ∨ t = 1 ∨ t = 2) with rfl | rfl | rfl <;> cases dup <;> cases retain <;> cases will <;> cases clean <;> exact ⟨rfl, by decide, by decide, rfl, rfl⟩
instance : DecidableEq Fl := fun a b => by
  rcases a with ⟨a1, a2, a3, a4, a5, a6⟩
  rcases b with ⟨b1, b2, b3, b4, b5, b6⟩
  exact decidable_of_iff (a1 = b1 ∧ a2 = b2 ∧ a3 = b3 ∧ a4 = b4 ∧ a5 = b5 ∧ a6 = b6) (by simp)
theorem rf_flag_fin : ∀ m : Fin 256, rfOk ((m : Nat) : Int) = true → flagV (rfF ((m : Nat) : Int)) = (((m : Nat) : Int), 0) := by decide +kernel
theorem rf_flag (n : Int) (h : rfOk n = true) : flagV (rfF n) = (n, 0) := by
  have h' : 0 ≤ n ∧ n ≤ 255 ∧ n % 4 ≠ 3 := by simpa [rfOk] using h
  obtain ⟨m, rfl⟩ := Int.eq_ofNat_of_zero_le h'.1
  exact rf_flag_fin ⟨m, by omega⟩ h

theorem mayF_parts {k : Int} {f : Fl} (h : mayF k f = true) : flagOk f.q f.typ = true ∧ ((usesF k).dup || !f.dup) = true ∧ ((usesF k).q == 1 || f.q == 0) = true ∧ ((usesF k).retain || !f.retain) = true ∧ ((usesF k).will || !f.will) = true ∧ ((usesF k).clean || !f.clean) = true ∧ ((usesF k).typ == 1 || f.typ == 0) = true := by
  unfold mayF at h
  simp only [Bool.and_eq_true] at h
  obtain ⟨⟨⟨⟨⟨⟨⟨h1, h2⟩, h3⟩, h4⟩, h5⟩, h6⟩, h7⟩, h8⟩ := h
  exact ⟨h1, h2, h3, h4, h5, h6, h7⟩

theorem rf_cases (n : Int) : (rfOk n = true ∧ 0 ≤ n ∧ n < 256 ∧ (n % 4 != 3) = true) ∨ (rfOk n = false ∧ n < 0) ∨ (rfOk n = false ∧ 0 ≤ n ∧ 256 ≤ n) ∨ (rfOk n = false ∧ 0 ≤ n ∧ n < 256 ∧ (n % 4 != 3) = false) := by
  have e : rfOk n = decide (0 ≤ n ∧ n ≤ 255 ∧ n % 4 ≠ 3) := rfl
  have e2 : (n % 4 != 3) = decide (n % 4 ≠ 3) := by by_cases h : n % 4 = 3 <;> simp [h]
  rw [e, e2]
  simp only [decide_eq_true_eq, decide_eq_false_iff_not]
  omega


set_option maxRecDepth 100000 in
set_option maxHeartbeats 1600000 in
theorem snf_no_t (f : Fl) (n k : Int) (h : flagOk f.q f.typ = false) (h1 : rfOk n = true) (h2 : 0 ≤ n) (h3 : n < 256) (h4 : (n % 4 != 3) = true) (w : World) :
    Calls Try.prog 5 #[.agg #[.bool f.dup, .int .i64 f.q, .bool f.retain, .bool f.will, .bool f.clean, .int .i64 f.typ], .int .i64 n, .int .i64 k] w fun e w' => e = .returned (.bool true) ∧ Below w.heap.size w w' := by
  have hA : Below w.heap.size w (w.alloc (.cells #[.bool f.dup, .int .i64 f.q, .bool f.retain, .bool f.will, .bool f.clean, .int .i64 f.typ] 45 (0, 0))) := (Below.refl _ _).alloc (Nat.le_refl _) _
  have HO := Lib.hid (Obj?.new w #[.bool f.dup, .int .i64 f.q, .bool f.retain, .bool f.will, .bool f.clean, .int .i64 f.typ] 45)
  have HM := Lib.hid (And.intro (show (flagV f) = (0, 7) by unfold flagV flagF; rw [h]; rfl) (show mayF k f = false by unfold mayF; rw [h]; rfl))
  clear h
  have HR := Lib.hid h1
  clear h1
  go_enter Try.func5, Try.ntmps5
  go_wp2_with fail
  refine (lives21 _).mono ?_
  rintro e w1 ⟨rfl, hb⟩
  have hB1 := hA.trans (hb.mono hA.size)
  have O1 := HO.out.below hb HO.out.lt
  clear hb
  have kc := O1.cells
  go_wp2_with fail
  refine (flag_fl f _).mono ?_
  rintro e w2 ⟨rfl, hb⟩
  have hB2 := hB1.trans (hb.mono hB1.size)
  have HO2 := Lib.hid (O1.below hb O1.lt)
  clear hb O1 kc
  rw [HM.out.1]
  go_wp2_with fail
  refine (readflag_any n _).mono ?_
  rintro e w4 ⟨rfl, hb⟩
  have hB4 := hB2.trans (hb.mono hB2.size)
  have HO4 := Lib.hid (HO2.out.below hb HO2.out.lt)
  have hz4 := HO4.out.lt
  clear hb
  rw [show rfE n = 0 by unfold rfE; rw [HR.out]; rfl]
  go_wp2_with fail
  refine (flag_fl (rfF n) _).mono ?_
  rintro e w5 ⟨rfl, hb⟩
  rw [rf_flag n HR.out]
  have O5 := (HO4.out.alloc _).below hb (HO4.out.alloc _).lt
  have hB5 := (below_al hB4 _).trans (hb.mono (below_al hB4 _).size)
  have HO5 := Lib.hid O5
  clear hb O5 HO4 hB4
  go_wp2_with fail
  refine (uses_any _ _).mono ?_
  rintro e w6 ⟨rfl, hb⟩
  have hB6 := below_al (hB5.trans (hb.mono hB5.size)) (.cells #[.bool (usesF k).dup, .int .i64 (usesF k).q, .bool (usesF k).retain, .bool (usesF k).will, .bool (usesF k).clean, .int .i64 (usesF k).typ] 45 (0, 0))
  have O6 := HO5.out.below hb HO5.out.lt
  have kc := O6.cells
  have kf := O6.froz
  have hz := O6.lt
  clear hb O6 hz4
  go_wp2_with fail
  refine (may_any k f _).mono ?_
  rintro e w7 ⟨rfl, hb⟩
  rw [HM.out.2]
  have hB7 := hB6.trans (hb.mono hB6.size)
  clear hb kc kf hz HM HO HO5 HR HO2
  dsimp only
  go_step
  dsimp only [List.append]
  go_wp2_with fail
  go_ret
  exact ⟨rfl, hB7⟩

set_option maxRecDepth 100000 in
set_option maxHeartbeats 1600000 in
theorem snf_no_a (f : Fl) (n k : Int) (h : flagOk f.q f.typ = false) (h1 : rfOk n = false) (h2 : n < 0) (w : World) :
    Calls Try.prog 5 #[.agg #[.bool f.dup, .int .i64 f.q, .bool f.retain, .bool f.will, .bool f.clean, .int .i64 f.typ], .int .i64 n, .int .i64 k] w fun e w' => e = .returned (.bool true) ∧ Below w.heap.size w w' := by
  have hA : Below w.heap.size w (w.alloc (.cells #[.bool f.dup, .int .i64 f.q, .bool f.retain, .bool f.will, .bool f.clean, .int .i64 f.typ] 45 (0, 0))) := (Below.refl _ _).alloc (Nat.le_refl _) _
  have HO := Lib.hid (Obj?.new w #[.bool f.dup, .int .i64 f.q, .bool f.retain, .bool f.will, .bool f.clean, .int .i64 f.typ] 45)
  have HM := Lib.hid (And.intro (show (flagV f) = (0, 7) by unfold flagV flagF; rw [h]; rfl) (show mayF k f = false by unfold mayF; rw [h]; rfl))
  clear h
  have HR := Lib.hid h1
  clear h1
  go_enter Try.func5, Try.ntmps5
  go_wp2_with fail
  refine (lives21 _).mono ?_
  rintro e w1 ⟨rfl, hb⟩
  have hB1 := hA.trans (hb.mono hA.size)
  have O1 := HO.out.below hb HO.out.lt
  clear hb
  have kc := O1.cells
  go_wp2_with fail
  refine (flag_fl f _).mono ?_
  rintro e w2 ⟨rfl, hb⟩
  have hB2 := hB1.trans (hb.mono hB1.size)
  have HO2 := Lib.hid (O1.below hb O1.lt)
  clear hb O1 kc
  rw [HM.out.1]
  go_wp2_with fail
  refine (readflag_any n _).mono ?_
  rintro e w4 ⟨rfl, hb⟩
  have hB4 := hB2.trans (hb.mono hB2.size)
  have HO4 := Lib.hid (HO2.out.below hb HO2.out.lt)
  have hz4 := HO4.out.lt
  clear hb
  rw [show rfE n = 7 by unfold rfE; rw [HR.out]; rfl]
  have HO5 := Lib.hid (HO4.out.alloc (.cells #[.bool (rfF n).dup, .int .i64 (rfF n).q, .bool (rfF n).retain, .bool (rfF n).will, .bool (rfF n).clean, .int .i64 (rfF n).typ] 45 (0, 0)))
  have hB5 := below_al hB4 (.cells #[.bool (rfF n).dup, .int .i64 (rfF n).q, .bool (rfF n).retain, .bool (rfF n).will, .bool (rfF n).clean, .int .i64 (rfF n).typ] 45 (0, 0))
  clear HO4 hB4
  go_wp2_with fail
  refine (uses_any _ _).mono ?_
  rintro e w6 ⟨rfl, hb⟩
  have hB6 := below_al (hB5.trans (hb.mono hB5.size)) (.cells #[.bool (usesF k).dup, .int .i64 (usesF k).q, .bool (usesF k).retain, .bool (usesF k).will, .bool (usesF k).clean, .int .i64 (usesF k).typ] 45 (0, 0))
  have O6 := HO5.out.below hb HO5.out.lt
  have kc := O6.cells
  have kf := O6.froz
  have hz := O6.lt
  clear hb O6 hz4
  go_wp2_with fail
  refine (may_any k f _).mono ?_
  rintro e w7 ⟨rfl, hb⟩
  rw [HM.out.2]
  have hB7 := hB6.trans (hb.mono hB6.size)
  clear hb kc kf hz HM HO HO5 HR HO2
  dsimp only
  go_step
  dsimp only [List.append]
  go_wp2_with fail
  go_ret
  exact ⟨rfl, hB7⟩

set_option maxRecDepth 100000 in
set_option maxHeartbeats 1600000 in
theorem snf_no_b (f : Fl) (n k : Int) (h : flagOk f.q f.typ = false) (h1 : rfOk n = false) (h2 : 0 ≤ n) (h3 : 256 ≤ n) (w : World) :
    Calls Try.prog 5 #[.agg #[.bool f.dup, .int .i64 f.q, .bool f.retain, .bool f.will, .bool f.clean, .int .i64 f.typ], .int .i64 n, .int .i64 k] w fun e w' => e = .returned (.bool true) ∧ Below w.heap.size w w' := by
  have hA : Below w.heap.size w (w.alloc (.cells #[.bool f.dup, .int .i64 f.q, .bool f.retain, .bool f.will, .bool f.clean, .int .i64 f.typ] 45 (0, 0))) := (Below.refl _ _).alloc (Nat.le_refl _) _
  have HO := Lib.hid (Obj?.new w #[.bool f.dup, .int .i64 f.q, .bool f.retain, .bool f.will, .bool f.clean, .int .i64 f.typ] 45)
  have HM := Lib.hid (And.intro (show (flagV f) = (0, 7) by unfold flagV flagF; rw [h]; rfl) (show mayF k f = false by unfold mayF; rw [h]; rfl))
  clear h
  have HR := Lib.hid h1
  clear h1
  go_enter Try.func5, Try.ntmps5
  go_wp2_with fail
  refine (lives21 _).mono ?_
  rintro e w1 ⟨rfl, hb⟩
  have hB1 := hA.trans (hb.mono hA.size)
  have O1 := HO.out.below hb HO.out.lt
  clear hb
  have kc := O1.cells
  go_wp2_with fail
  refine (flag_fl f _).mono ?_
  rintro e w2 ⟨rfl, hb⟩
  have hB2 := hB1.trans (hb.mono hB1.size)
  have HO2 := Lib.hid (O1.below hb O1.lt)
  clear hb O1 kc
  rw [HM.out.1]
  go_wp2_with fail
  refine (readflag_any n _).mono ?_
  rintro e w4 ⟨rfl, hb⟩
  have hB4 := hB2.trans (hb.mono hB2.size)
  have HO4 := Lib.hid (HO2.out.below hb HO2.out.lt)
  have hz4 := HO4.out.lt
  clear hb
  rw [show rfE n = 7 by unfold rfE; rw [HR.out]; rfl]
  have HO5 := Lib.hid (HO4.out.alloc (.cells #[.bool (rfF n).dup, .int .i64 (rfF n).q, .bool (rfF n).retain, .bool (rfF n).will, .bool (rfF n).clean, .int .i64 (rfF n).typ] 45 (0, 0)))
  have hB5 := below_al hB4 (.cells #[.bool (rfF n).dup, .int .i64 (rfF n).q, .bool (rfF n).retain, .bool (rfF n).will, .bool (rfF n).clean, .int .i64 (rfF n).typ] 45 (0, 0))
  clear HO4 hB4
  go_wp2_with fail
  refine (uses_any _ _).mono ?_
  rintro e w6 ⟨rfl, hb⟩
  have hB6 := below_al (hB5.trans (hb.mono hB5.size)) (.cells #[.bool (usesF k).dup, .int .i64 (usesF k).q, .bool (usesF k).retain, .bool (usesF k).will, .bool (usesF k).clean, .int .i64 (usesF k).typ] 45 (0, 0))
  have O6 := HO5.out.below hb HO5.out.lt
  have kc := O6.cells
  have kf := O6.froz
  have hz := O6.lt
  clear hb O6 hz4
  go_wp2_with fail
  refine (may_any k f _).mono ?_
  rintro e w7 ⟨rfl, hb⟩
  rw [HM.out.2]
  have hB7 := hB6.trans (hb.mono hB6.size)
  clear hb kc kf hz HM HO HO5 HR HO2
  dsimp only
  go_step
  dsimp only [List.append]
  go_wp2_with fail
  go_ret
  exact ⟨rfl, hB7⟩

set_option maxRecDepth 100000 in
set_option maxHeartbeats 1600000 in
theorem snf_no_c (f : Fl) (n k : Int) (h : flagOk f.q f.typ = false) (h1 : rfOk n = false) (h2 : 0 ≤ n) (h3 : n < 256) (h4 : (n % 4 != 3) = false) (w : World) :
    Calls Try.prog 5 #[.agg #[.bool f.dup, .int .i64 f.q, .bool f.retain, .bool f.will, .bool f.clean, .int .i64 f.typ], .int .i64 n, .int .i64 k] w fun e w' => e = .returned (.bool true) ∧ Below w.heap.size w w' := by
  have hA : Below w.heap.size w (w.alloc (.cells #[.bool f.dup, .int .i64 f.q, .bool f.retain, .bool f.will, .bool f.clean, .int .i64 f.typ] 45 (0, 0))) := (Below.refl _ _).alloc (Nat.le_refl _) _
  have HO := Lib.hid (Obj?.new w #[.bool f.dup, .int .i64 f.q, .bool f.retain, .bool f.will, .bool f.clean, .int .i64 f.typ] 45)
  have HM := Lib.hid (And.intro (show (flagV f) = (0, 7) by unfold flagV flagF; rw [h]; rfl) (show mayF k f = false by unfold mayF; rw [h]; rfl))
  clear h
  have HR := Lib.hid h1
  clear h1
  go_enter Try.func5, Try.ntmps5
  go_wp2_with fail
  refine (lives21 _).mono ?_
  rintro e w1 ⟨rfl, hb⟩
  have hB1 := hA.trans (hb.mono hA.size)
  have O1 := HO.out.below hb HO.out.lt
  clear hb
  have kc := O1.cells
  go_wp2_with fail
  refine (flag_fl f _).mono ?_
  rintro e w2 ⟨rfl, hb⟩
  have hB2 := hB1.trans (hb.mono hB1.size)
  have HO2 := Lib.hid (O1.below hb O1.lt)
  clear hb O1 kc
  rw [HM.out.1]
  go_wp2_with fail
  refine (readflag_any n _).mono ?_
  rintro e w4 ⟨rfl, hb⟩
  have hB4 := hB2.trans (hb.mono hB2.size)
  have HO4 := Lib.hid (HO2.out.below hb HO2.out.lt)
  have hz4 := HO4.out.lt
  clear hb
  rw [show rfE n = 7 by unfold rfE; rw [HR.out]; rfl]
  have HO5 := Lib.hid (HO4.out.alloc (.cells #[.bool (rfF n).dup, .int .i64 (rfF n).q, .bool (rfF n).retain, .bool (rfF n).will, .bool (rfF n).clean, .int .i64 (rfF n).typ] 45 (0, 0)))
  have hB5 := below_al hB4 (.cells #[.bool (rfF n).dup, .int .i64 (rfF n).q, .bool (rfF n).retain, .bool (rfF n).will, .bool (rfF n).clean, .int .i64 (rfF n).typ] 45 (0, 0))
  clear HO4 hB4
  go_wp2_with fail
  refine (uses_any _ _).mono ?_
  rintro e w6 ⟨rfl, hb⟩
  have hB6 := below_al (hB5.trans (hb.mono hB5.size)) (.cells #[.bool (usesF k).dup, .int .i64 (usesF k).q, .bool (usesF k).retain, .bool (usesF k).will, .bool (usesF k).clean, .int .i64 (usesF k).typ] 45 (0, 0))
  have O6 := HO5.out.below hb HO5.out.lt
  have kc := O6.cells
  have kf := O6.froz
  have hz := O6.lt
  clear hb O6 hz4
  go_wp2_with fail
  refine (may_any k f _).mono ?_
  rintro e w7 ⟨rfl, hb⟩
  rw [HM.out.2]
  have hB7 := hB6.trans (hb.mono hB6.size)
  clear hb kc kf hz HM HO HO5 HR HO2
  dsimp only
  go_step
  dsimp only [List.append]
  go_wp2_with fail
  go_ret
  exact ⟨rfl, hB7⟩
end Go.Proofs.Ytdalhnhbmgidaaa
