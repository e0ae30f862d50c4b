/- SnheadFlags: valid flags. -/
import Derived.Test.YtdalhnhbmgidaaaSnH
namespace Go.Proofs.Ytdalhnhbmgidaaa
open Go.RowKit
set_option linter.unusedVariables false


set_option maxRecDepth 100000 in
set_option maxHeartbeats 1600000 in
theorem snf_mid_c (f : Fl) (n k : Int) (h : flagOk f.q f.typ = true) (hm : mayF k f = false) (h1 : rfOk n = false) (h2 : 0 ≤ n) (h3 : n < 256) (h4 : (n % 4 != 3) = false) (w : World) :
    Calls Try.prog 5 #[.agg #[.bool f.dup, .int .i64 f.q, .bool f.retain, .bool f.will, .bool f.clean, .int .i64 f.typ], .int .i64 n, .int .i64 k] w fun e w' => e = .returned (.bool true) ∧ Below w.heap.size w w' := by
  have hA : Below w.heap.size w (w.alloc (.cells #[.bool f.dup, .int .i64 f.q, .bool f.retain, .bool f.will, .bool f.clean, .int .i64 f.typ] 45 (0, 0))) := (Below.refl _ _).alloc (Nat.le_refl _) _
  have HO := Lib.hid (Obj?.new w #[.bool f.dup, .int .i64 f.q, .bool f.retain, .bool f.will, .bool f.clean, .int .i64 f.typ] 45)
  obtain ⟨g1, g2, g3, g4, g5⟩ := flag_rf f h
  have HM := Lib.hid (And.intro g1 (And.intro g2 (And.intro g3 (And.intro g4 (And.intro g5 hm)))))
  clear h hm g1 g2 g3 g4 g5
  have HR := Lib.hid h1
  clear h1
  go_enter Try.func5, Try.ntmps5
  go_wp2_with fail
  refine (lives21 _).mono ?_
  rintro e w1 ⟨rfl, hb⟩
  have hB1 := hA.trans (hb.mono hA.size)
  have O1 := HO.out.below hb HO.out.lt
  clear hb
  have kc := O1.cells
  go_wp2_with fail
  refine (flag_fl f _).mono ?_
  rintro e w2 ⟨rfl, hb⟩
  have hB2 := hB1.trans (hb.mono hB1.size)
  have HO2 := Lib.hid (O1.below hb O1.lt)
  clear hb O1 kc
  rw [HM.out.1]
  go_wp2_with fail
  refine (readflag_any _ _).mono ?_
  rintro e w3 ⟨rfl, hb⟩
  rw [HM.out.2.2.2.1, HM.out.2.2.2.2.1]
  have hB3 := below_al (hB2.trans (hb.mono hB2.size)) (.cells #[.bool f.dup, .int .i64 f.q, .bool f.retain, .bool f.will, .bool f.clean, .int .i64 f.typ] 45 (0, 0))
  have O3 := (HO2.out.below hb HO2.out.lt).alloc (.cells #[.bool f.dup, .int .i64 f.q, .bool f.retain, .bool f.will, .bool f.clean, .int .i64 f.typ] 45 (0, 0))
  have hz := (HO2.out.below hb HO2.out.lt).lt
  have kc := (HO2.out.below hb HO2.out.lt).cells
  have HO3 := Lib.hid O3
  have hlo := HM.out.2.1
  have hhi := HM.out.2.2.1
  clear hb O3
  go_wp2_with fail
  refine (readflag_any n _).mono ?_
  rintro e w4 ⟨rfl, hb⟩
  clear kc hlo hhi
  have hB4 := hB3.trans (hb.mono hB3.size)
  have O4 := HO3.out.below hb HO3.out.lt
  have HO4 := Lib.hid O4
  have hz4 := O4.lt
  clear hb O4 hz
  rw [show rfE n = 7 by unfold rfE; rw [HR.out]; rfl]
  have HO5 := Lib.hid (HO4.out.alloc (.cells #[.bool (rfF n).dup, .int .i64 (rfF n).q, .bool (rfF n).retain, .bool (rfF n).will, .bool (rfF n).clean, .int .i64 (rfF n).typ] 45 (0, 0)))
  have hB5 := below_al hB4 (.cells #[.bool (rfF n).dup, .int .i64 (rfF n).q, .bool (rfF n).retain, .bool (rfF n).will, .bool (rfF n).clean, .int .i64 (rfF n).typ] 45 (0, 0))
  clear HO4 hB4
  go_wp2_with fail
  refine (uses_any _ _).mono ?_
  rintro e w6 ⟨rfl, hb⟩
  have hB6 := below_al (hB5.trans (hb.mono hB5.size)) (.cells #[.bool (usesF k).dup, .int .i64 (usesF k).q, .bool (usesF k).retain, .bool (usesF k).will, .bool (usesF k).clean, .int .i64 (usesF k).typ] 45 (0, 0))
  have O6 := HO5.out.below hb HO5.out.lt
  have kc := O6.cells
  have kf := O6.froz
  have hz := O6.lt
  clear hb O6 hz4
  go_wp2_with fail
  refine (may_any k f _).mono ?_
  rintro e w7 ⟨rfl, hb⟩
  rw [HM.out.2.2.2.2.2]
  have hB7 := hB6.trans (hb.mono hB6.size)
  clear hb kc kf hz HM HO HO5 HR HO2
  dsimp only
  go_step
  dsimp only [List.append]
  go_wp2_with fail
  go_ret
  exact ⟨rfl, hB7⟩

set_option maxRecDepth 100000 in
set_option maxHeartbeats 1600000 in
theorem snf_yes_c (f : Fl) (n k : Int) (hm : mayF k f = true) (u : Fl) (hu : usesF k = u) (hu' : u = ⟨false, 0, false, true, true, 0⟩ ∨ u = ⟨false, 1, true, false, false, 0⟩ ∨ u = ⟨false, 1, false, false, false, 0⟩ ∨ u = ⟨true, 1, true, false, false, 1⟩ ∨ u = ⟨true, 1, false, false, false, 1⟩ ∨ u = ⟨false, 0, false, false, false, 1⟩ ∨ u = fl0) (h1 : rfOk n = false) (h2 : 0 ≤ n) (h3 : n < 256) (h4 : (n % 4 != 3) = false) (w : World) :
    Calls Try.prog 5 #[.agg #[.bool f.dup, .int .i64 f.q, .bool f.retain, .bool f.will, .bool f.clean, .int .i64 f.typ], .int .i64 n, .int .i64 k] w fun e w' => e = .returned (.bool true) ∧ Below w.heap.size w w' := by
  have hA : Below w.heap.size w (w.alloc (.cells #[.bool f.dup, .int .i64 f.q, .bool f.retain, .bool f.will, .bool f.clean, .int .i64 f.typ] 45 (0, 0))) := (Below.refl _ _).alloc (Nat.le_refl _) _
  have HO := Lib.hid (Obj?.new w #[.bool f.dup, .int .i64 f.q, .bool f.retain, .bool f.will, .bool f.clean, .int .i64 f.typ] 45)
  obtain ⟨h, p2, p3, p4, p5, p6, p7⟩ := mayF_parts hm
  rw [hu] at p2 p3 p4 p5 p6 p7
  have HP := Lib.hid (And.intro p2 (And.intro p3 (And.intro p4 (And.intro p5 (And.intro p6 p7)))))
  obtain ⟨g1, g2, g3, g4, g5⟩ := flag_rf f h
  have HM := Lib.hid (And.intro g1 (And.intro g2 (And.intro g3 (And.intro g4 (And.intro g5 (And.intro trivial (And.intro hu hm)))))))
  have HU := Lib.hid hu'
  clear h hm g1 g2 g3 g4 g5 p2 p3 p4 p5 p6 p7 hu hu'
  have HR := Lib.hid h1
  clear h1
  go_enter Try.func5, Try.ntmps5
  go_wp2_with fail
  refine (lives21 _).mono ?_
  rintro e w1 ⟨rfl, hb⟩
  have hB1 := hA.trans (hb.mono hA.size)
  have O1 := HO.out.below hb HO.out.lt
  clear hb
  have kc := O1.cells
  go_wp2_with fail
  refine (flag_fl f _).mono ?_
  rintro e w2 ⟨rfl, hb⟩
  have hB2 := hB1.trans (hb.mono hB1.size)
  have HO2 := Lib.hid (O1.below hb O1.lt)
  clear hb O1 kc
  rw [HM.out.1]
  go_wp2_with fail
  refine (readflag_any _ _).mono ?_
  rintro e w3 ⟨rfl, hb⟩
  rw [HM.out.2.2.2.1, HM.out.2.2.2.2.1]
  have hB3 := below_al (hB2.trans (hb.mono hB2.size)) (.cells #[.bool f.dup, .int .i64 f.q, .bool f.retain, .bool f.will, .bool f.clean, .int .i64 f.typ] 45 (0, 0))
  have O3 := (HO2.out.below hb HO2.out.lt).alloc (.cells #[.bool f.dup, .int .i64 f.q, .bool f.retain, .bool f.will, .bool f.clean, .int .i64 f.typ] 45 (0, 0))
  have hz := (HO2.out.below hb HO2.out.lt).lt
  have kc := (HO2.out.below hb HO2.out.lt).cells
  have HO3 := Lib.hid O3
  have hlo := HM.out.2.1
  have hhi := HM.out.2.2.1
  clear hb O3
  go_wp2_with fail
  refine (readflag_any n _).mono ?_
  rintro e w4 ⟨rfl, hb⟩
  clear kc hlo hhi
  have hB4 := hB3.trans (hb.mono hB3.size)
  have O4 := HO3.out.below hb HO3.out.lt
  have HO4 := Lib.hid O4
  have hz4 := O4.lt
  clear hb O4 hz
  rw [show rfE n = 7 by unfold rfE; rw [HR.out]; rfl]
  have HO5 := Lib.hid (HO4.out.alloc (.cells #[.bool (rfF n).dup, .int .i64 (rfF n).q, .bool (rfF n).retain, .bool (rfF n).will, .bool (rfF n).clean, .int .i64 (rfF n).typ] 45 (0, 0)))
  have hB5 := below_al hB4 (.cells #[.bool (rfF n).dup, .int .i64 (rfF n).q, .bool (rfF n).retain, .bool (rfF n).will, .bool (rfF n).clean, .int .i64 (rfF n).typ] 45 (0, 0))
  clear HO4 hB4
  go_wp2_with fail
  refine (uses_any _ _).mono ?_
  rintro e w6 ⟨rfl, hb⟩
  rw [HM.out.2.2.2.2.2.2.1]
  have hB6 := below_al (hB5.trans (hb.mono hB5.size)) (.cells #[.bool u.dup, .int .i64 u.q, .bool u.retain, .bool u.will, .bool u.clean, .int .i64 u.typ] 45 (0, 0))
  have O6 := HO5.out.below hb HO5.out.lt
  have kc := O6.cells
  have kf := O6.froz
  have hz := O6.lt
  have hb6 := hb
  clear hb O6 hz4
  go_wp2_with fail
  refine (may_any k f _).mono ?_
  rintro e w7 ⟨rfl, hb⟩
  rw [HM.out.2.2.2.2.2.2.2]
  have hB7 := hB6.trans (hb.mono hB6.size)
  have O7 := ((HO5.out.below hb6 HO5.out.lt).alloc (.cells #[.bool u.dup, .int .i64 u.q, .bool u.retain, .bool u.will, .bool u.clean, .int .i64 u.typ] 45 (0, 0))).below hb (by simp; omega)
  have U7 := (Obj?.new w6 #[.bool u.dup, .int .i64 u.q, .bool u.retain, .bool u.will, .bool u.clean, .int .i64 u.typ] 45).below hb (by simp)
  clear hb kc kf hz HM HO HO5 HR HO2 hb6
  have kc := O7.cells
  have ku := U7.cells
  clear O7 U7
  dsimp only
  go_step
  dsimp only [List.append]
  have hu' := HU.out
  obtain ⟨hp2, hp3, hp4, hp5, hp6, hp7⟩ := HP.out
  clear HU HP
  rcases hu' with rfl | rfl | rfl | rfl | rfl | rfl | rfl
  all_goals simp only [Bool.or_eq_true, Bool.not_eq_true', beq_iff_eq, Bool.false_eq_true, false_or, fl0] at hp2 hp3 hp4 hp5 hp6 hp7
  all_goals go_wp2_with fail
  all_goals go_ret
  all_goals exact ⟨rfl, hB7⟩
end Go.Proofs.Ytdalhnhbmgidaaa
