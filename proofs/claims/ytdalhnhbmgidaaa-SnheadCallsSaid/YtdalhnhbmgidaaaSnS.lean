/- The reference of chapter 21: May. -/
import Derived.Test.YtdalhnhbmgidaaaSnL
import Derived.Deep.Cut
namespace Go.Proofs.Ytdalhnhbmgidaaa
open Go.RowKit
set_option linter.unusedVariables false

set_option maxRecDepth 100000 in
set_option maxHeartbeats 400000 in
theorem rmay_no (k : Int) (f : Fl) (h : flagOk f.q f.typ = false) (w : World) : Calls Try.prog 32 #[.int .i64 k, .agg #[.bool f.dup, .int .i64 f.q, .bool f.retain, .bool f.will, .bool f.clean, .int .i64 f.typ]] w fun e w' =>
    e = .returned (.bool (mayF k f)) ∧ Below w.heap.size w w' := by
  have HM := Lib.hid (And.intro (show (flagV f).2 = 7 by unfold flagV flagF; rw [h]; rfl) (show mayF k f = false by unfold mayF; rw [h]; rfl))
  have hA : Below w.heap.size w (w.alloc (.cells #[.bool f.dup, .int .i64 f.q, .bool f.retain, .bool f.will, .bool f.clean, .int .i64 f.typ] 45 (0, 0))) := (Below.refl _ _).alloc (Nat.le_refl _) _
  have HO := Lib.hid (Obj?.new w #[.bool f.dup, .int .i64 f.q, .bool f.retain, .bool f.will, .bool f.clean, .int .i64 f.typ] 45)
  rw [HM.out.2]
  clear h
  go_enter Try.func32, Try.ntmps32
  go_wp2_with fail
  refine (ruses_any k _).mono ?_
  rintro e w1 ⟨rfl, hb⟩
  have hB1 := hA.trans (hb.mono hA.size)
  have O := HO.out.below hb HO.out.lt
  have kc := O.cells
  have hz := O.lt
  clear hb O
  go_wp2_with fail
  refine (rflag_fl f _).mono ?_
  rintro e w2 ⟨rfl, hb⟩
  rw [HM.out.1]
  have hB2 := below_al hB1 (.cells #[.bool (usesF k).dup, .int .i64 (usesF k).q, .bool (usesF k).retain, .bool (usesF k).will, .bool (usesF k).clean, .int .i64 (usesF k).typ] 45 (0, 0))
  have hB3 := hB2.trans (hb.mono hB2.size)
  clear hb kc hz HM HO
  go_upto_region 3 with fail
  dsimp only [List.append]
  go_wp2_with fail
  go_ret
  exact ⟨rfl, hB3⟩

set_option maxRecDepth 100000 in
set_option maxHeartbeats 3200000 in
theorem rmay_go (k : Int) (f : Fl) (h : flagOk f.q f.typ = true) (u : Fl) (hu : usesF k = u) (hu' : u = ⟨false, 0, false, true, true, 0⟩ ∨ u = ⟨false, 1, true, false, false, 0⟩ ∨ u = ⟨false, 1, false, false, false, 0⟩ ∨ u = ⟨true, 1, true, false, false, 1⟩ ∨
    u = ⟨true, 1, false, false, false, 1⟩ ∨ u = ⟨false, 0, false, false, false, 1⟩ ∨ u = fl0) (w : World) : Calls Try.prog 32 #[.int .i64 k, .agg #[.bool f.dup, .int .i64 f.q, .bool f.retain, .bool f.will, .bool f.clean, .int .i64 f.typ]] w fun e w' =>
    e = .returned (.bool (mayF k f)) ∧ Below w.heap.size w w' := by
  have HM := Lib.hid (And.intro (show (flagV f).2 = 0 by unfold flagV flagF; rw [h]; rfl) (show mayF k f = ((u.dup || !f.dup) && (u.q == 1 || f.q == 0) && (u.retain || !f.retain) && (u.will || !f.will) && (u.clean || !f.clean) && (u.typ == 1 || f.typ == 0) && (decide (0 ≤ f.q) || k == 12)) by unfold mayF; rw [h, hu]; rfl))
  have HU := Lib.hid hu
  have hA : Below w.heap.size w (w.alloc (.cells #[.bool f.dup, .int .i64 f.q, .bool f.retain, .bool f.will, .bool f.clean, .int .i64 f.typ] 45 (0, 0))) := (Below.refl _ _).alloc (Nat.le_refl _) _
  have HO := Lib.hid (Obj?.new w #[.bool f.dup, .int .i64 f.q, .bool f.retain, .bool f.will, .bool f.clean, .int .i64 f.typ] 45)
  have hm := HM.out.2
  rw [hm]
  clear h hu hm
  go_enter Try.func32, Try.ntmps32
  go_wp2_with fail
  refine (ruses_any k _).mono ?_
  rintro e w1 ⟨rfl, hb⟩
  rw [HU.out]
  have hB1 := hA.trans (hb.mono hA.size)
  have O := HO.out.below hb HO.out.lt
  have kc := O.cells
  have hz := O.lt
  have HO1 := Lib.hid O
  clear hb O
  go_wp2_with fail
  refine (rflag_fl f _).mono ?_
  rintro e w2 ⟨rfl, hb⟩
  rw [HM.out.1]
  have hB2 := below_al hB1 (.cells #[.bool u.dup, .int .i64 u.q, .bool u.retain, .bool u.will, .bool u.clean, .int .i64 u.typ] 45 (0, 0))
  have hB3 := hB2.trans (hb.mono hB2.size)
  have O2 := (HO1.out.alloc (.cells #[.bool u.dup, .int .i64 u.q, .bool u.retain, .bool u.will, .bool u.clean, .int .i64 u.typ] 45 (0, 0))).below hb (by simp; omega)
  have U2 := (Obj?.new w1 #[.bool u.dup, .int .i64 u.q, .bool u.retain, .bool u.will, .bool u.clean, .int .i64 u.typ] 45).below hb (by simp)
  clear hb kc hz HM HO HO1 HU
  have kc := O2.cells
  have ku := U2.cells
  clear O2 U2
  rcases hu' with rfl | rfl | rfl | rfl | rfl | rfl | rfl
  all_goals go_upto_region 3 with fail
  all_goals dsimp only [List.append]
  all_goals go_wp2_with fail
  all_goals go_ret
  all_goals refine ⟨?_, hB3⟩
  all_goals simp_all
/-- The reference's May. -/
theorem rmay_any (k : Int) (f : Fl) (w : World) : Calls Try.prog 32 #[.int .i64 k, .agg #[.bool f.dup, .int .i64 f.q, .bool f.retain, .bool f.will, .bool f.clean, .int .i64 f.typ]] w fun e w' =>
    e = .returned (.bool (mayF k f)) ∧ Below w.heap.size w w' := by
  cases h : flagOk f.q f.typ with
  | false => exact rmay_no k f h w
  | true => exact rmay_go k f h _ rfl (uses_cls k) w
end Go.Proofs.Ytdalhnhbmgidaaa
