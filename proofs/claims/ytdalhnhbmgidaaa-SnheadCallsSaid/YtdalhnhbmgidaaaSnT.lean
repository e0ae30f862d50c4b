/- SnheadCalls. -/
import Derived.Test.YtdalhnhbmgidaaaSnS
import Derived.Test.YtdalhnhbmgidaaaSnQ
import Derived.Deep.Cut
import Derived.Deep.RegionHeld3
namespace Go.Proofs.Ytdalhnhbmgidaaa
open Go.RowKit
set_option linter.unusedVariables false

abbrev SCalls (f : Fl) (rest : Int) (w : World) (bX bY : Nat) (W : World) : Prop := Below w.heap.size w W ∧ Hid (Obj? W w.heap.size #[.bool f.dup, .int .i64 f.q, .bool f.retain, .bool f.will, .bool f.clean, .int .i64 f.typ] 45 ∧ Obj? W bX #[.bool (rfF rest).dup, .int .i64 (rfF rest).q, .bool (rfF rest).retain, .bool (rfF rest).will, .bool (rfF rest).clean, .int .i64 (rfF rest).typ] 45 ∧ Obj? W bY #[.bool (rfF rest).dup, .int .i64 (rfF rest).q, .bool (rfF rest).retain, .bool (rfF rest).will, .bool (rfF rest).clean, .int .i64 (rfF rest).typ] 45) ∧ (∀ j, W.cell? ⟨w.heap.size, j, none⟩ = (#[.bool f.dup, .int .i64 f.q, .bool f.retain, .bool f.will, .bool f.clean, .int .i64 f.typ] : Array Value)[j]?) ∧ (∀ j, W.cell? ⟨bX, j, none⟩ = (#[.bool (rfF rest).dup, .int .i64 (rfF rest).q, .bool (rfF rest).retain, .bool (rfF rest).will, .bool (rfF rest).clean, .int .i64 (rfF rest).typ] : Array Value)[j]?) ∧ (∀ j, W.cell? ⟨bY, j, none⟩ = (#[.bool (rfF rest).dup, .int .i64 (rfF rest).q, .bool (rfF rest).retain, .bool (rfF rest).will, .bool (rfF rest).clean, .int .i64 (rfF rest).typ] : Array Value)[j]?)
theorem sCalls_mk {f : Fl} {rest : Int} {w W : World} {bX bY : Nat} (hB : Below w.heap.size w W) (hF : Obj? W w.heap.size #[.bool f.dup, .int .i64 f.q, .bool f.retain, .bool f.will, .bool f.clean, .int .i64 f.typ] 45) (hX : Obj? W bX #[.bool (rfF rest).dup, .int .i64 (rfF rest).q, .bool (rfF rest).retain, .bool (rfF rest).will, .bool (rfF rest).clean, .int .i64 (rfF rest).typ] 45) (hY : Obj? W bY #[.bool (rfF rest).dup, .int .i64 (rfF rest).q, .bool (rfF rest).retain, .bool (rfF rest).will, .bool (rfF rest).clean, .int .i64 (rfF rest).typ] 45) : SCalls f rest w bX bY W :=
  ⟨hB, ⟨hF, hX, hY⟩, hF.cells, hX.cells, hY.cells⟩
theorem sCalls_step {f : Fl} {rest : Int} {w W W' : World} {bX bY : Nat} (hb : Below W.heap.size W W') (hB : Below w.heap.size w W) (h : Hid (Obj? W w.heap.size #[.bool f.dup, .int .i64 f.q, .bool f.retain, .bool f.will, .bool f.clean, .int .i64 f.typ] 45 ∧ Obj? W bX #[.bool (rfF rest).dup, .int .i64 (rfF rest).q, .bool (rfF rest).retain, .bool (rfF rest).will, .bool (rfF rest).clean, .int .i64 (rfF rest).typ] 45 ∧ Obj? W bY #[.bool (rfF rest).dup, .int .i64 (rfF rest).q, .bool (rfF rest).retain, .bool (rfF rest).will, .bool (rfF rest).clean, .int .i64 (rfF rest).typ] 45)) : SCalls f rest w bX bY W' :=
  sCalls_mk (hB.trans (hb.mono hB.size)) (Obj?.below h.out.1 hb (Obj?.lt h.out.1)) (Obj?.below h.out.2.1 hb (Obj?.lt h.out.2.1)) (Obj?.below h.out.2.2 hb (Obj?.lt h.out.2.2))
theorem sCalls_drew {f : Fl} {rest : Int} {w W : World} {bX bY : Nat} (h : SCalls f rest w bX bY W) : SCalls f rest w bX bY W.drew := sCalls_step (below_grown (quiet_grown ⟨1, rfl⟩ none)) h.1 h.2.1
theorem sCalls_drew2 {f : Fl} {rest : Int} {w W : World} {bX bY : Nat} (hB : Below w.heap.size w W) (h : Hid (Obj? W w.heap.size #[.bool f.dup, .int .i64 f.q, .bool f.retain, .bool f.will, .bool f.clean, .int .i64 f.typ] 45 ∧ Obj? W bX #[.bool (rfF rest).dup, .int .i64 (rfF rest).q, .bool (rfF rest).retain, .bool (rfF rest).will, .bool (rfF rest).clean, .int .i64 (rfF rest).typ] 45 ∧ Obj? W bY #[.bool (rfF rest).dup, .int .i64 (rfF rest).q, .bool (rfF rest).retain, .bool (rfF rest).will, .bool (rfF rest).clean, .int .i64 (rfF rest).typ] 45)) : SCalls f rest w bX bY W.drew := sCalls_step (below_grown (quiet_grown ⟨1, rfl⟩ none)) hB h

set_option maxRecDepth 100000 in
set_option maxHeartbeats 800000 in
theorem snheadCalls_long (kind rest : Int) (t : List UInt8) (f : Fl) (ht : 100 < t.length) (w : World) :
    Calls Try.prog 9 #[.int .i64 kind, .int .i64 rest, .string ⟨t.toArray⟩, .agg #[.bool f.dup, .int .i64 f.q, .bool f.retain, .bool f.will, .bool f.clean, .int .i64 f.typ]] w fun e w' => e = .returned (.bool true) ∧ Below w.heap.size w w' := by
  have hA : Below w.heap.size w (w.alloc (.cells #[.bool f.dup, .int .i64 f.q, .bool f.retain, .bool f.will, .bool f.clean, .int .i64 f.typ] 45 (0, 0))) := (Below.refl _ _).alloc (Nat.le_refl _) _
  go_enter Try.func9, Try.ntmps9
  go_wp2_with fail
  refine (lives21 _).mono ?_
  rintro e w1 ⟨rfl, hb⟩
  have hB1 := hA.trans (hb.mono hA.size)
  clear hb
  go_wp2_with fail
  go_ret
  exact ⟨rfl, hB1⟩
set_option maxRecDepth 100000 in
set_option maxHeartbeats 1600000 in
theorem snheadCalls_walk (kind rest : Int) (hr : rest ≤ 9223372036854775807) (t : List UInt8) (f : Fl) (ht : t.length ≤ 100) (w : World) :
    Calls Try.prog 9 #[.int .i64 kind, .int .i64 rest, .string ⟨t.toArray⟩, .agg #[.bool f.dup, .int .i64 f.q, .bool f.retain, .bool f.will, .bool f.clean, .int .i64 f.typ]] w fun e w' => e = .returned (.bool true) ∧ Below w.heap.size w w' := by
  have hA : Below w.heap.size w (w.alloc (.cells #[.bool f.dup, .int .i64 f.q, .bool f.retain, .bool f.will, .bool f.clean, .int .i64 f.typ] 45 (0, 0))) := (Below.refl _ _).alloc (Nat.le_refl _) _
  have HF0 := Lib.hid (Obj?.new w #[.bool f.dup, .int .i64 f.q, .bool f.retain, .bool f.will, .bool f.clean, .int .i64 f.typ] 45)
  go_enter Try.func9, Try.ntmps9
  go_wp2_with fail
  refine (lives21 _).mono ?_
  rintro e w1 ⟨rfl, hb⟩
  have hB1 := hA.trans (hb.mono hA.size)
  have HF1 := Lib.hid (HF0.out.below hb HF0.out.lt)
  clear HF0
  clear hb
  go_wp2_with fail
  refine (snbytes_any kind rest hr _).mono ?_
  rintro e w2 ⟨rfl, hb⟩
  have hB2 := hB1.trans (hb.mono hB1.size)
  have HF2 := Lib.hid (HF1.out.below hb HF1.out.lt)
  clear HF1
  clear hb
  go_wp2_with fail
  refine (rsnbytes_any kind rest hr _).mono ?_
  rintro e w3 ⟨rfl, hb⟩
  have hB3 := hB2.trans (hb.mono hB2.size)
  have HF3 := Lib.hid (HF2.out.below hb HF2.out.lt)
  clear HF2
  clear hb
  go_wp2_with fail
  refine (snread_any t (by omega) _).mono ?_
  rintro e w4 ⟨rfl, hb⟩
  have hB4 := hB3.trans (hb.mono hB3.size)
  have HF4 := Lib.hid (HF3.out.below hb HF3.out.lt)
  clear HF3
  clear hb
  go_wp2_with fail
  refine (rsnread_any t (by omega) _).mono ?_
  rintro e w' ⟨rfl, rfl⟩
  have kcF := HF4.out.cells
  have kfF := HF4.out.froz
  have kzF := HF4.out.lt
  go_wp2_with fail
  refine (flag_fl f _).mono ?_
  rintro e w5 ⟨rfl, hb⟩
  clear kcF kfF kzF
  have hB5 := hB4.trans (hb.mono hB4.size)
  have HF5 := Lib.hid (HF4.out.below hb HF4.out.lt)
  clear HF4
  clear hb
  have kcF := HF5.out.cells
  have kfF := HF5.out.froz
  have kzF := HF5.out.lt
  go_wp2_with fail
  refine (rflag_fl f _).mono ?_
  rintro e w6 ⟨rfl, hb⟩
  clear kcF kfF kzF
  have hB6 := hB5.trans (hb.mono hB5.size)
  have HF6 := Lib.hid (HF5.out.below hb HF5.out.lt)
  clear HF5
  clear hb
  go_wp2_with fail
  refine (readflag_any rest _).mono ?_
  rintro e w7 ⟨rfl, hb⟩
  have hB7 := hB6.trans (hb.mono hB6.size)
  have HF7 := Lib.hid (HF6.out.below hb HF6.out.lt)
  clear HF6
  clear hb
  have hB7' := below_al hB7 (.cells #[.bool (rfF rest).dup, .int .i64 (rfF rest).q, .bool (rfF rest).retain, .bool (rfF rest).will, .bool (rfF rest).clean, .int .i64 (rfF rest).typ] 45 (0, 0))
  have HF8 := Lib.hid (HF7.out.alloc (.cells #[.bool (rfF rest).dup, .int .i64 (rfF rest).q, .bool (rfF rest).retain, .bool (rfF rest).will, .bool (rfF rest).clean, .int .i64 (rfF rest).typ] 45 (0, 0)))
  clear HF7
  have HX0 := Lib.hid (Obj?.new w7 #[.bool (rfF rest).dup, .int .i64 (rfF rest).q, .bool (rfF rest).retain, .bool (rfF rest).will, .bool (rfF rest).clean, .int .i64 (rfF rest).typ] 45)
  go_wp2_with fail
  refine (rreadflag_any rest _).mono ?_
  rintro e w8 ⟨rfl, hb⟩
  have hB8 := hB7'.trans (hb.mono hB7'.size)
  have HF9 := Lib.hid (HF8.out.below hb HF8.out.lt)
  have HX1 := Lib.hid (HX0.out.below hb HX0.out.lt)
  clear HF8 HX0
  clear hb
  have hB8' := below_al hB8 (.cells #[.bool (rfF rest).dup, .int .i64 (rfF rest).q, .bool (rfF rest).retain, .bool (rfF rest).will, .bool (rfF rest).clean, .int .i64 (rfF rest).typ] 45 (0, 0))
  have HF10 := Lib.hid (HF9.out.alloc (.cells #[.bool (rfF rest).dup, .int .i64 (rfF rest).q, .bool (rfF rest).retain, .bool (rfF rest).will, .bool (rfF rest).clean, .int .i64 (rfF rest).typ] 45 (0, 0)))
  have HX2 := Lib.hid (HX1.out.alloc (.cells #[.bool (rfF rest).dup, .int .i64 (rfF rest).q, .bool (rfF rest).retain, .bool (rfF rest).will, .bool (rfF rest).clean, .int .i64 (rfF rest).typ] 45 (0, 0)))
  clear HF9 HX1
  have HY0 := Lib.hid (Obj?.new w8 #[.bool (rfF rest).dup, .int .i64 (rfF rest).q, .bool (rfF rest).retain, .bool (rfF rest).will, .bool (rfF rest).clean, .int .i64 (rfF rest).typ] 45)
  go_upto_region 13 with fail
  dsimp only [List.append]
  obtain ⟨W0, hW0⟩ : ∃ W0, W0 = (w8.alloc (.cells #[.bool (rfF rest).dup, .int .i64 (rfF rest).q, .bool (rfF rest).retain, .bool (rfF rest).will, .bool (rfF rest).clean, .int .i64 (rfF rest).typ] 45 (0, 0))) := ⟨_, rfl⟩
  obtain ⟨bX, hbX⟩ : ∃ bX, bX = w7.heap.size := ⟨_, rfl⟩
  obtain ⟨bY, hbY⟩ : ∃ bY, bY = w8.heap.size := ⟨_, rfl⟩
  have hS0 : SCalls f rest w bX bY W0 := by
    rw [hW0, hbX, hbY]
    exact sCalls_mk hB8' HF10.out HX2.out HY0.out
  rw [← hW0, ← hbX, ← hbY]
  clear hW0 hbX hbY HF10 HX2 HY0
  have hS1 := sCalls_drew hS0
  go_region_held3 (fun W => Below w.heap.size w W ∧ Hid (Obj? W w.heap.size #[.bool f.dup, .int .i64 f.q, .bool f.retain, .bool f.will, .bool f.clean, .int .i64 f.typ] 45 ∧ Obj? W bX #[.bool (rfF rest).dup, .int .i64 (rfF rest).q, .bool (rfF rest).retain, .bool (rfF rest).will, .bool (rfF rest).clean, .int .i64 (rfF rest).typ] 45 ∧ Obj? W bY #[.bool (rfF rest).dup, .int .i64 (rfF rest).q, .bool (rfF rest).retain, .bool (rfF rest).will, .bool (rfF rest).clean, .int .i64 (rfF rest).typ] 45) ∧ (∀ j, W.cell? ⟨w.heap.size, j, none⟩ = (#[.bool f.dup, .int .i64 f.q, .bool f.retain, .bool f.will, .bool f.clean, .int .i64 f.typ] : Array Value)[j]?) ∧ (∀ j, W.cell? ⟨bX, j, none⟩ = (#[.bool (rfF rest).dup, .int .i64 (rfF rest).q, .bool (rfF rest).retain, .bool (rfF rest).will, .bool (rfF rest).clean, .int .i64 (rfF rest).typ] : Array Value)[j]?) ∧ (∀ j, W.cell? ⟨bY, j, none⟩ = (#[.bool (rfF rest).dup, .int .i64 (rfF rest).q, .bool (rfF rest).retain, .bool (rfF rest).will, .bool (rfF rest).clean, .int .i64 (rfF rest).typ] : Array Value)[j]?))
    ((first | assumption | exact sCalls_drew2 (by assumption) (by assumption) | exact sCalls_drew (by assumption)))
    ((go_split_ands; first
        | (go_at_call 14; ((with_reducible refine (known_any kind _).mono ?_); (rintro e w' ⟨rfl, rfl⟩)))
        | (go_at_call 30; ((with_reducible refine (rknown_any kind _).mono ?_); (rintro e w' ⟨rfl, rfl⟩)))
        | (go_at_call 22; ((with_reducible refine (uses_any kind _).mono ?_); (rintro e w' ⟨rfl, hb⟩; have hS := sCalls_step hb (by assumption) (by assumption))))
        | (go_at_call 31; ((with_reducible refine (ruses_any kind _).mono ?_); (rintro e w' ⟨rfl, hb⟩; have hS := sCalls_step hb (by assumption) (by assumption))))
        | (go_at_call 23; ((with_reducible refine (may_any kind f _).mono ?_); (rintro e w' ⟨rfl, hb⟩; have hS := sCalls_step hb (by assumption) (by assumption))))
        | (go_at_call 32; ((with_reducible refine (rmay_any kind f _).mono ?_); (rintro e w' ⟨rfl, hb⟩; have hS := sCalls_step hb (by assumption) (by assumption))))))
  go_wp2_with fail
  all_goals go_ret
  all_goals exact ⟨rfl, by first | assumption | exact (show SCalls f rest w bX bY _ by assumption).1⟩
end Go.Proofs.Ytdalhnhbmgidaaa
