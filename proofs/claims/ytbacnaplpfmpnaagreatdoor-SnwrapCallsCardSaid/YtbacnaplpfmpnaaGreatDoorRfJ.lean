/- polyglotref22: topic. -/
import Derived.Test.YtbacnaplpfmpnaaGreatDoorRfB
import Derived.Test.YtbacnaplpfmpnaaGreatDoorRfH
namespace Go.Proofs.YtbacnaplpfmpnaaGreatDoor
open Go.RowKit
set_option linter.unusedVariables false
set_option linter.unusedSimpArgs false

theorem rtopic_0 (fl : Fl) (gw rad time : Int) (timed : Bool) (tid mid code : Int) (name data : List UInt8) (w : World) :
    Calls Tryz.prog 72 #[.agg (Ms.cs ⟨0, fl, gw, rad, time, timed, tid, mid, code, name, data⟩)] w fun e w' => e = .returned (.int .i64 (topicIdF ⟨0, fl, gw, rad, time, timed, tid, mid, code, name, data⟩)) ∧ Below w.heap.size w w' := by
  have HV := Lib.hid (show topicIdF ⟨0, fl, gw, rad, time, timed, tid, mid, code, name, data⟩ = 0 by simp [topicIdF])
  rw [HV.out]
  unfold Ms.cs
  go_enter Tryz.func72, Tryz.ntmps72
  go_wp2
  go_ret
  exact ⟨rfl, below_al (Below.refl _ _) _⟩

theorem rtopic_1 (fl : Fl) (gw rad time : Int) (timed : Bool) (tid mid code : Int) (name data : List UInt8) (w : World) :
    Calls Tryz.prog 72 #[.agg (Ms.cs ⟨1, fl, gw, rad, time, timed, tid, mid, code, name, data⟩)] w fun e w' => e = .returned (.int .i64 (topicIdF ⟨1, fl, gw, rad, time, timed, tid, mid, code, name, data⟩)) ∧ Below w.heap.size w w' := by
  have HV := Lib.hid (show topicIdF ⟨1, fl, gw, rad, time, timed, tid, mid, code, name, data⟩ = 0 by simp [topicIdF])
  rw [HV.out]
  unfold Ms.cs
  go_enter Tryz.func72, Tryz.ntmps72
  go_wp2
  go_ret
  exact ⟨rfl, below_al (Below.refl _ _) _⟩

theorem rtopic_2 (fl : Fl) (gw rad time : Int) (timed : Bool) (tid mid code : Int) (name data : List UInt8) (w : World) :
    Calls Tryz.prog 72 #[.agg (Ms.cs ⟨2, fl, gw, rad, time, timed, tid, mid, code, name, data⟩)] w fun e w' => e = .returned (.int .i64 (topicIdF ⟨2, fl, gw, rad, time, timed, tid, mid, code, name, data⟩)) ∧ Below w.heap.size w w' := by
  have HV := Lib.hid (show topicIdF ⟨2, fl, gw, rad, time, timed, tid, mid, code, name, data⟩ = 0 by simp [topicIdF])
  rw [HV.out]
  unfold Ms.cs
  go_enter Tryz.func72, Tryz.ntmps72
  go_wp2
  go_ret
  exact ⟨rfl, below_al (Below.refl _ _) _⟩

theorem rtopic_4 (fl : Fl) (gw rad time : Int) (timed : Bool) (tid mid code : Int) (name data : List UInt8) (w : World) :
    Calls Tryz.prog 72 #[.agg (Ms.cs ⟨4, fl, gw, rad, time, timed, tid, mid, code, name, data⟩)] w fun e w' => e = .returned (.int .i64 (topicIdF ⟨4, fl, gw, rad, time, timed, tid, mid, code, name, data⟩)) ∧ Below w.heap.size w w' := by
  have HV := Lib.hid (show topicIdF ⟨4, fl, gw, rad, time, timed, tid, mid, code, name, data⟩ = 0 by simp [topicIdF])
  rw [HV.out]
  unfold Ms.cs
  go_enter Tryz.func72, Tryz.ntmps72
  go_wp2
  go_ret
  exact ⟨rfl, below_al (Below.refl _ _) _⟩

theorem rtopic_5 (fl : Fl) (gw rad time : Int) (timed : Bool) (tid mid code : Int) (name data : List UInt8) (w : World) :
    Calls Tryz.prog 72 #[.agg (Ms.cs ⟨5, fl, gw, rad, time, timed, tid, mid, code, name, data⟩)] w fun e w' => e = .returned (.int .i64 (topicIdF ⟨5, fl, gw, rad, time, timed, tid, mid, code, name, data⟩)) ∧ Below w.heap.size w w' := by
  have HV := Lib.hid (show topicIdF ⟨5, fl, gw, rad, time, timed, tid, mid, code, name, data⟩ = 0 by simp [topicIdF])
  rw [HV.out]
  unfold Ms.cs
  go_enter Tryz.func72, Tryz.ntmps72
  go_wp2
  go_ret
  exact ⟨rfl, below_al (Below.refl _ _) _⟩

theorem rtopic_6 (fl : Fl) (gw rad time : Int) (timed : Bool) (tid mid code : Int) (name data : List UInt8) (w : World) :
    Calls Tryz.prog 72 #[.agg (Ms.cs ⟨6, fl, gw, rad, time, timed, tid, mid, code, name, data⟩)] w fun e w' => e = .returned (.int .i64 (topicIdF ⟨6, fl, gw, rad, time, timed, tid, mid, code, name, data⟩)) ∧ Below w.heap.size w w' := by
  have HV := Lib.hid (show topicIdF ⟨6, fl, gw, rad, time, timed, tid, mid, code, name, data⟩ = 0 by simp [topicIdF])
  rw [HV.out]
  unfold Ms.cs
  go_enter Tryz.func72, Tryz.ntmps72
  go_wp2
  go_ret
  exact ⟨rfl, below_al (Below.refl _ _) _⟩

theorem rtopic_7 (fl : Fl) (gw rad time : Int) (timed : Bool) (tid mid code : Int) (name data : List UInt8) (w : World) :
    Calls Tryz.prog 72 #[.agg (Ms.cs ⟨7, fl, gw, rad, time, timed, tid, mid, code, name, data⟩)] w fun e w' => e = .returned (.int .i64 (topicIdF ⟨7, fl, gw, rad, time, timed, tid, mid, code, name, data⟩)) ∧ Below w.heap.size w w' := by
  have HV := Lib.hid (show topicIdF ⟨7, fl, gw, rad, time, timed, tid, mid, code, name, data⟩ = 0 by simp [topicIdF])
  rw [HV.out]
  unfold Ms.cs
  go_enter Tryz.func72, Tryz.ntmps72
  go_wp2
  go_ret
  exact ⟨rfl, below_al (Below.refl _ _) _⟩

theorem rtopic_8 (fl : Fl) (gw rad time : Int) (timed : Bool) (tid mid code : Int) (name data : List UInt8) (w : World) :
    Calls Tryz.prog 72 #[.agg (Ms.cs ⟨8, fl, gw, rad, time, timed, tid, mid, code, name, data⟩)] w fun e w' => e = .returned (.int .i64 (topicIdF ⟨8, fl, gw, rad, time, timed, tid, mid, code, name, data⟩)) ∧ Below w.heap.size w w' := by
  have HV := Lib.hid (show topicIdF ⟨8, fl, gw, rad, time, timed, tid, mid, code, name, data⟩ = 0 by simp [topicIdF])
  rw [HV.out]
  unfold Ms.cs
  go_enter Tryz.func72, Tryz.ntmps72
  go_wp2
  go_ret
  exact ⟨rfl, below_al (Below.refl _ _) _⟩

theorem rtopic_9 (fl : Fl) (gw rad time : Int) (timed : Bool) (tid mid code : Int) (name data : List UInt8) (w : World) :
    Calls Tryz.prog 72 #[.agg (Ms.cs ⟨9, fl, gw, rad, time, timed, tid, mid, code, name, data⟩)] w fun e w' => e = .returned (.int .i64 (topicIdF ⟨9, fl, gw, rad, time, timed, tid, mid, code, name, data⟩)) ∧ Below w.heap.size w w' := by
  have HV := Lib.hid (show topicIdF ⟨9, fl, gw, rad, time, timed, tid, mid, code, name, data⟩ = 0 by simp [topicIdF])
  rw [HV.out]
  unfold Ms.cs
  go_enter Tryz.func72, Tryz.ntmps72
  go_wp2
  go_ret
  exact ⟨rfl, below_al (Below.refl _ _) _⟩

theorem rtopic_10 (fl : Fl) (gw rad time : Int) (timed : Bool) (tid mid code : Int) (name data : List UInt8) (w : World) :
    Calls Tryz.prog 72 #[.agg (Ms.cs ⟨10, fl, gw, rad, time, timed, tid, mid, code, name, data⟩)] w fun e w' => e = .returned (.int .i64 (topicIdF ⟨10, fl, gw, rad, time, timed, tid, mid, code, name, data⟩)) ∧ Below w.heap.size w w' := by
  have h0 : True := trivial
  by_cases h2 : fl.typ = 2
  · have d2 : (fl.typ == 2) = true := by simpa using h2
    have HV := Lib.hid (show topicIdF ⟨10, fl, gw, rad, time, timed, tid, mid, code, name, data⟩ = if (nameOfF tid).2 = true then 0 else 10 by simp [topicIdF, h2])
    rw [HV.out]
    have H := fun w => rnameof22_any tid w
    obtain ⟨r2, hr2⟩ : ∃ r2, r2 = (nameOfF tid).2 := ⟨_, rfl⟩
    rw [← hr2] at H ⊢
    have HH := Lib.hid H
    clear h0 h2 H hr2 HV
    cases r2
    all_goals
      unfold Ms.cs
      go_enter Tryz.func72, Tryz.ntmps72
      go_wp2_with fail
      refine (HH.out _).mono ?_
      rintro r w1 ⟨rfl, hb⟩
      go_wp2
      go_ret
      exact ⟨rfl, (below_al (Below.refl _ w) _).trans (hb.mono (below_al (Below.refl _ _) _).size)⟩
  · have d2 : (fl.typ == 2) = false := by simpa using h2
    by_cases h3 : tid < 1
    · have d3 : decide (tid < 1) = true := by simpa using h3
      have HV := Lib.hid (show topicIdF ⟨10, fl, gw, rad, time, timed, tid, mid, code, name, data⟩ = 2 by simp [topicIdF, h0, h2, h3])
      rw [HV.out]
      clear h0 h2 h3
      unfold Ms.cs
      go_enter Tryz.func72, Tryz.ntmps72
      go_wp2
      go_ret
      exact ⟨rfl, below_al (Below.refl _ _) _⟩
    · have d3 : decide (tid < 1) = false := by simpa using h3
      by_cases h4 : 65534 < tid
      · have d4 : decide (65534 < tid) = true := by simpa using h4
        have HV := Lib.hid (show topicIdF ⟨10, fl, gw, rad, time, timed, tid, mid, code, name, data⟩ = 2 by simp [topicIdF, h0, h2, h4])
        rw [HV.out]
        clear h0 h2 h3 h4
        unfold Ms.cs
        go_enter Tryz.func72, Tryz.ntmps72
        go_wp2
        go_ret
        exact ⟨rfl, below_al (Below.refl _ _) _⟩
      · have d4 : decide (65534 < tid) = false := by simpa using h4
        have HV := Lib.hid (show topicIdF ⟨10, fl, gw, rad, time, timed, tid, mid, code, name, data⟩ = 0 by simp [topicIdF, h0, h2, h3, h4])
        rw [HV.out]
        clear h0 h2 h3 h4
        unfold Ms.cs
        go_enter Tryz.func72, Tryz.ntmps72
        go_wp2
        go_ret
        exact ⟨rfl, below_al (Below.refl _ _) _⟩

theorem rtopic_11 (fl : Fl) (gw rad time : Int) (timed : Bool) (tid mid code : Int) (name data : List UInt8) (w : World) :
    Calls Tryz.prog 72 #[.agg (Ms.cs ⟨11, fl, gw, rad, time, timed, tid, mid, code, name, data⟩)] w fun e w' => e = .returned (.int .i64 (topicIdF ⟨11, fl, gw, rad, time, timed, tid, mid, code, name, data⟩)) ∧ Below w.heap.size w w' := by
  have HV := Lib.hid (show topicIdF ⟨11, fl, gw, rad, time, timed, tid, mid, code, name, data⟩ = 0 by simp [topicIdF])
  rw [HV.out]
  unfold Ms.cs
  go_enter Tryz.func72, Tryz.ntmps72
  go_wp2
  go_ret
  exact ⟨rfl, below_al (Below.refl _ _) _⟩

theorem rtopic_12 (fl : Fl) (gw rad time : Int) (timed : Bool) (tid mid code : Int) (name data : List UInt8) (w : World) :
    Calls Tryz.prog 72 #[.agg (Ms.cs ⟨12, fl, gw, rad, time, timed, tid, mid, code, name, data⟩)] w fun e w' => e = .returned (.int .i64 (topicIdF ⟨12, fl, gw, rad, time, timed, tid, mid, code, name, data⟩)) ∧ Below w.heap.size w w' := by
  have h0 : True := trivial
  by_cases h2 : fl.typ = 2
  · have d2 : (fl.typ == 2) = true := by simpa using h2
    have HV := Lib.hid (show topicIdF ⟨12, fl, gw, rad, time, timed, tid, mid, code, name, data⟩ = if (nameOfF tid).2 = true then 0 else 10 by simp [topicIdF, h2])
    rw [HV.out]
    have H := fun w => rnameof22_any tid w
    obtain ⟨r2, hr2⟩ : ∃ r2, r2 = (nameOfF tid).2 := ⟨_, rfl⟩
    rw [← hr2] at H ⊢
    have HH := Lib.hid H
    clear h0 h2 H hr2 HV
    cases r2
    all_goals
      unfold Ms.cs
      go_enter Tryz.func72, Tryz.ntmps72
      go_wp2_with fail
      refine (HH.out _).mono ?_
      rintro r w1 ⟨rfl, hb⟩
      go_wp2
      go_ret
      exact ⟨rfl, (below_al (Below.refl _ w) _).trans (hb.mono (below_al (Below.refl _ _) _).size)⟩
  · have d2 : (fl.typ == 2) = false := by simpa using h2
    by_cases h3 : tid < 1
    · have d3 : decide (tid < 1) = true := by simpa using h3
      have HV := Lib.hid (show topicIdF ⟨12, fl, gw, rad, time, timed, tid, mid, code, name, data⟩ = 2 by simp [topicIdF, h0, h2, h3])
      rw [HV.out]
      clear h0 h2 h3
      unfold Ms.cs
      go_enter Tryz.func72, Tryz.ntmps72
      go_wp2
      go_ret
      exact ⟨rfl, below_al (Below.refl _ _) _⟩
    · have d3 : decide (tid < 1) = false := by simpa using h3
      by_cases h4 : 65534 < tid
      · have d4 : decide (65534 < tid) = true := by simpa using h4
        have HV := Lib.hid (show topicIdF ⟨12, fl, gw, rad, time, timed, tid, mid, code, name, data⟩ = 2 by simp [topicIdF, h0, h2, h4])
        rw [HV.out]
        clear h0 h2 h3 h4
        unfold Ms.cs
        go_enter Tryz.func72, Tryz.ntmps72
        go_wp2
        go_ret
        exact ⟨rfl, below_al (Below.refl _ _) _⟩
      · have d4 : decide (65534 < tid) = false := by simpa using h4
        have HV := Lib.hid (show topicIdF ⟨12, fl, gw, rad, time, timed, tid, mid, code, name, data⟩ = 0 by simp [topicIdF, h0, h2, h3, h4])
        rw [HV.out]
        clear h0 h2 h3 h4
        unfold Ms.cs
        go_enter Tryz.func72, Tryz.ntmps72
        go_wp2
        go_ret
        exact ⟨rfl, below_al (Below.refl _ _) _⟩

theorem rtopic_13 (fl : Fl) (gw rad time : Int) (timed : Bool) (tid mid code : Int) (name data : List UInt8) (w : World) :
    Calls Tryz.prog 72 #[.agg (Ms.cs ⟨13, fl, gw, rad, time, timed, tid, mid, code, name, data⟩)] w fun e w' => e = .returned (.int .i64 (topicIdF ⟨13, fl, gw, rad, time, timed, tid, mid, code, name, data⟩)) ∧ Below w.heap.size w w' := by
  have HV := Lib.hid (show topicIdF ⟨13, fl, gw, rad, time, timed, tid, mid, code, name, data⟩ = 0 by simp [topicIdF])
  rw [HV.out]
  unfold Ms.cs
  go_enter Tryz.func72, Tryz.ntmps72
  go_wp2
  go_ret
  exact ⟨rfl, below_al (Below.refl _ _) _⟩

theorem rtopic_14 (fl : Fl) (gw rad time : Int) (timed : Bool) (tid mid code : Int) (name data : List UInt8) (w : World) :
    Calls Tryz.prog 72 #[.agg (Ms.cs ⟨14, fl, gw, rad, time, timed, tid, mid, code, name, data⟩)] w fun e w' => e = .returned (.int .i64 (topicIdF ⟨14, fl, gw, rad, time, timed, tid, mid, code, name, data⟩)) ∧ Below w.heap.size w w' := by
  have HV := Lib.hid (show topicIdF ⟨14, fl, gw, rad, time, timed, tid, mid, code, name, data⟩ = 0 by simp [topicIdF])
  rw [HV.out]
  unfold Ms.cs
  go_enter Tryz.func72, Tryz.ntmps72
  go_wp2
  go_ret
  exact ⟨rfl, below_al (Below.refl _ _) _⟩

theorem rtopic_15 (fl : Fl) (gw rad time : Int) (timed : Bool) (tid mid code : Int) (name data : List UInt8) (w : World) :
    Calls Tryz.prog 72 #[.agg (Ms.cs ⟨15, fl, gw, rad, time, timed, tid, mid, code, name, data⟩)] w fun e w' => e = .returned (.int .i64 (topicIdF ⟨15, fl, gw, rad, time, timed, tid, mid, code, name, data⟩)) ∧ Below w.heap.size w w' := by
  have HV := Lib.hid (show topicIdF ⟨15, fl, gw, rad, time, timed, tid, mid, code, name, data⟩ = 0 by simp [topicIdF])
  rw [HV.out]
  unfold Ms.cs
  go_enter Tryz.func72, Tryz.ntmps72
  go_wp2
  go_ret
  exact ⟨rfl, below_al (Below.refl _ _) _⟩

theorem rtopic_16 (fl : Fl) (gw rad time : Int) (timed : Bool) (tid mid code : Int) (name data : List UInt8) (w : World) :
    Calls Tryz.prog 72 #[.agg (Ms.cs ⟨16, fl, gw, rad, time, timed, tid, mid, code, name, data⟩)] w fun e w' => e = .returned (.int .i64 (topicIdF ⟨16, fl, gw, rad, time, timed, tid, mid, code, name, data⟩)) ∧ Below w.heap.size w w' := by
  have HV := Lib.hid (show topicIdF ⟨16, fl, gw, rad, time, timed, tid, mid, code, name, data⟩ = 0 by simp [topicIdF])
  rw [HV.out]
  unfold Ms.cs
  go_enter Tryz.func72, Tryz.ntmps72
  go_wp2
  go_ret
  exact ⟨rfl, below_al (Below.refl _ _) _⟩

theorem rtopic_18 (fl : Fl) (gw rad time : Int) (timed : Bool) (tid mid code : Int) (name data : List UInt8) (w : World) :
    Calls Tryz.prog 72 #[.agg (Ms.cs ⟨18, fl, gw, rad, time, timed, tid, mid, code, name, data⟩)] w fun e w' => e = .returned (.int .i64 (topicIdF ⟨18, fl, gw, rad, time, timed, tid, mid, code, name, data⟩)) ∧ Below w.heap.size w w' := by
  by_cases h0 : fl.typ = 0
  · have HV := Lib.hid (show topicIdF ⟨18, fl, gw, rad, time, timed, tid, mid, code, name, data⟩ = 0 by simp [topicIdF, h0])
    rw [HV.out]
    have d0 : (fl.typ == 0) = true := by simpa using h0
    have d0x : (fl.typ != 0) = false := by simpa using h0
    clear h0
    unfold Ms.cs
    go_enter Tryz.func72, Tryz.ntmps72
    go_wp2
    go_ret
    exact ⟨rfl, below_al (Below.refl _ _) _⟩
  have d0 : (fl.typ == 0) = false := by simpa using h0
  have d0x : (fl.typ != 0) = true := by simpa using h0
  by_cases h2 : fl.typ = 2
  · have d2 : (fl.typ == 2) = true := by simpa using h2
    have HV := Lib.hid (show topicIdF ⟨18, fl, gw, rad, time, timed, tid, mid, code, name, data⟩ = if (nameOfF tid).2 = true then 0 else 10 by simp [topicIdF, h2])
    rw [HV.out]
    have H := fun w => rnameof22_any tid w
    obtain ⟨r2, hr2⟩ : ∃ r2, r2 = (nameOfF tid).2 := ⟨_, rfl⟩
    rw [← hr2] at H ⊢
    have HH := Lib.hid H
    clear h0 h2 H hr2 HV
    cases r2
    all_goals
      unfold Ms.cs
      go_enter Tryz.func72, Tryz.ntmps72
      go_wp2_with fail
      refine (HH.out _).mono ?_
      rintro r w1 ⟨rfl, hb⟩
      go_wp2
      go_ret
      exact ⟨rfl, (below_al (Below.refl _ w) _).trans (hb.mono (below_al (Below.refl _ _) _).size)⟩
  · have d2 : (fl.typ == 2) = false := by simpa using h2
    by_cases h3 : tid < 1
    · have d3 : decide (tid < 1) = true := by simpa using h3
      have HV := Lib.hid (show topicIdF ⟨18, fl, gw, rad, time, timed, tid, mid, code, name, data⟩ = 2 by simp [topicIdF, h0, h2, h3])
      rw [HV.out]
      clear h0 h2 h3
      unfold Ms.cs
      go_enter Tryz.func72, Tryz.ntmps72
      go_wp2
      go_ret
      exact ⟨rfl, below_al (Below.refl _ _) _⟩
    · have d3 : decide (tid < 1) = false := by simpa using h3
      by_cases h4 : 65534 < tid
      · have d4 : decide (65534 < tid) = true := by simpa using h4
        have HV := Lib.hid (show topicIdF ⟨18, fl, gw, rad, time, timed, tid, mid, code, name, data⟩ = 2 by simp [topicIdF, h0, h2, h4])
        rw [HV.out]
        clear h0 h2 h3 h4
        unfold Ms.cs
        go_enter Tryz.func72, Tryz.ntmps72
        go_wp2
        go_ret
        exact ⟨rfl, below_al (Below.refl _ _) _⟩
      · have d4 : decide (65534 < tid) = false := by simpa using h4
        have HV := Lib.hid (show topicIdF ⟨18, fl, gw, rad, time, timed, tid, mid, code, name, data⟩ = 0 by simp [topicIdF, h0, h2, h3, h4])
        rw [HV.out]
        clear h0 h2 h3 h4
        unfold Ms.cs
        go_enter Tryz.func72, Tryz.ntmps72
        go_wp2
        go_ret
        exact ⟨rfl, below_al (Below.refl _ _) _⟩

theorem rtopic_19 (fl : Fl) (gw rad time : Int) (timed : Bool) (tid mid code : Int) (name data : List UInt8) (w : World) :
    Calls Tryz.prog 72 #[.agg (Ms.cs ⟨19, fl, gw, rad, time, timed, tid, mid, code, name, data⟩)] w fun e w' => e = .returned (.int .i64 (topicIdF ⟨19, fl, gw, rad, time, timed, tid, mid, code, name, data⟩)) ∧ Below w.heap.size w w' := by
  have HV := Lib.hid (show topicIdF ⟨19, fl, gw, rad, time, timed, tid, mid, code, name, data⟩ = 0 by simp [topicIdF])
  rw [HV.out]
  unfold Ms.cs
  go_enter Tryz.func72, Tryz.ntmps72
  go_wp2
  go_ret
  exact ⟨rfl, below_al (Below.refl _ _) _⟩

theorem rtopic_20 (fl : Fl) (gw rad time : Int) (timed : Bool) (tid mid code : Int) (name data : List UInt8) (w : World) :
    Calls Tryz.prog 72 #[.agg (Ms.cs ⟨20, fl, gw, rad, time, timed, tid, mid, code, name, data⟩)] w fun e w' => e = .returned (.int .i64 (topicIdF ⟨20, fl, gw, rad, time, timed, tid, mid, code, name, data⟩)) ∧ Below w.heap.size w w' := by
  by_cases h0 : fl.typ = 0
  · have HV := Lib.hid (show topicIdF ⟨20, fl, gw, rad, time, timed, tid, mid, code, name, data⟩ = 0 by simp [topicIdF, h0])
    rw [HV.out]
    have d0 : (fl.typ == 0) = true := by simpa using h0
    have d0x : (fl.typ != 0) = false := by simpa using h0
    clear h0
    unfold Ms.cs
    go_enter Tryz.func72, Tryz.ntmps72
    go_wp2
    go_ret
    exact ⟨rfl, below_al (Below.refl _ _) _⟩
  have d0 : (fl.typ == 0) = false := by simpa using h0
  have d0x : (fl.typ != 0) = true := by simpa using h0
  by_cases h2 : fl.typ = 2
  · have d2 : (fl.typ == 2) = true := by simpa using h2
    have HV := Lib.hid (show topicIdF ⟨20, fl, gw, rad, time, timed, tid, mid, code, name, data⟩ = if (nameOfF tid).2 = true then 0 else 10 by simp [topicIdF, h2])
    rw [HV.out]
    have H := fun w => rnameof22_any tid w
    obtain ⟨r2, hr2⟩ : ∃ r2, r2 = (nameOfF tid).2 := ⟨_, rfl⟩
    rw [← hr2] at H ⊢
    have HH := Lib.hid H
    clear h0 h2 H hr2 HV
    cases r2
    all_goals
      unfold Ms.cs
      go_enter Tryz.func72, Tryz.ntmps72
      go_wp2_with fail
      refine (HH.out _).mono ?_
      rintro r w1 ⟨rfl, hb⟩
      go_wp2
      go_ret
      exact ⟨rfl, (below_al (Below.refl _ w) _).trans (hb.mono (below_al (Below.refl _ _) _).size)⟩
  · have d2 : (fl.typ == 2) = false := by simpa using h2
    by_cases h3 : tid < 1
    · have d3 : decide (tid < 1) = true := by simpa using h3
      have HV := Lib.hid (show topicIdF ⟨20, fl, gw, rad, time, timed, tid, mid, code, name, data⟩ = 2 by simp [topicIdF, h0, h2, h3])
      rw [HV.out]
      clear h0 h2 h3
      unfold Ms.cs
      go_enter Tryz.func72, Tryz.ntmps72
      go_wp2
      go_ret
      exact ⟨rfl, below_al (Below.refl _ _) _⟩
    · have d3 : decide (tid < 1) = false := by simpa using h3
      by_cases h4 : 65534 < tid
      · have d4 : decide (65534 < tid) = true := by simpa using h4
        have HV := Lib.hid (show topicIdF ⟨20, fl, gw, rad, time, timed, tid, mid, code, name, data⟩ = 2 by simp [topicIdF, h0, h2, h4])
        rw [HV.out]
        clear h0 h2 h3 h4
        unfold Ms.cs
        go_enter Tryz.func72, Tryz.ntmps72
        go_wp2
        go_ret
        exact ⟨rfl, below_al (Below.refl _ _) _⟩
      · have d4 : decide (65534 < tid) = false := by simpa using h4
        have HV := Lib.hid (show topicIdF ⟨20, fl, gw, rad, time, timed, tid, mid, code, name, data⟩ = 0 by simp [topicIdF, h0, h2, h3, h4])
        rw [HV.out]
        clear h0 h2 h3 h4
        unfold Ms.cs
        go_enter Tryz.func72, Tryz.ntmps72
        go_wp2
        go_ret
        exact ⟨rfl, below_al (Below.refl _ _) _⟩

theorem rtopic_21 (fl : Fl) (gw rad time : Int) (timed : Bool) (tid mid code : Int) (name data : List UInt8) (w : World) :
    Calls Tryz.prog 72 #[.agg (Ms.cs ⟨21, fl, gw, rad, time, timed, tid, mid, code, name, data⟩)] w fun e w' => e = .returned (.int .i64 (topicIdF ⟨21, fl, gw, rad, time, timed, tid, mid, code, name, data⟩)) ∧ Below w.heap.size w w' := by
  have HV := Lib.hid (show topicIdF ⟨21, fl, gw, rad, time, timed, tid, mid, code, name, data⟩ = 0 by simp [topicIdF])
  rw [HV.out]
  unfold Ms.cs
  go_enter Tryz.func72, Tryz.ntmps72
  go_wp2
  go_ret
  exact ⟨rfl, below_al (Below.refl _ _) _⟩

theorem rtopic_22 (fl : Fl) (gw rad time : Int) (timed : Bool) (tid mid code : Int) (name data : List UInt8) (w : World) :
    Calls Tryz.prog 72 #[.agg (Ms.cs ⟨22, fl, gw, rad, time, timed, tid, mid, code, name, data⟩)] w fun e w' => e = .returned (.int .i64 (topicIdF ⟨22, fl, gw, rad, time, timed, tid, mid, code, name, data⟩)) ∧ Below w.heap.size w w' := by
  have HV := Lib.hid (show topicIdF ⟨22, fl, gw, rad, time, timed, tid, mid, code, name, data⟩ = 0 by simp [topicIdF])
  rw [HV.out]
  unfold Ms.cs
  go_enter Tryz.func72, Tryz.ntmps72
  go_wp2
  go_ret
  exact ⟨rfl, below_al (Below.refl _ _) _⟩

theorem rtopic_23 (fl : Fl) (gw rad time : Int) (timed : Bool) (tid mid code : Int) (name data : List UInt8) (w : World) :
    Calls Tryz.prog 72 #[.agg (Ms.cs ⟨23, fl, gw, rad, time, timed, tid, mid, code, name, data⟩)] w fun e w' => e = .returned (.int .i64 (topicIdF ⟨23, fl, gw, rad, time, timed, tid, mid, code, name, data⟩)) ∧ Below w.heap.size w w' := by
  have HV := Lib.hid (show topicIdF ⟨23, fl, gw, rad, time, timed, tid, mid, code, name, data⟩ = 0 by simp [topicIdF])
  rw [HV.out]
  unfold Ms.cs
  go_enter Tryz.func72, Tryz.ntmps72
  go_wp2
  go_ret
  exact ⟨rfl, below_al (Below.refl _ _) _⟩

theorem rtopic_24 (fl : Fl) (gw rad time : Int) (timed : Bool) (tid mid code : Int) (name data : List UInt8) (w : World) :
    Calls Tryz.prog 72 #[.agg (Ms.cs ⟨24, fl, gw, rad, time, timed, tid, mid, code, name, data⟩)] w fun e w' => e = .returned (.int .i64 (topicIdF ⟨24, fl, gw, rad, time, timed, tid, mid, code, name, data⟩)) ∧ Below w.heap.size w w' := by
  have HV := Lib.hid (show topicIdF ⟨24, fl, gw, rad, time, timed, tid, mid, code, name, data⟩ = 0 by simp [topicIdF])
  rw [HV.out]
  unfold Ms.cs
  go_enter Tryz.func72, Tryz.ntmps72
  go_wp2
  go_ret
  exact ⟨rfl, below_al (Below.refl _ _) _⟩

theorem rtopic_26 (fl : Fl) (gw rad time : Int) (timed : Bool) (tid mid code : Int) (name data : List UInt8) (w : World) :
    Calls Tryz.prog 72 #[.agg (Ms.cs ⟨26, fl, gw, rad, time, timed, tid, mid, code, name, data⟩)] w fun e w' => e = .returned (.int .i64 (topicIdF ⟨26, fl, gw, rad, time, timed, tid, mid, code, name, data⟩)) ∧ Below w.heap.size w w' := by
  have HV := Lib.hid (show topicIdF ⟨26, fl, gw, rad, time, timed, tid, mid, code, name, data⟩ = 0 by simp [topicIdF])
  rw [HV.out]
  unfold Ms.cs
  go_enter Tryz.func72, Tryz.ntmps72
  go_wp2
  go_ret
  exact ⟨rfl, below_al (Below.refl _ _) _⟩

theorem rtopic_27 (fl : Fl) (gw rad time : Int) (timed : Bool) (tid mid code : Int) (name data : List UInt8) (w : World) :
    Calls Tryz.prog 72 #[.agg (Ms.cs ⟨27, fl, gw, rad, time, timed, tid, mid, code, name, data⟩)] w fun e w' => e = .returned (.int .i64 (topicIdF ⟨27, fl, gw, rad, time, timed, tid, mid, code, name, data⟩)) ∧ Below w.heap.size w w' := by
  have HV := Lib.hid (show topicIdF ⟨27, fl, gw, rad, time, timed, tid, mid, code, name, data⟩ = 0 by simp [topicIdF])
  rw [HV.out]
  unfold Ms.cs
  go_enter Tryz.func72, Tryz.ntmps72
  go_wp2
  go_ret
  exact ⟨rfl, below_al (Below.refl _ _) _⟩

theorem rtopic_28 (fl : Fl) (gw rad time : Int) (timed : Bool) (tid mid code : Int) (name data : List UInt8) (w : World) :
    Calls Tryz.prog 72 #[.agg (Ms.cs ⟨28, fl, gw, rad, time, timed, tid, mid, code, name, data⟩)] w fun e w' => e = .returned (.int .i64 (topicIdF ⟨28, fl, gw, rad, time, timed, tid, mid, code, name, data⟩)) ∧ Below w.heap.size w w' := by
  have HV := Lib.hid (show topicIdF ⟨28, fl, gw, rad, time, timed, tid, mid, code, name, data⟩ = 0 by simp [topicIdF])
  rw [HV.out]
  unfold Ms.cs
  go_enter Tryz.func72, Tryz.ntmps72
  go_wp2
  go_ret
  exact ⟨rfl, below_al (Below.refl _ _) _⟩

theorem rtopic_29 (fl : Fl) (gw rad time : Int) (timed : Bool) (tid mid code : Int) (name data : List UInt8) (w : World) :
    Calls Tryz.prog 72 #[.agg (Ms.cs ⟨29, fl, gw, rad, time, timed, tid, mid, code, name, data⟩)] w fun e w' => e = .returned (.int .i64 (topicIdF ⟨29, fl, gw, rad, time, timed, tid, mid, code, name, data⟩)) ∧ Below w.heap.size w w' := by
  have HV := Lib.hid (show topicIdF ⟨29, fl, gw, rad, time, timed, tid, mid, code, name, data⟩ = 0 by simp [topicIdF])
  rw [HV.out]
  unfold Ms.cs
  go_enter Tryz.func72, Tryz.ntmps72
  go_wp2
  go_ret
  exact ⟨rfl, below_al (Below.refl _ _) _⟩

theorem rtopic_any (m : Ms) (hk : kindM m.ty = true) (w : World) :
    Calls Tryz.prog 72 #[.agg m.cs] w fun e w' => e = .returned (.int .i64 (topicIdF m)) ∧ Below w.heap.size w w' := by
  obtain ⟨ty, fl, gw, rad, time, timed, tid, mid, code, name, data⟩ := m
  rcases kinds_of hk with rfl | rfl | rfl | rfl | rfl | rfl | rfl | rfl | rfl | rfl | rfl | rfl | rfl | rfl | rfl | rfl | rfl | rfl | rfl | rfl | rfl | rfl | rfl | rfl | rfl | rfl | rfl
  · exact rtopic_0 fl gw rad time timed tid mid code name data w
  · exact rtopic_1 fl gw rad time timed tid mid code name data w
  · exact rtopic_2 fl gw rad time timed tid mid code name data w
  · exact rtopic_4 fl gw rad time timed tid mid code name data w
  · exact rtopic_5 fl gw rad time timed tid mid code name data w
  · exact rtopic_6 fl gw rad time timed tid mid code name data w
  · exact rtopic_7 fl gw rad time timed tid mid code name data w
  · exact rtopic_8 fl gw rad time timed tid mid code name data w
  · exact rtopic_9 fl gw rad time timed tid mid code name data w
  · exact rtopic_10 fl gw rad time timed tid mid code name data w
  · exact rtopic_11 fl gw rad time timed tid mid code name data w
  · exact rtopic_12 fl gw rad time timed tid mid code name data w
  · exact rtopic_13 fl gw rad time timed tid mid code name data w
  · exact rtopic_14 fl gw rad time timed tid mid code name data w
  · exact rtopic_15 fl gw rad time timed tid mid code name data w
  · exact rtopic_16 fl gw rad time timed tid mid code name data w
  · exact rtopic_18 fl gw rad time timed tid mid code name data w
  · exact rtopic_19 fl gw rad time timed tid mid code name data w
  · exact rtopic_20 fl gw rad time timed tid mid code name data w
  · exact rtopic_21 fl gw rad time timed tid mid code name data w
  · exact rtopic_22 fl gw rad time timed tid mid code name data w
  · exact rtopic_23 fl gw rad time timed tid mid code name data w
  · exact rtopic_24 fl gw rad time timed tid mid code name data w
  · exact rtopic_26 fl gw rad time timed tid mid code name data w
  · exact rtopic_27 fl gw rad time timed tid mid code name data w
  · exact rtopic_28 fl gw rad time timed tid mid code name data w
  · exact rtopic_29 fl gw rad time timed tid mid code name data w
end Go.Proofs.YtbacnaplpfmpnaaGreatDoor
