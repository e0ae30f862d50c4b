/- polyglotref22: name. -/
import Derived.Test.YtbacnaplpfmpnaaGreatDoorRfB
import Derived.Test.YtbacnaplpfmpnaaGreatDoorRfH
namespace Go.Proofs.YtbacnaplpfmpnaaGreatDoor
open Go.RowKit
set_option linter.unusedVariables false
set_option linter.unusedSimpArgs false

theorem calls_below {f : FuncId} {a : Array Value} {v : Ending} {w : World} (h : Calls Tryz.prog f a w fun e w' => e = v ∧ w = w') : Calls Tryz.prog f a w fun e w' => e = v ∧ Below w.heap.size w w' :=
  h.mono fun e w' h => ⟨h.1, h.2 ▸ Below.refl _ _⟩
theorem rname22_0 (fl : Fl) (gw rad time : Int) (timed : Bool) (tid mid code : Int) (name data : List UInt8) (hl : name.length ≤ 100000) (w : World) :
    Calls Tryz.prog 73 #[.agg (Ms.cs ⟨0, fl, gw, rad, time, timed, tid, mid, code, name, data⟩)] w fun e w' => e = .returned (.int .i64 (nameF ⟨0, fl, gw, rad, time, timed, tid, mid, code, name, data⟩)) ∧ Below w.heap.size w w' := by
  have HV := Lib.hid (show nameF ⟨0, fl, gw, rad, time, timed, tid, mid, code, name, data⟩ = 0 by simp [nameF])
  rw [HV.out]
  unfold Ms.cs
  go_enter Tryz.func73, Tryz.ntmps73
  go_wp2
  go_ret
  exact ⟨rfl, below_al (Below.refl _ _) _⟩

theorem rname22_1 (fl : Fl) (gw rad time : Int) (timed : Bool) (tid mid code : Int) (name data : List UInt8) (hl : name.length ≤ 100000) (w : World) :
    Calls Tryz.prog 73 #[.agg (Ms.cs ⟨1, fl, gw, rad, time, timed, tid, mid, code, name, data⟩)] w fun e w' => e = .returned (.int .i64 (nameF ⟨1, fl, gw, rad, time, timed, tid, mid, code, name, data⟩)) ∧ Below w.heap.size w w' := by
  have HV := Lib.hid (show nameF ⟨1, fl, gw, rad, time, timed, tid, mid, code, name, data⟩ = 0 by simp [nameF])
  rw [HV.out]
  unfold Ms.cs
  go_enter Tryz.func73, Tryz.ntmps73
  go_wp2
  go_ret
  exact ⟨rfl, below_al (Below.refl _ _) _⟩

theorem rname22_2 (fl : Fl) (gw rad time : Int) (timed : Bool) (tid mid code : Int) (name data : List UInt8) (hl : name.length ≤ 100000) (w : World) :
    Calls Tryz.prog 73 #[.agg (Ms.cs ⟨2, fl, gw, rad, time, timed, tid, mid, code, name, data⟩)] w fun e w' => e = .returned (.int .i64 (nameF ⟨2, fl, gw, rad, time, timed, tid, mid, code, name, data⟩)) ∧ Below w.heap.size w w' := by
  by_cases h2 : name.length ≤ 16
  · have d2 : decide (name.length ≤ 16) = true := by simpa using h2
    have d2i : ¬ 16 < (name.length : Int) := by omega
    have d2j : (name.length : Int) ≤ 16 := by omega
    have HV := Lib.hid (show nameF ⟨2, fl, gw, rad, time, timed, tid, mid, code, name, data⟩ = 0 by simp [nameF, h2])
    rw [HV.out]
    clear h2 hl
    unfold Ms.cs
    go_enter Tryz.func73, Tryz.ntmps73
    go_wp2
    go_ret
    exact ⟨rfl, below_al (Below.refl _ _) _⟩
  · have d2 : decide (name.length ≤ 16) = false := by simpa using h2
    have d2i : 16 < (name.length : Int) := by omega
    have d2j : ¬ (name.length : Int) ≤ 16 := by omega
    have HV := Lib.hid (show nameF ⟨2, fl, gw, rad, time, timed, tid, mid, code, name, data⟩ = 2 by simp [nameF, h2])
    rw [HV.out]
    clear h2 hl
    unfold Ms.cs
    go_enter Tryz.func73, Tryz.ntmps73
    go_wp2
    go_ret
    exact ⟨rfl, below_al (Below.refl _ _) _⟩

theorem rname22_4 (fl : Fl) (gw rad time : Int) (timed : Bool) (tid mid code : Int) (name data : List UInt8) (hl : name.length ≤ 100000) (w : World) :
    Calls Tryz.prog 73 #[.agg (Ms.cs ⟨4, fl, gw, rad, time, timed, tid, mid, code, name, data⟩)] w fun e w' => e = .returned (.int .i64 (nameF ⟨4, fl, gw, rad, time, timed, tid, mid, code, name, data⟩)) ∧ Below w.heap.size w w' := by
  have H := fun w => rvalid_any name (by omega) w
  cases hv : vld name
  · rw [hv] at H
    have HV := Lib.hid (show nameF ⟨4, fl, gw, rad, time, timed, tid, mid, code, name, data⟩ = 6 by simp [nameF, hv])
    rw [HV.out]
    have HH := Lib.hid H
    clear H HV hv hl
    unfold Ms.cs
    go_enter Tryz.func73, Tryz.ntmps73
    go_wp2_with fail
    refine (HH.out _).mono ?_
    rintro r w1 ⟨rfl, hw1⟩
    subst hw1
    go_wp2
    go_ret
    exact ⟨rfl, below_al (Below.refl _ _) _⟩
  rw [hv] at H
  by_cases h2 : name.length ≤ 23
  rotate_left
  · have d2i : 23 < (name.length : Int) := by omega
    have d2j : ¬ (name.length : Int) ≤ 23 := by omega
    have HV := Lib.hid (show nameF ⟨4, fl, gw, rad, time, timed, tid, mid, code, name, data⟩ = 6 by simp [nameF, h2])
    rw [HV.out]
    have HH := Lib.hid H
    clear H HV hv h2 hl
    unfold Ms.cs
    go_enter Tryz.func73, Tryz.ntmps73
    go_wp2_with fail
    refine (HH.out _).mono ?_
    rintro r w1 ⟨rfl, hw1⟩
    subst hw1
    go_wp2
    go_ret
    exact ⟨rfl, below_al (Below.refl _ _) _⟩
  have d2i : ¬ 23 < (name.length : Int) := by omega
  have d2j : (name.length : Int) ≤ 23 := by omega
  cases name with
  | nil =>
    have HV := Lib.hid (show nameF ⟨4, fl, gw, rad, time, timed, tid, mid, code, [], data⟩ = 6 by simp [nameF])
    rw [HV.out]
    have HH := Lib.hid H
    clear H HV hv h2 hl
    unfold Ms.cs
    go_enter Tryz.func73, Tryz.ntmps73
    go_wp2_with fail
    refine (HH.out _).mono ?_
    rintro r w1 ⟨rfl, hw1⟩
    subst hw1
    go_wp2
    go_ret
    exact ⟨rfl, below_al (Below.refl _ _) _⟩
  | cons a r =>
    obtain ⟨T, hT⟩ : ∃ T, T = a :: r := ⟨_, rfl⟩
    have hie : T.isEmpty = false := by rw [hT]; rfl
    have hie2 : (T == []) = false := by rw [hT]; rfl
    rw [← hT] at H hv h2 d2i d2j ⊢
    clear hT
    have HV := Lib.hid (show nameF ⟨4, fl, gw, rad, time, timed, tid, mid, code, T, data⟩ = 0 by simp only [nameF, if_pos, hie, hv, h2, and_self])
    rw [HV.out]
    have HH := Lib.hid H
    clear H HV hv h2 hl
    unfold Ms.cs
    go_enter Tryz.func73, Tryz.ntmps73
    go_wp2_with fail
    refine (HH.out _).mono ?_
    rintro r w1 ⟨rfl, hw1⟩
    subst hw1
    go_wp2
    go_ret
    exact ⟨rfl, below_al (Below.refl _ _) _⟩

theorem rname22_5 (fl : Fl) (gw rad time : Int) (timed : Bool) (tid mid code : Int) (name data : List UInt8) (hl : name.length ≤ 100000) (w : World) :
    Calls Tryz.prog 73 #[.agg (Ms.cs ⟨5, fl, gw, rad, time, timed, tid, mid, code, name, data⟩)] w fun e w' => e = .returned (.int .i64 (nameF ⟨5, fl, gw, rad, time, timed, tid, mid, code, name, data⟩)) ∧ Below w.heap.size w w' := by
  have HV := Lib.hid (show nameF ⟨5, fl, gw, rad, time, timed, tid, mid, code, name, data⟩ = 0 by simp [nameF])
  rw [HV.out]
  unfold Ms.cs
  go_enter Tryz.func73, Tryz.ntmps73
  go_wp2
  go_ret
  exact ⟨rfl, below_al (Below.refl _ _) _⟩

theorem rname22_6 (fl : Fl) (gw rad time : Int) (timed : Bool) (tid mid code : Int) (name data : List UInt8) (hl : name.length ≤ 100000) (w : World) :
    Calls Tryz.prog 73 #[.agg (Ms.cs ⟨6, fl, gw, rad, time, timed, tid, mid, code, name, data⟩)] w fun e w' => e = .returned (.int .i64 (nameF ⟨6, fl, gw, rad, time, timed, tid, mid, code, name, data⟩)) ∧ Below w.heap.size w w' := by
  have HV := Lib.hid (show nameF ⟨6, fl, gw, rad, time, timed, tid, mid, code, name, data⟩ = 0 by simp [nameF])
  rw [HV.out]
  unfold Ms.cs
  go_enter Tryz.func73, Tryz.ntmps73
  go_wp2
  go_ret
  exact ⟨rfl, below_al (Below.refl _ _) _⟩

theorem rname22_7 (fl : Fl) (gw rad time : Int) (timed : Bool) (tid mid code : Int) (name data : List UInt8) (hl : name.length ≤ 100000) (w : World) :
    Calls Tryz.prog 73 #[.agg (Ms.cs ⟨7, fl, gw, rad, time, timed, tid, mid, code, name, data⟩)] w fun e w' => e = .returned (.int .i64 (nameF ⟨7, fl, gw, rad, time, timed, tid, mid, code, name, data⟩)) ∧ Below w.heap.size w w' := by
  cases he : name.isEmpty with
  | true =>
    have HV := Lib.hid (show nameF ⟨7, fl, gw, rad, time, timed, tid, mid, code, name, data⟩ = 0 by simp [nameF, he])
    rw [HV.out]
    unfold Ms.cs
    go_enter Tryz.func73, Tryz.ntmps73
    go_wp2
    go_ret
    exact ⟨rfl, below_al (Below.refl _ _) _⟩
  | false =>
    have H := fun w => calls_below (rtname_any name (by omega) w)
    obtain ⟨b, hb0⟩ : ∃ b, b = nameB name := ⟨_, rfl⟩
    have HV := Lib.hid (show nameF ⟨7, fl, gw, rad, time, timed, tid, mid, code, name, data⟩ = if b = true then 0 else 10 by simp [nameF, hb0, he])
    rw [HV.out]
    rw [← hb0] at H
    have HH := Lib.hid H
    clear H hb0 HV
    cases b
    all_goals
      unfold Ms.cs
      go_enter Tryz.func73, Tryz.ntmps73
      go_wp2_with fail
      refine (HH.out _).mono ?_
      rintro r w1 ⟨rfl, hb⟩
      go_wp2
      go_ret
      exact ⟨rfl, (below_al (Below.refl _ w) _).trans (hb.mono (below_al (Below.refl _ _) _).size)⟩

theorem rname22_8 (fl : Fl) (gw rad time : Int) (timed : Bool) (tid mid code : Int) (name data : List UInt8) (hl : name.length ≤ 100000) (w : World) :
    Calls Tryz.prog 73 #[.agg (Ms.cs ⟨8, fl, gw, rad, time, timed, tid, mid, code, name, data⟩)] w fun e w' => e = .returned (.int .i64 (nameF ⟨8, fl, gw, rad, time, timed, tid, mid, code, name, data⟩)) ∧ Below w.heap.size w w' := by
  have HV := Lib.hid (show nameF ⟨8, fl, gw, rad, time, timed, tid, mid, code, name, data⟩ = 0 by simp [nameF])
  rw [HV.out]
  unfold Ms.cs
  go_enter Tryz.func73, Tryz.ntmps73
  go_wp2
  go_ret
  exact ⟨rfl, below_al (Below.refl _ _) _⟩

theorem rname22_9 (fl : Fl) (gw rad time : Int) (timed : Bool) (tid mid code : Int) (name data : List UInt8) (hl : name.length ≤ 100000) (w : World) :
    Calls Tryz.prog 73 #[.agg (Ms.cs ⟨9, fl, gw, rad, time, timed, tid, mid, code, name, data⟩)] w fun e w' => e = .returned (.int .i64 (nameF ⟨9, fl, gw, rad, time, timed, tid, mid, code, name, data⟩)) ∧ Below w.heap.size w w' := by
  have HV := Lib.hid (show nameF ⟨9, fl, gw, rad, time, timed, tid, mid, code, name, data⟩ = 0 by simp [nameF])
  rw [HV.out]
  unfold Ms.cs
  go_enter Tryz.func73, Tryz.ntmps73
  go_wp2
  go_ret
  exact ⟨rfl, below_al (Below.refl _ _) _⟩

theorem rname22_10 (fl : Fl) (gw rad time : Int) (timed : Bool) (tid mid code : Int) (name data : List UInt8) (hl : name.length ≤ 100000) (w : World) :
    Calls Tryz.prog 73 #[.agg (Ms.cs ⟨10, fl, gw, rad, time, timed, tid, mid, code, name, data⟩)] w fun e w' => e = .returned (.int .i64 (nameF ⟨10, fl, gw, rad, time, timed, tid, mid, code, name, data⟩)) ∧ Below w.heap.size w w' := by
  have H := fun w => calls_below (rtname_any name (by omega) w)
  obtain ⟨b, hb0⟩ : ∃ b, b = nameB name := ⟨_, rfl⟩
  have HV := Lib.hid (show nameF ⟨10, fl, gw, rad, time, timed, tid, mid, code, name, data⟩ = if b = true then 0 else 10 by simp [nameF, hb0])
  rw [HV.out]
  rw [← hb0] at H
  have HH := Lib.hid H
  clear H hb0 HV
  cases b
  all_goals
    unfold Ms.cs
    go_enter Tryz.func73, Tryz.ntmps73
    go_wp2_with fail
    refine (HH.out _).mono ?_
    rintro r w1 ⟨rfl, hb⟩
    go_wp2
    go_ret
    exact ⟨rfl, (below_al (Below.refl _ w) _).trans (hb.mono (below_al (Below.refl _ _) _).size)⟩

theorem rname22_11 (fl : Fl) (gw rad time : Int) (timed : Bool) (tid mid code : Int) (name data : List UInt8) (hl : name.length ≤ 100000) (w : World) :
    Calls Tryz.prog 73 #[.agg (Ms.cs ⟨11, fl, gw, rad, time, timed, tid, mid, code, name, data⟩)] w fun e w' => e = .returned (.int .i64 (nameF ⟨11, fl, gw, rad, time, timed, tid, mid, code, name, data⟩)) ∧ Below w.heap.size w w' := by
  have HV := Lib.hid (show nameF ⟨11, fl, gw, rad, time, timed, tid, mid, code, name, data⟩ = 0 by simp [nameF])
  rw [HV.out]
  unfold Ms.cs
  go_enter Tryz.func73, Tryz.ntmps73
  go_wp2
  go_ret
  exact ⟨rfl, below_al (Below.refl _ _) _⟩

theorem rname22_12 (fl : Fl) (gw rad time : Int) (timed : Bool) (tid mid code : Int) (name data : List UInt8) (hl : name.length ≤ 100000) (w : World) :
    Calls Tryz.prog 73 #[.agg (Ms.cs ⟨12, fl, gw, rad, time, timed, tid, mid, code, name, data⟩)] w fun e w' => e = .returned (.int .i64 (nameF ⟨12, fl, gw, rad, time, timed, tid, mid, code, name, data⟩)) ∧ Below w.heap.size w w' := by
  have HV := Lib.hid (show nameF ⟨12, fl, gw, rad, time, timed, tid, mid, code, name, data⟩ = 0 by simp [nameF])
  rw [HV.out]
  unfold Ms.cs
  go_enter Tryz.func73, Tryz.ntmps73
  go_wp2
  go_ret
  exact ⟨rfl, below_al (Below.refl _ _) _⟩

theorem rname22_13 (fl : Fl) (gw rad time : Int) (timed : Bool) (tid mid code : Int) (name data : List UInt8) (hl : name.length ≤ 100000) (w : World) :
    Calls Tryz.prog 73 #[.agg (Ms.cs ⟨13, fl, gw, rad, time, timed, tid, mid, code, name, data⟩)] w fun e w' => e = .returned (.int .i64 (nameF ⟨13, fl, gw, rad, time, timed, tid, mid, code, name, data⟩)) ∧ Below w.heap.size w w' := by
  have HV := Lib.hid (show nameF ⟨13, fl, gw, rad, time, timed, tid, mid, code, name, data⟩ = 0 by simp [nameF])
  rw [HV.out]
  unfold Ms.cs
  go_enter Tryz.func73, Tryz.ntmps73
  go_wp2
  go_ret
  exact ⟨rfl, below_al (Below.refl _ _) _⟩

theorem rname22_14 (fl : Fl) (gw rad time : Int) (timed : Bool) (tid mid code : Int) (name data : List UInt8) (hl : name.length ≤ 100000) (w : World) :
    Calls Tryz.prog 73 #[.agg (Ms.cs ⟨14, fl, gw, rad, time, timed, tid, mid, code, name, data⟩)] w fun e w' => e = .returned (.int .i64 (nameF ⟨14, fl, gw, rad, time, timed, tid, mid, code, name, data⟩)) ∧ Below w.heap.size w w' := by
  have HV := Lib.hid (show nameF ⟨14, fl, gw, rad, time, timed, tid, mid, code, name, data⟩ = 0 by simp [nameF])
  rw [HV.out]
  unfold Ms.cs
  go_enter Tryz.func73, Tryz.ntmps73
  go_wp2
  go_ret
  exact ⟨rfl, below_al (Below.refl _ _) _⟩

theorem rname22_15 (fl : Fl) (gw rad time : Int) (timed : Bool) (tid mid code : Int) (name data : List UInt8) (hl : name.length ≤ 100000) (w : World) :
    Calls Tryz.prog 73 #[.agg (Ms.cs ⟨15, fl, gw, rad, time, timed, tid, mid, code, name, data⟩)] w fun e w' => e = .returned (.int .i64 (nameF ⟨15, fl, gw, rad, time, timed, tid, mid, code, name, data⟩)) ∧ Below w.heap.size w w' := by
  have HV := Lib.hid (show nameF ⟨15, fl, gw, rad, time, timed, tid, mid, code, name, data⟩ = 0 by simp [nameF])
  rw [HV.out]
  unfold Ms.cs
  go_enter Tryz.func73, Tryz.ntmps73
  go_wp2
  go_ret
  exact ⟨rfl, below_al (Below.refl _ _) _⟩

theorem rname22_16 (fl : Fl) (gw rad time : Int) (timed : Bool) (tid mid code : Int) (name data : List UInt8) (hl : name.length ≤ 100000) (w : World) :
    Calls Tryz.prog 73 #[.agg (Ms.cs ⟨16, fl, gw, rad, time, timed, tid, mid, code, name, data⟩)] w fun e w' => e = .returned (.int .i64 (nameF ⟨16, fl, gw, rad, time, timed, tid, mid, code, name, data⟩)) ∧ Below w.heap.size w w' := by
  have HV := Lib.hid (show nameF ⟨16, fl, gw, rad, time, timed, tid, mid, code, name, data⟩ = 0 by simp [nameF])
  rw [HV.out]
  unfold Ms.cs
  go_enter Tryz.func73, Tryz.ntmps73
  go_wp2
  go_ret
  exact ⟨rfl, below_al (Below.refl _ _) _⟩

theorem rname22_18 (fl : Fl) (gw rad time : Int) (timed : Bool) (tid mid code : Int) (name data : List UInt8) (hl : name.length ≤ 100000) (w : World) :
    Calls Tryz.prog 73 #[.agg (Ms.cs ⟨18, fl, gw, rad, time, timed, tid, mid, code, name, data⟩)] w fun e w' => e = .returned (.int .i64 (nameF ⟨18, fl, gw, rad, time, timed, tid, mid, code, name, data⟩)) ∧ Below w.heap.size w w' := by
  by_cases h0 : fl.typ = 0
  · have d0 : (fl.typ != 0) = false := by simpa using h0
    have d0x : (fl.typ == 0) = true := by simpa using h0
    have H := fun w => rfilter_any name (by omega) w
    obtain ⟨b, hb0⟩ : ∃ b, b = filterB name := ⟨_, rfl⟩
    have HV := Lib.hid (show nameF ⟨18, fl, gw, rad, time, timed, tid, mid, code, name, data⟩ = if b = true then 0 else 10 by simp [nameF, hb0, h0])
    rw [HV.out]
    rw [← hb0] at H
    have HH := Lib.hid H
    clear H hb0 HV h0
    cases b
    all_goals
      unfold Ms.cs
      go_enter Tryz.func73, Tryz.ntmps73
      go_wp2_with fail
      refine (HH.out _).mono ?_
      rintro r w1 ⟨rfl, hb⟩
      go_wp2
      go_ret
      exact ⟨rfl, (below_al (Below.refl _ w) _).trans (hb.mono (below_al (Below.refl _ _) _).size)⟩
  · have d0 : (fl.typ != 0) = true := by simpa using h0
    have d0x : (fl.typ == 0) = false := by simpa using h0
    have HV := Lib.hid (show nameF ⟨18, fl, gw, rad, time, timed, tid, mid, code, name, data⟩ = 0 by simp [nameF, h0])
    rw [HV.out]
    clear h0
    unfold Ms.cs
    go_enter Tryz.func73, Tryz.ntmps73
    go_wp2
    go_ret
    exact ⟨rfl, below_al (Below.refl _ _) _⟩

theorem rname22_19 (fl : Fl) (gw rad time : Int) (timed : Bool) (tid mid code : Int) (name data : List UInt8) (hl : name.length ≤ 100000) (w : World) :
    Calls Tryz.prog 73 #[.agg (Ms.cs ⟨19, fl, gw, rad, time, timed, tid, mid, code, name, data⟩)] w fun e w' => e = .returned (.int .i64 (nameF ⟨19, fl, gw, rad, time, timed, tid, mid, code, name, data⟩)) ∧ Below w.heap.size w w' := by
  have HV := Lib.hid (show nameF ⟨19, fl, gw, rad, time, timed, tid, mid, code, name, data⟩ = 0 by simp [nameF])
  rw [HV.out]
  unfold Ms.cs
  go_enter Tryz.func73, Tryz.ntmps73
  go_wp2
  go_ret
  exact ⟨rfl, below_al (Below.refl _ _) _⟩

theorem rname22_20 (fl : Fl) (gw rad time : Int) (timed : Bool) (tid mid code : Int) (name data : List UInt8) (hl : name.length ≤ 100000) (w : World) :
    Calls Tryz.prog 73 #[.agg (Ms.cs ⟨20, fl, gw, rad, time, timed, tid, mid, code, name, data⟩)] w fun e w' => e = .returned (.int .i64 (nameF ⟨20, fl, gw, rad, time, timed, tid, mid, code, name, data⟩)) ∧ Below w.heap.size w w' := by
  by_cases h0 : fl.typ = 0
  · have d0 : (fl.typ != 0) = false := by simpa using h0
    have d0x : (fl.typ == 0) = true := by simpa using h0
    have H := fun w => rfilter_any name (by omega) w
    obtain ⟨b, hb0⟩ : ∃ b, b = filterB name := ⟨_, rfl⟩
    have HV := Lib.hid (show nameF ⟨20, fl, gw, rad, time, timed, tid, mid, code, name, data⟩ = if b = true then 0 else 10 by simp [nameF, hb0, h0])
    rw [HV.out]
    rw [← hb0] at H
    have HH := Lib.hid H
    clear H hb0 HV h0
    cases b
    all_goals
      unfold Ms.cs
      go_enter Tryz.func73, Tryz.ntmps73
      go_wp2_with fail
      refine (HH.out _).mono ?_
      rintro r w1 ⟨rfl, hb⟩
      go_wp2
      go_ret
      exact ⟨rfl, (below_al (Below.refl _ w) _).trans (hb.mono (below_al (Below.refl _ _) _).size)⟩
  · have d0 : (fl.typ != 0) = true := by simpa using h0
    have d0x : (fl.typ == 0) = false := by simpa using h0
    have HV := Lib.hid (show nameF ⟨20, fl, gw, rad, time, timed, tid, mid, code, name, data⟩ = 0 by simp [nameF, h0])
    rw [HV.out]
    clear h0
    unfold Ms.cs
    go_enter Tryz.func73, Tryz.ntmps73
    go_wp2
    go_ret
    exact ⟨rfl, below_al (Below.refl _ _) _⟩

theorem rname22_21 (fl : Fl) (gw rad time : Int) (timed : Bool) (tid mid code : Int) (name data : List UInt8) (hl : name.length ≤ 100000) (w : World) :
    Calls Tryz.prog 73 #[.agg (Ms.cs ⟨21, fl, gw, rad, time, timed, tid, mid, code, name, data⟩)] w fun e w' => e = .returned (.int .i64 (nameF ⟨21, fl, gw, rad, time, timed, tid, mid, code, name, data⟩)) ∧ Below w.heap.size w w' := by
  have HV := Lib.hid (show nameF ⟨21, fl, gw, rad, time, timed, tid, mid, code, name, data⟩ = 0 by simp [nameF])
  rw [HV.out]
  unfold Ms.cs
  go_enter Tryz.func73, Tryz.ntmps73
  go_wp2
  go_ret
  exact ⟨rfl, below_al (Below.refl _ _) _⟩

theorem rname22_22 (fl : Fl) (gw rad time : Int) (timed : Bool) (tid mid code : Int) (name data : List UInt8) (hl : name.length ≤ 100000) (w : World) :
    Calls Tryz.prog 73 #[.agg (Ms.cs ⟨22, fl, gw, rad, time, timed, tid, mid, code, name, data⟩)] w fun e w' => e = .returned (.int .i64 (nameF ⟨22, fl, gw, rad, time, timed, tid, mid, code, name, data⟩)) ∧ Below w.heap.size w w' := by
  have H := fun w => rvalid_any name (by omega) w
  cases hv : vld name
  · rw [hv] at H
    have HV := Lib.hid (show nameF ⟨22, fl, gw, rad, time, timed, tid, mid, code, name, data⟩ = 6 by simp [nameF, hv])
    rw [HV.out]
    have HH := Lib.hid H
    clear H HV hv hl
    unfold Ms.cs
    go_enter Tryz.func73, Tryz.ntmps73
    go_wp2_with fail
    refine (HH.out _).mono ?_
    rintro r w1 ⟨rfl, hw1⟩
    subst hw1
    go_wp2
    go_ret
    exact ⟨rfl, below_al (Below.refl _ _) _⟩
  rw [hv] at H
  by_cases h2 : name.length ≤ 23
  rotate_left
  · have d2i : 23 < (name.length : Int) := by omega
    have d2j : ¬ (name.length : Int) ≤ 23 := by omega
    have HV := Lib.hid (show nameF ⟨22, fl, gw, rad, time, timed, tid, mid, code, name, data⟩ = 6 by simp [nameF, h2])
    rw [HV.out]
    have HH := Lib.hid H
    clear H HV hv h2 hl
    unfold Ms.cs
    go_enter Tryz.func73, Tryz.ntmps73
    go_wp2_with fail
    refine (HH.out _).mono ?_
    rintro r w1 ⟨rfl, hw1⟩
    subst hw1
    go_wp2
    go_ret
    exact ⟨rfl, below_al (Below.refl _ _) _⟩
  have d2i : ¬ 23 < (name.length : Int) := by omega
  have d2j : (name.length : Int) ≤ 23 := by omega
  have HV := Lib.hid (show nameF ⟨22, fl, gw, rad, time, timed, tid, mid, code, name, data⟩ = 0 by simp [nameF, h2, hv])
  rw [HV.out]
  have HH := Lib.hid H
  clear H HV hv h2 hl
  unfold Ms.cs
  go_enter Tryz.func73, Tryz.ntmps73
  go_wp2_with fail
  refine (HH.out _).mono ?_
  rintro r w1 ⟨rfl, hw1⟩
  subst hw1
  go_wp2
  go_ret
  exact ⟨rfl, below_al (Below.refl _ _) _⟩

theorem rname22_23 (fl : Fl) (gw rad time : Int) (timed : Bool) (tid mid code : Int) (name data : List UInt8) (hl : name.length ≤ 100000) (w : World) :
    Calls Tryz.prog 73 #[.agg (Ms.cs ⟨23, fl, gw, rad, time, timed, tid, mid, code, name, data⟩)] w fun e w' => e = .returned (.int .i64 (nameF ⟨23, fl, gw, rad, time, timed, tid, mid, code, name, data⟩)) ∧ Below w.heap.size w w' := by
  have HV := Lib.hid (show nameF ⟨23, fl, gw, rad, time, timed, tid, mid, code, name, data⟩ = 0 by simp [nameF])
  rw [HV.out]
  unfold Ms.cs
  go_enter Tryz.func73, Tryz.ntmps73
  go_wp2
  go_ret
  exact ⟨rfl, below_al (Below.refl _ _) _⟩

theorem rname22_24 (fl : Fl) (gw rad time : Int) (timed : Bool) (tid mid code : Int) (name data : List UInt8) (hl : name.length ≤ 100000) (w : World) :
    Calls Tryz.prog 73 #[.agg (Ms.cs ⟨24, fl, gw, rad, time, timed, tid, mid, code, name, data⟩)] w fun e w' => e = .returned (.int .i64 (nameF ⟨24, fl, gw, rad, time, timed, tid, mid, code, name, data⟩)) ∧ Below w.heap.size w w' := by
  have HV := Lib.hid (show nameF ⟨24, fl, gw, rad, time, timed, tid, mid, code, name, data⟩ = 0 by simp [nameF])
  rw [HV.out]
  unfold Ms.cs
  go_enter Tryz.func73, Tryz.ntmps73
  go_wp2
  go_ret
  exact ⟨rfl, below_al (Below.refl _ _) _⟩

theorem rname22_26 (fl : Fl) (gw rad time : Int) (timed : Bool) (tid mid code : Int) (name data : List UInt8) (hl : name.length ≤ 100000) (w : World) :
    Calls Tryz.prog 73 #[.agg (Ms.cs ⟨26, fl, gw, rad, time, timed, tid, mid, code, name, data⟩)] w fun e w' => e = .returned (.int .i64 (nameF ⟨26, fl, gw, rad, time, timed, tid, mid, code, name, data⟩)) ∧ Below w.heap.size w w' := by
  cases he : name.isEmpty with
  | true =>
    have HV := Lib.hid (show nameF ⟨26, fl, gw, rad, time, timed, tid, mid, code, name, data⟩ = 0 by simp [nameF, he])
    rw [HV.out]
    unfold Ms.cs
    go_enter Tryz.func73, Tryz.ntmps73
    go_wp2
    go_ret
    exact ⟨rfl, below_al (Below.refl _ _) _⟩
  | false =>
    have H := fun w => calls_below (rtname_any name (by omega) w)
    obtain ⟨b, hb0⟩ : ∃ b, b = nameB name := ⟨_, rfl⟩
    have HV := Lib.hid (show nameF ⟨26, fl, gw, rad, time, timed, tid, mid, code, name, data⟩ = if b = true then 0 else 10 by simp [nameF, hb0, he])
    rw [HV.out]
    rw [← hb0] at H
    have HH := Lib.hid H
    clear H hb0 HV
    cases b
    all_goals
      unfold Ms.cs
      go_enter Tryz.func73, Tryz.ntmps73
      go_wp2_with fail
      refine (HH.out _).mono ?_
      rintro r w1 ⟨rfl, hb⟩
      go_wp2
      go_ret
      exact ⟨rfl, (below_al (Below.refl _ w) _).trans (hb.mono (below_al (Below.refl _ _) _).size)⟩

theorem rname22_27 (fl : Fl) (gw rad time : Int) (timed : Bool) (tid mid code : Int) (name data : List UInt8) (hl : name.length ≤ 100000) (w : World) :
    Calls Tryz.prog 73 #[.agg (Ms.cs ⟨27, fl, gw, rad, time, timed, tid, mid, code, name, data⟩)] w fun e w' => e = .returned (.int .i64 (nameF ⟨27, fl, gw, rad, time, timed, tid, mid, code, name, data⟩)) ∧ Below w.heap.size w w' := by
  have HV := Lib.hid (show nameF ⟨27, fl, gw, rad, time, timed, tid, mid, code, name, data⟩ = 0 by simp [nameF])
  rw [HV.out]
  unfold Ms.cs
  go_enter Tryz.func73, Tryz.ntmps73
  go_wp2
  go_ret
  exact ⟨rfl, below_al (Below.refl _ _) _⟩

theorem rname22_28 (fl : Fl) (gw rad time : Int) (timed : Bool) (tid mid code : Int) (name data : List UInt8) (hl : name.length ≤ 100000) (w : World) :
    Calls Tryz.prog 73 #[.agg (Ms.cs ⟨28, fl, gw, rad, time, timed, tid, mid, code, name, data⟩)] w fun e w' => e = .returned (.int .i64 (nameF ⟨28, fl, gw, rad, time, timed, tid, mid, code, name, data⟩)) ∧ Below w.heap.size w w' := by
  have HV := Lib.hid (show nameF ⟨28, fl, gw, rad, time, timed, tid, mid, code, name, data⟩ = 0 by simp [nameF])
  rw [HV.out]
  unfold Ms.cs
  go_enter Tryz.func73, Tryz.ntmps73
  go_wp2
  go_ret
  exact ⟨rfl, below_al (Below.refl _ _) _⟩

theorem rname22_29 (fl : Fl) (gw rad time : Int) (timed : Bool) (tid mid code : Int) (name data : List UInt8) (hl : name.length ≤ 100000) (w : World) :
    Calls Tryz.prog 73 #[.agg (Ms.cs ⟨29, fl, gw, rad, time, timed, tid, mid, code, name, data⟩)] w fun e w' => e = .returned (.int .i64 (nameF ⟨29, fl, gw, rad, time, timed, tid, mid, code, name, data⟩)) ∧ Below w.heap.size w w' := by
  have HV := Lib.hid (show nameF ⟨29, fl, gw, rad, time, timed, tid, mid, code, name, data⟩ = 0 by simp [nameF])
  rw [HV.out]
  unfold Ms.cs
  go_enter Tryz.func73, Tryz.ntmps73
  go_wp2
  go_ret
  exact ⟨rfl, below_al (Below.refl _ _) _⟩

theorem rmsname_any (m : Ms) (hk : kindM m.ty = true) (hl : m.name.length ≤ 100000) (w : World) :
    Calls Tryz.prog 73 #[.agg m.cs] w fun e w' => e = .returned (.int .i64 (nameF m)) ∧ Below w.heap.size w w' := by
  obtain ⟨ty, fl, gw, rad, time, timed, tid, mid, code, name, data⟩ := m
  rcases kinds_of hk with rfl | rfl | rfl | rfl | rfl | rfl | rfl | rfl | rfl | rfl | rfl | rfl | rfl | rfl | rfl | rfl | rfl | rfl | rfl | rfl | rfl | rfl | rfl | rfl | rfl | rfl | rfl
  · exact rname22_0 fl gw rad time timed tid mid code name data hl w
  · exact rname22_1 fl gw rad time timed tid mid code name data hl w
  · exact rname22_2 fl gw rad time timed tid mid code name data hl w
  · exact rname22_4 fl gw rad time timed tid mid code name data hl w
  · exact rname22_5 fl gw rad time timed tid mid code name data hl w
  · exact rname22_6 fl gw rad time timed tid mid code name data hl w
  · exact rname22_7 fl gw rad time timed tid mid code name data hl w
  · exact rname22_8 fl gw rad time timed tid mid code name data hl w
  · exact rname22_9 fl gw rad time timed tid mid code name data hl w
  · exact rname22_10 fl gw rad time timed tid mid code name data hl w
  · exact rname22_11 fl gw rad time timed tid mid code name data hl w
  · exact rname22_12 fl gw rad time timed tid mid code name data hl w
  · exact rname22_13 fl gw rad time timed tid mid code name data hl w
  · exact rname22_14 fl gw rad time timed tid mid code name data hl w
  · exact rname22_15 fl gw rad time timed tid mid code name data hl w
  · exact rname22_16 fl gw rad time timed tid mid code name data hl w
  · exact rname22_18 fl gw rad time timed tid mid code name data hl w
  · exact rname22_19 fl gw rad time timed tid mid code name data hl w
  · exact rname22_20 fl gw rad time timed tid mid code name data hl w
  · exact rname22_21 fl gw rad time timed tid mid code name data hl w
  · exact rname22_22 fl gw rad time timed tid mid code name data hl w
  · exact rname22_23 fl gw rad time timed tid mid code name data hl w
  · exact rname22_24 fl gw rad time timed tid mid code name data hl w
  · exact rname22_26 fl gw rad time timed tid mid code name data hl w
  · exact rname22_27 fl gw rad time timed tid mid code name data hl w
  · exact rname22_28 fl gw rad time timed tid mid code name data hl w
  · exact rname22_29 fl gw rad time timed tid mid code name data hl w
end Go.Proofs.YtbacnaplpfmpnaaGreatDoor
