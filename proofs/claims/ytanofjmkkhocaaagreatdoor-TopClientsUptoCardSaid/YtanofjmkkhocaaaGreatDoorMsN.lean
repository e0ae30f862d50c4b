/- snmsg: message, will, Short, Name, msgID, topicID, name. snmsg: name. -/
import Derived.Test.YtanofjmkkhocaaaGreatDoorMsL
import Derived.Test.YtanofjmkkhocaaaGreatDoorTopW
import Derived.Test.YtanofjmkkhocaaaGreatDoorUstA
import Derived.Deep.RegionWith
set_option linter.unusedVariables false
set_option linter.unusedSimpArgs false
namespace Go.Proofs.YtanofjmkkhocaaaGreatDoor
open Go.RowKit
def msgB (k : Int) : Bool := knownK k && decide (k ≠ 254)
theorem msgB_kindM (k : Int) : msgB k = kindM k := by
 unfold msgB knownK kindM
 by_cases h1 : k = 3 ∨ k = 17 ∨ k = 25
 ·rw [if_pos h1]; rcases h1 with rfl | rfl | rfl <;> decide
 ·rw [if_neg h1]
  by_cases h2 : k = 254
  ·subst h2; decide
  ·rw [if_neg h2]
   rw [Bool.eq_iff_iff]
   simp
   omega
theorem message_any (k : Int) (w : World) : Calls Tryz.prog 409 #[.int .i64 k] w fun e w' => e = .returned (.bool (kindM k)) ∧ w = w' := by
 rw [← msgB_kindM]
 cases hk : knownK k with
 | false =>
  have HV := Lib.hid (show msgB k = false by unfold msgB; rw [hk]; rfl)
  have H := Lib.hid (known_any k w)
  rw [hk] at H
  go_enter Tryz.func409, Tryz.ntmps409
  go_wp2_with fail
  refine H.out.mono ?_
  rintro r w' ⟨rfl, hw⟩
  subst hw
  go_wp2
  go_ret
  exact ⟨by rw [HV.out]; rfl, rfl⟩
 | true =>
  have H := Lib.hid (known_any k w)
  rw [hk] at H
  by_cases h2 : k = 254
  ·have HV := Lib.hid (show msgB k = false by unfold msgB; rw [h2]; rfl)
   have d1 : (k != 254) = false := by simpa using h2
   clear h2
   go_enter Tryz.func409, Tryz.ntmps409
   go_wp2_with fail
   refine H.out.mono ?_
   rintro r w' ⟨rfl, hw⟩
   subst hw
   go_wp2
   go_ret
   exact ⟨by rw [HV.out]; rfl, rfl⟩
  ·have HV := Lib.hid (show msgB k = true by unfold msgB; rw [hk]; simpa using h2)
   have d1 : (k != 254) = true := by simpa using h2
   clear h2
   go_enter Tryz.func409, Tryz.ntmps409
   go_wp2_with fail
   refine H.out.mono ?_
   rintro r w' ⟨rfl, hw⟩
   subst hw
   go_wp2
   go_ret
   exact ⟨by rw [HV.out]; rfl, rfl⟩
def willB (k : Int) : Bool := decide (k = 7) || decide (k = 26)
theorem will_any (k : Int) (w : World) : Calls Tryz.prog 411 #[.int .i64 k] w fun e w' => e = .returned (.bool (willB k)) ∧ w = w' := by
 by_cases h1 : k = 7
 ·subst h1
  go_enter Tryz.func411, Tryz.ntmps411
  go_wp2
  go_ret
  exact ⟨rfl, rfl⟩
 ·by_cases h2 : k = 26
  ·subst h2
   go_enter Tryz.func411, Tryz.ntmps411
   go_wp2
   go_ret
   exact ⟨rfl, rfl⟩
  ·have HV := Lib.hid (show willB k = false by simp [willB, h1, h2])
   have d1 : (k == 7) = false := by simpa using h1
   have d2 : (k == 26) = false := by simpa using h2
   clear h1 h2
   go_enter Tryz.func411, Tryz.ntmps411
   go_wp2
   go_ret
   exact ⟨by rw [HV.out]; rfl, rfl⟩
def nameOfF (id : Int) : List UInt8 × Bool := if 0 ≤ id ∧ id ≤ 65535 ∧ nameB (putL id 2) = true then (putL id 2, true) else ([], false)
theorem nameof_any (id : Int) (w : World) :
  Calls Tryz.prog 420 #[.int .i64 id] w fun e w' => e = .returned (.tuple #[.string ⟨(nameOfF id).1.toArray⟩, .bool (nameOfF id).2]) ∧ Below w.heap.size w w' := by
 by_cases h1 : id < 0
 ·have d1 : decide (id < 0) = true := by simpa using h1
  have HV := Lib.hid (show nameOfF id = ([], false) by unfold nameOfF; rw [if_neg (by omega)])
  rw [HV.out]
  clear h1
  go_enter Tryz.func420, Tryz.ntmps420
  go_wp2
  go_ret2
  exact ⟨rfl, Below.refl _ _⟩
 ·have d1 : decide (id < 0) = false := by simpa using h1
  by_cases h2 : 65535 < id
  ·have d2 : decide (65535 < id) = true := by simpa using h2
   have HV := Lib.hid (show nameOfF id = ([], false) by unfold nameOfF; rw [if_neg (by omega)])
   rw [HV.out]
   clear h1 h2
   go_enter Tryz.func420, Tryz.ntmps420
   go_wp2
   go_ret2
   exact ⟨rfl, Below.refl _ _⟩
  ·have d2 : decide (65535 < id) = false := by simpa using h2
   have hw : IntKind.u64.wrap id = id := by rw [IntKind.wrap_u64]; omega
   have HP := Lib.hid (fun w => put_any id 2 w)
   have hl : (putL id 2).length = 2 := by rw [length_putL]; rfl
   have H := fun w => name_any (putL id 2) (by omega) w
   obtain ⟨s, hs⟩ : ∃ s, s = putL id 2 := ⟨_, rfl⟩
   cases hn : nameB (putL id 2) with
   | false =>
    have HV := Lib.hid (show nameOfF id = ([], false) by unfold nameOfF; rw [if_neg (by simp [hn])])
    rw [hn] at H
    have HH := Lib.hid H
    rw [HV.out]
    rw [← hs] at HH HP
    clear H h1 h2 hn hl hs
    go_enter Tryz.func420, Tryz.ntmps420
    go_wp2_with fail
    refine (HP.out _).mono ?_
    rintro r w1 ⟨rfl, hb1⟩
    go_wp2_with fail
    refine (HH.out _).mono ?_
    rintro r w2 ⟨rfl, hb2⟩
    go_wp2
    go_ret2
    exact ⟨rfl, hb1.trans (hb2.mono hb1.size)⟩
   | true =>
    have HV := Lib.hid (show nameOfF id = (putL id 2, true) by unfold nameOfF; rw [if_pos ⟨by omega, by omega, hn⟩])
    rw [hn] at H
    have HH := Lib.hid H
    rw [HV.out]
    rw [← hs] at HH HP ⊢
    clear H h1 h2 hn hl hs
    go_enter Tryz.func420, Tryz.ntmps420
    go_wp2_with fail
    refine (HP.out _).mono ?_
    rintro r w1 ⟨rfl, hb1⟩
    go_wp2_with fail
    refine (HH.out _).mono ?_
    rintro r w2 ⟨rfl, hb2⟩
    go_wp2
    go_ret2
    exact ⟨rfl, hb1.trans (hb2.mono hb1.size)⟩
theorem kinds_of {k : Int} (hk : kindM k = true) : k = 0 ∨ k = 1 ∨ k = 2 ∨ k = 4 ∨ k = 5 ∨ k = 6 ∨ k = 7 ∨ k = 8 ∨ k = 9 ∨ k = 10 ∨ k = 11 ∨ k = 12 ∨ k = 13 ∨ k = 14 ∨ k = 15 ∨ k = 16 ∨ k = 18 ∨ k = 19 ∨ k = 20 ∨ k = 21 ∨ k = 22 ∨ k = 23 ∨ k = 24 ∨ k = 26 ∨ k = 27 ∨ k = 28 ∨ k = 29 := by
 have h := of_decide_eq_true hk
 omega
def msgIdB (m : Ms) : Bool := if m.ty = 10 ∨ m.ty = 14 ∨ m.ty = 15 ∨ m.ty = 16 ∨ m.ty = 21 ∨ m.ty = 18 ∨ m.ty = 20 then !(m.mid == 0) else if m.ty = 12 then (!(m.mid == 0)) == decide (0 < m.fl.q) else true
theorem msgid_0 (fl : Fl) (gw rad time : Int) (timed : Bool) (tid mid code : Int) (name data : List UInt8) (w : World) :
  Calls Tryz.prog 413 #[.agg (Ms.cs ⟨0, fl, gw, rad, time, timed, tid, mid, code, name, data⟩)] w fun e w' => e = .returned (.bool (true)) ∧ Below w.heap.size w w' := by
 unfold Ms.cs
 go_enter Tryz.func413, Tryz.ntmps413
 go_wp2
 go_ret
 exact ⟨rfl, below_al (Below.refl _ _) _⟩
theorem msgid_1 (fl : Fl) (gw rad time : Int) (timed : Bool) (tid mid code : Int) (name data : List UInt8) (w : World) :
  Calls Tryz.prog 413 #[.agg (Ms.cs ⟨1, fl, gw, rad, time, timed, tid, mid, code, name, data⟩)] w fun e w' => e = .returned (.bool (true)) ∧ Below w.heap.size w w' := by
 unfold Ms.cs
 go_enter Tryz.func413, Tryz.ntmps413
 go_wp2
 go_ret
 exact ⟨rfl, below_al (Below.refl _ _) _⟩
theorem msgid_2 (fl : Fl) (gw rad time : Int) (timed : Bool) (tid mid code : Int) (name data : List UInt8) (w : World) :
  Calls Tryz.prog 413 #[.agg (Ms.cs ⟨2, fl, gw, rad, time, timed, tid, mid, code, name, data⟩)] w fun e w' => e = .returned (.bool (true)) ∧ Below w.heap.size w w' := by
 unfold Ms.cs
 go_enter Tryz.func413, Tryz.ntmps413
 go_wp2
 go_ret
 exact ⟨rfl, below_al (Below.refl _ _) _⟩
theorem msgid_4 (fl : Fl) (gw rad time : Int) (timed : Bool) (tid mid code : Int) (name data : List UInt8) (w : World) :
  Calls Tryz.prog 413 #[.agg (Ms.cs ⟨4, fl, gw, rad, time, timed, tid, mid, code, name, data⟩)] w fun e w' => e = .returned (.bool (true)) ∧ Below w.heap.size w w' := by
 unfold Ms.cs
 go_enter Tryz.func413, Tryz.ntmps413
 go_wp2
 go_ret
 exact ⟨rfl, below_al (Below.refl _ _) _⟩
theorem msgid_5 (fl : Fl) (gw rad time : Int) (timed : Bool) (tid mid code : Int) (name data : List UInt8) (w : World) :
  Calls Tryz.prog 413 #[.agg (Ms.cs ⟨5, fl, gw, rad, time, timed, tid, mid, code, name, data⟩)] w fun e w' => e = .returned (.bool (true)) ∧ Below w.heap.size w w' := by
 unfold Ms.cs
 go_enter Tryz.func413, Tryz.ntmps413
 go_wp2
 go_ret
 exact ⟨rfl, below_al (Below.refl _ _) _⟩
theorem msgid_6 (fl : Fl) (gw rad time : Int) (timed : Bool) (tid mid code : Int) (name data : List UInt8) (w : World) :
  Calls Tryz.prog 413 #[.agg (Ms.cs ⟨6, fl, gw, rad, time, timed, tid, mid, code, name, data⟩)] w fun e w' => e = .returned (.bool (true)) ∧ Below w.heap.size w w' := by
 unfold Ms.cs
 go_enter Tryz.func413, Tryz.ntmps413
 go_wp2
 go_ret
 exact ⟨rfl, below_al (Below.refl _ _) _⟩
theorem msgid_7 (fl : Fl) (gw rad time : Int) (timed : Bool) (tid mid code : Int) (name data : List UInt8) (w : World) :
  Calls Tryz.prog 413 #[.agg (Ms.cs ⟨7, fl, gw, rad, time, timed, tid, mid, code, name, data⟩)] w fun e w' => e = .returned (.bool (true)) ∧ Below w.heap.size w w' := by
 unfold Ms.cs
 go_enter Tryz.func413, Tryz.ntmps413
 go_wp2
 go_ret
 exact ⟨rfl, below_al (Below.refl _ _) _⟩
theorem msgid_8 (fl : Fl) (gw rad time : Int) (timed : Bool) (tid mid code : Int) (name data : List UInt8) (w : World) :
  Calls Tryz.prog 413 #[.agg (Ms.cs ⟨8, fl, gw, rad, time, timed, tid, mid, code, name, data⟩)] w fun e w' => e = .returned (.bool (true)) ∧ Below w.heap.size w w' := by
 unfold Ms.cs
 go_enter Tryz.func413, Tryz.ntmps413
 go_wp2
 go_ret
 exact ⟨rfl, below_al (Below.refl _ _) _⟩
theorem msgid_9 (fl : Fl) (gw rad time : Int) (timed : Bool) (tid mid code : Int) (name data : List UInt8) (w : World) :
  Calls Tryz.prog 413 #[.agg (Ms.cs ⟨9, fl, gw, rad, time, timed, tid, mid, code, name, data⟩)] w fun e w' => e = .returned (.bool (true)) ∧ Below w.heap.size w w' := by
 unfold Ms.cs
 go_enter Tryz.func413, Tryz.ntmps413
 go_wp2
 go_ret
 exact ⟨rfl, below_al (Below.refl _ _) _⟩
theorem msgid_10 (fl : Fl) (gw rad time : Int) (timed : Bool) (tid mid code : Int) (name data : List UInt8) (w : World) :
  Calls Tryz.prog 413 #[.agg (Ms.cs ⟨10, fl, gw, rad, time, timed, tid, mid, code, name, data⟩)] w fun e w' => e = .returned (.bool (!(mid == 0))) ∧ Below w.heap.size w w' := by
 unfold Ms.cs
 go_enter Tryz.func413, Tryz.ntmps413
 go_wp2
 go_ret
 exact ⟨rfl, below_al (Below.refl _ _) _⟩
theorem msgid_11 (fl : Fl) (gw rad time : Int) (timed : Bool) (tid mid code : Int) (name data : List UInt8) (w : World) :
  Calls Tryz.prog 413 #[.agg (Ms.cs ⟨11, fl, gw, rad, time, timed, tid, mid, code, name, data⟩)] w fun e w' => e = .returned (.bool (true)) ∧ Below w.heap.size w w' := by
 unfold Ms.cs
 go_enter Tryz.func413, Tryz.ntmps413
 go_wp2
 go_ret
 exact ⟨rfl, below_al (Below.refl _ _) _⟩
theorem msgid_12 (fl : Fl) (gw rad time : Int) (timed : Bool) (tid mid code : Int) (name data : List UInt8) (w : World) :
  Calls Tryz.prog 413 #[.agg (Ms.cs ⟨12, fl, gw, rad, time, timed, tid, mid, code, name, data⟩)] w fun e w' => e = .returned (.bool ((!(mid == 0)) == decide (0 < fl.q))) ∧ Below w.heap.size w w' := by
 unfold Ms.cs
 go_enter Tryz.func413, Tryz.ntmps413
 go_wp2
 go_ret
 exact ⟨rfl, below_al (Below.refl _ _) _⟩
theorem msgid_13 (fl : Fl) (gw rad time : Int) (timed : Bool) (tid mid code : Int) (name data : List UInt8) (w : World) :
  Calls Tryz.prog 413 #[.agg (Ms.cs ⟨13, fl, gw, rad, time, timed, tid, mid, code, name, data⟩)] w fun e w' => e = .returned (.bool (true)) ∧ Below w.heap.size w w' := by
 unfold Ms.cs
 go_enter Tryz.func413, Tryz.ntmps413
 go_wp2
 go_ret
 exact ⟨rfl, below_al (Below.refl _ _) _⟩
theorem msgid_14 (fl : Fl) (gw rad time : Int) (timed : Bool) (tid mid code : Int) (name data : List UInt8) (w : World) :
  Calls Tryz.prog 413 #[.agg (Ms.cs ⟨14, fl, gw, rad, time, timed, tid, mid, code, name, data⟩)] w fun e w' => e = .returned (.bool (!(mid == 0))) ∧ Below w.heap.size w w' := by
 unfold Ms.cs
 go_enter Tryz.func413, Tryz.ntmps413
 go_wp2
 go_ret
 exact ⟨rfl, below_al (Below.refl _ _) _⟩
theorem msgid_15 (fl : Fl) (gw rad time : Int) (timed : Bool) (tid mid code : Int) (name data : List UInt8) (w : World) :
  Calls Tryz.prog 413 #[.agg (Ms.cs ⟨15, fl, gw, rad, time, timed, tid, mid, code, name, data⟩)] w fun e w' => e = .returned (.bool (!(mid == 0))) ∧ Below w.heap.size w w' := by
 unfold Ms.cs
 go_enter Tryz.func413, Tryz.ntmps413
 go_wp2
 go_ret
 exact ⟨rfl, below_al (Below.refl _ _) _⟩
theorem msgid_16 (fl : Fl) (gw rad time : Int) (timed : Bool) (tid mid code : Int) (name data : List UInt8) (w : World) :
  Calls Tryz.prog 413 #[.agg (Ms.cs ⟨16, fl, gw, rad, time, timed, tid, mid, code, name, data⟩)] w fun e w' => e = .returned (.bool (!(mid == 0))) ∧ Below w.heap.size w w' := by
 unfold Ms.cs
 go_enter Tryz.func413, Tryz.ntmps413
 go_wp2
 go_ret
 exact ⟨rfl, below_al (Below.refl _ _) _⟩
theorem msgid_18 (fl : Fl) (gw rad time : Int) (timed : Bool) (tid mid code : Int) (name data : List UInt8) (w : World) :
  Calls Tryz.prog 413 #[.agg (Ms.cs ⟨18, fl, gw, rad, time, timed, tid, mid, code, name, data⟩)] w fun e w' => e = .returned (.bool (!(mid == 0))) ∧ Below w.heap.size w w' := by
 unfold Ms.cs
 go_enter Tryz.func413, Tryz.ntmps413
 go_wp2
 go_ret
 exact ⟨rfl, below_al (Below.refl _ _) _⟩
theorem msgid_19 (fl : Fl) (gw rad time : Int) (timed : Bool) (tid mid code : Int) (name data : List UInt8) (w : World) :
  Calls Tryz.prog 413 #[.agg (Ms.cs ⟨19, fl, gw, rad, time, timed, tid, mid, code, name, data⟩)] w fun e w' => e = .returned (.bool (true)) ∧ Below w.heap.size w w' := by
 unfold Ms.cs
 go_enter Tryz.func413, Tryz.ntmps413
 go_wp2
 go_ret
 exact ⟨rfl, below_al (Below.refl _ _) _⟩
theorem msgid_20 (fl : Fl) (gw rad time : Int) (timed : Bool) (tid mid code : Int) (name data : List UInt8) (w : World) :
  Calls Tryz.prog 413 #[.agg (Ms.cs ⟨20, fl, gw, rad, time, timed, tid, mid, code, name, data⟩)] w fun e w' => e = .returned (.bool (!(mid == 0))) ∧ Below w.heap.size w w' := by
 unfold Ms.cs
 go_enter Tryz.func413, Tryz.ntmps413
 go_wp2
 go_ret
 exact ⟨rfl, below_al (Below.refl _ _) _⟩
theorem msgid_21 (fl : Fl) (gw rad time : Int) (timed : Bool) (tid mid code : Int) (name data : List UInt8) (w : World) :
  Calls Tryz.prog 413 #[.agg (Ms.cs ⟨21, fl, gw, rad, time, timed, tid, mid, code, name, data⟩)] w fun e w' => e = .returned (.bool (!(mid == 0))) ∧ Below w.heap.size w w' := by
 unfold Ms.cs
 go_enter Tryz.func413, Tryz.ntmps413
 go_wp2
 go_ret
 exact ⟨rfl, below_al (Below.refl _ _) _⟩
theorem msgid_22 (fl : Fl) (gw rad time : Int) (timed : Bool) (tid mid code : Int) (name data : List UInt8) (w : World) :
  Calls Tryz.prog 413 #[.agg (Ms.cs ⟨22, fl, gw, rad, time, timed, tid, mid, code, name, data⟩)] w fun e w' => e = .returned (.bool (true)) ∧ Below w.heap.size w w' := by
 unfold Ms.cs
 go_enter Tryz.func413, Tryz.ntmps413
 go_wp2
 go_ret
 exact ⟨rfl, below_al (Below.refl _ _) _⟩
theorem msgid_23 (fl : Fl) (gw rad time : Int) (timed : Bool) (tid mid code : Int) (name data : List UInt8) (w : World) :
  Calls Tryz.prog 413 #[.agg (Ms.cs ⟨23, fl, gw, rad, time, timed, tid, mid, code, name, data⟩)] w fun e w' => e = .returned (.bool (true)) ∧ Below w.heap.size w w' := by
 unfold Ms.cs
 go_enter Tryz.func413, Tryz.ntmps413
 go_wp2
 go_ret
 exact ⟨rfl, below_al (Below.refl _ _) _⟩
theorem msgid_24 (fl : Fl) (gw rad time : Int) (timed : Bool) (tid mid code : Int) (name data : List UInt8) (w : World) :
  Calls Tryz.prog 413 #[.agg (Ms.cs ⟨24, fl, gw, rad, time, timed, tid, mid, code, name, data⟩)] w fun e w' => e = .returned (.bool (true)) ∧ Below w.heap.size w w' := by
 unfold Ms.cs
 go_enter Tryz.func413, Tryz.ntmps413
 go_wp2
 go_ret
 exact ⟨rfl, below_al (Below.refl _ _) _⟩
theorem msgid_26 (fl : Fl) (gw rad time : Int) (timed : Bool) (tid mid code : Int) (name data : List UInt8) (w : World) :
  Calls Tryz.prog 413 #[.agg (Ms.cs ⟨26, fl, gw, rad, time, timed, tid, mid, code, name, data⟩)] w fun e w' => e = .returned (.bool (true)) ∧ Below w.heap.size w w' := by
 unfold Ms.cs
 go_enter Tryz.func413, Tryz.ntmps413
 go_wp2
 go_ret
 exact ⟨rfl, below_al (Below.refl _ _) _⟩
theorem msgid_27 (fl : Fl) (gw rad time : Int) (timed : Bool) (tid mid code : Int) (name data : List UInt8) (w : World) :
  Calls Tryz.prog 413 #[.agg (Ms.cs ⟨27, fl, gw, rad, time, timed, tid, mid, code, name, data⟩)] w fun e w' => e = .returned (.bool (true)) ∧ Below w.heap.size w w' := by
 unfold Ms.cs
 go_enter Tryz.func413, Tryz.ntmps413
 go_wp2
 go_ret
 exact ⟨rfl, below_al (Below.refl _ _) _⟩
theorem msgid_28 (fl : Fl) (gw rad time : Int) (timed : Bool) (tid mid code : Int) (name data : List UInt8) (w : World) :
  Calls Tryz.prog 413 #[.agg (Ms.cs ⟨28, fl, gw, rad, time, timed, tid, mid, code, name, data⟩)] w fun e w' => e = .returned (.bool (true)) ∧ Below w.heap.size w w' := by
 unfold Ms.cs
 go_enter Tryz.func413, Tryz.ntmps413
 go_wp2
 go_ret
 exact ⟨rfl, below_al (Below.refl _ _) _⟩
theorem msgid_29 (fl : Fl) (gw rad time : Int) (timed : Bool) (tid mid code : Int) (name data : List UInt8) (w : World) :
  Calls Tryz.prog 413 #[.agg (Ms.cs ⟨29, fl, gw, rad, time, timed, tid, mid, code, name, data⟩)] w fun e w' => e = .returned (.bool (true)) ∧ Below w.heap.size w w' := by
 unfold Ms.cs
 go_enter Tryz.func413, Tryz.ntmps413
 go_wp2
 go_ret
 exact ⟨rfl, below_al (Below.refl _ _) _⟩
theorem msgid_any (m : Ms) (hk : kindM m.ty = true) (w : World) :
  Calls Tryz.prog 413 #[.agg m.cs] w fun e w' => e = .returned (.bool (msgIdB m)) ∧ Below w.heap.size w w' := by
 obtain ⟨ty, fl, gw, rad, time, timed, tid, mid, code, name, data⟩ := m
 rcases kinds_of hk with rfl | rfl | rfl | rfl | rfl | rfl | rfl | rfl | rfl | rfl | rfl | rfl | rfl | rfl | rfl | rfl | rfl | rfl | rfl | rfl | rfl | rfl | rfl | rfl | rfl | rfl | rfl
 ·exact msgid_0 fl gw rad time timed tid mid code name data w
 ·exact msgid_1 fl gw rad time timed tid mid code name data w
 ·exact msgid_2 fl gw rad time timed tid mid code name data w
 ·exact msgid_4 fl gw rad time timed tid mid code name data w
 ·exact msgid_5 fl gw rad time timed tid mid code name data w
 ·exact msgid_6 fl gw rad time timed tid mid code name data w
 ·exact msgid_7 fl gw rad time timed tid mid code name data w
 ·exact msgid_8 fl gw rad time timed tid mid code name data w
 ·exact msgid_9 fl gw rad time timed tid mid code name data w
 ·exact msgid_10 fl gw rad time timed tid mid code name data w
 ·exact msgid_11 fl gw rad time timed tid mid code name data w
 ·exact msgid_12 fl gw rad time timed tid mid code name data w
 ·exact msgid_13 fl gw rad time timed tid mid code name data w
 ·exact msgid_14 fl gw rad time timed tid mid code name data w
 ·exact msgid_15 fl gw rad time timed tid mid code name data w
 ·exact msgid_16 fl gw rad time timed tid mid code name data w
 ·exact msgid_18 fl gw rad time timed tid mid code name data w
 ·exact msgid_19 fl gw rad time timed tid mid code name data w
 ·exact msgid_20 fl gw rad time timed tid mid code name data w
 ·exact msgid_21 fl gw rad time timed tid mid code name data w
 ·exact msgid_22 fl gw rad time timed tid mid code name data w
 ·exact msgid_23 fl gw rad time timed tid mid code name data w
 ·exact msgid_24 fl gw rad time timed tid mid code name data w
 ·exact msgid_26 fl gw rad time timed tid mid code name data w
 ·exact msgid_27 fl gw rad time timed tid mid code name data w
 ·exact msgid_28 fl gw rad time timed tid mid code name data w
 ·exact msgid_29 fl gw rad time timed tid mid code name data w
def topicIdF (m : Ms) : Int := if (m.ty = 18 ∨ m.ty = 20) ∧ m.fl.typ = 0 then 0 else if m.ty = 18 ∨ m.ty = 20 ∨ m.ty = 12 ∨ m.ty = 10 then (if m.fl.typ = 2 then (if (nameOfF m.tid).2 = true then 0 else 10) else if m.tid < 1 ∨ 65534 < m.tid then 2 else 0) else 0
theorem topicid_0 (fl : Fl) (gw rad time : Int) (timed : Bool) (tid mid code : Int) (name data : List UInt8) (w : World) :
  Calls Tryz.prog 414 #[.agg (Ms.cs ⟨0, fl, gw, rad, time, timed, tid, mid, code, name, data⟩)] w fun e w' => e = .returned (.int .i64 (topicIdF ⟨0, fl, gw, rad, time, timed, tid, mid, code, name, data⟩)) ∧ Below w.heap.size w w' := by
 have HV := Lib.hid (show topicIdF ⟨0, fl, gw, rad, time, timed, tid, mid, code, name, data⟩ = 0 by simp [topicIdF])
 rw [HV.out]
 unfold Ms.cs
 go_enter Tryz.func414, Tryz.ntmps414
 go_wp2
 go_ret
 exact ⟨rfl, below_al (Below.refl _ _) _⟩
theorem topicid_1 (fl : Fl) (gw rad time : Int) (timed : Bool) (tid mid code : Int) (name data : List UInt8) (w : World) :
  Calls Tryz.prog 414 #[.agg (Ms.cs ⟨1, fl, gw, rad, time, timed, tid, mid, code, name, data⟩)] w fun e w' => e = .returned (.int .i64 (topicIdF ⟨1, fl, gw, rad, time, timed, tid, mid, code, name, data⟩)) ∧ Below w.heap.size w w' := by
 have HV := Lib.hid (show topicIdF ⟨1, fl, gw, rad, time, timed, tid, mid, code, name, data⟩ = 0 by simp [topicIdF])
 rw [HV.out]
 unfold Ms.cs
 go_enter Tryz.func414, Tryz.ntmps414
 go_wp2
 go_ret
 exact ⟨rfl, below_al (Below.refl _ _) _⟩
theorem topicid_2 (fl : Fl) (gw rad time : Int) (timed : Bool) (tid mid code : Int) (name data : List UInt8) (w : World) :
  Calls Tryz.prog 414 #[.agg (Ms.cs ⟨2, fl, gw, rad, time, timed, tid, mid, code, name, data⟩)] w fun e w' => e = .returned (.int .i64 (topicIdF ⟨2, fl, gw, rad, time, timed, tid, mid, code, name, data⟩)) ∧ Below w.heap.size w w' := by
 have HV := Lib.hid (show topicIdF ⟨2, fl, gw, rad, time, timed, tid, mid, code, name, data⟩ = 0 by simp [topicIdF])
 rw [HV.out]
 unfold Ms.cs
 go_enter Tryz.func414, Tryz.ntmps414
 go_wp2
 go_ret
 exact ⟨rfl, below_al (Below.refl _ _) _⟩
theorem topicid_4 (fl : Fl) (gw rad time : Int) (timed : Bool) (tid mid code : Int) (name data : List UInt8) (w : World) :
  Calls Tryz.prog 414 #[.agg (Ms.cs ⟨4, fl, gw, rad, time, timed, tid, mid, code, name, data⟩)] w fun e w' => e = .returned (.int .i64 (topicIdF ⟨4, fl, gw, rad, time, timed, tid, mid, code, name, data⟩)) ∧ Below w.heap.size w w' := by
 have HV := Lib.hid (show topicIdF ⟨4, fl, gw, rad, time, timed, tid, mid, code, name, data⟩ = 0 by simp [topicIdF])
 rw [HV.out]
 unfold Ms.cs
 go_enter Tryz.func414, Tryz.ntmps414
 go_wp2
 go_ret
 exact ⟨rfl, below_al (Below.refl _ _) _⟩
theorem topicid_5 (fl : Fl) (gw rad time : Int) (timed : Bool) (tid mid code : Int) (name data : List UInt8) (w : World) :
  Calls Tryz.prog 414 #[.agg (Ms.cs ⟨5, fl, gw, rad, time, timed, tid, mid, code, name, data⟩)] w fun e w' => e = .returned (.int .i64 (topicIdF ⟨5, fl, gw, rad, time, timed, tid, mid, code, name, data⟩)) ∧ Below w.heap.size w w' := by
 have HV := Lib.hid (show topicIdF ⟨5, fl, gw, rad, time, timed, tid, mid, code, name, data⟩ = 0 by simp [topicIdF])
 rw [HV.out]
 unfold Ms.cs
 go_enter Tryz.func414, Tryz.ntmps414
 go_wp2
 go_ret
 exact ⟨rfl, below_al (Below.refl _ _) _⟩
theorem topicid_6 (fl : Fl) (gw rad time : Int) (timed : Bool) (tid mid code : Int) (name data : List UInt8) (w : World) :
  Calls Tryz.prog 414 #[.agg (Ms.cs ⟨6, fl, gw, rad, time, timed, tid, mid, code, name, data⟩)] w fun e w' => e = .returned (.int .i64 (topicIdF ⟨6, fl, gw, rad, time, timed, tid, mid, code, name, data⟩)) ∧ Below w.heap.size w w' := by
 have HV := Lib.hid (show topicIdF ⟨6, fl, gw, rad, time, timed, tid, mid, code, name, data⟩ = 0 by simp [topicIdF])
 rw [HV.out]
 unfold Ms.cs
 go_enter Tryz.func414, Tryz.ntmps414
 go_wp2
 go_ret
 exact ⟨rfl, below_al (Below.refl _ _) _⟩
theorem topicid_7 (fl : Fl) (gw rad time : Int) (timed : Bool) (tid mid code : Int) (name data : List UInt8) (w : World) :
  Calls Tryz.prog 414 #[.agg (Ms.cs ⟨7, fl, gw, rad, time, timed, tid, mid, code, name, data⟩)] w fun e w' => e = .returned (.int .i64 (topicIdF ⟨7, fl, gw, rad, time, timed, tid, mid, code, name, data⟩)) ∧ Below w.heap.size w w' := by
 have HV := Lib.hid (show topicIdF ⟨7, fl, gw, rad, time, timed, tid, mid, code, name, data⟩ = 0 by simp [topicIdF])
 rw [HV.out]
 unfold Ms.cs
 go_enter Tryz.func414, Tryz.ntmps414
 go_wp2
 go_ret
 exact ⟨rfl, below_al (Below.refl _ _) _⟩
theorem topicid_8 (fl : Fl) (gw rad time : Int) (timed : Bool) (tid mid code : Int) (name data : List UInt8) (w : World) :
  Calls Tryz.prog 414 #[.agg (Ms.cs ⟨8, fl, gw, rad, time, timed, tid, mid, code, name, data⟩)] w fun e w' => e = .returned (.int .i64 (topicIdF ⟨8, fl, gw, rad, time, timed, tid, mid, code, name, data⟩)) ∧ Below w.heap.size w w' := by
 have HV := Lib.hid (show topicIdF ⟨8, fl, gw, rad, time, timed, tid, mid, code, name, data⟩ = 0 by simp [topicIdF])
 rw [HV.out]
 unfold Ms.cs
 go_enter Tryz.func414, Tryz.ntmps414
 go_wp2
 go_ret
 exact ⟨rfl, below_al (Below.refl _ _) _⟩
theorem topicid_9 (fl : Fl) (gw rad time : Int) (timed : Bool) (tid mid code : Int) (name data : List UInt8) (w : World) :
  Calls Tryz.prog 414 #[.agg (Ms.cs ⟨9, fl, gw, rad, time, timed, tid, mid, code, name, data⟩)] w fun e w' => e = .returned (.int .i64 (topicIdF ⟨9, fl, gw, rad, time, timed, tid, mid, code, name, data⟩)) ∧ Below w.heap.size w w' := by
 have HV := Lib.hid (show topicIdF ⟨9, fl, gw, rad, time, timed, tid, mid, code, name, data⟩ = 0 by simp [topicIdF])
 rw [HV.out]
 unfold Ms.cs
 go_enter Tryz.func414, Tryz.ntmps414
 go_wp2
 go_ret
 exact ⟨rfl, below_al (Below.refl _ _) _⟩
theorem topicid_10 (fl : Fl) (gw rad time : Int) (timed : Bool) (tid mid code : Int) (name data : List UInt8) (w : World) :
  Calls Tryz.prog 414 #[.agg (Ms.cs ⟨10, fl, gw, rad, time, timed, tid, mid, code, name, data⟩)] w fun e w' => e = .returned (.int .i64 (topicIdF ⟨10, fl, gw, rad, time, timed, tid, mid, code, name, data⟩)) ∧ Below w.heap.size w w' := by
 have h0 : True := trivial
 by_cases h2 : fl.typ = 2
 ·have d2 : (fl.typ == 2) = true := by simpa using h2
  have HV := Lib.hid (show topicIdF ⟨10, fl, gw, rad, time, timed, tid, mid, code, name, data⟩ = if (nameOfF tid).2 = true then 0 else 10 by simp [topicIdF, h2])
  rw [HV.out]
  have H := fun w => nameof_any tid w
  obtain ⟨r2, hr2⟩ : ∃ r2, r2 = (nameOfF tid).2 := ⟨_, rfl⟩
  rw [← hr2] at H ⊢
  have HH := Lib.hid H
  clear h0 h2 H hr2 HV
  cases r2
  all_goals
   unfold Ms.cs
   go_enter Tryz.func414, Tryz.ntmps414
   go_wp2_with fail
   refine (HH.out _).mono ?_
   rintro r w1 ⟨rfl, hb⟩
   go_wp2
   go_ret
   exact ⟨rfl, (below_al (Below.refl _ w) _).trans (hb.mono (below_al (Below.refl _ _) _).size)⟩
 ·have d2 : (fl.typ == 2) = false := by simpa using h2
  by_cases h3 : tid < 1
  ·have d3 : decide (tid < 1) = true := by simpa using h3
   have HV := Lib.hid (show topicIdF ⟨10, fl, gw, rad, time, timed, tid, mid, code, name, data⟩ = 2 by simp [topicIdF, h0, h2, h3])
   rw [HV.out]
   clear h0 h2 h3
   unfold Ms.cs
   go_enter Tryz.func414, Tryz.ntmps414
   go_wp2
   go_ret
   exact ⟨rfl, below_al (Below.refl _ _) _⟩
  ·have d3 : decide (tid < 1) = false := by simpa using h3
   by_cases h4 : 65534 < tid
   ·have d4 : decide (65534 < tid) = true := by simpa using h4
    have HV := Lib.hid (show topicIdF ⟨10, fl, gw, rad, time, timed, tid, mid, code, name, data⟩ = 2 by simp [topicIdF, h0, h2, h4])
    rw [HV.out]
    clear h0 h2 h3 h4
    unfold Ms.cs
    go_enter Tryz.func414, Tryz.ntmps414
    go_wp2
    go_ret
    exact ⟨rfl, below_al (Below.refl _ _) _⟩
   ·have d4 : decide (65534 < tid) = false := by simpa using h4
    have HV := Lib.hid (show topicIdF ⟨10, fl, gw, rad, time, timed, tid, mid, code, name, data⟩ = 0 by simp [topicIdF, h0, h2, h3, h4])
    rw [HV.out]
    clear h0 h2 h3 h4
    unfold Ms.cs
    go_enter Tryz.func414, Tryz.ntmps414
    go_wp2
    go_ret
    exact ⟨rfl, below_al (Below.refl _ _) _⟩
theorem topicid_11 (fl : Fl) (gw rad time : Int) (timed : Bool) (tid mid code : Int) (name data : List UInt8) (w : World) :
  Calls Tryz.prog 414 #[.agg (Ms.cs ⟨11, fl, gw, rad, time, timed, tid, mid, code, name, data⟩)] w fun e w' => e = .returned (.int .i64 (topicIdF ⟨11, fl, gw, rad, time, timed, tid, mid, code, name, data⟩)) ∧ Below w.heap.size w w' := by
 have HV := Lib.hid (show topicIdF ⟨11, fl, gw, rad, time, timed, tid, mid, code, name, data⟩ = 0 by simp [topicIdF])
 rw [HV.out]
 unfold Ms.cs
 go_enter Tryz.func414, Tryz.ntmps414
 go_wp2
 go_ret
 exact ⟨rfl, below_al (Below.refl _ _) _⟩
theorem topicid_12 (fl : Fl) (gw rad time : Int) (timed : Bool) (tid mid code : Int) (name data : List UInt8) (w : World) :
  Calls Tryz.prog 414 #[.agg (Ms.cs ⟨12, fl, gw, rad, time, timed, tid, mid, code, name, data⟩)] w fun e w' => e = .returned (.int .i64 (topicIdF ⟨12, fl, gw, rad, time, timed, tid, mid, code, name, data⟩)) ∧ Below w.heap.size w w' := by
 have h0 : True := trivial
 by_cases h2 : fl.typ = 2
 ·have d2 : (fl.typ == 2) = true := by simpa using h2
  have HV := Lib.hid (show topicIdF ⟨12, fl, gw, rad, time, timed, tid, mid, code, name, data⟩ = if (nameOfF tid).2 = true then 0 else 10 by simp [topicIdF, h2])
  rw [HV.out]
  have H := fun w => nameof_any tid w
  obtain ⟨r2, hr2⟩ : ∃ r2, r2 = (nameOfF tid).2 := ⟨_, rfl⟩
  rw [← hr2] at H ⊢
  have HH := Lib.hid H
  clear h0 h2 H hr2 HV
  cases r2
  all_goals
   unfold Ms.cs
   go_enter Tryz.func414, Tryz.ntmps414
   go_wp2_with fail
   refine (HH.out _).mono ?_
   rintro r w1 ⟨rfl, hb⟩
   go_wp2
   go_ret
   exact ⟨rfl, (below_al (Below.refl _ w) _).trans (hb.mono (below_al (Below.refl _ _) _).size)⟩
 ·have d2 : (fl.typ == 2) = false := by simpa using h2
  by_cases h3 : tid < 1
  ·have d3 : decide (tid < 1) = true := by simpa using h3
   have HV := Lib.hid (show topicIdF ⟨12, fl, gw, rad, time, timed, tid, mid, code, name, data⟩ = 2 by simp [topicIdF, h0, h2, h3])
   rw [HV.out]
   clear h0 h2 h3
   unfold Ms.cs
   go_enter Tryz.func414, Tryz.ntmps414
   go_wp2
   go_ret
   exact ⟨rfl, below_al (Below.refl _ _) _⟩
  ·have d3 : decide (tid < 1) = false := by simpa using h3
   by_cases h4 : 65534 < tid
   ·have d4 : decide (65534 < tid) = true := by simpa using h4
    have HV := Lib.hid (show topicIdF ⟨12, fl, gw, rad, time, timed, tid, mid, code, name, data⟩ = 2 by simp [topicIdF, h0, h2, h4])
    rw [HV.out]
    clear h0 h2 h3 h4
    unfold Ms.cs
    go_enter Tryz.func414, Tryz.ntmps414
    go_wp2
    go_ret
    exact ⟨rfl, below_al (Below.refl _ _) _⟩
   ·have d4 : decide (65534 < tid) = false := by simpa using h4
    have HV := Lib.hid (show topicIdF ⟨12, fl, gw, rad, time, timed, tid, mid, code, name, data⟩ = 0 by simp [topicIdF, h0, h2, h3, h4])
    rw [HV.out]
    clear h0 h2 h3 h4
    unfold Ms.cs
    go_enter Tryz.func414, Tryz.ntmps414
    go_wp2
    go_ret
    exact ⟨rfl, below_al (Below.refl _ _) _⟩
theorem topicid_13 (fl : Fl) (gw rad time : Int) (timed : Bool) (tid mid code : Int) (name data : List UInt8) (w : World) :
  Calls Tryz.prog 414 #[.agg (Ms.cs ⟨13, fl, gw, rad, time, timed, tid, mid, code, name, data⟩)] w fun e w' => e = .returned (.int .i64 (topicIdF ⟨13, fl, gw, rad, time, timed, tid, mid, code, name, data⟩)) ∧ Below w.heap.size w w' := by
 have HV := Lib.hid (show topicIdF ⟨13, fl, gw, rad, time, timed, tid, mid, code, name, data⟩ = 0 by simp [topicIdF])
 rw [HV.out]
 unfold Ms.cs
 go_enter Tryz.func414, Tryz.ntmps414
 go_wp2
 go_ret
 exact ⟨rfl, below_al (Below.refl _ _) _⟩
theorem topicid_14 (fl : Fl) (gw rad time : Int) (timed : Bool) (tid mid code : Int) (name data : List UInt8) (w : World) :
  Calls Tryz.prog 414 #[.agg (Ms.cs ⟨14, fl, gw, rad, time, timed, tid, mid, code, name, data⟩)] w fun e w' => e = .returned (.int .i64 (topicIdF ⟨14, fl, gw, rad, time, timed, tid, mid, code, name, data⟩)) ∧ Below w.heap.size w w' := by
 have HV := Lib.hid (show topicIdF ⟨14, fl, gw, rad, time, timed, tid, mid, code, name, data⟩ = 0 by simp [topicIdF])
 rw [HV.out]
 unfold Ms.cs
 go_enter Tryz.func414, Tryz.ntmps414
 go_wp2
 go_ret
 exact ⟨rfl, below_al (Below.refl _ _) _⟩
theorem topicid_15 (fl : Fl) (gw rad time : Int) (timed : Bool) (tid mid code : Int) (name data : List UInt8) (w : World) :
  Calls Tryz.prog 414 #[.agg (Ms.cs ⟨15, fl, gw, rad, time, timed, tid, mid, code, name, data⟩)] w fun e w' => e = .returned (.int .i64 (topicIdF ⟨15, fl, gw, rad, time, timed, tid, mid, code, name, data⟩)) ∧ Below w.heap.size w w' := by
 have HV := Lib.hid (show topicIdF ⟨15, fl, gw, rad, time, timed, tid, mid, code, name, data⟩ = 0 by simp [topicIdF])
 rw [HV.out]
 unfold Ms.cs
 go_enter Tryz.func414, Tryz.ntmps414
 go_wp2
 go_ret
 exact ⟨rfl, below_al (Below.refl _ _) _⟩
theorem topicid_16 (fl : Fl) (gw rad time : Int) (timed : Bool) (tid mid code : Int) (name data : List UInt8) (w : World) :
  Calls Tryz.prog 414 #[.agg (Ms.cs ⟨16, fl, gw, rad, time, timed, tid, mid, code, name, data⟩)] w fun e w' => e = .returned (.int .i64 (topicIdF ⟨16, fl, gw, rad, time, timed, tid, mid, code, name, data⟩)) ∧ Below w.heap.size w w' := by
 have HV := Lib.hid (show topicIdF ⟨16, fl, gw, rad, time, timed, tid, mid, code, name, data⟩ = 0 by simp [topicIdF])
 rw [HV.out]
 unfold Ms.cs
 go_enter Tryz.func414, Tryz.ntmps414
 go_wp2
 go_ret
 exact ⟨rfl, below_al (Below.refl _ _) _⟩
theorem topicid_18 (fl : Fl) (gw rad time : Int) (timed : Bool) (tid mid code : Int) (name data : List UInt8) (w : World) :
  Calls Tryz.prog 414 #[.agg (Ms.cs ⟨18, fl, gw, rad, time, timed, tid, mid, code, name, data⟩)] w fun e w' => e = .returned (.int .i64 (topicIdF ⟨18, fl, gw, rad, time, timed, tid, mid, code, name, data⟩)) ∧ Below w.heap.size w w' := by
 by_cases h0 : fl.typ = 0
 ·have HV := Lib.hid (show topicIdF ⟨18, fl, gw, rad, time, timed, tid, mid, code, name, data⟩ = 0 by simp [topicIdF, h0])
  rw [HV.out]
  have d0 : (fl.typ == 0) = true := by simpa using h0
  clear h0
  unfold Ms.cs
  go_enter Tryz.func414, Tryz.ntmps414
  go_wp2
  go_ret
  exact ⟨rfl, below_al (Below.refl _ _) _⟩
 have d0 : (fl.typ == 0) = false := by simpa using h0
 by_cases h2 : fl.typ = 2
 ·have d2 : (fl.typ == 2) = true := by simpa using h2
  have HV := Lib.hid (show topicIdF ⟨18, fl, gw, rad, time, timed, tid, mid, code, name, data⟩ = if (nameOfF tid).2 = true then 0 else 10 by simp [topicIdF, h2])
  rw [HV.out]
  have H := fun w => nameof_any tid w
  obtain ⟨r2, hr2⟩ : ∃ r2, r2 = (nameOfF tid).2 := ⟨_, rfl⟩
  rw [← hr2] at H ⊢
  have HH := Lib.hid H
  clear h0 h2 H hr2 HV
  cases r2
  all_goals
   unfold Ms.cs
   go_enter Tryz.func414, Tryz.ntmps414
   go_wp2_with fail
   refine (HH.out _).mono ?_
   rintro r w1 ⟨rfl, hb⟩
   go_wp2
   go_ret
   exact ⟨rfl, (below_al (Below.refl _ w) _).trans (hb.mono (below_al (Below.refl _ _) _).size)⟩
 ·have d2 : (fl.typ == 2) = false := by simpa using h2
  by_cases h3 : tid < 1
  ·have d3 : decide (tid < 1) = true := by simpa using h3
   have HV := Lib.hid (show topicIdF ⟨18, fl, gw, rad, time, timed, tid, mid, code, name, data⟩ = 2 by simp [topicIdF, h0, h2, h3])
   rw [HV.out]
   clear h0 h2 h3
   unfold Ms.cs
   go_enter Tryz.func414, Tryz.ntmps414
   go_wp2
   go_ret
   exact ⟨rfl, below_al (Below.refl _ _) _⟩
  ·have d3 : decide (tid < 1) = false := by simpa using h3
   by_cases h4 : 65534 < tid
   ·have d4 : decide (65534 < tid) = true := by simpa using h4
    have HV := Lib.hid (show topicIdF ⟨18, fl, gw, rad, time, timed, tid, mid, code, name, data⟩ = 2 by simp [topicIdF, h0, h2, h4])
    rw [HV.out]
    clear h0 h2 h3 h4
    unfold Ms.cs
    go_enter Tryz.func414, Tryz.ntmps414
    go_wp2
    go_ret
    exact ⟨rfl, below_al (Below.refl _ _) _⟩
   ·have d4 : decide (65534 < tid) = false := by simpa using h4
    have HV := Lib.hid (show topicIdF ⟨18, fl, gw, rad, time, timed, tid, mid, code, name, data⟩ = 0 by simp [topicIdF, h0, h2, h3, h4])
    rw [HV.out]
    clear h0 h2 h3 h4
    unfold Ms.cs
    go_enter Tryz.func414, Tryz.ntmps414
    go_wp2
    go_ret
    exact ⟨rfl, below_al (Below.refl _ _) _⟩
theorem topicid_19 (fl : Fl) (gw rad time : Int) (timed : Bool) (tid mid code : Int) (name data : List UInt8) (w : World) :
  Calls Tryz.prog 414 #[.agg (Ms.cs ⟨19, fl, gw, rad, time, timed, tid, mid, code, name, data⟩)] w fun e w' => e = .returned (.int .i64 (topicIdF ⟨19, fl, gw, rad, time, timed, tid, mid, code, name, data⟩)) ∧ Below w.heap.size w w' := by
 have HV := Lib.hid (show topicIdF ⟨19, fl, gw, rad, time, timed, tid, mid, code, name, data⟩ = 0 by simp [topicIdF])
 rw [HV.out]
 unfold Ms.cs
 go_enter Tryz.func414, Tryz.ntmps414
 go_wp2
 go_ret
 exact ⟨rfl, below_al (Below.refl _ _) _⟩
theorem topicid_20 (fl : Fl) (gw rad time : Int) (timed : Bool) (tid mid code : Int) (name data : List UInt8) (w : World) :
  Calls Tryz.prog 414 #[.agg (Ms.cs ⟨20, fl, gw, rad, time, timed, tid, mid, code, name, data⟩)] w fun e w' => e = .returned (.int .i64 (topicIdF ⟨20, fl, gw, rad, time, timed, tid, mid, code, name, data⟩)) ∧ Below w.heap.size w w' := by
 by_cases h0 : fl.typ = 0
 ·have HV := Lib.hid (show topicIdF ⟨20, fl, gw, rad, time, timed, tid, mid, code, name, data⟩ = 0 by simp [topicIdF, h0])
  rw [HV.out]
  have d0 : (fl.typ == 0) = true := by simpa using h0
  clear h0
  unfold Ms.cs
  go_enter Tryz.func414, Tryz.ntmps414
  go_wp2
  go_ret
  exact ⟨rfl, below_al (Below.refl _ _) _⟩
 have d0 : (fl.typ == 0) = false := by simpa using h0
 by_cases h2 : fl.typ = 2
 ·have d2 : (fl.typ == 2) = true := by simpa using h2
  have HV := Lib.hid (show topicIdF ⟨20, fl, gw, rad, time, timed, tid, mid, code, name, data⟩ = if (nameOfF tid).2 = true then 0 else 10 by simp [topicIdF, h2])
  rw [HV.out]
  have H := fun w => nameof_any tid w
  obtain ⟨r2, hr2⟩ : ∃ r2, r2 = (nameOfF tid).2 := ⟨_, rfl⟩
  rw [← hr2] at H ⊢
  have HH := Lib.hid H
  clear h0 h2 H hr2 HV
  cases r2
  all_goals
   unfold Ms.cs
   go_enter Tryz.func414, Tryz.ntmps414
   go_wp2_with fail
   refine (HH.out _).mono ?_
   rintro r w1 ⟨rfl, hb⟩
   go_wp2
   go_ret
   exact ⟨rfl, (below_al (Below.refl _ w) _).trans (hb.mono (below_al (Below.refl _ _) _).size)⟩
 ·have d2 : (fl.typ == 2) = false := by simpa using h2
  by_cases h3 : tid < 1
  ·have d3 : decide (tid < 1) = true := by simpa using h3
   have HV := Lib.hid (show topicIdF ⟨20, fl, gw, rad, time, timed, tid, mid, code, name, data⟩ = 2 by simp [topicIdF, h0, h2, h3])
   rw [HV.out]
   clear h0 h2 h3
   unfold Ms.cs
   go_enter Tryz.func414, Tryz.ntmps414
   go_wp2
   go_ret
   exact ⟨rfl, below_al (Below.refl _ _) _⟩
  ·have d3 : decide (tid < 1) = false := by simpa using h3
   by_cases h4 : 65534 < tid
   ·have d4 : decide (65534 < tid) = true := by simpa using h4
    have HV := Lib.hid (show topicIdF ⟨20, fl, gw, rad, time, timed, tid, mid, code, name, data⟩ = 2 by simp [topicIdF, h0, h2, h4])
    rw [HV.out]
    clear h0 h2 h3 h4
    unfold Ms.cs
    go_enter Tryz.func414, Tryz.ntmps414
    go_wp2
    go_ret
    exact ⟨rfl, below_al (Below.refl _ _) _⟩
   ·have d4 : decide (65534 < tid) = false := by simpa using h4
    have HV := Lib.hid (show topicIdF ⟨20, fl, gw, rad, time, timed, tid, mid, code, name, data⟩ = 0 by simp [topicIdF, h0, h2, h3, h4])
    rw [HV.out]
    clear h0 h2 h3 h4
    unfold Ms.cs
    go_enter Tryz.func414, Tryz.ntmps414
    go_wp2
    go_ret
    exact ⟨rfl, below_al (Below.refl _ _) _⟩
theorem topicid_21 (fl : Fl) (gw rad time : Int) (timed : Bool) (tid mid code : Int) (name data : List UInt8) (w : World) :
  Calls Tryz.prog 414 #[.agg (Ms.cs ⟨21, fl, gw, rad, time, timed, tid, mid, code, name, data⟩)] w fun e w' => e = .returned (.int .i64 (topicIdF ⟨21, fl, gw, rad, time, timed, tid, mid, code, name, data⟩)) ∧ Below w.heap.size w w' := by
 have HV := Lib.hid (show topicIdF ⟨21, fl, gw, rad, time, timed, tid, mid, code, name, data⟩ = 0 by simp [topicIdF])
 rw [HV.out]
 unfold Ms.cs
 go_enter Tryz.func414, Tryz.ntmps414
 go_wp2
 go_ret
 exact ⟨rfl, below_al (Below.refl _ _) _⟩
theorem topicid_22 (fl : Fl) (gw rad time : Int) (timed : Bool) (tid mid code : Int) (name data : List UInt8) (w : World) :
  Calls Tryz.prog 414 #[.agg (Ms.cs ⟨22, fl, gw, rad, time, timed, tid, mid, code, name, data⟩)] w fun e w' => e = .returned (.int .i64 (topicIdF ⟨22, fl, gw, rad, time, timed, tid, mid, code, name, data⟩)) ∧ Below w.heap.size w w' := by
 have HV := Lib.hid (show topicIdF ⟨22, fl, gw, rad, time, timed, tid, mid, code, name, data⟩ = 0 by simp [topicIdF])
 rw [HV.out]
 unfold Ms.cs
 go_enter Tryz.func414, Tryz.ntmps414
 go_wp2
 go_ret
 exact ⟨rfl, below_al (Below.refl _ _) _⟩
theorem topicid_23 (fl : Fl) (gw rad time : Int) (timed : Bool) (tid mid code : Int) (name data : List UInt8) (w : World) :
  Calls Tryz.prog 414 #[.agg (Ms.cs ⟨23, fl, gw, rad, time, timed, tid, mid, code, name, data⟩)] w fun e w' => e = .returned (.int .i64 (topicIdF ⟨23, fl, gw, rad, time, timed, tid, mid, code, name, data⟩)) ∧ Below w.heap.size w w' := by
 have HV := Lib.hid (show topicIdF ⟨23, fl, gw, rad, time, timed, tid, mid, code, name, data⟩ = 0 by simp [topicIdF])
 rw [HV.out]
 unfold Ms.cs
 go_enter Tryz.func414, Tryz.ntmps414
 go_wp2
 go_ret
 exact ⟨rfl, below_al (Below.refl _ _) _⟩
theorem topicid_24 (fl : Fl) (gw rad time : Int) (timed : Bool) (tid mid code : Int) (name data : List UInt8) (w : World) :
  Calls Tryz.prog 414 #[.agg (Ms.cs ⟨24, fl, gw, rad, time, timed, tid, mid, code, name, data⟩)] w fun e w' => e = .returned (.int .i64 (topicIdF ⟨24, fl, gw, rad, time, timed, tid, mid, code, name, data⟩)) ∧ Below w.heap.size w w' := by
 have HV := Lib.hid (show topicIdF ⟨24, fl, gw, rad, time, timed, tid, mid, code, name, data⟩ = 0 by simp [topicIdF])
 rw [HV.out]
 unfold Ms.cs
 go_enter Tryz.func414, Tryz.ntmps414
 go_wp2
 go_ret
 exact ⟨rfl, below_al (Below.refl _ _) _⟩
theorem topicid_26 (fl : Fl) (gw rad time : Int) (timed : Bool) (tid mid code : Int) (name data : List UInt8) (w : World) :
  Calls Tryz.prog 414 #[.agg (Ms.cs ⟨26, fl, gw, rad, time, timed, tid, mid, code, name, data⟩)] w fun e w' => e = .returned (.int .i64 (topicIdF ⟨26, fl, gw, rad, time, timed, tid, mid, code, name, data⟩)) ∧ Below w.heap.size w w' := by
 have HV := Lib.hid (show topicIdF ⟨26, fl, gw, rad, time, timed, tid, mid, code, name, data⟩ = 0 by simp [topicIdF])
 rw [HV.out]
 unfold Ms.cs
 go_enter Tryz.func414, Tryz.ntmps414
 go_wp2
 go_ret
 exact ⟨rfl, below_al (Below.refl _ _) _⟩
theorem topicid_27 (fl : Fl) (gw rad time : Int) (timed : Bool) (tid mid code : Int) (name data : List UInt8) (w : World) :
  Calls Tryz.prog 414 #[.agg (Ms.cs ⟨27, fl, gw, rad, time, timed, tid, mid, code, name, data⟩)] w fun e w' => e = .returned (.int .i64 (topicIdF ⟨27, fl, gw, rad, time, timed, tid, mid, code, name, data⟩)) ∧ Below w.heap.size w w' := by
 have HV := Lib.hid (show topicIdF ⟨27, fl, gw, rad, time, timed, tid, mid, code, name, data⟩ = 0 by simp [topicIdF])
 rw [HV.out]
 unfold Ms.cs
 go_enter Tryz.func414, Tryz.ntmps414
 go_wp2
 go_ret
 exact ⟨rfl, below_al (Below.refl _ _) _⟩
theorem topicid_28 (fl : Fl) (gw rad time : Int) (timed : Bool) (tid mid code : Int) (name data : List UInt8) (w : World) :
  Calls Tryz.prog 414 #[.agg (Ms.cs ⟨28, fl, gw, rad, time, timed, tid, mid, code, name, data⟩)] w fun e w' => e = .returned (.int .i64 (topicIdF ⟨28, fl, gw, rad, time, timed, tid, mid, code, name, data⟩)) ∧ Below w.heap.size w w' := by
 have HV := Lib.hid (show topicIdF ⟨28, fl, gw, rad, time, timed, tid, mid, code, name, data⟩ = 0 by simp [topicIdF])
 rw [HV.out]
 unfold Ms.cs
 go_enter Tryz.func414, Tryz.ntmps414
 go_wp2
 go_ret
 exact ⟨rfl, below_al (Below.refl _ _) _⟩
theorem topicid_29 (fl : Fl) (gw rad time : Int) (timed : Bool) (tid mid code : Int) (name data : List UInt8) (w : World) :
  Calls Tryz.prog 414 #[.agg (Ms.cs ⟨29, fl, gw, rad, time, timed, tid, mid, code, name, data⟩)] w fun e w' => e = .returned (.int .i64 (topicIdF ⟨29, fl, gw, rad, time, timed, tid, mid, code, name, data⟩)) ∧ Below w.heap.size w w' := by
 have HV := Lib.hid (show topicIdF ⟨29, fl, gw, rad, time, timed, tid, mid, code, name, data⟩ = 0 by simp [topicIdF])
 rw [HV.out]
 unfold Ms.cs
 go_enter Tryz.func414, Tryz.ntmps414
 go_wp2
 go_ret
 exact ⟨rfl, below_al (Below.refl _ _) _⟩
theorem topicid_any (m : Ms) (hk : kindM m.ty = true) (w : World) :
  Calls Tryz.prog 414 #[.agg m.cs] w fun e w' => e = .returned (.int .i64 (topicIdF m)) ∧ Below w.heap.size w w' := by
 obtain ⟨ty, fl, gw, rad, time, timed, tid, mid, code, name, data⟩ := m
 rcases kinds_of hk with rfl | rfl | rfl | rfl | rfl | rfl | rfl | rfl | rfl | rfl | rfl | rfl | rfl | rfl | rfl | rfl | rfl | rfl | rfl | rfl | rfl | rfl | rfl | rfl | rfl | rfl | rfl
 ·exact topicid_0 fl gw rad time timed tid mid code name data w
 ·exact topicid_1 fl gw rad time timed tid mid code name data w
 ·exact topicid_2 fl gw rad time timed tid mid code name data w
 ·exact topicid_4 fl gw rad time timed tid mid code name data w
 ·exact topicid_5 fl gw rad time timed tid mid code name data w
 ·exact topicid_6 fl gw rad time timed tid mid code name data w
 ·exact topicid_7 fl gw rad time timed tid mid code name data w
 ·exact topicid_8 fl gw rad time timed tid mid code name data w
 ·exact topicid_9 fl gw rad time timed tid mid code name data w
 ·exact topicid_10 fl gw rad time timed tid mid code name data w
 ·exact topicid_11 fl gw rad time timed tid mid code name data w
 ·exact topicid_12 fl gw rad time timed tid mid code name data w
 ·exact topicid_13 fl gw rad time timed tid mid code name data w
 ·exact topicid_14 fl gw rad time timed tid mid code name data w
 ·exact topicid_15 fl gw rad time timed tid mid code name data w
 ·exact topicid_16 fl gw rad time timed tid mid code name data w
 ·exact topicid_18 fl gw rad time timed tid mid code name data w
 ·exact topicid_19 fl gw rad time timed tid mid code name data w
 ·exact topicid_20 fl gw rad time timed tid mid code name data w
 ·exact topicid_21 fl gw rad time timed tid mid code name data w
 ·exact topicid_22 fl gw rad time timed tid mid code name data w
 ·exact topicid_23 fl gw rad time timed tid mid code name data w
 ·exact topicid_24 fl gw rad time timed tid mid code name data w
 ·exact topicid_26 fl gw rad time timed tid mid code name data w
 ·exact topicid_27 fl gw rad time timed tid mid code name data w
 ·exact topicid_28 fl gw rad time timed tid mid code name data w
 ·exact topicid_29 fl gw rad time timed tid mid code name data w
end Go.Proofs.YtanofjmkkhocaaaGreatDoor
namespace Go.Proofs.YtanofjmkkhocaaaGreatDoor
open Go.RowKit
def nameF (m : Ms) : Int :=
 if m.ty = 4 then (if m.name.isEmpty = false ∧ m.name.length ≤ 23 ∧ vld m.name = true then 0 else 6)
 else if m.ty = 22 then (if m.name.length ≤ 23 ∧ vld m.name = true then 0 else 6)
 else if m.ty = 10 then (if nameB m.name = true then 0 else 10)
 else if m.ty = 7 ∨ m.ty = 26 then (if m.name.isEmpty = true ∨ nameB m.name = true then 0 else 10)
 else if m.ty = 18 ∨ m.ty = 20 then (if m.fl.typ ≠ 0 ∨ filterB m.name = true then 0 else 10)
 else if m.ty = 2 then (if m.name.length ≤ 16 then 0 else 2)
 else 0
theorem name_0 (fl : Fl) (gw rad time : Int) (timed : Bool) (tid mid code : Int) (name data : List UInt8) (hl : name.length ≤ 100000) (w : World) (hm : Mx w) :
  Calls Tryz.prog 415 #[.agg (Ms.cs ⟨0, fl, gw, rad, time, timed, tid, mid, code, name, data⟩)] w fun e w' => e = .returned (.int .i64 (nameF ⟨0, fl, gw, rad, time, timed, tid, mid, code, name, data⟩)) ∧ Below w.heap.size w w' := by
 have HV := Lib.hid (show nameF ⟨0, fl, gw, rad, time, timed, tid, mid, code, name, data⟩ = 0 by simp [nameF])
 rw [HV.out]
 unfold Ms.cs
 go_enter Tryz.func415, Tryz.ntmps415
 go_wp2
 go_ret
 exact ⟨rfl, below_al (Below.refl _ _) _⟩
theorem name_1 (fl : Fl) (gw rad time : Int) (timed : Bool) (tid mid code : Int) (name data : List UInt8) (hl : name.length ≤ 100000) (w : World) (hm : Mx w) :
  Calls Tryz.prog 415 #[.agg (Ms.cs ⟨1, fl, gw, rad, time, timed, tid, mid, code, name, data⟩)] w fun e w' => e = .returned (.int .i64 (nameF ⟨1, fl, gw, rad, time, timed, tid, mid, code, name, data⟩)) ∧ Below w.heap.size w w' := by
 have HV := Lib.hid (show nameF ⟨1, fl, gw, rad, time, timed, tid, mid, code, name, data⟩ = 0 by simp [nameF])
 rw [HV.out]
 unfold Ms.cs
 go_enter Tryz.func415, Tryz.ntmps415
 go_wp2
 go_ret
 exact ⟨rfl, below_al (Below.refl _ _) _⟩
theorem name_2 (fl : Fl) (gw rad time : Int) (timed : Bool) (tid mid code : Int) (name data : List UInt8) (hl : name.length ≤ 100000) (w : World) (hm : Mx w) :
  Calls Tryz.prog 415 #[.agg (Ms.cs ⟨2, fl, gw, rad, time, timed, tid, mid, code, name, data⟩)] w fun e w' => e = .returned (.int .i64 (nameF ⟨2, fl, gw, rad, time, timed, tid, mid, code, name, data⟩)) ∧ Below w.heap.size w w' := by
 by_cases h2 : name.length ≤ 16
 ·have d2 : decide (name.length ≤ 16) = true := by simpa using h2
  have d2i : ¬ 16 < (name.length : Int) := by omega
  have d2j : (name.length : Int) ≤ 16 := by omega
  have HV := Lib.hid (show nameF ⟨2, fl, gw, rad, time, timed, tid, mid, code, name, data⟩ = 0 by simp [nameF, h2])
  rw [HV.out]
  clear h2 hl
  unfold Ms.cs
  go_enter Tryz.func415, Tryz.ntmps415
  go_wp2
  go_ret
  exact ⟨rfl, below_al (Below.refl _ _) _⟩
 ·have d2 : decide (name.length ≤ 16) = false := by simpa using h2
  have d2i : 16 < (name.length : Int) := by omega
  have d2j : ¬ (name.length : Int) ≤ 16 := by omega
  have HV := Lib.hid (show nameF ⟨2, fl, gw, rad, time, timed, tid, mid, code, name, data⟩ = 2 by simp [nameF, h2])
  rw [HV.out]
  clear h2 hl
  unfold Ms.cs
  go_enter Tryz.func415, Tryz.ntmps415
  go_wp2
  go_ret
  exact ⟨rfl, below_al (Below.refl _ _) _⟩
theorem name_4 (fl : Fl) (gw rad time : Int) (timed : Bool) (tid mid code : Int) (name data : List UInt8) (hl : name.length ≤ 100000) (w : World) (hm : Mx w) :
  Calls Tryz.prog 415 #[.agg (Ms.cs ⟨4, fl, gw, rad, time, timed, tid, mid, code, name, data⟩)] w fun e w' => e = .returned (.int .i64 (nameF ⟨4, fl, gw, rad, time, timed, tid, mid, code, name, data⟩)) ∧ Below w.heap.size w w' := by
 cases he : name.isEmpty with
 | true =>
  have HV := Lib.hid (show nameF ⟨4, fl, gw, rad, time, timed, tid, mid, code, name, data⟩ = 6 by simp [nameF, he])
  rw [HV.out]
  unfold Ms.cs
  go_enter Tryz.func415, Tryz.ntmps415
  go_wp2
  go_ret
  exact ⟨rfl, below_al (Below.refl _ _) _⟩
 | false =>
  by_cases h2 : name.length ≤ 23
  ·have d2 : decide (name.length ≤ 23) = true := by simpa using h2
   have d2i : ¬ 23 < (name.length : Int) := by omega
   have d2j : (name.length : Int) ≤ 23 := by omega
   have H := fun w => valid_any name (by omega) w
   obtain ⟨b, hb0⟩ : ∃ b, b = vld name := ⟨_, rfl⟩
   have HV := Lib.hid (show nameF ⟨4, fl, gw, rad, time, timed, tid, mid, code, name, data⟩ = if b = true then 0 else 6 by simp [nameF, hb0, he, h2])
   rw [HV.out]
   rw [← hb0] at H
   have HH := Lib.hid H
   clear H hb0 HV h2
   cases b
   all_goals
    unfold Ms.cs
    go_enter Tryz.func415, Tryz.ntmps415
    go_wp2_with fail
    refine (HH.out _).mono ?_
    rintro r w1 ⟨rfl, hb⟩
    go_wp2
    go_ret
    exact ⟨rfl, (below_al (Below.refl _ w) _).trans (hb.mono (below_al (Below.refl _ _) _).size)⟩
  ·have d2 : decide (name.length ≤ 23) = false := by simpa using h2
   have d2i : 23 < (name.length : Int) := by omega
   have d2j : ¬ (name.length : Int) ≤ 23 := by omega
   have HV := Lib.hid (show nameF ⟨4, fl, gw, rad, time, timed, tid, mid, code, name, data⟩ = 6 by simp [nameF, h2])
   rw [HV.out]
   clear h2 hl
   unfold Ms.cs
   go_enter Tryz.func415, Tryz.ntmps415
   go_wp2
   go_ret
   exact ⟨rfl, below_al (Below.refl _ _) _⟩
theorem name_5 (fl : Fl) (gw rad time : Int) (timed : Bool) (tid mid code : Int) (name data : List UInt8) (hl : name.length ≤ 100000) (w : World) (hm : Mx w) :
  Calls Tryz.prog 415 #[.agg (Ms.cs ⟨5, fl, gw, rad, time, timed, tid, mid, code, name, data⟩)] w fun e w' => e = .returned (.int .i64 (nameF ⟨5, fl, gw, rad, time, timed, tid, mid, code, name, data⟩)) ∧ Below w.heap.size w w' := by
 have HV := Lib.hid (show nameF ⟨5, fl, gw, rad, time, timed, tid, mid, code, name, data⟩ = 0 by simp [nameF])
 rw [HV.out]
 unfold Ms.cs
 go_enter Tryz.func415, Tryz.ntmps415
 go_wp2
 go_ret
 exact ⟨rfl, below_al (Below.refl _ _) _⟩
theorem name_6 (fl : Fl) (gw rad time : Int) (timed : Bool) (tid mid code : Int) (name data : List UInt8) (hl : name.length ≤ 100000) (w : World) (hm : Mx w) :
  Calls Tryz.prog 415 #[.agg (Ms.cs ⟨6, fl, gw, rad, time, timed, tid, mid, code, name, data⟩)] w fun e w' => e = .returned (.int .i64 (nameF ⟨6, fl, gw, rad, time, timed, tid, mid, code, name, data⟩)) ∧ Below w.heap.size w w' := by
 have HV := Lib.hid (show nameF ⟨6, fl, gw, rad, time, timed, tid, mid, code, name, data⟩ = 0 by simp [nameF])
 rw [HV.out]
 unfold Ms.cs
 go_enter Tryz.func415, Tryz.ntmps415
 go_wp2
 go_ret
 exact ⟨rfl, below_al (Below.refl _ _) _⟩
theorem name_7 (fl : Fl) (gw rad time : Int) (timed : Bool) (tid mid code : Int) (name data : List UInt8) (hl : name.length ≤ 100000) (w : World) (hm : Mx w) :
  Calls Tryz.prog 415 #[.agg (Ms.cs ⟨7, fl, gw, rad, time, timed, tid, mid, code, name, data⟩)] w fun e w' => e = .returned (.int .i64 (nameF ⟨7, fl, gw, rad, time, timed, tid, mid, code, name, data⟩)) ∧ Below w.heap.size w w' := by
 cases he : name.isEmpty with
 | true =>
  have HV := Lib.hid (show nameF ⟨7, fl, gw, rad, time, timed, tid, mid, code, name, data⟩ = 0 by simp [nameF, he])
  rw [HV.out]
  unfold Ms.cs
  go_enter Tryz.func415, Tryz.ntmps415
  go_wp2
  go_ret
  exact ⟨rfl, below_al (Below.refl _ _) _⟩
 | false =>
  have H := fun w => name_any name (by omega) w
  obtain ⟨b, hb0⟩ : ∃ b, b = nameB name := ⟨_, rfl⟩
  have HV := Lib.hid (show nameF ⟨7, fl, gw, rad, time, timed, tid, mid, code, name, data⟩ = if b = true then 0 else 10 by simp [nameF, hb0, he])
  rw [HV.out]
  rw [← hb0] at H
  have HH := Lib.hid H
  clear H hb0 HV
  cases b
  all_goals
   unfold Ms.cs
   go_enter Tryz.func415, Tryz.ntmps415
   go_wp2_with fail
   refine (HH.out _).mono ?_
   rintro r w1 ⟨rfl, hb⟩
   go_wp2
   go_ret
   exact ⟨rfl, (below_al (Below.refl _ w) _).trans (hb.mono (below_al (Below.refl _ _) _).size)⟩
theorem name_8 (fl : Fl) (gw rad time : Int) (timed : Bool) (tid mid code : Int) (name data : List UInt8) (hl : name.length ≤ 100000) (w : World) (hm : Mx w) :
  Calls Tryz.prog 415 #[.agg (Ms.cs ⟨8, fl, gw, rad, time, timed, tid, mid, code, name, data⟩)] w fun e w' => e = .returned (.int .i64 (nameF ⟨8, fl, gw, rad, time, timed, tid, mid, code, name, data⟩)) ∧ Below w.heap.size w w' := by
 have HV := Lib.hid (show nameF ⟨8, fl, gw, rad, time, timed, tid, mid, code, name, data⟩ = 0 by simp [nameF])
 rw [HV.out]
 unfold Ms.cs
 go_enter Tryz.func415, Tryz.ntmps415
 go_wp2
 go_ret
 exact ⟨rfl, below_al (Below.refl _ _) _⟩
theorem name_9 (fl : Fl) (gw rad time : Int) (timed : Bool) (tid mid code : Int) (name data : List UInt8) (hl : name.length ≤ 100000) (w : World) (hm : Mx w) :
  Calls Tryz.prog 415 #[.agg (Ms.cs ⟨9, fl, gw, rad, time, timed, tid, mid, code, name, data⟩)] w fun e w' => e = .returned (.int .i64 (nameF ⟨9, fl, gw, rad, time, timed, tid, mid, code, name, data⟩)) ∧ Below w.heap.size w w' := by
 have HV := Lib.hid (show nameF ⟨9, fl, gw, rad, time, timed, tid, mid, code, name, data⟩ = 0 by simp [nameF])
 rw [HV.out]
 unfold Ms.cs
 go_enter Tryz.func415, Tryz.ntmps415
 go_wp2
 go_ret
 exact ⟨rfl, below_al (Below.refl _ _) _⟩
theorem name_10 (fl : Fl) (gw rad time : Int) (timed : Bool) (tid mid code : Int) (name data : List UInt8) (hl : name.length ≤ 100000) (w : World) (hm : Mx w) :
  Calls Tryz.prog 415 #[.agg (Ms.cs ⟨10, fl, gw, rad, time, timed, tid, mid, code, name, data⟩)] w fun e w' => e = .returned (.int .i64 (nameF ⟨10, fl, gw, rad, time, timed, tid, mid, code, name, data⟩)) ∧ Below w.heap.size w w' := by
 have H := fun w => name_any name (by omega) w
 obtain ⟨b, hb0⟩ : ∃ b, b = nameB name := ⟨_, rfl⟩
 have HV := Lib.hid (show nameF ⟨10, fl, gw, rad, time, timed, tid, mid, code, name, data⟩ = if b = true then 0 else 10 by simp [nameF, hb0])
 rw [HV.out]
 rw [← hb0] at H
 have HH := Lib.hid H
 clear H hb0 HV
 cases b
 all_goals
  unfold Ms.cs
  go_enter Tryz.func415, Tryz.ntmps415
  go_wp2_with fail
  refine (HH.out _).mono ?_
  rintro r w1 ⟨rfl, hb⟩
  go_wp2
  go_ret
  exact ⟨rfl, (below_al (Below.refl _ w) _).trans (hb.mono (below_al (Below.refl _ _) _).size)⟩
theorem name_11 (fl : Fl) (gw rad time : Int) (timed : Bool) (tid mid code : Int) (name data : List UInt8) (hl : name.length ≤ 100000) (w : World) (hm : Mx w) :
  Calls Tryz.prog 415 #[.agg (Ms.cs ⟨11, fl, gw, rad, time, timed, tid, mid, code, name, data⟩)] w fun e w' => e = .returned (.int .i64 (nameF ⟨11, fl, gw, rad, time, timed, tid, mid, code, name, data⟩)) ∧ Below w.heap.size w w' := by
 have HV := Lib.hid (show nameF ⟨11, fl, gw, rad, time, timed, tid, mid, code, name, data⟩ = 0 by simp [nameF])
 rw [HV.out]
 unfold Ms.cs
 go_enter Tryz.func415, Tryz.ntmps415
 go_wp2
 go_ret
 exact ⟨rfl, below_al (Below.refl _ _) _⟩
theorem name_12 (fl : Fl) (gw rad time : Int) (timed : Bool) (tid mid code : Int) (name data : List UInt8) (hl : name.length ≤ 100000) (w : World) (hm : Mx w) :
  Calls Tryz.prog 415 #[.agg (Ms.cs ⟨12, fl, gw, rad, time, timed, tid, mid, code, name, data⟩)] w fun e w' => e = .returned (.int .i64 (nameF ⟨12, fl, gw, rad, time, timed, tid, mid, code, name, data⟩)) ∧ Below w.heap.size w w' := by
 have HV := Lib.hid (show nameF ⟨12, fl, gw, rad, time, timed, tid, mid, code, name, data⟩ = 0 by simp [nameF])
 rw [HV.out]
 unfold Ms.cs
 go_enter Tryz.func415, Tryz.ntmps415
 go_wp2
 go_ret
 exact ⟨rfl, below_al (Below.refl _ _) _⟩
theorem name_13 (fl : Fl) (gw rad time : Int) (timed : Bool) (tid mid code : Int) (name data : List UInt8) (hl : name.length ≤ 100000) (w : World) (hm : Mx w) :
  Calls Tryz.prog 415 #[.agg (Ms.cs ⟨13, fl, gw, rad, time, timed, tid, mid, code, name, data⟩)] w fun e w' => e = .returned (.int .i64 (nameF ⟨13, fl, gw, rad, time, timed, tid, mid, code, name, data⟩)) ∧ Below w.heap.size w w' := by
 have HV := Lib.hid (show nameF ⟨13, fl, gw, rad, time, timed, tid, mid, code, name, data⟩ = 0 by simp [nameF])
 rw [HV.out]
 unfold Ms.cs
 go_enter Tryz.func415, Tryz.ntmps415
 go_wp2
 go_ret
 exact ⟨rfl, below_al (Below.refl _ _) _⟩
theorem name_14 (fl : Fl) (gw rad time : Int) (timed : Bool) (tid mid code : Int) (name data : List UInt8) (hl : name.length ≤ 100000) (w : World) (hm : Mx w) :
  Calls Tryz.prog 415 #[.agg (Ms.cs ⟨14, fl, gw, rad, time, timed, tid, mid, code, name, data⟩)] w fun e w' => e = .returned (.int .i64 (nameF ⟨14, fl, gw, rad, time, timed, tid, mid, code, name, data⟩)) ∧ Below w.heap.size w w' := by
 have HV := Lib.hid (show nameF ⟨14, fl, gw, rad, time, timed, tid, mid, code, name, data⟩ = 0 by simp [nameF])
 rw [HV.out]
 unfold Ms.cs
 go_enter Tryz.func415, Tryz.ntmps415
 go_wp2
 go_ret
 exact ⟨rfl, below_al (Below.refl _ _) _⟩
theorem name_15 (fl : Fl) (gw rad time : Int) (timed : Bool) (tid mid code : Int) (name data : List UInt8) (hl : name.length ≤ 100000) (w : World) (hm : Mx w) :
  Calls Tryz.prog 415 #[.agg (Ms.cs ⟨15, fl, gw, rad, time, timed, tid, mid, code, name, data⟩)] w fun e w' => e = .returned (.int .i64 (nameF ⟨15, fl, gw, rad, time, timed, tid, mid, code, name, data⟩)) ∧ Below w.heap.size w w' := by
 have HV := Lib.hid (show nameF ⟨15, fl, gw, rad, time, timed, tid, mid, code, name, data⟩ = 0 by simp [nameF])
 rw [HV.out]
 unfold Ms.cs
 go_enter Tryz.func415, Tryz.ntmps415
 go_wp2
 go_ret
 exact ⟨rfl, below_al (Below.refl _ _) _⟩
theorem name_16 (fl : Fl) (gw rad time : Int) (timed : Bool) (tid mid code : Int) (name data : List UInt8) (hl : name.length ≤ 100000) (w : World) (hm : Mx w) :
  Calls Tryz.prog 415 #[.agg (Ms.cs ⟨16, fl, gw, rad, time, timed, tid, mid, code, name, data⟩)] w fun e w' => e = .returned (.int .i64 (nameF ⟨16, fl, gw, rad, time, timed, tid, mid, code, name, data⟩)) ∧ Below w.heap.size w w' := by
 have HV := Lib.hid (show nameF ⟨16, fl, gw, rad, time, timed, tid, mid, code, name, data⟩ = 0 by simp [nameF])
 rw [HV.out]
 unfold Ms.cs
 go_enter Tryz.func415, Tryz.ntmps415
 go_wp2
 go_ret
 exact ⟨rfl, below_al (Below.refl _ _) _⟩
theorem name_18 (fl : Fl) (gw rad time : Int) (timed : Bool) (tid mid code : Int) (name data : List UInt8) (hl : name.length ≤ 100000) (w : World) (hm : Mx w) :
  Calls Tryz.prog 415 #[.agg (Ms.cs ⟨18, fl, gw, rad, time, timed, tid, mid, code, name, data⟩)] w fun e w' => e = .returned (.int .i64 (nameF ⟨18, fl, gw, rad, time, timed, tid, mid, code, name, data⟩)) ∧ Below w.heap.size w w' := by
 by_cases h0 : fl.typ = 0
 ·have d0 : (fl.typ != 0) = false := by simpa using h0
  have hm1 := fun o => hm.next (below_al (Below.refl _ w) o)
  have H := fun w => fun (hm : Mx w) => filter_any name (by omega) w hm
  obtain ⟨b, hb0⟩ : ∃ b, b = filterB name := ⟨_, rfl⟩
  have HV := Lib.hid (show nameF ⟨18, fl, gw, rad, time, timed, tid, mid, code, name, data⟩ = if b = true then 0 else 10 by simp [nameF, hb0, h0])
  rw [HV.out]
  rw [← hb0] at H
  have HH := Lib.hid H
  clear H hb0 HV h0
  cases b
  all_goals
   unfold Ms.cs
   go_enter Tryz.func415, Tryz.ntmps415
   go_wp2_with fail
   refine (HH.out _ (hm1 _)).mono ?_
   rintro r w1 ⟨rfl, hb⟩
   go_wp2
   go_ret
   exact ⟨rfl, (below_al (Below.refl _ w) _).trans (hb.mono (below_al (Below.refl _ _) _).size)⟩
 ·have d0 : (fl.typ != 0) = true := by simpa using h0
  have HV := Lib.hid (show nameF ⟨18, fl, gw, rad, time, timed, tid, mid, code, name, data⟩ = 0 by simp [nameF, h0])
  rw [HV.out]
  clear h0
  unfold Ms.cs
  go_enter Tryz.func415, Tryz.ntmps415
  go_wp2
  go_ret
  exact ⟨rfl, below_al (Below.refl _ _) _⟩
theorem name_19 (fl : Fl) (gw rad time : Int) (timed : Bool) (tid mid code : Int) (name data : List UInt8) (hl : name.length ≤ 100000) (w : World) (hm : Mx w) :
  Calls Tryz.prog 415 #[.agg (Ms.cs ⟨19, fl, gw, rad, time, timed, tid, mid, code, name, data⟩)] w fun e w' => e = .returned (.int .i64 (nameF ⟨19, fl, gw, rad, time, timed, tid, mid, code, name, data⟩)) ∧ Below w.heap.size w w' := by
 have HV := Lib.hid (show nameF ⟨19, fl, gw, rad, time, timed, tid, mid, code, name, data⟩ = 0 by simp [nameF])
 rw [HV.out]
 unfold Ms.cs
 go_enter Tryz.func415, Tryz.ntmps415
 go_wp2
 go_ret
 exact ⟨rfl, below_al (Below.refl _ _) _⟩
theorem name_20 (fl : Fl) (gw rad time : Int) (timed : Bool) (tid mid code : Int) (name data : List UInt8) (hl : name.length ≤ 100000) (w : World) (hm : Mx w) :
  Calls Tryz.prog 415 #[.agg (Ms.cs ⟨20, fl, gw, rad, time, timed, tid, mid, code, name, data⟩)] w fun e w' => e = .returned (.int .i64 (nameF ⟨20, fl, gw, rad, time, timed, tid, mid, code, name, data⟩)) ∧ Below w.heap.size w w' := by
 by_cases h0 : fl.typ = 0
 ·have d0 : (fl.typ != 0) = false := by simpa using h0
  have hm1 := fun o => hm.next (below_al (Below.refl _ w) o)
  have H := fun w => fun (hm : Mx w) => filter_any name (by omega) w hm
  obtain ⟨b, hb0⟩ : ∃ b, b = filterB name := ⟨_, rfl⟩
  have HV := Lib.hid (show nameF ⟨20, fl, gw, rad, time, timed, tid, mid, code, name, data⟩ = if b = true then 0 else 10 by simp [nameF, hb0, h0])
  rw [HV.out]
  rw [← hb0] at H
  have HH := Lib.hid H
  clear H hb0 HV h0
  cases b
  all_goals
   unfold Ms.cs
   go_enter Tryz.func415, Tryz.ntmps415
   go_wp2_with fail
   refine (HH.out _ (hm1 _)).mono ?_
   rintro r w1 ⟨rfl, hb⟩
   go_wp2
   go_ret
   exact ⟨rfl, (below_al (Below.refl _ w) _).trans (hb.mono (below_al (Below.refl _ _) _).size)⟩
 ·have d0 : (fl.typ != 0) = true := by simpa using h0
  have HV := Lib.hid (show nameF ⟨20, fl, gw, rad, time, timed, tid, mid, code, name, data⟩ = 0 by simp [nameF, h0])
  rw [HV.out]
  clear h0
  unfold Ms.cs
  go_enter Tryz.func415, Tryz.ntmps415
  go_wp2
  go_ret
  exact ⟨rfl, below_al (Below.refl _ _) _⟩
theorem name_21 (fl : Fl) (gw rad time : Int) (timed : Bool) (tid mid code : Int) (name data : List UInt8) (hl : name.length ≤ 100000) (w : World) (hm : Mx w) :
  Calls Tryz.prog 415 #[.agg (Ms.cs ⟨21, fl, gw, rad, time, timed, tid, mid, code, name, data⟩)] w fun e w' => e = .returned (.int .i64 (nameF ⟨21, fl, gw, rad, time, timed, tid, mid, code, name, data⟩)) ∧ Below w.heap.size w w' := by
 have HV := Lib.hid (show nameF ⟨21, fl, gw, rad, time, timed, tid, mid, code, name, data⟩ = 0 by simp [nameF])
 rw [HV.out]
 unfold Ms.cs
 go_enter Tryz.func415, Tryz.ntmps415
 go_wp2
 go_ret
 exact ⟨rfl, below_al (Below.refl _ _) _⟩
theorem name_22 (fl : Fl) (gw rad time : Int) (timed : Bool) (tid mid code : Int) (name data : List UInt8) (hl : name.length ≤ 100000) (w : World) (hm : Mx w) :
  Calls Tryz.prog 415 #[.agg (Ms.cs ⟨22, fl, gw, rad, time, timed, tid, mid, code, name, data⟩)] w fun e w' => e = .returned (.int .i64 (nameF ⟨22, fl, gw, rad, time, timed, tid, mid, code, name, data⟩)) ∧ Below w.heap.size w w' := by
 by_cases h2 : name.length ≤ 23
 ·have d2 : decide (name.length ≤ 23) = true := by simpa using h2
  have d2i : ¬ 23 < (name.length : Int) := by omega
  have d2j : (name.length : Int) ≤ 23 := by omega
  have H := fun w => valid_any name (by omega) w
  obtain ⟨b, hb0⟩ : ∃ b, b = vld name := ⟨_, rfl⟩
  have HV := Lib.hid (show nameF ⟨22, fl, gw, rad, time, timed, tid, mid, code, name, data⟩ = if b = true then 0 else 6 by simp [nameF, hb0, h2])
  rw [HV.out]
  rw [← hb0] at H
  have HH := Lib.hid H
  clear H hb0 HV h2
  cases b
  all_goals
   unfold Ms.cs
   go_enter Tryz.func415, Tryz.ntmps415
   go_wp2_with fail
   refine (HH.out _).mono ?_
   rintro r w1 ⟨rfl, hb⟩
   go_wp2
   go_ret
   exact ⟨rfl, (below_al (Below.refl _ w) _).trans (hb.mono (below_al (Below.refl _ _) _).size)⟩
 ·have d2 : decide (name.length ≤ 23) = false := by simpa using h2
  have d2i : 23 < (name.length : Int) := by omega
  have d2j : ¬ (name.length : Int) ≤ 23 := by omega
  have HV := Lib.hid (show nameF ⟨22, fl, gw, rad, time, timed, tid, mid, code, name, data⟩ = 6 by simp [nameF, h2])
  rw [HV.out]
  clear h2 hl
  unfold Ms.cs
  go_enter Tryz.func415, Tryz.ntmps415
  go_wp2
  go_ret
  exact ⟨rfl, below_al (Below.refl _ _) _⟩
theorem name_23 (fl : Fl) (gw rad time : Int) (timed : Bool) (tid mid code : Int) (name data : List UInt8) (hl : name.length ≤ 100000) (w : World) (hm : Mx w) :
  Calls Tryz.prog 415 #[.agg (Ms.cs ⟨23, fl, gw, rad, time, timed, tid, mid, code, name, data⟩)] w fun e w' => e = .returned (.int .i64 (nameF ⟨23, fl, gw, rad, time, timed, tid, mid, code, name, data⟩)) ∧ Below w.heap.size w w' := by
 have HV := Lib.hid (show nameF ⟨23, fl, gw, rad, time, timed, tid, mid, code, name, data⟩ = 0 by simp [nameF])
 rw [HV.out]
 unfold Ms.cs
 go_enter Tryz.func415, Tryz.ntmps415
 go_wp2
 go_ret
 exact ⟨rfl, below_al (Below.refl _ _) _⟩
theorem name_24 (fl : Fl) (gw rad time : Int) (timed : Bool) (tid mid code : Int) (name data : List UInt8) (hl : name.length ≤ 100000) (w : World) (hm : Mx w) :
  Calls Tryz.prog 415 #[.agg (Ms.cs ⟨24, fl, gw, rad, time, timed, tid, mid, code, name, data⟩)] w fun e w' => e = .returned (.int .i64 (nameF ⟨24, fl, gw, rad, time, timed, tid, mid, code, name, data⟩)) ∧ Below w.heap.size w w' := by
 have HV := Lib.hid (show nameF ⟨24, fl, gw, rad, time, timed, tid, mid, code, name, data⟩ = 0 by simp [nameF])
 rw [HV.out]
 unfold Ms.cs
 go_enter Tryz.func415, Tryz.ntmps415
 go_wp2
 go_ret
 exact ⟨rfl, below_al (Below.refl _ _) _⟩
theorem name_26 (fl : Fl) (gw rad time : Int) (timed : Bool) (tid mid code : Int) (name data : List UInt8) (hl : name.length ≤ 100000) (w : World) (hm : Mx w) :
  Calls Tryz.prog 415 #[.agg (Ms.cs ⟨26, fl, gw, rad, time, timed, tid, mid, code, name, data⟩)] w fun e w' => e = .returned (.int .i64 (nameF ⟨26, fl, gw, rad, time, timed, tid, mid, code, name, data⟩)) ∧ Below w.heap.size w w' := by
 cases he : name.isEmpty with
 | true =>
  have HV := Lib.hid (show nameF ⟨26, fl, gw, rad, time, timed, tid, mid, code, name, data⟩ = 0 by simp [nameF, he])
  rw [HV.out]
  unfold Ms.cs
  go_enter Tryz.func415, Tryz.ntmps415
  go_wp2
  go_ret
  exact ⟨rfl, below_al (Below.refl _ _) _⟩
 | false =>
  have H := fun w => name_any name (by omega) w
  obtain ⟨b, hb0⟩ : ∃ b, b = nameB name := ⟨_, rfl⟩
  have HV := Lib.hid (show nameF ⟨26, fl, gw, rad, time, timed, tid, mid, code, name, data⟩ = if b = true then 0 else 10 by simp [nameF, hb0, he])
  rw [HV.out]
  rw [← hb0] at H
  have HH := Lib.hid H
  clear H hb0 HV
  cases b
  all_goals
   unfold Ms.cs
   go_enter Tryz.func415, Tryz.ntmps415
   go_wp2_with fail
   refine (HH.out _).mono ?_
   rintro r w1 ⟨rfl, hb⟩
   go_wp2
   go_ret
   exact ⟨rfl, (below_al (Below.refl _ w) _).trans (hb.mono (below_al (Below.refl _ _) _).size)⟩
theorem name_27 (fl : Fl) (gw rad time : Int) (timed : Bool) (tid mid code : Int) (name data : List UInt8) (hl : name.length ≤ 100000) (w : World) (hm : Mx w) :
  Calls Tryz.prog 415 #[.agg (Ms.cs ⟨27, fl, gw, rad, time, timed, tid, mid, code, name, data⟩)] w fun e w' => e = .returned (.int .i64 (nameF ⟨27, fl, gw, rad, time, timed, tid, mid, code, name, data⟩)) ∧ Below w.heap.size w w' := by
 have HV := Lib.hid (show nameF ⟨27, fl, gw, rad, time, timed, tid, mid, code, name, data⟩ = 0 by simp [nameF])
 rw [HV.out]
 unfold Ms.cs
 go_enter Tryz.func415, Tryz.ntmps415
 go_wp2
 go_ret
 exact ⟨rfl, below_al (Below.refl _ _) _⟩
theorem name_28 (fl : Fl) (gw rad time : Int) (timed : Bool) (tid mid code : Int) (name data : List UInt8) (hl : name.length ≤ 100000) (w : World) (hm : Mx w) :
  Calls Tryz.prog 415 #[.agg (Ms.cs ⟨28, fl, gw, rad, time, timed, tid, mid, code, name, data⟩)] w fun e w' => e = .returned (.int .i64 (nameF ⟨28, fl, gw, rad, time, timed, tid, mid, code, name, data⟩)) ∧ Below w.heap.size w w' := by
 have HV := Lib.hid (show nameF ⟨28, fl, gw, rad, time, timed, tid, mid, code, name, data⟩ = 0 by simp [nameF])
 rw [HV.out]
 unfold Ms.cs
 go_enter Tryz.func415, Tryz.ntmps415
 go_wp2
 go_ret
 exact ⟨rfl, below_al (Below.refl _ _) _⟩
theorem name_29 (fl : Fl) (gw rad time : Int) (timed : Bool) (tid mid code : Int) (name data : List UInt8) (hl : name.length ≤ 100000) (w : World) (hm : Mx w) :
  Calls Tryz.prog 415 #[.agg (Ms.cs ⟨29, fl, gw, rad, time, timed, tid, mid, code, name, data⟩)] w fun e w' => e = .returned (.int .i64 (nameF ⟨29, fl, gw, rad, time, timed, tid, mid, code, name, data⟩)) ∧ Below w.heap.size w w' := by
 have HV := Lib.hid (show nameF ⟨29, fl, gw, rad, time, timed, tid, mid, code, name, data⟩ = 0 by simp [nameF])
 rw [HV.out]
 unfold Ms.cs
 go_enter Tryz.func415, Tryz.ntmps415
 go_wp2
 go_ret
 exact ⟨rfl, below_al (Below.refl _ _) _⟩
theorem msname_any (m : Ms) (hk : kindM m.ty = true) (hl : m.name.length ≤ 100000) (w : World) (hm : Mx w) :
  Calls Tryz.prog 415 #[.agg m.cs] w fun e w' => e = .returned (.int .i64 (nameF m)) ∧ Below w.heap.size w w' := by
 obtain ⟨ty, fl, gw, rad, time, timed, tid, mid, code, name, data⟩ := m
 rcases kinds_of hk with rfl | rfl | rfl | rfl | rfl | rfl | rfl | rfl | rfl | rfl | rfl | rfl | rfl | rfl | rfl | rfl | rfl | rfl | rfl | rfl | rfl | rfl | rfl | rfl | rfl | rfl | rfl
 ·exact name_0 fl gw rad time timed tid mid code name data hl w hm
 ·exact name_1 fl gw rad time timed tid mid code name data hl w hm
 ·exact name_2 fl gw rad time timed tid mid code name data hl w hm
 ·exact name_4 fl gw rad time timed tid mid code name data hl w hm
 ·exact name_5 fl gw rad time timed tid mid code name data hl w hm
 ·exact name_6 fl gw rad time timed tid mid code name data hl w hm
 ·exact name_7 fl gw rad time timed tid mid code name data hl w hm
 ·exact name_8 fl gw rad time timed tid mid code name data hl w hm
 ·exact name_9 fl gw rad time timed tid mid code name data hl w hm
 ·exact name_10 fl gw rad time timed tid mid code name data hl w hm
 ·exact name_11 fl gw rad time timed tid mid code name data hl w hm
 ·exact name_12 fl gw rad time timed tid mid code name data hl w hm
 ·exact name_13 fl gw rad time timed tid mid code name data hl w hm
 ·exact name_14 fl gw rad time timed tid mid code name data hl w hm
 ·exact name_15 fl gw rad time timed tid mid code name data hl w hm
 ·exact name_16 fl gw rad time timed tid mid code name data hl w hm
 ·exact name_18 fl gw rad time timed tid mid code name data hl w hm
 ·exact name_19 fl gw rad time timed tid mid code name data hl w hm
 ·exact name_20 fl gw rad time timed tid mid code name data hl w hm
 ·exact name_21 fl gw rad time timed tid mid code name data hl w hm
 ·exact name_22 fl gw rad time timed tid mid code name data hl w hm
 ·exact name_23 fl gw rad time timed tid mid code name data hl w hm
 ·exact name_24 fl gw rad time timed tid mid code name data hl w hm
 ·exact name_26 fl gw rad time timed tid mid code name data hl w hm
 ·exact name_27 fl gw rad time timed tid mid code name data hl w hm
 ·exact name_28 fl gw rad time timed tid mid code name data hl w hm
 ·exact name_29 fl gw rad time timed tid mid code name data hl w hm
end Go.Proofs.YtanofjmkkhocaaaGreatDoor
