/- snmsg: Check. -/
import Derived.Test.YtbacnaplpfmpnaaGreatDoorMsL
import Derived.Test.YtbacnaplpfmpnaaGreatDoorMsN
import Derived.Test.YtbacnaplpfmpnaaGreatDoorMsR
import Derived.Test.YtbacnaplpfmpnaaGreatDoorBase
import Derived.Deep.RegionWith
namespace Go.Proofs.YtbacnaplpfmpnaaGreatDoor
open Go.RowKit
set_option linter.unusedVariables false
set_option linter.unusedSimpArgs false

theorem load_Msg (a : Addr) : loadVar 25 a = rowSem 25 a := rfl
attribute [local go_sem ↓] Go.wp_at_zero Go.wp_at_succ load_Msg
def CheckSaid (m : Ms) (e : Int) : Prop := ∀ w : World, Mx w → Calls Tryz.prog 18 #[.agg m.cs] w fun r w' => r = .returned (.int .i64 e) ∧ Below w.heap.size w w'
theorem load_msg {w : World} {b : Nat} {m : Ms} (h : Obj? w b #[.int .i64 m.ty, .bool m.fl.dup, .int .i64 m.fl.q, .bool m.fl.retain, .bool m.fl.will, .bool m.fl.clean, .int .i64 m.fl.typ, .int .i64 m.gw, .int .i64 m.rad, .int .i64 m.time, .bool m.timed, .int .i64 m.tid, .int .i64 m.mid, .int .i64 m.code, .string ⟨m.name.toArray⟩, .string ⟨m.data.toArray⟩] 25) : (rowSem 25 ⟨b, 0, none⟩).run Tryz.prog w = .ok (.agg #[.int .i64 m.ty, .bool m.fl.dup, .int .i64 m.fl.q, .bool m.fl.retain, .bool m.fl.will, .bool m.fl.clean, .int .i64 m.fl.typ, .int .i64 m.gw, .int .i64 m.rad, .int .i64 m.time, .bool m.timed, .int .i64 m.tid, .int .i64 m.mid, .int .i64 m.code, .string ⟨m.name.toArray⟩, .string ⟨m.data.toArray⟩]) w :=
  rowSem_run w b 25 25 _ _ h Tryz.underlying25 rfl infoMs
theorem load_msgA {w : World} {b : Nat} {A : Array Value} (hs : A.size = 16) (h : Obj? w b A 25) : (rowSem 25 ⟨b, 0, none⟩).run Tryz.prog w = .ok (.agg A) w :=
  rowSem_run w b 25 25 _ _ h Tryz.underlying25 rfl (by rw [infoMs, hs])
theorem lkC_mid (X : Ms) (bad : Bool) : lkC X bad = #[.pointer none, .int .i64 2] ++ X.cs ++ #[.slice none 0 0, .bool bad] := by simp [lkC, cdC, Ms.cs]
theorem load_look {w : World} {b : Nat} {X : Ms} {bad : Bool} (h : Obj? w b (lkC X bad) 76) : (rowSem 25 ⟨b, 2, none⟩).run Tryz.prog w = .ok (.agg X.cs) w := by
  rw [lkC_mid] at h
  exact rowSem_mid w b 2 25 X.cs _ (fun j v hv => Obj?.mid h j v hv) Tryz.underlying25 rfl infoMs
theorem obj_below_drew {w w' : World} {b : Nat} {cs : Array Value} {t : TypeId} (hb : Below w.drew.heap.size w.drew w') (h : Obj? w b cs t) : Obj? w' b cs t :=
  Obj?.below (show Obj? w.drew b cs t from h) hb (Obj?.lt h)
theorem below_drewM {A : Nat} {a b : World} (h : Below A a b) : Below A a b.drew := ⟨h.os, h.tape, h.output, h.size, h.block⟩
theorem obj_msg {w : World} (m : Ms) {w2 : World} (hb : Below (w.alloc (.cells m.cs 25 (0, 0))).heap.size (w.alloc (.cells m.cs 25 (0, 0))) w2) : Obj? w2 w.heap.size m.cs 25 :=
  (Obj?.new w m.cs 25).below hb (Obj?.new w m.cs 25).lt

set_option maxRecDepth 100000 in
set_option maxHeartbeats 1600000 in
theorem check_kind (m : Ms) (hk : kindM m.ty = false) : CheckSaid m 8 := by
  intro w hmx
  have H1 := Lib.hid (fun w => message_any m.ty w)
  rw [hk] at H1
  clear hk
  unfold Ms.cs
  go_enter Tryz.func18, Tryz.ntmps18
  go_wp2_with fail
  refine (H1.out _).mono ?_
  rintro r w1 ⟨rfl, hw1⟩
  subst hw1
  go_wp2
  go_ret
  exact ⟨rfl, below_al (Below.refl _ _) _⟩

set_option maxRecDepth 100000 in
set_option maxHeartbeats 1600000 in
theorem check_mayno (m : Ms) (hk : kindM m.ty = true) (hm : mayF m.ty m.fl = false) : CheckSaid m 7 := by
  intro w hmx
  have H1 := Lib.hid (fun w => message_any m.ty w)
  have H2 := Lib.hid (fun w => may_any m.ty m.fl w)
  rw [hk] at H1
  rw [hm] at H2
  clear hk hm
  unfold Ms.cs
  go_enter Tryz.func18, Tryz.ntmps18
  go_wp2_with fail
  refine (H1.out _).mono ?_
  rintro r w1 ⟨rfl, hw1⟩
  subst hw1
  go_wp2_with fail
  refine (H2.out _).mono ?_
  rintro r w2 ⟨rfl, hb⟩
  have O2 := obj_msg m hb
  have hkc := O2.cells
  unfold Ms.cs at hkc
  have HB := Lib.hid ((below_al (Below.refl _ w) (.cells m.cs 25 (0, 0))).trans (hb.mono (below_al (Below.refl _ w) (.cells m.cs 25 (0, 0))).size))
  have HO := Lib.hid O2
  unfold Ms.cs at HO
  clear hb O2
  go_wp2
  go_ret
  exact ⟨rfl, HB.out⟩

set_option maxRecDepth 100000 in
set_option maxHeartbeats 1600000 in
theorem check_wills (m : Ms) (hk : kindM m.ty = true) (hm : mayF m.ty m.fl = true) (hw : willB m.ty = true) (he : m.name.isEmpty = true) (hf : m.fl ≠ fl0) : CheckSaid m 7 := by
  intro w hmx
  have H1 := Lib.hid (fun w => message_any m.ty w)
  have H2 := Lib.hid (fun w => may_any m.ty m.fl w)
  have H3 := Lib.hid (fun w => will_any m.ty w)
  have hcmp := fun w => neq_fl0 m.fl w hf
  rw [hk] at H1
  rw [hm] at H2
  rw [hw] at H3
  clear hk hm hw hf
  unfold Ms.cs
  go_enter Tryz.func18, Tryz.ntmps18
  go_wp2_with fail
  refine (H1.out _).mono ?_
  rintro r w1 ⟨rfl, hw1⟩
  subst hw1
  go_wp2_with fail
  refine (H2.out _).mono ?_
  rintro r w2 ⟨rfl, hb⟩
  have O2 := obj_msg m hb
  have hkc := O2.cells
  unfold Ms.cs at hkc
  have HB := Lib.hid ((below_al (Below.refl _ w) (.cells m.cs 25 (0, 0))).trans (hb.mono (below_al (Below.refl _ w) (.cells m.cs 25 (0, 0))).size))
  have HO := Lib.hid O2
  unfold Ms.cs at HO
  clear hb O2
  go_wp2_with fail
  refine (H3.out _).mono ?_
  rintro r w3 ⟨rfl, hw3⟩
  subst hw3
  go_wp2
  go_ret
  exact ⟨rfl, HB.out⟩

end Go.Proofs.YtbacnaplpfmpnaaGreatDoor
