/- snmsg, plain: what is checked, written, read; a message that is looked through may be written. No program. snmsg, plain: what is written is read; what is read is written the same. No program. snmsg: Check. -/
import Derived.Test.YtanofjmkkhocaaaGreatDoorMsL
import Derived.Test.YtanofjmkkhocaaaGreatDoorMsN
import Derived.Test.YtanofjmkkhocaaaGreatDoorSnA
import Derived.Test.YtanofjmkkhocaaaGreatDoorBase
import Derived.Deep.RegionWith
set_option linter.unusedVariables false
set_option linter.unusedSimpArgs false
set_option maxRecDepth 100000
set_option maxHeartbeats 1600000
namespace Go.Proofs.YtanofjmkkhocaaaGreatDoor
open Go.RowKit
def checkM (m : Ms) : Int :=
 if kindM m.ty = false then 8
 else if mayF m.ty m.fl = false ∨ (willB m.ty = true ∧ m.name.isEmpty = true ∧ m.fl ≠ fl0) then 7
 else if (lookAll m).2 = true ∨ (lookAll m).1 ≠ Ms.bare m.ty m.fl ∨ msgIdB m = false then 2
 else if topicIdF m ≠ 0 then topicIdF m
 else if nameF m ≠ 0 then nameF m
 else (snB m.ty (restL m).length).2
def useGw (m : Ms) : Bool := decide (m.ty = 0 ∨ m.ty = 2)
def useRad (m : Ms) : Bool := decide (m.ty = 1)
def useCode (m : Ms) : Bool := decide (m.ty = 5 ∨ m.ty = 27 ∨ m.ty = 29 ∨ m.ty = 11 ∨ m.ty = 13 ∨ m.ty = 19)
def useTime (m : Ms) : Bool := decide (m.ty = 0 ∨ m.ty = 4 ∨ (m.ty = 24 ∧ m.timed = true))
def useTid (m : Ms) : Bool := decide (m.ty = 10 ∨ m.ty = 11 ∨ m.ty = 13 ∨ m.ty = 12 ∨ m.ty = 19 ∨ ((m.ty = 18 ∨ m.ty = 20) ∧ m.fl.typ ≠ 0))
def useMid (m : Ms) : Bool := decide (m.ty = 10 ∨ m.ty = 11 ∨ m.ty = 13 ∨ m.ty = 12 ∨ m.ty = 14 ∨ m.ty = 15 ∨ m.ty = 16 ∨ m.ty = 21 ∨ m.ty = 18 ∨ m.ty = 20 ∨ m.ty = 19)
def useName (m : Ms) : Bool := decide (m.ty = 2 ∨ m.ty = 4 ∨ m.ty = 7 ∨ m.ty = 26 ∨ m.ty = 10 ∨ m.ty = 22 ∨ ((m.ty = 18 ∨ m.ty = 20) ∧ m.fl.typ = 0))
def useData (m : Ms) : Bool := decide (m.ty = 9 ∨ m.ty = 28 ∨ m.ty = 12)
def fitB (n most : Int) (used : Bool) : Bool := decide (0 ≤ n ∧ n ≤ most) && (used || n == 0)
def fitsM (m : Ms) : Bool :=
 fitB m.gw 255 (useGw m) && fitB m.rad 255 (useRad m) && fitB m.code 255 (useCode m) && fitB m.time 65535 (useTime m) && fitB m.tid 65535 (useTid m) && fitB m.mid 65535 (useMid m) &&
  (useName m || m.name.isEmpty) && (useData m || m.data.isEmpty) && (decide (m.ty = 24) || !m.timed)
theorem look_iff {m : Ms} (hk : kindM m.ty = true) : ((lookAll m).2 = false ∧ (lookAll m).1 = Ms.bare m.ty m.fl) ↔ fitsM m = true := by
 obtain ⟨ty, ⟨dup, q, retain, will, clean, typ⟩, gw, rad, time, timed, tid, mid, code, name, data⟩ := m
 rcases kinds_of hk with h | h | h | h | h | h | h | h | h | h | h | h | h | h | h | h | h | h | h | h | h | h | h | h | h | h | h <;> simp only at h <;> subst h <;> clear hk <;>
  by_cases hN : name = [] <;> by_cases hT : typ = 0 <;> cases timed <;>
  simp [lookAll, layoutF, lookP, lkNum, Ms.bare, fitsM, fitB, useGw, useRad, useCode, useTime, useTid, useMid, useName, useData, hN, hT] <;>
  (constructor <;> intro h <;> (repeat' (apply And.intro)) <;> first | omega | (simp [h]; done))
end Go.Proofs.YtanofjmkkhocaaaGreatDoor
namespace Go.Proofs.YtanofjmkkhocaaaGreatDoor
open Go.RowKit
def Rng (m : Ms) : Prop := (0 ≤ m.gw ∧ m.gw ≤ 255) ∧ (0 ≤ m.rad ∧ m.rad ≤ 255) ∧ (0 ≤ m.time ∧ m.time ≤ 65535) ∧ (0 ≤ m.tid ∧ m.tid ≤ 65535) ∧ (0 ≤ m.mid ∧ m.mid ≤ 65535) ∧ (0 ≤ m.code ∧ m.code ≤ 255) ∧ flagOk m.fl.q m.fl.typ = true
theorem rng_of {m : Ms} (hf : fitsM m = true) (hfl : flagOk m.fl.q m.fl.typ = true) : Rng m := by
 simp only [fitsM, fitB, Bool.and_eq_true, decide_eq_true_eq] at hf
 obtain ⟨⟨⟨⟨⟨⟨⟨⟨a, b⟩, c⟩, d⟩, e⟩, f⟩, g⟩, h⟩, i⟩ := hf
 exact ⟨a.1, b.1, d.1, e.1, f.1, c.1, hfl⟩
end Go.Proofs.YtanofjmkkhocaaaGreatDoor
namespace Go.Proofs.YtanofjmkkhocaaaGreatDoor
open Go.RowKit
theorem load_Msg (a : Addr) : loadVar 38 a = rowSem 38 a := rfl
attribute [local go_sem ↓] Go.wp_at_zero Go.wp_at_succ load_Msg
def CheckSaid (m : Ms) (e : Int) : Prop := ∀ w : World, Mx w → Calls Tryz.prog 406 #[.agg m.cs] w fun r w' => r = .returned (.int .i64 e) ∧ Below w.heap.size w w'
theorem load_msg {w : World} {b : Nat} {m : Ms} (h : Obj? w b #[.int .i64 m.ty, .bool m.fl.dup, .int .i64 m.fl.q, .bool m.fl.retain, .bool m.fl.will, .bool m.fl.clean, .int .i64 m.fl.typ, .int .i64 m.gw, .int .i64 m.rad, .int .i64 m.time, .bool m.timed, .int .i64 m.tid, .int .i64 m.mid, .int .i64 m.code, .string ⟨m.name.toArray⟩, .string ⟨m.data.toArray⟩] 38) : (rowSem 38 ⟨b, 0, none⟩).run Tryz.prog w = .ok (.agg #[.int .i64 m.ty, .bool m.fl.dup, .int .i64 m.fl.q, .bool m.fl.retain, .bool m.fl.will, .bool m.fl.clean, .int .i64 m.fl.typ, .int .i64 m.gw, .int .i64 m.rad, .int .i64 m.time, .bool m.timed, .int .i64 m.tid, .int .i64 m.mid, .int .i64 m.code, .string ⟨m.name.toArray⟩, .string ⟨m.data.toArray⟩]) w :=
 rowSem_run w b 38 38 _ _ h Tryz.underlying38 rfl infoMs
theorem load_msgA {w : World} {b : Nat} {A : Array Value} (hs : A.size = 16) (h : Obj? w b A 38) : (rowSem 38 ⟨b, 0, none⟩).run Tryz.prog w = .ok (.agg A) w :=
 rowSem_run w b 38 38 _ _ h Tryz.underlying38 rfl (by rw [infoMs, hs])
theorem lkC_mid (X : Ms) (bad : Bool) : lkC X bad = #[.pointer none, .int .i64 2] ++ X.cs ++ #[.slice none 0 0, .bool bad] := by simp [lkC, cdC, Ms.cs]
theorem load_look {w : World} {b : Nat} {X : Ms} {bad : Bool} (h : Obj? w b (lkC X bad) 461) : (rowSem 38 ⟨b, 2, none⟩).run Tryz.prog w = .ok (.agg X.cs) w := by
 rw [lkC_mid] at h
 exact rowSem_mid w b 2 38 X.cs _ (fun j v hv => Obj?.mid h j v hv) Tryz.underlying38 rfl infoMs
theorem obj_below_drew {w w' : World} {b : Nat} {cs : Array Value} {t : TypeId} (hb : Below w.drew.heap.size w.drew w') (h : Obj? w b cs t) : Obj? w' b cs t :=
 Obj?.below (show Obj? w.drew b cs t from h) hb (Obj?.lt h)
theorem below_drewM {A : Nat} {a b : World} (h : Below A a b) : Below A a b.drew := ⟨h.os, h.tape, h.output, h.size, h.block⟩
theorem obj_msg {w : World} (m : Ms) {w2 : World} (hb : Below (w.alloc (.cells m.cs 38 (0, 0))).heap.size (w.alloc (.cells m.cs 38 (0, 0))) w2) : Obj? w2 w.heap.size m.cs 38 :=
 (Obj?.new w m.cs 38).below hb (Obj?.new w m.cs 38).lt
theorem check_kind (m : Ms) (hk : kindM m.ty = false) : CheckSaid m 8 := by
 intro w hmx
 have H1 := Lib.hid (fun w => message_any m.ty w)
 rw [hk] at H1
 clear hk
 unfold Ms.cs
 go_enter Tryz.func406, Tryz.ntmps406
 go_wp2_with fail
 refine (H1.out _).mono ?_
 rintro r w1 ⟨rfl, hw1⟩
 subst hw1
 go_wp2
 go_ret
 exact ⟨rfl, below_al (Below.refl _ _) _⟩
theorem check_mayno (m : Ms) (hk : kindM m.ty = true) (hm : mayF m.ty m.fl = false) : CheckSaid m 7 := by
 intro w hmx
 have H1 := Lib.hid (fun w => message_any m.ty w)
 have H2 := Lib.hid (fun w => snmay_any m.ty m.fl w)
 rw [hk] at H1
 rw [hm] at H2
 clear hk hm
 unfold Ms.cs
 go_enter Tryz.func406, Tryz.ntmps406
 go_wp2_with fail
 refine (H1.out _).mono ?_
 rintro r w1 ⟨rfl, hw1⟩
 subst hw1
 go_wp2_with fail
 refine (H2.out _).mono ?_
 rintro r w2 ⟨rfl, hb⟩
 have O2 := obj_msg m hb
 have hkc := O2.cells
 unfold Ms.cs at hkc
 have HB := Lib.hid ((below_al (Below.refl _ w) (.cells m.cs 38 (0, 0))).trans (hb.mono (below_al (Below.refl _ w) (.cells m.cs 38 (0, 0))).size))
 have HO := Lib.hid O2
 unfold Ms.cs at HO
 clear hb O2
 go_wp2
 go_ret
 exact ⟨rfl, HB.out⟩
theorem check_wills (m : Ms) (hk : kindM m.ty = true) (hm : mayF m.ty m.fl = true) (hw : willB m.ty = true) (he : m.name.isEmpty = true) (hf : m.fl ≠ fl0) : CheckSaid m 7 := by
 intro w hmx
 have H1 := Lib.hid (fun w => message_any m.ty w)
 have H2 := Lib.hid (fun w => snmay_any m.ty m.fl w)
 have H3 := Lib.hid (fun w => will_any m.ty w)
 have hcmp := fun w => neq_fl0 m.fl w hf
 rw [hk] at H1
 rw [hm] at H2
 rw [hw] at H3
 clear hk hm hw hf
 unfold Ms.cs
 go_enter Tryz.func406, Tryz.ntmps406
 go_wp2_with fail
 refine (H1.out _).mono ?_
 rintro r w1 ⟨rfl, hw1⟩
 subst hw1
 go_wp2_with fail
 refine (H2.out _).mono ?_
 rintro r w2 ⟨rfl, hb⟩
 have O2 := obj_msg m hb
 have hkc := O2.cells
 unfold Ms.cs at hkc
 have HB := Lib.hid ((below_al (Below.refl _ w) (.cells m.cs 38 (0, 0))).trans (hb.mono (below_al (Below.refl _ w) (.cells m.cs 38 (0, 0))).size))
 have HO := Lib.hid O2
 unfold Ms.cs at HO
 clear hb O2
 go_wp2_with fail
 refine (H3.out _).mono ?_
 rintro r w3 ⟨rfl, hw3⟩
 subst hw3
 go_wp2
 go_ret
 exact ⟨rfl, HB.out⟩
end Go.Proofs.YtanofjmkkhocaaaGreatDoor
