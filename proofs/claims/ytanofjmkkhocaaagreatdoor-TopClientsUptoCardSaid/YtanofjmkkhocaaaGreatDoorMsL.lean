/- snmsg: the parts that look. snmsg: the parts that look: flags, protocol, will, topic, duration; all of them. snmsg: compares of structs. snmsg: the parts that write. snmsg: the parts that read. snmsg: layout. snmsg: through. snmsg: through, in each of the three modes; rest. -/
import Derived.Test.YtanofjmkkhocaaaGreatDoorMsB
import Derived.Deep.RegionWith
import Derived.Great.BuildSlice
import Derived.Shelf.Abstract
import Derived.Deep.WholeRow
import Derived.Deep.Cut
set_option linter.unusedVariables false
set_option linter.unusedSimpArgs false
set_option maxRecDepth 100000
set_option maxHeartbeats 3200000
namespace Go.Proofs.YtanofjmkkhocaaaGreatDoor
open Go.RowKit
def LookSaid (p : Pt) : Prop := ∀ (w : World) (cb : Nat) (m : Ms) (bad : Bool), Obj? w cb (lkC m bad) 461 → Calls Tryz.prog p.fn #[.pointer (some ⟨cb, 0, none⟩)] w fun r w' => r = .returned (.tuple #[]) ∧ Obj? w' cb (lkC (lookP p (m, bad)).1 (lookP p (m, bad)).2) 461 ∧ ∀ B, B ≤ w.heap.size → Kp B cb cb w w'
theorem look_gateway : LookSaid .gateway := by
 intro w cb m bad h
 have H := Lib.hid (number_look1 (j := 9) h rfl rfl rfl (by decide))
 have hlt := h.lt
 clear h
 show Calls Tryz.prog 422 _ _ _
 go_enter Tryz.func422, Tryz.ntmps422
 go_wp2_with fail
 refine H.out.mono ?_
 rintro r w1 ⟨rfl, ho, hg⟩
 have HF := Lib.hid (And.intro ho hg)
 clear ho hg
 go_wp2
 go_end0
 exact ⟨rfl, HF.out.1, fun B hB => Kp.of_grown HF.out.2 hB (.inl rfl)⟩
theorem look_radius : LookSaid .radius := by
 intro w cb m bad h
 have H := Lib.hid (number_look1 (j := 10) h rfl rfl rfl (by decide))
 have hlt := h.lt
 clear h
 show Calls Tryz.prog 424 _ _ _
 go_enter Tryz.func424, Tryz.ntmps424
 go_wp2_with fail
 refine H.out.mono ?_
 rintro r w1 ⟨rfl, ho, hg⟩
 have HF := Lib.hid (And.intro ho hg)
 clear ho hg
 go_wp2
 go_end0
 exact ⟨rfl, HF.out.1, fun B hB => Kp.of_grown HF.out.2 hB (.inl rfl)⟩
theorem look_code : LookSaid .code := by
 intro w cb m bad h
 have H := Lib.hid (number_look1 (j := 15) h rfl rfl rfl (by decide))
 have hlt := h.lt
 clear h
 show Calls Tryz.prog 428 _ _ _
 go_enter Tryz.func428, Tryz.ntmps428
 go_wp2_with fail
 refine H.out.mono ?_
 rintro r w1 ⟨rfl, ho, hg⟩
 have HF := Lib.hid (And.intro ho hg)
 clear ho hg
 go_wp2
 go_end0
 exact ⟨rfl, HF.out.1, fun B hB => Kp.of_grown HF.out.2 hB (.inl rfl)⟩
theorem look_time : LookSaid .time := by
 intro w cb m bad h
 have H := Lib.hid (number_look2 (j := 11) h rfl rfl rfl (by decide))
 have hlt := h.lt
 clear h
 show Calls Tryz.prog 423 _ _ _
 go_enter Tryz.func423, Tryz.ntmps423
 go_wp2_with fail
 refine H.out.mono ?_
 rintro r w1 ⟨rfl, ho, hg⟩
 have HF := Lib.hid (And.intro ho hg)
 clear ho hg
 go_wp2
 go_end0
 exact ⟨rfl, HF.out.1, fun B hB => Kp.of_grown HF.out.2 hB (.inl rfl)⟩
theorem look_id : LookSaid .id := by
 intro w cb m bad h
 have H := Lib.hid (number_look2 (j := 13) h rfl rfl rfl (by decide))
 have hlt := h.lt
 clear h
 show Calls Tryz.prog 431 _ _ _
 go_enter Tryz.func431, Tryz.ntmps431
 go_wp2_with fail
 refine H.out.mono ?_
 rintro r w1 ⟨rfl, ho, hg⟩
 have HF := Lib.hid (And.intro ho hg)
 clear ho hg
 go_wp2
 go_end0
 exact ⟨rfl, HF.out.1, fun B hB => Kp.of_grown HF.out.2 hB (.inl rfl)⟩
theorem look_msg : LookSaid .msg := by
 intro w cb m bad h
 have H := Lib.hid (number_look2 (j := 14) h rfl rfl rfl (by decide))
 have hlt := h.lt
 clear h
 show Calls Tryz.prog 432 _ _ _
 go_enter Tryz.func432, Tryz.ntmps432
 go_wp2_with fail
 refine H.out.mono ?_
 rintro r w1 ⟨rfl, ho, hg⟩
 have HF := Lib.hid (And.intro ho hg)
 clear ho hg
 go_wp2
 go_end0
 exact ⟨rfl, HF.out.1, fun B hB => Kp.of_grown HF.out.2 hB (.inl rfl)⟩
theorem look_name : LookSaid .name := by
 intro w cb m bad h
 have H := Lib.hid (text_look (j := 16) h rfl rfl)
 clear h
 show Calls Tryz.prog 425 _ _ _
 go_enter Tryz.func425, Tryz.ntmps425
 go_wp2_with fail
 refine H.out.mono ?_
 rintro r w1 ⟨rfl, ho, hg⟩
 have HF := Lib.hid (And.intro ho hg)
 clear ho hg
 go_wp2
 go_end0
 exact ⟨rfl, HF.out.1, fun B hB => Kp.of_grown HF.out.2 hB (.inl rfl)⟩
theorem look_data : LookSaid .data := by
 intro w cb m bad h
 have H := Lib.hid (text_look (j := 17) h rfl rfl)
 clear h
 show Calls Tryz.prog 430 _ _ _
 go_enter Tryz.func430, Tryz.ntmps430
 go_wp2_with fail
 refine H.out.mono ?_
 rintro r w1 ⟨rfl, ho, hg⟩
 have HF := Lib.hid (And.intro ho hg)
 clear ho hg
 go_wp2
 go_end0
 exact ⟨rfl, HF.out.1, fun B hB => Kp.of_grown HF.out.2 hB (.inl rfl)⟩
end Go.Proofs.YtanofjmkkhocaaaGreatDoor
namespace Go.Proofs.YtanofjmkkhocaaaGreatDoor
open Go.RowKit
theorem look_flags : LookSaid .flags := by
 intro w cb m bad h
 have kc := h.cells
 simp only [lkC, cdC] at kc
 have HO := Lib.hid h
 have hlt := h.lt
 clear h
 show Calls Tryz.prog 426 _ _ _
 go_enter Tryz.func426, Tryz.ntmps426
 go_wp2_with fail
 refine (flag_fl m.fl _).mono ?_
 rintro r w1 ⟨rfl, hb⟩
 have hA := below_al hb (.cells #[.int .i64 (flagV m.fl).1] 3 (0, 0))
 have O1 := (HO.out.below hb hlt).alloc (.cells #[.int .i64 (flagV m.fl).1] 3 (0, 0))
 have kc1 := (HO.out.below hb hlt).cells
 have kc2 := O1.cells
 simp only [lkC, cdC] at kc1 kc2
 have HF := Lib.hid (And.intro O1 hA)
 clear hb hA O1 kc
 go_wp2
 (try simp only [Exit.inBlock, Exit.then])
 refine bodyPost_ret (results_none rfl _ _ _) rfl ?_
 exact ⟨rfl, HF.out.1, fun B hB => Kp.of_below HF.out.2 hB⟩
theorem number_look_one {w : World} {cb nb : Nat} {cs : Array Value} {bad : Bool} {T : TypeId} (h : Obj? w cb cs 461) (h0 : cs[1]? = some (.int .i64 2)) (hb : cs[19]? = some (.bool bad)) (hn : Obj? w nb #[.int .i64 1] T) (hne : nb ≠ cb) :
  Calls Tryz.prog 435 #[.pointer (some ⟨cb, 0, none⟩), .pointer (some ⟨nb, 0, none⟩), .int .i64 1] w fun e w' => e = .returned (.tuple #[]) ∧ Obj? w' cb (cs.setIfInBounds 19 (.bool bad)) 461 ∧ Obj? w' nb #[.int .i64 0] T ∧ ∀ B, B ≤ nb → Kp B cb cb w w' := by
 have k1 := h.cell 1 _ h0
 have k19 := h.cell 19 _ hb
 have kf := fun j => h.frozen j
 have kn := hn.cell 0 _ rfl
 have kg := hn.frozen 0
 have HO := Lib.hid (And.intro h hn)
 clear h h0 hb hn
 cases bad
 all_goals
  go_enter Tryz.func435, Tryz.ntmps435
  go_wp2_with fail
  go_region
  all_goals
   go_wp2
   go_end0
   refine ⟨rfl, ?_, ?_, fun B hB => ?_⟩
   ·exact Obj?.kept (row := some nb) (obj_drewM (HO.out.1.set 19 _)) (grown_set (World.grownBy.refl _ _) (p := ⟨nb, 0, none⟩) rfl _) (by simp; exact hne)
   ·exact Obj?.set (Obj?.kept (row := some cb) HO.out.2 (grown_set (World.grownBy.refl _ _) (p := ⟨cb, 19, none⟩) rfl _) (by simp; exact Ne.symm hne)) 0 _
   ·exact (((Kp.refl B cb cb w).set (j := 19) (.inl rfl)).set (.inr (.inr hB))).drew
theorem look_protocol : LookSaid .protocol := by
 intro w cb m bad h
 have hlt := h.lt
 have O1 := h.alloc (.cells #[.int .i64 1] 3 (0, 0))
 have H := Lib.hid (number_look_one O1 rfl rfl (Obj?.new w #[.int .i64 1] 3) (by omega))
 have HS : Hid ((lkC m bad).setIfInBounds 19 (.bool bad) = lkC m bad) := Lib.hid rfl
 clear h O1
 show Calls Tryz.prog 427 _ _ _
 go_enter Tryz.func427, Tryz.ntmps427
 go_wp2_with fail
 refine H.out.mono ?_
 rintro r w1 ⟨rfl, ho, hn, hk⟩
 have kc := ho.cells
 rw [HS.out] at kc ho
 simp only [lkC, cdC] at kc
 have HF := Lib.hid (And.intro ho hk)
 have kn := hn.cell 0 _ rfl
 clear ho hk hn
 go_wp2
 go_end0
 exact ⟨rfl, HF.out.1, fun B hB => ((Kp.refl B cb cb w).alloc hB _).trans (HF.out.2 B hB)⟩
theorem look_will : LookSaid .will := by
 intro w cb m bad h
 have kc := h.cells
 simp only [lkC, cdC] at kc
 have HO := Lib.hid h
 clear h
 show Calls Tryz.prog 429 _ _ _
 by_cases hn : m.name = []
 ·have HL := Lib.hid (show lookP .will (m, bad) = (m, bad) by simp [lookP, hn])
  have he : m.name.isEmpty = true := by rw [hn]; rfl
  rw [HL.out]
  clear hn
  go_enter Tryz.func429, Tryz.ntmps429
  go_wp2
  (try simp only [Exit.inBlock, Exit.then])
  refine bodyPost_ret (results_none rfl _ _ _) rfl ?_
  exact ⟨rfl, HO.out, fun B hB => Kp.refl _ _ _ _⟩
 ·have HL := Lib.hid (show lookP .will (m, bad) = ({ m with name := [] }, bad) by simp [lookP, hn])
  have he : m.name.isEmpty = false := by cases hm : m.name with | nil => exact absurd hm hn | cons _ _ => rfl
  rw [HL.out]
  clear hn
  go_enter Tryz.func429, Tryz.ntmps429
  go_wp2_with fail
  refine (look_flags w cb m bad HO.out).mono ?_
  rintro r w1 ⟨rfl, ho, hk⟩
  replace ho : Obj? w1 cb (lkC m bad) 461 := ho
  have kc1 := ho.cells
  simp only [lkC, cdC] at kc1
  have HO1 := Lib.hid (And.intro ho hk)
  clear ho hk kc
  go_wp2_with fail
  refine (look_name w1 cb m bad HO1.out.1).mono ?_
  rintro r w2 ⟨rfl, ho, hk⟩
  have HO2 := Lib.hid (And.intro ho hk)
  clear ho hk kc1
  go_wp2
  go_end0
  exact ⟨rfl, HO2.out.1, fun B hB => (HO1.out.2 B hB).trans (HO2.out.2 B (Nat.le_trans hB (HO1.out.2 B hB).size))⟩
theorem look_topic : LookSaid .topic := by
 intro w cb m bad h
 have kc := h.cells
 simp only [lkC, cdC] at kc
 have HO := Lib.hid h
 clear h
 show Calls Tryz.prog 433 _ _ _
 by_cases hn : m.fl.typ = 0
 ·have HL := Lib.hid (show lookP .topic (m, bad) = lookP .name (m, bad) by simp [lookP, hn])
  have he : (m.fl.typ == 0) = true := by simpa using hn
  rw [HL.out]
  clear hn
  go_enter Tryz.func433, Tryz.ntmps433
  go_wp2_with fail
  refine (look_name w cb m bad HO.out).mono ?_
  rintro r w2 ⟨rfl, ho, hk⟩
  have HO2 := Lib.hid (And.intro ho hk)
  clear ho hk kc
  go_wp2
  go_end0
  exact ⟨rfl, HO2.out.1, HO2.out.2⟩
 ·have HL := Lib.hid (show lookP .topic (m, bad) = lookP .id (m, bad) by simp [lookP, hn])
  have he : (m.fl.typ == 0) = false := by simpa using hn
  rw [HL.out]
  clear hn
  go_enter Tryz.func433, Tryz.ntmps433
  go_wp2_with fail
  refine (look_id w cb m bad HO.out).mono ?_
  rintro r w2 ⟨rfl, ho, hk⟩
  have HO2 := Lib.hid (And.intro ho hk)
  clear ho hk kc
  go_wp2
  go_end0
  exact ⟨rfl, HO2.out.1, HO2.out.2⟩
theorem look_duration : LookSaid .duration := by
 intro w cb m bad h
 have kc := h.cells
 simp only [lkC, cdC] at kc
 have kf := h.froz
 have HO := Lib.hid h
 clear h
 show Calls Tryz.prog 434 _ _ _
 cases ht : m.timed with
 | false =>
  have HL := Lib.hid (show lookP .duration (m, bad) = ({ m with timed := false }, bad) by simp [lookP, ht]; cases m; simp_all)
  rw [HL.out]
  rw [ht] at kc
  clear ht
  go_enter Tryz.func434, Tryz.ntmps434
  go_wp2
  go_end0
  exact ⟨rfl, HO.out.set 12 _, fun B hB => (Kp.refl B cb cb w).set (.inl rfl)⟩
 | true =>
  have HL := Lib.hid (show lookP .duration (m, bad) = ({ m with time := 0, timed := false }, lkNum m.time 2 bad) by simp [lookP, ht])
  rw [HL.out]
  rw [ht] at kc
  clear ht
  go_enter Tryz.func434, Tryz.ntmps434
  go_wp2_with fail
  refine (look_time w cb m bad HO.out).mono ?_
  rintro r w1 ⟨rfl, ho, hk⟩
  replace ho : Obj? w1 cb (lkC { m with time := 0 } (lkNum m.time 2 bad)) 461 := ho
  have kc1 := ho.cells
  simp only [lkC, cdC] at kc1
  have kf1 := ho.froz
  have HO2 := Lib.hid (And.intro ho hk)
  clear ho hk kc kf
  go_wp2
  go_end0
  exact ⟨rfl, HO2.out.1.set 12 _, fun B hB => (HO2.out.2 B hB).set (.inl rfl)⟩
theorem look_all (p : Pt) : LookSaid p := by
 cases p
 ·exact look_gateway
 ·exact look_radius
 ·exact look_code
 ·exact look_time
 ·exact look_id
 ·exact look_msg
 ·exact look_name
 ·exact look_data
 ·exact look_flags
 ·exact look_protocol
 ·exact look_will
 ·exact look_topic
 ·exact look_duration
end Go.Proofs.YtanofjmkkhocaaaGreatDoor
namespace Go.Proofs.YtanofjmkkhocaaaGreatDoor
open Go.RowKit
theorem Fl.ext_iff' (a b : Fl) : (a.dup = b.dup ∧ a.q = b.q ∧ a.retain = b.retain ∧ a.will = b.will ∧ a.clean = b.clean ∧ a.typ = b.typ) ↔ a = b := by
 cases a; cases b; simp
instance instDecFl : DecidableEq Fl := fun a b => decidable_of_iff _ (Fl.ext_iff' a b)
theorem Ms.ext_iff' (a b : Ms) : (a.ty = b.ty ∧ a.fl = b.fl ∧ a.gw = b.gw ∧ a.rad = b.rad ∧ a.time = b.time ∧ a.timed = b.timed ∧ a.tid = b.tid ∧ a.mid = b.mid ∧ a.code = b.code ∧ a.name = b.name ∧ a.data = b.data) ↔ a = b := by
 cases a; cases b; simp
instance instDecMs : DecidableEq Ms := fun a b => decidable_of_iff _ (Ms.ext_iff' a b)
theorem neq_fl0 (f : Fl) (w : World) (hne : f ≠ fl0) : (binOp .neq 36 (.agg #[.bool f.dup, .int .i64 f.q, .bool f.retain, .bool f.will, .bool f.clean, .int .i64 f.typ]) (.agg #[.bool false, .int .i64 0, .bool false, .bool false, .bool false, .int .i64 0])).run Tryz.prog w = .ok (.bool true) w := by
 obtain ⟨dup, q, retain, will, clean, typ⟩ := f
 dsimp only
 cases dup
 ·go_simp
  intro h1 h2 h3 h4 h5
  exact hne (by rw [h1, h2, h3, h4, h5]; rfl)
 ·go_simp
theorem neq_fl0_no (w : World) : (binOp .neq 36 (.agg #[.bool fl0.dup, .int .i64 fl0.q, .bool fl0.retain, .bool fl0.will, .bool fl0.clean, .int .i64 fl0.typ]) (.agg #[.bool false, .int .i64 0, .bool false, .bool false, .bool false, .int .i64 0])).run Tryz.prog w = .ok (.bool false) w := by
 unfold fl0
 go_simp
def Ms.bare (ty : Int) (fl : Fl) : Ms := ⟨ty, fl, 0, 0, 0, false, 0, 0, 0, [], []⟩
def msNeq (x : Ms) (ty : Int) (fl : Fl) (w : World) (b : Bool) : Prop := (binOp .neq 38 (.agg #[.int .i64 x.ty, .bool x.fl.dup, .int .i64 x.fl.q, .bool x.fl.retain, .bool x.fl.will, .bool x.fl.clean, .int .i64 x.fl.typ, .int .i64 x.gw, .int .i64 x.rad, .int .i64 x.time, .bool x.timed, .int .i64 x.tid, .int .i64 x.mid, .int .i64 x.code, .string ⟨x.name.toArray⟩, .string ⟨x.data.toArray⟩]) (.agg #[.int .i64 ty, .bool fl.dup, .int .i64 fl.q, .bool fl.retain, .bool fl.will, .bool fl.clean, .int .i64 fl.typ, .int .i64 0, .int .i64 0, .int .i64 0, .bool false, .int .i64 0, .int .i64 0, .int .i64 0, .string ⟨#[]⟩, .string ⟨#[]⟩])).run Tryz.prog w = .ok (.bool b) w
theorem neq_bare (x : Ms) (ty : Int) (fl : Fl) (w : World) (hne : x ≠ Ms.bare ty fl) : msNeq x ty fl w true := by
 obtain ⟨ty', ⟨dup, q, retain, will, clean, typ⟩, gw, rad, time, timed, tid, mid, code, name, data⟩ := x
 obtain ⟨dup', q', retain', will', clean', typ'⟩ := fl
 unfold msNeq
 dsimp only
 go_simp
 intro h1 h2 h3 h4 h5 h6 h7 h8 h9 h10 h11 h12 h13 h14 h15 h16
 exact hne (by rw [h1, h2, h3, h4, h5, h6, h7, h8, h9, h10, h11, h12, h13, h14, h15, h16]; rfl)
theorem neq_bare_no (x : Ms) (ty : Int) (fl : Fl) (w : World) (he : x = Ms.bare ty fl) : msNeq x ty fl w false := by
 subst he
 unfold msNeq Ms.bare
 dsimp only
 go_simp
end Go.Proofs.YtanofjmkkhocaaaGreatDoor
namespace Go.Proofs.YtanofjmkkhocaaaGreatDoor
open Go.RowKit
theorem InvW.below {w w' : World} {B cb : Nat} {m : Ms} {out : List UInt8} (h : InvW w B cb m out) (hb : Below w.heap.size w w') : InvW w' B cb m out := by
 obtain ⟨h1, h2, v, h3, h4⟩ := h
 exact ⟨h1, Nat.le_trans h2 hb.size, v, h3.below hb h3.lt, own_below hb h4⟩
def wrC (m : Ms) (v : Value) : Array Value := cdC (.pointer none) 1 m v false
theorem num_write {w : World} {B cb j : Nat} {m : Ms} {out : List UInt8} {x size : Int} (h : InvW w B cb m out) (hl : (out.length : Int) ≤ 50000000) (hj : ∀ v, (wrC m v)[j]? = some (.int .i64 x)) (hx : 0 ≤ x ∧ x ≤ 65535) (hs : size = 1 ∨ size = 2) :
  Calls Tryz.prog 435 #[.pointer (some ⟨cb, 0, none⟩), .pointer (some ⟨cb, j, none⟩), .int .i64 size] w fun e w' => e = .returned (.tuple #[]) ∧ InvW w' B cb m (out ++ putL x size) ∧ Kp B cb cb w w' := by
 obtain ⟨h1, h2, v, h3, h4⟩ := h
 have h3' : Obj? w cb (wrC m v) 461 := h3
 refine (number_write (pb := cb) (pj := j) h3' rfl rfl (h3'.cell j _ (hj v)) h3.lt hx.1 (by omega) hs h4 (by omega) h1 h2 (.inl h1)).mono ?_
 rintro e w' ⟨rfl, v', ho, hw, hk⟩
 refine ⟨rfl, ⟨h1, Nat.le_trans h2 hk.size, v', ho, ?_⟩, hk⟩
 have e : (out ++ putL x size).length = out.length + size.toNat := by rw [List.length_append, length_putL]; rcases hs with rfl | rfl <;> rfl
 rw [e]; exact hw
theorem num_write_var {w : World} {B cb nb : Nat} {m : Ms} {out : List UInt8} {x size : Int} {T : TypeId} (h : InvW w B cb m out) (hl : (out.length : Int) ≤ 50000000) (hn : Obj? w nb #[.int .i64 x] T) (hx : 0 ≤ x ∧ x ≤ 65535) (hs : size = 1 ∨ size = 2) (hnv : ∀ v, Obj? w cb (wrC m v) 461 → ∀ g, v.ownBlock = some g → g ≠ nb) :
  Calls Tryz.prog 435 #[.pointer (some ⟨cb, 0, none⟩), .pointer (some ⟨nb, 0, none⟩), .int .i64 size] w fun e w' => e = .returned (.tuple #[]) ∧ InvW w' B cb m (out ++ putL x size) ∧ Kp B cb cb w w' := by
 obtain ⟨h1, h2, v, h3, h4⟩ := h
 refine (number_write (pb := nb) (pj := 0) h3 rfl rfl (hn.cell 0 _ rfl) hn.lt hx.1 (by omega) hs h4 (by omega) h1 h2 (.inr (hnv v h3))).mono ?_
 rintro e w' ⟨rfl, v', ho, hw, hk⟩
 refine ⟨rfl, ⟨h1, Nat.le_trans h2 hk.size, v', ho, ?_⟩, hk⟩
 have e : (out ++ putL x size).length = out.length + size.toNat := by rw [List.length_append, length_putL]; rcases hs with rfl | rfl <;> rfl
 rw [e]; exact hw
theorem txt_write {w : World} {B cb j : Nat} {m : Ms} {out s : List UInt8} (h : InvW w B cb m out) (hl : (out.length : Int) ≤ 50000000) (hj : ∀ v, (wrC m v)[j]? = some (.string ⟨s.toArray⟩)) (hs : (s.length : Int) ≤ 100000) :
  Calls Tryz.prog 436 #[.pointer (some ⟨cb, 0, none⟩), .pointer (some ⟨cb, j, none⟩)] w fun e w' => e = .returned (.tuple #[]) ∧ InvW w' B cb m (out ++ s) ∧ Kp B cb cb w w' := by
 obtain ⟨h1, h2, v, h3, h4⟩ := h
 have h3' : Obj? w cb (wrC m v) 461 := h3
 refine (text_write (pj := j) h3' rfl rfl (hj v) h4 (by omega) (by omega) h1 h2).mono ?_
 rintro e w' ⟨rfl, v', ho, hw, hk⟩
 refine ⟨rfl, ⟨h1, Nat.le_trans h2 hk.size, v', ho, ?_⟩, hk⟩
 rw [List.length_append]; exact hw
def WriteB (M : Int) (p : Pt) : Prop := ∀ (w : World) (B cb : Nat) (m : Ms) (out : List UInt8), InvW w B cb m out → MsOk m → (out.length : Int) ≤ M → Calls Tryz.prog p.fn #[.pointer (some ⟨cb, 0, none⟩)] w fun r w' => r = .returned (.tuple #[]) ∧ InvW w' B cb m (out ++ writeP p m) ∧ Kp B cb cb w w'
abbrev WriteSaid (p : Pt) : Prop := WriteB 49000000 p
theorem InvW.cells {w : World} {B cb : Nat} {m : Ms} {out : List UInt8} (h : InvW w B cb m out) : ∃ v, ∀ j, w.cell? ⟨cb, j, none⟩ = (wrC m v)[j]? := by
 obtain ⟨h1, h2, v, h3, h4⟩ := h
 exact ⟨v, h3.cells⟩
theorem write_gateway : WriteSaid .gateway := by
 intro w B cb m out h hm hl
 have H := Lib.hid (num_write (j := 9) (x := m.gw) (size := 1) h (by omega) (fun _ => rfl) (show 0 ≤ m.gw ∧ m.gw ≤ 65535 from hm.1) (by decide))
 clear h
 show Calls Tryz.prog 422 _ _ _
 go_enter Tryz.func422, Tryz.ntmps422
 go_wp2_with fail
 refine H.out.mono ?_
 rintro r w1 ⟨rfl, ho, hk⟩
 have HF := Lib.hid (And.intro ho hk)
 clear ho hk
 go_wp2
 go_end0
 exact ⟨rfl, HF.out.1, HF.out.2⟩
theorem write_radius : WriteSaid .radius := by
 intro w B cb m out h hm hl
 have H := Lib.hid (num_write (j := 10) (x := m.rad) (size := 1) h (by omega) (fun _ => rfl) (show 0 ≤ m.rad ∧ m.rad ≤ 65535 from hm.2.1) (by decide))
 clear h
 show Calls Tryz.prog 424 _ _ _
 go_enter Tryz.func424, Tryz.ntmps424
 go_wp2_with fail
 refine H.out.mono ?_
 rintro r w1 ⟨rfl, ho, hk⟩
 have HF := Lib.hid (And.intro ho hk)
 clear ho hk
 go_wp2
 go_end0
 exact ⟨rfl, HF.out.1, HF.out.2⟩
theorem write_code : WriteSaid .code := by
 intro w B cb m out h hm hl
 have H := Lib.hid (num_write (j := 15) (x := m.code) (size := 1) h (by omega) (fun _ => rfl) (show 0 ≤ m.code ∧ m.code ≤ 65535 from hm.2.2.2.2.2.1) (by decide))
 clear h
 show Calls Tryz.prog 428 _ _ _
 go_enter Tryz.func428, Tryz.ntmps428
 go_wp2_with fail
 refine H.out.mono ?_
 rintro r w1 ⟨rfl, ho, hk⟩
 have HF := Lib.hid (And.intro ho hk)
 clear ho hk
 go_wp2
 go_end0
 exact ⟨rfl, HF.out.1, HF.out.2⟩
theorem write_time : WriteSaid .time := by
 intro w B cb m out h hm hl
 have H := Lib.hid (num_write (j := 11) (x := m.time) (size := 2) h (by omega) (fun _ => rfl) (show 0 ≤ m.time ∧ m.time ≤ 65535 from hm.2.2.1) (by decide))
 clear h
 show Calls Tryz.prog 423 _ _ _
 go_enter Tryz.func423, Tryz.ntmps423
 go_wp2_with fail
 refine H.out.mono ?_
 rintro r w1 ⟨rfl, ho, hk⟩
 have HF := Lib.hid (And.intro ho hk)
 clear ho hk
 go_wp2
 go_end0
 exact ⟨rfl, HF.out.1, HF.out.2⟩
theorem write_id : WriteSaid .id := by
 intro w B cb m out h hm hl
 have H := Lib.hid (num_write (j := 13) (x := m.tid) (size := 2) h (by omega) (fun _ => rfl) (show 0 ≤ m.tid ∧ m.tid ≤ 65535 from hm.2.2.2.1) (by decide))
 clear h
 show Calls Tryz.prog 431 _ _ _
 go_enter Tryz.func431, Tryz.ntmps431
 go_wp2_with fail
 refine H.out.mono ?_
 rintro r w1 ⟨rfl, ho, hk⟩
 have HF := Lib.hid (And.intro ho hk)
 clear ho hk
 go_wp2
 go_end0
 exact ⟨rfl, HF.out.1, HF.out.2⟩
theorem write_msg : WriteSaid .msg := by
 intro w B cb m out h hm hl
 have H := Lib.hid (num_write (j := 14) (x := m.mid) (size := 2) h (by omega) (fun _ => rfl) (show 0 ≤ m.mid ∧ m.mid ≤ 65535 from hm.2.2.2.2.1) (by decide))
 clear h
 show Calls Tryz.prog 432 _ _ _
 go_enter Tryz.func432, Tryz.ntmps432
 go_wp2_with fail
 refine H.out.mono ?_
 rintro r w1 ⟨rfl, ho, hk⟩
 have HF := Lib.hid (And.intro ho hk)
 clear ho hk
 go_wp2
 go_end0
 exact ⟨rfl, HF.out.1, HF.out.2⟩
theorem write_name : WriteSaid .name := by
 intro w B cb m out h hm hl
 have H := Lib.hid (txt_write (j := 16) (s := m.name) h (by omega) (fun _ => rfl) (show (m.name.length : Int) ≤ 100000 from hm.2.2.2.2.2.2.1))
 clear h
 show Calls Tryz.prog 425 _ _ _
 go_enter Tryz.func425, Tryz.ntmps425
 go_wp2_with fail
 refine H.out.mono ?_
 rintro r w1 ⟨rfl, ho, hk⟩
 have HF := Lib.hid (And.intro ho hk)
 clear ho hk
 go_wp2
 go_end0
 exact ⟨rfl, HF.out.1, HF.out.2⟩
theorem write_data : WriteSaid .data := by
 intro w B cb m out h hm hl
 have H := Lib.hid (txt_write (j := 17) (s := m.data) h (by omega) (fun _ => rfl) (show (m.data.length : Int) ≤ 100000 from hm.2.2.2.2.2.2.2.1))
 clear h
 show Calls Tryz.prog 430 _ _ _
 go_enter Tryz.func430, Tryz.ntmps430
 go_wp2_with fail
 refine H.out.mono ?_
 rintro r w1 ⟨rfl, ho, hk⟩
 have HF := Lib.hid (And.intro ho hk)
 clear ho hk
 go_wp2
 go_end0
 exact ⟨rfl, HF.out.1, HF.out.2⟩
theorem flagV_range {f : Fl} (h : flagOk f.q f.typ = true) : 0 ≤ (flagV f).1 ∧ (flagV f).1 ≤ 65535 := by
 obtain ⟨h1, h2, h3, h4⟩ := (by simpa [flagOk] using h : -1 ≤ f.q ∧ f.q ≤ 2 ∧ 0 ≤ f.typ ∧ f.typ ≤ 2)
 unfold flagV flagF
 rw [if_pos h]
 show 0 ≤ flagN f.dup f.q f.retain f.will f.clean f.typ ∧ flagN f.dup f.q f.retain f.will f.clean f.typ ≤ 65535
 unfold flagN bitN
 constructor
 ·have : 0 ≤ f.q % 4 := Int.emod_nonneg _ (by decide)
  split <;> split <;> split <;> split <;> omega
 ·have : f.q % 4 < 4 := Int.emod_lt_of_pos _ (by decide)
  split <;> split <;> split <;> split <;> omega
theorem own_ne {w : World} {B cb : Nat} {m : Ms} {out : List UInt8} (h : InvW w B cb m out) {nb : Nat} (hn : w.heap.size ≤ nb) : ∀ v, Obj? w cb (wrC m v) 461 → ∀ g, v.ownBlock = some g → g ≠ nb := by
 intro v hv g hg
 obtain ⟨h1, h2, v', h3, h4⟩ := h
 have e : v = v' := by
  have a1 := hv.cell 18 v rfl
  have a2 := h3.cell 18 v' rfl
  exact Option.some.inj (a1.symm.trans a2)
 subst e
 have := (h4.lt g hg).2
 omega
theorem write_flags : WriteSaid .flags := by
 intro w B cb m out h hm hl
 obtain ⟨v0, kc⟩ := h.cells
 simp only [wrC, cdC] at kc
 have hfr := flagV_range hm.2.2.2.2.2.2.2.2
 have HI := Lib.hid h
 clear h
 show Calls Tryz.prog 426 _ _ _
 go_enter Tryz.func426, Tryz.ntmps426
 go_wp2_with fail
 refine (flag_fl m.fl _).mono ?_
 rintro r w1 ⟨rfl, hb⟩
 obtain ⟨x, hx⟩ : ∃ x, x = (flagV m.fl).1 := ⟨_, rfl⟩
 rw [← hx] at hfr ⊢
 have HX := Lib.hid hx
 clear hx
 have I1 := HI.out.below hb
 have I2 := I1.below (below_al (Below.refl _ _) (.cells #[.int .i64 x] 3 (0, 0)))
 have N := Obj?.new w1 #[.int .i64 x] 3
 have H := Lib.hid (num_write_var (size := 1) I2 (by omega) N hfr (by decide) (fun v hv => by
  have hlt : cb < w1.heap.size := by have := I1.1; have := I1.2.1; omega
  have hv' : Obj? w1 cb (wrC m v) 461 := by
   unfold Obj? at hv ⊢
   rw [← hv]; exact (((Below.refl w1.heap.size w1).alloc (Nat.le_refl _) _).block cb hlt).symm
  exact own_ne I1 (Nat.le_refl _) v hv'))
 obtain ⟨v1, kc1⟩ := I2.cells
 simp only [wrC, cdC] at kc1
 have HB := Lib.hid (And.intro hb (Nat.le_trans HI.out.2.1 hb.size))
 clear hb I1 I2 N kc
 go_wp2_with fail
 refine H.out.mono ?_
 rintro r w2 ⟨rfl, ho, hk⟩
 obtain ⟨v2, kc2⟩ := ho.cells
 simp only [wrC, cdC] at kc2
 have HF := Lib.hid (And.intro ho hk)
 clear ho hk kc1
 go_wp2
 go_end0
 refine ⟨rfl, ?_, ((Kp.of_below HB.out.1 HI.out.2.1).alloc HI.out.2.1 _).trans HF.out.2⟩
 have := HF.out.1
 rw [HX.out] at this
 exact this
theorem write_protocol : WriteSaid .protocol := by
 intro w B cb m out h hm hl
 have I2 := h.below (below_al (Below.refl _ _) (.cells #[.int .i64 1] 3 (0, 0)))
 have N := Obj?.new w #[.int .i64 1] 3
 have H := Lib.hid (num_write_var (size := 1) I2 (by omega) N (by decide) (by decide) (fun v hv => by
  have hlt : cb < w.heap.size := by have := h.1; have := h.2.1; omega
  have hv' : Obj? w cb (wrC m v) 461 := by
   unfold Obj? at hv ⊢
   rw [← hv]; exact (((Below.refl w.heap.size w).alloc (Nat.le_refl _) _).block cb hlt).symm
  exact own_ne h (Nat.le_refl _) v hv'))
 have hB := h.2.1
 clear h I2 N
 show Calls Tryz.prog 427 _ _ _
 go_enter Tryz.func427, Tryz.ntmps427
 go_wp2_with fail
 refine H.out.mono ?_
 rintro r w1 ⟨rfl, ho, hk⟩
 obtain ⟨v2, kc2⟩ := ho.cells
 simp only [wrC, cdC] at kc2
 have HF := Lib.hid (And.intro ho hk)
 clear ho hk
 go_wp2
 go_end0
 exact ⟨rfl, HF.out.1, ((Kp.refl B cb cb w).alloc hB _).trans HF.out.2⟩
theorem write_will : WriteB 40000000 .will := by
 intro w B cb m out h hm hl
 obtain ⟨v0, kc⟩ := h.cells
 simp only [wrC, cdC] at kc
 have HI := Lib.hid h
 clear h
 show Calls Tryz.prog 429 _ _ _
 by_cases hn : m.name = []
 ·have HL := Lib.hid (show out ++ writeP .will m = out by simp [writeP, hn])
  have he : m.name.isEmpty = true := by rw [hn]; rfl
  rw [HL.out]
  clear hn
  go_enter Tryz.func429, Tryz.ntmps429
  go_wp2
  (try simp only [Exit.inBlock, Exit.then])
  refine bodyPost_ret (results_none rfl _ _ _) rfl ?_
  exact ⟨rfl, HI.out, Kp.refl _ _ _ _⟩
 ·have HL := Lib.hid (show out ++ writeP .will m = out ++ writeP .flags m ++ writeP .name m by simp [writeP, hn])
  have he : m.name.isEmpty = false := by cases hm : m.name with | nil => exact absurd hm hn | cons _ _ => rfl
  rw [HL.out]
  clear hn
  go_enter Tryz.func429, Tryz.ntmps429
  go_wp2_with fail
  refine (write_flags w B cb m out HI.out hm (by omega)).mono ?_
  rintro r w1 ⟨rfl, ho, hk⟩
  obtain ⟨v1, kc1⟩ := ho.cells
  simp only [wrC, cdC] at kc1
  have hl1 : ((out ++ writeP .flags m).length : Int) ≤ 40000000 + 1 := by
   have : (writeP .flags m).length = 1 := by show (putL _ 1).length = 1; rw [length_putL]; rfl
   rw [List.length_append, this]; omega
  have HO1 := Lib.hid (And.intro ho hk)
  clear ho hk kc
  have H2 := Lib.hid (write_name w1 B cb m _ HO1.out.1 hm (by omega))
  go_wp2_with fail
  refine H2.out.mono ?_
  rintro r w2 ⟨rfl, ho, hk⟩
  have HO2 := Lib.hid (And.intro ho hk)
  clear ho hk kc1
  go_wp2
  go_end0
  exact ⟨rfl, HO2.out.1, HO1.out.2.trans HO2.out.2⟩
theorem write_topic : WriteSaid .topic := by
 intro w B cb m out h hm hl
 obtain ⟨v0, kc⟩ := h.cells
 simp only [wrC, cdC] at kc
 have HI := Lib.hid h
 clear h
 show Calls Tryz.prog 433 _ _ _
 by_cases hn : m.fl.typ = 0
 ·have HL := Lib.hid (show writeP .topic m = writeP .name m by simp [writeP, hn])
  have he : (m.fl.typ == 0) = true := by simpa using hn
  rw [HL.out]
  clear hn
  go_enter Tryz.func433, Tryz.ntmps433
  go_wp2_with fail
  refine (write_name w B cb m out HI.out hm hl).mono ?_
  rintro r w2 ⟨rfl, ho, hk⟩
  have HO2 := Lib.hid (And.intro ho hk)
  clear ho hk kc
  go_wp2
  go_end0
  exact ⟨rfl, HO2.out.1, HO2.out.2⟩
 ·have HL := Lib.hid (show writeP .topic m = writeP .id m by simp [writeP, hn])
  have he : (m.fl.typ == 0) = false := by simpa using hn
  rw [HL.out]
  clear hn
  go_enter Tryz.func433, Tryz.ntmps433
  go_wp2_with fail
  refine (write_id w B cb m out HI.out hm hl).mono ?_
  rintro r w2 ⟨rfl, ho, hk⟩
  have HO2 := Lib.hid (And.intro ho hk)
  clear ho hk kc
  go_wp2
  go_end0
  exact ⟨rfl, HO2.out.1, HO2.out.2⟩
theorem write_duration : WriteSaid .duration := by
 intro w B cb m out h hm hl
 obtain ⟨v0, kc⟩ := h.cells
 simp only [wrC, cdC] at kc
 have HI := Lib.hid h
 clear h
 show Calls Tryz.prog 434 _ _ _
 cases ht : m.timed with
 | false =>
  have HL := Lib.hid (show out ++ writeP .duration m = out by simp [writeP, ht])
  rw [HL.out]
  rw [ht] at kc
  clear ht
  go_enter Tryz.func434, Tryz.ntmps434
  go_wp2
  go_end0
  exact ⟨rfl, HI.out, Kp.refl _ _ _ _⟩
 | true =>
  have HL := Lib.hid (show writeP .duration m = writeP .time m by simp [writeP, ht])
  rw [HL.out]
  have HT := Lib.hid ht
  rw [ht] at kc
  clear ht
  go_enter Tryz.func434, Tryz.ntmps434
  go_wp2_with fail
  refine (write_time w B cb m out HI.out hm hl).mono ?_
  rintro r w1 ⟨rfl, ho, hk⟩
  obtain ⟨v1, kc1⟩ := ho.cells
  simp only [wrC, cdC] at kc1
  have HO2 := Lib.hid (And.intro ho hk)
  clear ho hk kc
  go_wp2
  go_end0
  exact ⟨rfl, HO2.out.1, HO2.out.2⟩
theorem WriteB.le {M M' : Int} {p : Pt} (h : WriteB M p) (hM : M' ≤ M) : WriteB M' p :=
 fun w B cb m out h1 h2 h3 => h w B cb m out h1 h2 (Int.le_trans h3 hM)
theorem write_all (p : Pt) : WriteB 40000000 p := by
 cases p with
 | gateway => exact write_gateway.le (by decide)
 | radius => exact write_radius.le (by decide)
 | code => exact write_code.le (by decide)
 | time => exact write_time.le (by decide)
 | id => exact write_id.le (by decide)
 | msg => exact write_msg.le (by decide)
 | name => exact write_name.le (by decide)
 | data => exact write_data.le (by decide)
 | flags => exact write_flags.le (by decide)
 | protocol => exact write_protocol.le (by decide)
 | will => exact write_will
 | topic => exact write_topic.le (by decide)
 | duration => exact write_duration.le (by decide)
end Go.Proofs.YtanofjmkkhocaaaGreatDoor
namespace Go.Proofs.YtanofjmkkhocaaaGreatDoor
open Go.RowKit
def rdC (cu : Nat) (m : Ms) : Array Value := cdC (.pointer (some ⟨cu, 0, none⟩)) 0 m (.slice none 0 0) false
theorem InvR.cells {w : World} {cb cu : Nat} {t : List UInt8} {s : Rd} (h : InvR w cb cu t s) : ∀ j, w.cell? ⟨cb, j, none⟩ = (rdC cu s.m)[j]? := Obj?.cells h.1
theorem InvR.froz {w : World} {cb cu : Nat} {t : List UInt8} {s : Rd} (h : InvR w cb cu t s) : ∀ j, w.frozen? ⟨cb, j, none⟩ = false := fun j => Obj?.frozen h.1 j
theorem InvR.below {w w' : World} {cb cu : Nat} {t : List UInt8} {s : Rd} (h : InvR w cb cu t s) (hb : Below w.heap.size w w') : InvR w' cb cu t s :=
 ⟨Obj?.below h.1 hb (Obj?.lt h.1), Obj?.below h.2.1 hb (Obj?.lt h.2.1), h.2.2⟩
def ReadSaid (p : Pt) : Prop := ∀ (w : World) (B cb cu : Nat) (t : List UInt8) (s : Rd), InvR w cb cu t s → cu ≠ cb → (t.length : Int) ≤ 9223372036854775807 → B ≤ w.heap.size → Calls Tryz.prog p.fn #[.pointer (some ⟨cb, 0, none⟩)] w fun r w' => r = .returned (.tuple #[]) ∧ InvR w' cb cu t (readP p t s) ∧ Kp B cb cu w w'
theorem read_gateway : ReadSaid .gateway := by
 intro w B cb cu t s h hne ht hB
 have H := Lib.hid (number_read (j := 9) (size := 1) h.1 rfl rfl rfl h.2.1 hne h.2.2 ht (by decide) hB)
 have hi := h.2.2
 clear h
 show Calls Tryz.prog 422 _ _ _
 go_enter Tryz.func422, Tryz.ntmps422
 go_wp2_with fail
 refine H.out.mono ?_
 rintro r w1 ⟨rfl, ho, hc, hk⟩
 have HF := Lib.hid (And.intro ho (And.intro hc hk))
 clear ho hc hk
 go_wp2
 go_end0
 exact ⟨rfl, ⟨HF.out.1, HF.out.2.1, takeI_le hi⟩, HF.out.2.2⟩
theorem read_radius : ReadSaid .radius := by
 intro w B cb cu t s h hne ht hB
 have H := Lib.hid (number_read (j := 10) (size := 1) h.1 rfl rfl rfl h.2.1 hne h.2.2 ht (by decide) hB)
 have hi := h.2.2
 clear h
 show Calls Tryz.prog 424 _ _ _
 go_enter Tryz.func424, Tryz.ntmps424
 go_wp2_with fail
 refine H.out.mono ?_
 rintro r w1 ⟨rfl, ho, hc, hk⟩
 have HF := Lib.hid (And.intro ho (And.intro hc hk))
 clear ho hc hk
 go_wp2
 go_end0
 exact ⟨rfl, ⟨HF.out.1, HF.out.2.1, takeI_le hi⟩, HF.out.2.2⟩
theorem read_code : ReadSaid .code := by
 intro w B cb cu t s h hne ht hB
 have H := Lib.hid (number_read (j := 15) (size := 1) h.1 rfl rfl rfl h.2.1 hne h.2.2 ht (by decide) hB)
 have hi := h.2.2
 clear h
 show Calls Tryz.prog 428 _ _ _
 go_enter Tryz.func428, Tryz.ntmps428
 go_wp2_with fail
 refine H.out.mono ?_
 rintro r w1 ⟨rfl, ho, hc, hk⟩
 have HF := Lib.hid (And.intro ho (And.intro hc hk))
 clear ho hc hk
 go_wp2
 go_end0
 exact ⟨rfl, ⟨HF.out.1, HF.out.2.1, takeI_le hi⟩, HF.out.2.2⟩
theorem read_time : ReadSaid .time := by
 intro w B cb cu t s h hne ht hB
 have H := Lib.hid (number_read (j := 11) (size := 2) h.1 rfl rfl rfl h.2.1 hne h.2.2 ht (by decide) hB)
 have hi := h.2.2
 clear h
 show Calls Tryz.prog 423 _ _ _
 go_enter Tryz.func423, Tryz.ntmps423
 go_wp2_with fail
 refine H.out.mono ?_
 rintro r w1 ⟨rfl, ho, hc, hk⟩
 have HF := Lib.hid (And.intro ho (And.intro hc hk))
 clear ho hc hk
 go_wp2
 go_end0
 exact ⟨rfl, ⟨HF.out.1, HF.out.2.1, takeI_le hi⟩, HF.out.2.2⟩
theorem read_id : ReadSaid .id := by
 intro w B cb cu t s h hne ht hB
 have H := Lib.hid (number_read (j := 13) (size := 2) h.1 rfl rfl rfl h.2.1 hne h.2.2 ht (by decide) hB)
 have hi := h.2.2
 clear h
 show Calls Tryz.prog 431 _ _ _
 go_enter Tryz.func431, Tryz.ntmps431
 go_wp2_with fail
 refine H.out.mono ?_
 rintro r w1 ⟨rfl, ho, hc, hk⟩
 have HF := Lib.hid (And.intro ho (And.intro hc hk))
 clear ho hc hk
 go_wp2
 go_end0
 exact ⟨rfl, ⟨HF.out.1, HF.out.2.1, takeI_le hi⟩, HF.out.2.2⟩
theorem read_msg : ReadSaid .msg := by
 intro w B cb cu t s h hne ht hB
 have H := Lib.hid (number_read (j := 14) (size := 2) h.1 rfl rfl rfl h.2.1 hne h.2.2 ht (by decide) hB)
 have hi := h.2.2
 clear h
 show Calls Tryz.prog 432 _ _ _
 go_enter Tryz.func432, Tryz.ntmps432
 go_wp2_with fail
 refine H.out.mono ?_
 rintro r w1 ⟨rfl, ho, hc, hk⟩
 have HF := Lib.hid (And.intro ho (And.intro hc hk))
 clear ho hc hk
 go_wp2
 go_end0
 exact ⟨rfl, ⟨HF.out.1, HF.out.2.1, takeI_le hi⟩, HF.out.2.2⟩
theorem read_name : ReadSaid .name := by
 intro w B cb cu t s h hne ht hB
 have H := Lib.hid (text_read (j := 16) h.1 rfl rfl rfl h.2.1 hne h.2.2 ht hB)
 have hi := h.2.2
 clear h
 show Calls Tryz.prog 425 _ _ _
 go_enter Tryz.func425, Tryz.ntmps425
 go_wp2_with fail
 refine H.out.mono ?_
 rintro r w1 ⟨rfl, ho, hc, hk⟩
 have HF := Lib.hid (And.intro ho (And.intro hc hk))
 clear ho hc hk
 go_wp2
 go_end0
 refine ⟨rfl, ⟨HF.out.1, HF.out.2.1, ?_⟩, HF.out.2.2⟩
 show (if s.e = 0 then t.length else s.i) ≤ t.length
 split
 ·exact Nat.le_refl _
 ·exact hi
theorem read_data : ReadSaid .data := by
 intro w B cb cu t s h hne ht hB
 have H := Lib.hid (text_read (j := 17) h.1 rfl rfl rfl h.2.1 hne h.2.2 ht hB)
 have hi := h.2.2
 clear h
 show Calls Tryz.prog 430 _ _ _
 go_enter Tryz.func430, Tryz.ntmps430
 go_wp2_with fail
 refine H.out.mono ?_
 rintro r w1 ⟨rfl, ho, hc, hk⟩
 have HF := Lib.hid (And.intro ho (And.intro hc hk))
 clear ho hc hk
 go_wp2
 go_end0
 refine ⟨rfl, ⟨HF.out.1, HF.out.2.1, ?_⟩, HF.out.2.2⟩
 show (if s.e = 0 then t.length else s.i) ≤ t.length
 split
 ·exact Nat.le_refl _
 ·exact hi
def set6 (w : World) (b : Nat) (f : Fl) : World := ((((((w.setCell ⟨b, 3, none⟩ (.bool f.dup)).setCell ⟨b, 4, none⟩ (.int .i64 f.q)).setCell ⟨b, 5, none⟩ (.bool f.retain)).setCell ⟨b, 6, none⟩ (.bool f.will)).setCell ⟨b, 7, none⟩ (.bool f.clean)).setCell ⟨b, 8, none⟩ (.int .i64 f.typ))
theorem obj_set6 {w : World} {b cu : Nat} {m : Ms} (h : Obj? w b (rdC cu m) 461) (f : Fl) : Obj? (set6 w b f) b (rdC cu { m with fl := f }) 461 :=
 (((((h.set 3 _).set 4 _).set 5 _).set 6 _).set 7 _).set 8 _
theorem grown_set6 (w : World) (b : Nat) (f : Fl) : w.grownBy (set6 w b f) (some b) :=
 grown_set (grown_set (grown_set (grown_set (grown_set (grown_set (World.grownBy.refl w _) (p := ⟨b, 3, none⟩) rfl _) (p := ⟨b, 4, none⟩) rfl _) (p := ⟨b, 5, none⟩) rfl _) (p := ⟨b, 6, none⟩) rfl _) (p := ⟨b, 7, none⟩) rfl _) (p := ⟨b, 8, none⟩) rfl _
theorem kp_set6 {B c d : Nat} {a w : World} (h : Kp B c d a w) (f : Fl) : Kp B c d a (set6 w c f) :=
 (((((h.set (.inl rfl)).set (.inl rfl)).set (.inl rfl)).set (.inl rfl)).set (.inl rfl)).set (.inl rfl)
theorem InvR.drewN {w : World} {cb cu : Nat} {t : List UInt8} {s : Rd} (h : InvR w cb cu t s) (k : Nat) : InvR (w.drewN k) cb cu t s := h
theorem Kp.drewN {B c d : Nat} {a b : World} (h : Kp B c d a b) (k : Nat) : Kp B c d a (b.drewN k) := ⟨h.os, h.tape, h.output, h.size, h.block⟩
theorem InvR.failed {w w' : World} {cb cu : Nat} {t : List UInt8} {s : Rd} (h : InvR w cb cu t s) (hne : cu ≠ cb) {x : Int} (hc : Cur w' cu t s.i (failE s.e x)) (hg : w.grownBy w' (some cu)) : InvR w' cb cu t (rdFail s x) :=
 ⟨h.1.kept hg (by simp; exact hne), hc, h.2.2⟩
theorem read_flags : ReadSaid .flags := by
 intro w B cb cu t s h hne ht hB
 have kc := h.cells
 simp only [rdC, cdC] at kc
 have HI := Lib.hid h
 have HB := Lib.hid hB
 clear h
 show Calls Tryz.prog 426 _ _ _
 go_enter Tryz.func426, Tryz.ntmps426
 go_wp2_with fail
 refine (flag_fl s.m.fl _).mono ?_
 rintro r w1 ⟨rfl, hb⟩
 obtain ⟨x, hx⟩ : ∃ x, x = (flagV s.m.fl).1 := ⟨_, rfl⟩
 rw [← hx]
 clear hx
 have hcl : cb < w1.heap.size := Nat.lt_of_lt_of_le (Obj?.lt HI.out.1) hb.size
 have hul : cu < w1.heap.size := Nat.lt_of_lt_of_le (Obj?.lt HI.out.2.1) hb.size
 have I2 := (HI.out.below hb).below (below_al (Below.refl _ _) (.cells #[.int .i64 x] 3 (0, 0)))
 have N := Obj?.new w1 #[.int .i64 x] 3
 have hB1 : B ≤ w1.heap.size := Nat.le_trans HB.out hb.size
 have hB2 : B ≤ (w1.alloc (.cells #[.int .i64 x] 3 (0, 0))).heap.size := Nat.le_trans hB1 (below_al (Below.refl _ _) _).size
 have H := Lib.hid (number_read_var (size := 1) I2.1 rfl rfl N I2.2.1 hne (by omega) (by omega) I2.2.2 ht (by decide) hB2 hB1)
 have kc1 := I2.cells
 simp only [rdC, cdC] at kc1
 have HK := Lib.hid ((Kp.of_below (B := B) (c := cb) (d := cu) hb HB.out).alloc HB.out (.cells #[.int .i64 x] 3 (0, 0)))
 clear hb I2 N kc
 go_wp2_with fail
 refine H.out.mono ?_
 rintro r w2 ⟨rfl, ho, hn, hc, hk⟩
 have kc2 := ho.cells
 simp only [cdC] at kc2
 have hk2 := HK.out.trans hk
 have hB3 := Nat.le_trans HB.out hk2.size
 have hcl2 := ho.lt
 have hul2 := Obj?.lt hc
 have HF := Lib.hid (And.intro ho (And.intro hc hk2))
 have kn := hn.cell 0 _ rfl
 have hi' := takeI_le (e := s.e) (n := 1) HI.out.2.2
 have HE := Lib.hid (err_any hc)
 clear ho hc hk hk2 hn kc1 H
 by_cases he : takeE t s.i s.e 1 = 0
 ·have HL := Lib.hid (show readP .flags t s = ⟨{ s.m with fl := rfF (rdNum t s 1) }, takeI t s.i s.e 1, rfE (rdNum t s 1)⟩ by simp [readP, rdFlags, he])
  rw [he] at HF HE
  have hgl := getL_two (takeS t s.i s.e 1) (by have := takeS_len t s.i s.e 1; omega)
  obtain ⟨g, hg⟩ : ∃ g, g = getL (takeS t s.i s.e 1) := ⟨_, rfl⟩
  have HG := Lib.hid (show rdNum t s 1 = g from hg.symm)
  rw [← hg] at kn hgl
  clear he hg
  go_wp2_with fail
  refine HE.out.mono ?_
  rintro r w' ⟨rfl, hw⟩
  subst hw
  go_wp2_with fail
  refine (readflag_any g _).mono ?_
  rintro r w3 ⟨rfl, hb3⟩
  obtain ⟨o, hoo⟩ : ∃ o, o = Obj.cells #[.bool (rfF g).dup, .int .i64 (rfF g).q, .bool (rfF g).retain, .bool (rfF g).will, .bool (rfF g).clean, .int .i64 (rfF g).typ] 36 (0, 0) := ⟨_, rfl⟩
  have hcl3 := Nat.lt_of_lt_of_le hcl2 hb3.size
  have hul3 := Nat.lt_of_lt_of_le hul2 hb3.size
  have O3 := (HF.out.1.below hb3 hcl2).alloc o
  have C3 := Obj?.alloc (Obj?.below HF.out.2.1 hb3 hul2) o
  have N3 := Obj?.new w3 #[.bool (rfF g).dup, .int .i64 (rfF g).q, .bool (rfF g).retain, .bool (rfF g).will, .bool (rfF g).clean, .int .i64 (rfF g).typ] 36
  have K3 := (HF.out.2.2.trans (Kp.of_below hb3 hB3)).alloc HB.out o
  rw [← hoo] at N3
  have HFA := Lib.hid (fail_any C3 (rfE g))
  have kc3 := O3.cells
  simp only [cdC] at kc3
  rw [hoo] at kc3 HFA
  have HN := Lib.hid (And.intro O3 (And.intro N3 (And.intro K3 hoo)))
  clear O3 C3 N3 K3 hoo kc2
  go_wp2_with fail
  refine HFA.out.mono ?_
  rintro r w4 ⟨rfl, hc, hgr⟩
  rw [← HN.out.2.2.2] at hgr
  have O4 := HN.out.1.kept hgr (by simp; exact hne)
  have N4 := HN.out.2.1.kept hgr (by simp; omega)
  have kc4 := O4.cells
  simp only [cdC] at kc4
  have kf4 := O4.froz
  have kn4 := N4.cells
  have HM := Lib.hid (And.intro O4 (And.intro hc hgr))
  clear O4 N4 hc hgr kc3 kn
  go_wp2
  go_end0
  rw [HL.out, HG.out]
  have hk4 := HN.out.2.2.1.trans (Kp.of_grown (B := B) (c := cb) (d := cu) HM.out.2.2 (Nat.le_trans hB3 (Nat.le_trans hb3.size (below_al (Below.refl _ _) _).size)) (.inr (.inl rfl)))
  refine ⟨rfl, ⟨obj_set6 HM.out.1 (rfF g), Cur.kept HM.out.2.1 (grown_set6 w4 cb (rfF g)) (by simp; exact Ne.symm hne), hi'⟩, kp_set6 hk4 (rfF g)⟩
 ·have HL := Lib.hid (show readP .flags t s = ⟨s.m, takeI t s.i s.e 1, takeE t s.i s.e 1⟩ by simp [readP, rdFlags, he])
  obtain ⟨e1, he1⟩ : ∃ e1, e1 = takeE t s.i s.e 1 := ⟨_, rfl⟩
  have de : (e1 == 0) = false := by rw [he1]; simpa using he
  rw [← he1] at HF HE HL
  clear he he1
  go_wp2_with fail
  refine HE.out.mono ?_
  rintro r w' ⟨rfl, hw⟩
  subst hw
  go_wp2
  go_end0
  rw [HL.out]
  exact ⟨rfl, ⟨HF.out.1, HF.out.2.1, hi'⟩, HF.out.2.2⟩
theorem read_protocol : ReadSaid .protocol := by
 intro w B cb cu t s h hne ht hB
 have hcl := Obj?.lt h.1
 have hul := Obj?.lt h.2.1
 have I2 := h.below (below_al (Below.refl _ _) (.cells #[.int .i64 1] 3 (0, 0)))
 have N := Obj?.new w #[.int .i64 1] 3
 have hB2 : B ≤ (w.alloc (.cells #[.int .i64 1] 3 (0, 0))).heap.size := Nat.le_trans hB (below_al (Below.refl _ _) _).size
 have H := Lib.hid (number_read_var (size := 1) I2.1 rfl rfl N I2.2.1 hne (by omega) (by omega) I2.2.2 ht (by decide) hB2 hB)
 have HI := Lib.hid h
 have HB := Lib.hid hB
 have HK := Lib.hid ((Kp.refl B cb cu w).alloc hB (.cells #[.int .i64 1] 3 (0, 0)))
 clear h I2 N
 show Calls Tryz.prog 427 _ _ _
 go_enter Tryz.func427, Tryz.ntmps427
 go_wp2_with fail
 refine H.out.mono ?_
 rintro r w2 ⟨rfl, ho, hn, hc, hk⟩
 have hi' := takeI_le (e := s.e) (n := 1) HI.out.2.2
 have I3 : InvR w2 cb cu t ⟨s.m, takeI t s.i s.e 1, takeE t s.i s.e 1⟩ := ⟨ho, hc, hi'⟩
 have kc2 := ho.cells
 simp only [cdC] at kc2
 have kn := hn.cells
 have hk2 := HK.out.trans hk
 have hB3 := Nat.le_trans HB.out hk2.size
 have HF := Lib.hid (And.intro I3 hk2)
 clear ho hc hk hk2 hn H I3
 obtain ⟨g, hg⟩ : ∃ g, g = getL (takeS t s.i s.e 1) := ⟨_, rfl⟩
 rw [← hg] at kn
 by_cases h1 : g = 1
 ·have HL := Lib.hid (show readP .protocol t s = ⟨s.m, takeI t s.i s.e 1, takeE t s.i s.e 1⟩ by simp only [readP]; rw [if_pos (show rdNum t s 1 = 1 from hg.symm.trans h1)])
  have d1 : (g == 1) = true := by simpa using h1
  clear hg h1
  go_wp2
  go_end0
  rw [HL.out]
  exact ⟨rfl, HF.out.1, HF.out.2⟩
 ·have HL := Lib.hid (show readP .protocol t s = rdFail ⟨s.m, takeI t s.i s.e 1, takeE t s.i s.e 1⟩ 5 by simp only [readP]; rw [if_neg (show ¬ rdNum t s 1 = 1 from fun hh => h1 (hg.trans hh))])
  have d1 : (g == 1) = false := by simpa using h1
  have HFA := Lib.hid (fail_any HF.out.1.2.1 5)
  clear hg h1
  go_wp2_with fail
  refine HFA.out.mono ?_
  rintro r w4 ⟨rfl, hc, hgr⟩
  have HM := Lib.hid (And.intro (HF.out.1.failed hne hc hgr) (HF.out.2.trans (Kp.of_grown (B := B) (c := cb) (d := cu) hgr hB3 (.inr (.inl rfl)))))
  clear hc hgr kn kc2
  go_wp2
  go_end0
  rw [HL.out]
  exact ⟨rfl, HM.out.1, HM.out.2⟩
theorem read_topic : ReadSaid .topic := by
 intro w B cb cu t s h hne ht hB
 have kc := h.cells
 simp only [rdC, cdC] at kc
 have HI := Lib.hid h
 clear h
 show Calls Tryz.prog 433 _ _ _
 by_cases hn : s.m.fl.typ = 0
 ·have HL := Lib.hid (show readP .topic t s = readP .name t s by simp [readP, hn])
  have he : (s.m.fl.typ == 0) = true := by simpa using hn
  have H := Lib.hid (read_name w B cb cu t s HI.out hne ht hB)
  clear hn
  go_enter Tryz.func433, Tryz.ntmps433
  go_wp2_with fail
  refine H.out.mono ?_
  rintro r w2 ⟨rfl, ho, hk⟩
  have HO2 := Lib.hid (And.intro ho hk)
  clear ho hk kc
  go_wp2
  go_end0
  rw [HL.out]
  exact ⟨rfl, HO2.out.1, HO2.out.2⟩
 ·have HL := Lib.hid (show readP .topic t s = readP .id t s by simp [readP, hn])
  have he : (s.m.fl.typ == 0) = false := by simpa using hn
  have H := Lib.hid (read_id w B cb cu t s HI.out hne ht hB)
  clear hn
  go_enter Tryz.func433, Tryz.ntmps433
  go_wp2_with fail
  refine H.out.mono ?_
  rintro r w2 ⟨rfl, ho, hk⟩
  have HO2 := Lib.hid (And.intro ho hk)
  clear ho hk kc
  go_wp2
  go_end0
  rw [HL.out]
  exact ⟨rfl, HO2.out.1, HO2.out.2⟩
theorem read_duration : ReadSaid .duration := by
 intro w B cb cu t s h hne ht hB
 have kc := h.cells
 simp only [rdC, cdC] at kc
 have kf := h.froz
 have HLf := Lib.hid (left_any h.2.1 h.2.2 ht)
 obtain ⟨L, hL⟩ : ∃ L, L = t.length - s.i := ⟨_, rfl⟩
 rw [← hL] at HLf
 have HI := Lib.hid h
 clear h
 show Calls Tryz.prog 434 _ _ _
 by_cases hn : L = 0
 ·have HL := Lib.hid (show readP .duration t s = ⟨{ s.m with timed := false }, s.i, s.e⟩ by simp only [readP]; rw [if_pos (hL.symm.trans hn)])
  subst hn
  clear hL
  go_enter Tryz.func434, Tryz.ntmps434
  go_wp2_with fail
  refine HLf.out.mono ?_
  rintro r w2 ⟨rfl, k, rfl⟩
  have I2 : InvR ((w.drewN k).setCell ⟨cb, 12, none⟩ (.bool false)) cb cu t ⟨{ s.m with timed := false }, s.i, s.e⟩ := ⟨Obj?.set (HI.out.drewN k).1 12 _, Cur.kept (HI.out.drewN k).2.1 (row := some cb) (grown_set (World.grownBy.refl _ _) (p := ⟨cb, 12, none⟩) rfl _) (by simp; exact Ne.symm hne), HI.out.2.2⟩
  have K2 := ((Kp.refl B cb cu w).drewN k).set (j := 12) (v := .bool false) (.inl rfl)
  have kc2 := I2.cells
  simp only [rdC, cdC] at kc2
  have HF := Lib.hid (And.intro I2 K2)
  clear I2 K2
  go_wp2
  go_end0
  rw [HL.out]
  exact ⟨rfl, HF.out.1, HF.out.2⟩
 ·have HL := Lib.hid (show readP .duration t s = readP .time t ⟨{ s.m with timed := true }, s.i, s.e⟩ by simp only [readP]; rw [if_neg (fun hh => hn (hL.trans hh))]; rfl)
  have hn0 : 0 < L := Nat.pos_of_ne_zero hn
  have d1 : decide (0 < L) = true := by simpa using hn0
  clear hL hn
  go_enter Tryz.func434, Tryz.ntmps434
  go_wp2_with fail
  refine HLf.out.mono ?_
  rintro r w2 ⟨rfl, k, rfl⟩
  have I2 : InvR ((w.drewN k).setCell ⟨cb, 12, none⟩ (.bool true)) cb cu t ⟨{ s.m with timed := true }, s.i, s.e⟩ := ⟨Obj?.set (HI.out.drewN k).1 12 _, Cur.kept (HI.out.drewN k).2.1 (row := some cb) (grown_set (World.grownBy.refl _ _) (p := ⟨cb, 12, none⟩) rfl _) (by simp; exact Ne.symm hne), HI.out.2.2⟩
  have K2 := ((Kp.refl B cb cu w).drewN k).set (j := 12) (v := .bool true) (.inl rfl)
  have kc2 := I2.cells
  simp only [rdC, cdC] at kc2
  have HF := Lib.hid (And.intro I2 K2)
  have H := Lib.hid (read_time _ B cb cu t _ I2 hne ht (Nat.le_trans hB K2.size))
  clear I2 K2
  go_wp2_with fail
  refine H.out.mono ?_
  rintro r w3 ⟨rfl, ho, hk⟩
  have kc3 := ho.cells
  simp only [rdC, cdC] at kc3
  have HO2 := Lib.hid (And.intro ho hk)
  clear ho hk kc kc2
  go_wp2
  go_end0
  rw [HL.out]
  exact ⟨rfl, HO2.out.1, HF.out.2.trans HO2.out.2⟩
theorem read_will : ReadSaid .will := by
 intro w B cb cu t s h hne ht hB
 have kc := h.cells
 simp only [rdC, cdC] at kc
 have HLf := Lib.hid (left_any h.2.1 h.2.2 ht)
 obtain ⟨L, hL⟩ : ∃ L, L = t.length - s.i := ⟨_, rfl⟩
 rw [← hL] at HLf
 have HI := Lib.hid h
 clear h
 show Calls Tryz.prog 429 _ _ _
 by_cases hn : L = 0
 ·have HL := Lib.hid (show readP .will t s = s by simp only [readP]; rw [if_pos (hL.symm.trans hn)])
  subst hn
  clear hL
  go_enter Tryz.func429, Tryz.ntmps429
  go_wp2_with fail
  refine HLf.out.mono ?_
  rintro r w2 ⟨rfl, k, rfl⟩
  go_wp2
  (try simp only [Exit.inBlock, Exit.then])
  refine bodyPost_ret (results_none rfl _ _ _) rfl ?_
  rw [HL.out]
  exact ⟨rfl, HI.out.drewN k, (Kp.refl B cb cu w).drewN k⟩
 ·have HL := Lib.hid (show readP .will t s = readP .name t (if t.length - (readP .flags t s).i = 0 then rdFail (readP .flags t s) 5 else readP .flags t s) by simp only [readP]; rw [if_neg (fun hh => hn (hL.trans hh))]; rfl)
  have d1 : ((L : Int) == 0) = false := by simpa using hn
  clear hL
  go_enter Tryz.func429, Tryz.ntmps429
  go_wp2_with fail
  refine HLf.out.mono ?_
  rintro r w2 ⟨rfl, k, rfl⟩
  have H := Lib.hid (read_flags _ B cb cu t s (HI.out.drewN k) hne ht hB)
  go_wp2_with fail
  refine H.out.mono ?_
  rintro r w3 ⟨rfl, ho, hk⟩
  obtain ⟨u, hu⟩ : ∃ u, u = readP .flags t s := ⟨_, rfl⟩
  rw [← hu] at HL ho
  clear hu
  have kc3 := ho.cells
  simp only [rdC, cdC] at kc3
  have hk3 := ((Kp.refl B cb cu w).drewN k).trans hk
  have hB3 := Nat.le_trans hB hk3.size
  have HF := Lib.hid (And.intro ho hk3)
  have HLg := Lib.hid (left_any ho.2.1 ho.2.2 ht)
  obtain ⟨M, hM⟩ : ∃ M, M = t.length - u.i := ⟨_, rfl⟩
  rw [← hM] at HLg HL
  clear hM ho hk hk3 kc H HLf
  by_cases hm : M = 0
  ·subst hm
   rw [if_pos rfl] at HL
   go_wp2_with fail
   refine HLg.out.mono ?_
   rintro r w4 ⟨rfl, k2, rfl⟩
   have HFA := Lib.hid (fail_any (HF.out.1.drewN k2).2.1 5)
   go_wp2_with fail
   refine HFA.out.mono ?_
   rintro r w5 ⟨rfl, hc, hgr⟩
   have I5 := (HF.out.1.drewN k2).failed hne hc hgr
   have K5 := (HF.out.2.drewN k2).trans (Kp.of_grown (B := B) (c := cb) (d := cu) hgr hB3 (.inr (.inl rfl)))
   have H5 := Lib.hid (read_name _ B cb cu t _ I5 hne ht (Nat.le_trans hB K5.size))
   have HK5 := Lib.hid K5
   clear hc hgr I5 K5 kc3
   go_wp2_with fail
   refine H5.out.mono ?_
   rintro r w6 ⟨rfl, ho, hk⟩
   have HO2 := Lib.hid (And.intro ho hk)
   clear ho hk
   go_wp2
   go_end0
   rw [HL.out]
   exact ⟨rfl, HO2.out.1, HK5.out.trans HO2.out.2⟩
  ·rw [if_neg hm] at HL
   have d2 : ((M : Int) == 0) = false := by simpa using hm
   go_wp2_with fail
   refine HLg.out.mono ?_
   rintro r w4 ⟨rfl, k2, rfl⟩
   have H5 := Lib.hid (read_name _ B cb cu t _ (HF.out.1.drewN k2) hne ht hB3)
   clear kc3
   go_wp2_with fail
   refine H5.out.mono ?_
   rintro r w6 ⟨rfl, ho, hk⟩
   have HO2 := Lib.hid (And.intro ho hk)
   clear ho hk
   go_wp2
   go_end0
   rw [HL.out]
   exact ⟨rfl, HO2.out.1, (HF.out.2.drewN k2).trans HO2.out.2⟩
theorem read_all (p : Pt) : ReadSaid p := by
 cases p
 ·exact read_gateway
 ·exact read_radius
 ·exact read_code
 ·exact read_time
 ·exact read_id
 ·exact read_msg
 ·exact read_name
 ·exact read_data
 ·exact read_flags
 ·exact read_protocol
 ·exact read_will
 ·exact read_topic
 ·exact read_duration
end Go.Proofs.YtanofjmkkhocaaaGreatDoor
namespace Go.Proofs.YtanofjmkkhocaaaGreatDoor
open Go.RowKit
def Pt.val (cb : Nat) (p : Pt) : Value := .func (.func p.fn) #[.pointer (some ⟨cb, 0, none⟩)] #[]
def ptsV (cb : Nat) (ps : List Pt) : Array Value := (ps.map (Pt.val cb)).toArray
def PtsAt (w : World) (cb A : Nat) (v : Value) (ps : List Pt) : Prop := (ps = [] ∧ v = .slice none 0 0) ∨ ∃ g, A ≤ g ∧ v = .slice (some ⟨g, 0, none⟩) ps.length ps.length ∧ Obj? w g (ptsV cb ps) 1
def LayoutSaid (k : Int) : Prop := ∀ (w : World) (cb : Nat), w.cell? ⟨cb, 2, none⟩ = some (.int .i64 k) →
  Calls Tryz.prog 419 #[.pointer (some ⟨cb, 0, none⟩)] w fun r w' => ∃ v, r = .returned v ∧ PtsAt w' cb w.heap.size v (layoutF k) ∧ Below w.heap.size w w'
theorem layout_got {w : World} {cb : Nat} {ps : List Pt} : PtsAt (w.alloc (.cells (ptsV cb ps) 1 (0, 0))) cb w.heap.size (.slice (some ⟨w.heap.size, 0, none⟩) ps.length ps.length) ps ∧ Below w.heap.size w (w.alloc (.cells (ptsV cb ps) 1 (0, 0))) :=
 ⟨.inr ⟨w.heap.size, Nat.le_refl _, rfl, Obj?.new w _ _⟩, below_al (Below.refl _ _) _⟩
def kindM (k : Int) : Bool := decide ((0 ≤ k ∧ k ≤ 2) ∨ (4 ≤ k ∧ k ≤ 16) ∨ (18 ≤ k ∧ k ≤ 24) ∨ (26 ≤ k ∧ k ≤ 29))
theorem layout_0 : LayoutSaid 0 := by
 intro w cb h
 go_enter Tryz.func419, Tryz.ntmps419
 go_wp2
 go_ret
 exact ⟨_, rfl, layout_got (ps := layoutF 0)⟩
theorem layout_1 : LayoutSaid 1 := by
 intro w cb h
 go_enter Tryz.func419, Tryz.ntmps419
 go_wp2
 go_ret
 exact ⟨_, rfl, layout_got (ps := layoutF 1)⟩
theorem layout_2 : LayoutSaid 2 := by
 intro w cb h
 go_enter Tryz.func419, Tryz.ntmps419
 go_wp2
 go_ret
 exact ⟨_, rfl, layout_got (ps := layoutF 2)⟩
theorem layout_4 : LayoutSaid 4 := by
 intro w cb h
 go_enter Tryz.func419, Tryz.ntmps419
 go_wp2
 go_ret
 exact ⟨_, rfl, layout_got (ps := layoutF 4)⟩
theorem layout_5 : LayoutSaid 5 := by
 intro w cb h
 go_enter Tryz.func419, Tryz.ntmps419
 go_wp2
 go_ret
 exact ⟨_, rfl, layout_got (ps := layoutF 5)⟩
theorem layout_6 : LayoutSaid 6 := by
 intro w cb h
 go_enter Tryz.func419, Tryz.ntmps419
 go_wp2
 go_ret
 exact ⟨_, rfl, .inl ⟨rfl, rfl⟩, Below.refl _ _⟩
theorem layout_7 : LayoutSaid 7 := by
 intro w cb h
 go_enter Tryz.func419, Tryz.ntmps419
 go_wp2
 go_ret
 exact ⟨_, rfl, layout_got (ps := layoutF 7)⟩
theorem layout_8 : LayoutSaid 8 := by
 intro w cb h
 go_enter Tryz.func419, Tryz.ntmps419
 go_wp2
 go_ret
 exact ⟨_, rfl, .inl ⟨rfl, rfl⟩, Below.refl _ _⟩
theorem layout_9 : LayoutSaid 9 := by
 intro w cb h
 go_enter Tryz.func419, Tryz.ntmps419
 go_wp2
 go_ret
 exact ⟨_, rfl, layout_got (ps := layoutF 9)⟩
theorem layout_10 : LayoutSaid 10 := by
 intro w cb h
 go_enter Tryz.func419, Tryz.ntmps419
 go_wp2
 go_ret
 exact ⟨_, rfl, layout_got (ps := layoutF 10)⟩
theorem layout_11 : LayoutSaid 11 := by
 intro w cb h
 go_enter Tryz.func419, Tryz.ntmps419
 go_wp2
 go_ret
 exact ⟨_, rfl, layout_got (ps := layoutF 11)⟩
theorem layout_12 : LayoutSaid 12 := by
 intro w cb h
 go_enter Tryz.func419, Tryz.ntmps419
 go_wp2
 go_ret
 exact ⟨_, rfl, layout_got (ps := layoutF 12)⟩
theorem layout_13 : LayoutSaid 13 := by
 intro w cb h
 go_enter Tryz.func419, Tryz.ntmps419
 go_wp2
 go_ret
 exact ⟨_, rfl, layout_got (ps := layoutF 13)⟩
theorem layout_14 : LayoutSaid 14 := by
 intro w cb h
 go_enter Tryz.func419, Tryz.ntmps419
 go_wp2
 go_ret
 exact ⟨_, rfl, layout_got (ps := layoutF 14)⟩
theorem layout_15 : LayoutSaid 15 := by
 intro w cb h
 go_enter Tryz.func419, Tryz.ntmps419
 go_wp2
 go_ret
 exact ⟨_, rfl, layout_got (ps := layoutF 15)⟩
theorem layout_16 : LayoutSaid 16 := by
 intro w cb h
 go_enter Tryz.func419, Tryz.ntmps419
 go_wp2
 go_ret
 exact ⟨_, rfl, layout_got (ps := layoutF 16)⟩
theorem layout_18 : LayoutSaid 18 := by
 intro w cb h
 go_enter Tryz.func419, Tryz.ntmps419
 go_wp2
 go_ret
 exact ⟨_, rfl, layout_got (ps := layoutF 18)⟩
theorem layout_19 : LayoutSaid 19 := by
 intro w cb h
 go_enter Tryz.func419, Tryz.ntmps419
 go_wp2
 go_ret
 exact ⟨_, rfl, layout_got (ps := layoutF 19)⟩
theorem layout_20 : LayoutSaid 20 := by
 intro w cb h
 go_enter Tryz.func419, Tryz.ntmps419
 go_wp2
 go_ret
 exact ⟨_, rfl, layout_got (ps := layoutF 20)⟩
theorem layout_21 : LayoutSaid 21 := by
 intro w cb h
 go_enter Tryz.func419, Tryz.ntmps419
 go_wp2
 go_ret
 exact ⟨_, rfl, layout_got (ps := layoutF 21)⟩
theorem layout_22 : LayoutSaid 22 := by
 intro w cb h
 go_enter Tryz.func419, Tryz.ntmps419
 go_wp2
 go_ret
 exact ⟨_, rfl, layout_got (ps := layoutF 22)⟩
theorem layout_23 : LayoutSaid 23 := by
 intro w cb h
 go_enter Tryz.func419, Tryz.ntmps419
 go_wp2
 go_ret
 exact ⟨_, rfl, .inl ⟨rfl, rfl⟩, Below.refl _ _⟩
theorem layout_24 : LayoutSaid 24 := by
 intro w cb h
 go_enter Tryz.func419, Tryz.ntmps419
 go_wp2
 go_ret
 exact ⟨_, rfl, layout_got (ps := layoutF 24)⟩
theorem layout_26 : LayoutSaid 26 := by
 intro w cb h
 go_enter Tryz.func419, Tryz.ntmps419
 go_wp2
 go_ret
 exact ⟨_, rfl, layout_got (ps := layoutF 26)⟩
theorem layout_27 : LayoutSaid 27 := by
 intro w cb h
 go_enter Tryz.func419, Tryz.ntmps419
 go_wp2
 go_ret
 exact ⟨_, rfl, layout_got (ps := layoutF 27)⟩
theorem layout_28 : LayoutSaid 28 := by
 intro w cb h
 go_enter Tryz.func419, Tryz.ntmps419
 go_wp2
 go_ret
 exact ⟨_, rfl, layout_got (ps := layoutF 28)⟩
theorem layout_29 : LayoutSaid 29 := by
 intro w cb h
 go_enter Tryz.func419, Tryz.ntmps419
 go_wp2
 go_ret
 exact ⟨_, rfl, layout_got (ps := layoutF 29)⟩
theorem layout_all {k : Int} (hk : kindM k = true) : LayoutSaid k := by
 have h := of_decide_eq_true hk
 have hs : k = 0 ∨ k = 1 ∨ k = 2 ∨ k = 4 ∨ k = 5 ∨ k = 6 ∨ k = 7 ∨ k = 8 ∨ k = 9 ∨ k = 10 ∨ k = 11 ∨ k = 12 ∨ k = 13 ∨ k = 14 ∨ k = 15 ∨ k = 16 ∨ k = 18 ∨ k = 19 ∨ k = 20 ∨ k = 21 ∨ k = 22 ∨ k = 23 ∨ k = 24 ∨ k = 26 ∨ k = 27 ∨ k = 28 ∨ k = 29 := by omega
 rcases hs with rfl | rfl | rfl | rfl | rfl | rfl | rfl | rfl | rfl | rfl | rfl | rfl | rfl | rfl | rfl | rfl | rfl | rfl | rfl | rfl | rfl | rfl | rfl | rfl | rfl | rfl | rfl
 ·exact layout_0
 ·exact layout_1
 ·exact layout_2
 ·exact layout_4
 ·exact layout_5
 ·exact layout_6
 ·exact layout_7
 ·exact layout_8
 ·exact layout_9
 ·exact layout_10
 ·exact layout_11
 ·exact layout_12
 ·exact layout_13
 ·exact layout_14
 ·exact layout_15
 ·exact layout_16
 ·exact layout_18
 ·exact layout_19
 ·exact layout_20
 ·exact layout_21
 ·exact layout_22
 ·exact layout_23
 ·exact layout_24
 ·exact layout_26
 ·exact layout_27
 ·exact layout_28
 ·exact layout_29
end Go.Proofs.YtanofjmkkhocaaaGreatDoor
namespace Go.Proofs.YtanofjmkkhocaaaGreatDoor
open Go.RowKit
theorem Kp.mono {B B' c d : Nat} {a b : World} (h : Kp B c d a b) (hB : B' ≤ B) : Kp B' c d a b :=
 ⟨h.os, h.tape, h.output, h.size, fun i hi h1 h2 => h.block i (Nat.lt_of_lt_of_le hi hB) h1 h2⟩
theorem ptsV_cell {cb k : Nat} {ps : List Pt} (hk : k < ps.length) : (ptsV cb ps)[k]? = some (Pt.val cb ps[k]) := by
 simp [ptsV, hk]
theorem foldl_take {α β : Type} (f : β → α → β) (s : β) (l : List α) (k : Nat) (hk : k < l.length) : (l.take (k + 1)).foldl f s = f ((l.take k).foldl f s) l[k] := by
 rw [List.take_succ_eq_append_getElem hk, List.foldl_append]; rfl
theorem ite_len {c : Prop} [Decidable c] {a b : List Pt} (ha : a.length ≤ 4) (hb : b.length ≤ 4) : (if c then a else b).length ≤ 4 := by split <;> assumption
theorem layout_len (k : Int) : (layoutF k).length ≤ 4 := by
 unfold layoutF
 repeat' (refine ite_len ?_ ?_)
 all_goals decide
theorem pt_enters (p : Pt) : Enters Tryz.prog p.fn := by
 cases p
 ·exact enters_of Tryz.func422 (by kernel_rfl) rfl
 ·exact enters_of Tryz.func424 (by kernel_rfl) rfl
 ·exact enters_of Tryz.func428 (by kernel_rfl) rfl
 ·exact enters_of Tryz.func423 (by kernel_rfl) rfl
 ·exact enters_of Tryz.func431 (by kernel_rfl) rfl
 ·exact enters_of Tryz.func432 (by kernel_rfl) rfl
 ·exact enters_of Tryz.func425 (by kernel_rfl) rfl
 ·exact enters_of Tryz.func430 (by kernel_rfl) rfl
 ·exact enters_of Tryz.func426 (by kernel_rfl) rfl
 ·exact enters_of Tryz.func427 (by kernel_rfl) rfl
 ·exact enters_of Tryz.func429 (by kernel_rfl) rfl
 ·exact enters_of Tryz.func433 (by kernel_rfl) rfl
 ·exact enters_of Tryz.func434 (by kernel_rfl) rfl
theorem through_gen {σ : Type} (step : Pt → σ → σ) (w : World) (cb d : Nat) (kd : Int) (hk : kindM kd = true) (hc : w.cell? ⟨cb, 2, none⟩ = some (.int .i64 kd)) (hcb : cb < w.heap.size) (hd : d < w.heap.size) (s0 : σ)
  (Inv : Nat → Nat → World → σ → Prop) (h0 : ∀ w', Below w.heap.size w w' → Inv w'.heap.size 0 w' s0)
  (hd0 : ∀ B k w' s q, Inv B k w' s → Inv B k (w'.drewN q) s)
  (hs : ∀ B p k w' s, k < 4 → w.heap.size ≤ B → B ≤ w'.heap.size → Inv B k w' s → Calls Tryz.prog (Pt.fn p) #[.pointer (some ⟨cb, 0, none⟩)] w' fun r w'' => r = .returned (.tuple #[]) ∧ Inv B (k + 1) w'' (step p s) ∧ Kp B cb d w' w'') :
  Calls Tryz.prog 412 #[.pointer (some ⟨cb, 0, none⟩)] w fun r w' => r = .returned (.tuple #[]) ∧ (∃ B k, w.heap.size ≤ B ∧ k ≤ 4 ∧ Inv B k w' ((layoutF kd).foldl (fun s p => step p s) s0)) ∧ Kp w.heap.size cb d w w' := by
 obtain ⟨ps, hps⟩ : ∃ ps, ps = layoutF kd := ⟨_, rfl⟩
 have hlen : ps.length ≤ 4 := by rw [hps]; exact layout_len kd
 have H := Lib.hid (layout_all hk w cb hc)
 rw [← hps] at H ⊢
 clear hps hk hc
 go_enter Tryz.func412, Tryz.ntmps412
 go_wp2_with fail
 refine H.out.mono ?_
 rintro r w1 ⟨v, rfl, hp, hb⟩
 have HI := Lib.hid (h0 w1 hb)
 have hB1 := hb.size
 have HB := Lib.hid hb
 clear H h0
 rcases hp with ⟨rfl, rfl⟩ | ⟨g, hg, rfl, hrow⟩
 ·go_wp2
  go_loopw [7] (fun i wr => i = .int .i64 0 ∧ wr = w1) (fun i _ => 0)
  case atStart => exact ⟨rfl, rfl⟩
  case round =>
   obtain ⟨rfl, rfl⟩ := hrel
   go_wp2
   go_end0
   exact ⟨rfl, ⟨wr.heap.size, 0, hB1, by omega, HI.out⟩, Kp.of_below HB.out (Nat.le_refl _)⟩
 ·have HR := Lib.hid hrow
  have hgl := hrow.lt
  obtain ⟨n, hn⟩ : ∃ n, n = ps.length := ⟨_, rfl⟩
  rw [← hn]
  go_wp2
  go_loopw [7] (fun i wr => ∃ k : Nat, k ≤ n ∧ i = .int .i64 k ∧ Inv w1.heap.size k wr ((ps.take k).foldl (fun s p => step p s) s0) ∧ Obj? wr g (ptsV cb ps) 1 ∧ Kp w1.heap.size cb d w1 wr) (fun i _ => n - (intOf i).toNat)
  case atStart => exact ⟨0, Nat.zero_le _, rfl, HI.out, HR.out, Kp.refl _ _ _ _⟩
  case round =>
   obtain ⟨k, hk, rfl, hi, ho, hkp⟩ := hrel
   by_cases hlt : k < n
   ·have hlt2 : k < ps.length := hn ▸ hlt
    have hcell := ho.cell k _ (ptsV_cell hlt2)
    unfold Pt.val at hcell
    have hfr := ho.frozen k
    have hent := pt_enters ps[k]
    unfold Enters at hent
    have HS := Lib.hid (hs w1.heap.size ps[k] k wr _ (by omega) hB1 hkp.size hi)
    rw [← foldl_take (fun s p => step p s) s0 ps k hlt2] at HS
    have HO := Lib.hid (And.intro ho hkp)
    have d1 : decide (k < n) = true := by simpa using hlt
    clear hi ho hkp
    go_wp2_with (go_at_fn (ps[k].fn); refine HS.out.mono ?_; rintro r w3 ⟨rfl, hi3, hk3⟩; have HQ := Lib.hid (And.intro hi3 hk3); clear hi3 hk3)
    go_roundw
    case rel => exact ⟨k + 1, by omega, by go_num, HQ.out.1, HQ.out.2.obj HO.out.1 hgl (by omega) (by omega), HO.out.2.trans HQ.out.2⟩
    case measure => simp [intOf]; omega
   ·obtain rfl : k = n := by omega
    have d1 : decide (k < k) = false := by simp
    have HO := Lib.hid (And.intro hi hkp)
    clear hi ho hkp
    go_wp2
    go_end0
    have e : ps.take k = ps := by rw [hn]; exact List.take_length
    have h1 := HO.out.1
    rw [e] at h1
    exact ⟨rfl, ⟨w1.heap.size, k, hB1, by omega, h1⟩, (Kp.of_below HB.out (Nat.le_refl _)).trans (HO.out.2.mono hB1)⟩
end Go.Proofs.YtanofjmkkhocaaaGreatDoor
namespace Go.Proofs.YtanofjmkkhocaaaGreatDoor
open Go.RowKit
def lookAll (m : Ms) : Ms × Bool := (layoutF m.ty).foldl (fun s p => lookP p s) (m, false)
def restL (m : Ms) : List UInt8 := (layoutF m.ty).foldl (fun s p => s ++ writeP p m) []
def readAll (k : Int) (t : List UInt8) (s : Rd) : Rd := (layoutF k).foldl (fun s p => readP p t s) s
theorem through_look {w : World} {cb : Nat} {m : Ms} (hk : kindM m.ty = true) (h : Obj? w cb (lkC m false) 461) :
  Calls Tryz.prog 412 #[.pointer (some ⟨cb, 0, none⟩)] w fun r w' => r = .returned (.tuple #[]) ∧ Obj? w' cb (lkC (lookAll m).1 (lookAll m).2) 461 ∧ Kp w.heap.size cb cb w w' := by
 have hlt := h.lt
 refine (through_gen (σ := Ms × Bool) lookP w cb cb m.ty hk (h.cell 2 _ rfl) hlt hlt (m, false) (fun B k w s => Obj? w cb (lkC s.1 s.2) 461) (fun w' hb => h.below hb hlt) (fun B k w' s q hi => hi) ?_).mono ?_
 ·intro B p k w' s hk hB1 hB2 hi
  refine (look_all p w' cb s.1 s.2 hi).mono ?_
  rintro r w2 ⟨rfl, ho, hkp⟩
  exact ⟨rfl, ho, hkp B hB2⟩
 ·rintro r w' ⟨rfl, ⟨B, k, _, _, ho⟩, hkp⟩
  exact ⟨rfl, ho, hkp⟩
theorem putL_le2 (x n : Int) (hn : n = 1 ∨ n = 2) : ((putL x n).length : Int) ≤ 2 := by
 rw [length_putL]; rcases hn with rfl | rfl <;> decide
theorem writeP_len (p : Pt) {m : Ms} (hn : (m.name.length : Int) ≤ 100000) (hd : (m.data.length : Int) ≤ 100000) : ((writeP p m).length : Int) ≤ 100002 := by
 have h1 := fun x => putL_le2 x 1 (.inl rfl)
 have h2 := fun x => putL_le2 x 2 (.inr rfl)
 cases p
 case gateway => have := h1 m.gw; simp only [writeP]; omega
 case radius => have := h1 m.rad; simp only [writeP]; omega
 case code => have := h1 m.code; simp only [writeP]; omega
 case time => have := h2 m.time; simp only [writeP]; omega
 case id => have := h2 m.tid; simp only [writeP]; omega
 case msg => have := h2 m.mid; simp only [writeP]; omega
 case name => simp only [writeP]; omega
 case data => simp only [writeP]; omega
 case flags => have := h1 (flagV m.fl).1; simp only [writeP]; omega
 case protocol => have := h1 1; simp only [writeP]; omega
 case will => have := h1 (flagV m.fl).1; simp only [writeP]; split <;> simp <;> omega
 case topic => have := h2 m.tid; simp only [writeP]; split <;> omega
 case duration => have := h2 m.time; simp only [writeP]; split <;> simp <;> omega
theorem through_write {w : World} {cb : Nat} {m : Ms} (hk : kindM m.ty = true) (hm : MsOk m) (h : Obj? w cb (wrC m (.slice none 0 0)) 461) :
  Calls Tryz.prog 412 #[.pointer (some ⟨cb, 0, none⟩)] w fun r w' => r = .returned (.tuple #[]) ∧ (∃ B v, w.heap.size ≤ B ∧ Obj? w' cb (wrC m v) 461 ∧ w'.ownsRow B 5 1 v (restL m).length (u8sM (restL m))) ∧ ((restL m).length : Int) ≤ 400008 ∧ Kp w.heap.size cb cb w w' := by
 have hlt := h.lt
 refine (through_gen (σ := List UInt8) (fun p s => s ++ writeP p m) w cb cb m.ty hk (h.cell 2 _ rfl) hlt hlt [] (fun B k w s => InvW w B cb m s ∧ (s.length : Int) ≤ 100002 * (k : Int)) (fun w' hb => ⟨⟨Nat.lt_of_lt_of_le hlt hb.size, Nat.le_refl _, .slice none 0 0, h.below hb hlt, ?_⟩, by simp⟩) (fun B k w' s q hi => hi) ?_).mono ?_
 ·exact World.ownsRow_nil _ _ _ _
 ·intro B p k w' s hk hB1 hB2 hi
  refine (write_all p w' B cb m s hi.1 hm (by have := hi.2; omega)).mono ?_
  rintro r w2 ⟨rfl, ho, hkp⟩
  refine ⟨rfl, ⟨ho, ?_⟩, hkp⟩
  have h1 := writeP_len p hm.2.2.2.2.2.2.1 hm.2.2.2.2.2.2.2.1
  have h2 := hi.2
  rw [List.length_append]; push_cast; omega
 ·rintro r w' ⟨rfl, ⟨B, k, hB, hk4, ho, hl⟩, hkp⟩
  obtain ⟨_, _, v, h3, h4⟩ := ho
  refine ⟨rfl, ⟨B, v, hB, h3, h4⟩, ?_, hkp⟩
  unfold restL
  omega
theorem through_read {w : World} {cb cu : Nat} {t : List UInt8} {s : Rd} (hk : kindM s.m.ty = true) (h : InvR w cb cu t s) (hne : cu ≠ cb) (ht : (t.length : Int) ≤ 9223372036854775807) :
  Calls Tryz.prog 412 #[.pointer (some ⟨cb, 0, none⟩)] w fun r w' => r = .returned (.tuple #[]) ∧ InvR w' cb cu t (readAll s.m.ty t s) ∧ Kp w.heap.size cb cu w w' := by
 have hlt := Obj?.lt h.1
 have hlu := Obj?.lt h.2.1
 refine (through_gen (σ := Rd) (fun p s => readP p t s) w cb cu s.m.ty hk (Obj?.cell h.1 2 _ rfl) hlt hlu s (fun B k w s => InvR w cb cu t s) (fun w' hb => h.below hb) (fun B k w' s q hi => hi.drewN q) ?_).mono ?_
 ·intro B p k w' s hk hB1 hB2 hi
  exact read_all p w' B cb cu t s hi hne ht hB2
 ·rintro r w' ⟨rfl, ⟨B, k, _, _, ho⟩, hkp⟩
  exact ⟨rfl, ho, hkp⟩
theorem size_alloc1 (w : World) (o : Obj) : (w.alloc o).heap.size = w.heap.size + 1 := by show (w.heap.push o).size = _; exact Array.size_push _
theorem heap_alloc_last2 (w : World) (o o' : Obj) : ((w.alloc o).alloc o').heap[w.heap.size + 1]? = some o' := by
 rw [← size_alloc1 w o]; exact heap_alloc_last _ _
theorem setRow_alloc_new2 (w : World) (o : Obj) (c c' : Array Value) (t : TypeId) : ((w.alloc o).alloc (.cells c t)).setRow (w.heap.size + 1) c' = (w.alloc o).alloc (.cells c' t) := by
 rw [← size_alloc1 w o]; exact World.setRow_alloc_new _ _ _ _
theorem owns_zero' {W : World} {base : Nat} {e : TypeId} {size : Nat} {v : Value} {xs : List Value} (h : W.ownsRow base e size v 0 xs) : v = .slice none 0 0 ∨ ∃ g c, v = .slice (some ⟨g, 0, none⟩) 0 c := by
 rcases h.2 with ⟨h, _⟩ | ⟨g, c, _, h, _⟩
 ·exact .inl h
 ·exact .inr ⟨g, c, h⟩
theorem strOf_u8s (l : List UInt8) : strOfNums (l.map fun b => (b.toNat : Int)) = ⟨l.toArray⟩ := by
 unfold strOfNums
 congr 2
 rw [List.map_map]
 have : ((fun n : Int => UInt8.ofNat n.toNat) ∘ fun b : UInt8 => (b.toNat : Int)) = id := by funext b; simp
 rw [this, List.map_id]
theorem conv_own {w : World} {B : Nat} {v : Value} {l : List UInt8} (h : w.ownsRow B 5 1 v l.length (u8sM l)) : (convert 133 9 v).run Tryz.prog w = .ok (.string ⟨l.toArray⟩) w := by
 cases l with
 | nil =>
  rcases owns_zero' h with rfl | ⟨g, c, rfl⟩
  ·exact run_convert_bytes_nil (P := Tryz.prog) w 133 5 Tryz.underlying133 Tryz.underlying5 0 0 9 Tryz.underlying9
  ·exact run_convert_bytes_arg (P := Tryz.prog) w 133 5 Tryz.underlying133 Tryz.underlying5 g 0 0 c [] rfl (fun i hi => by omega) 9 Tryz.underlying9
 | cons a l =>
  obtain ⟨g, c, rfl⟩ := owns_succ h
  have h2 : w.ownsRow B 5 1 (.slice (some ⟨g, 0, none⟩) (l.length + 1) c) (l.length + 1) (((a :: l).map fun b => (b.toNat : Int)).map (Value.int .u8)) := by
   rw [List.map_map]; exact h
  have hc := run_convert_bytes_arg (P := Tryz.prog) w 133 5 Tryz.underlying133 Tryz.underlying5 g 0 (l.length + 1) c ((a :: l).map fun b => (b.toNat : Int)) (by simp) (owns_ints h2 (by simp)) 9 Tryz.underlying9
  rw [strOf_u8s] at hc
  exact hc
theorem infoMs : (Tryz.prog.info? 38).map (·.size) = some 16 := by kernel_rfl
theorem infoCd : (Tryz.prog.info? 461).map (·.size) = some 20 := by kernel_rfl
theorem msrest_any (m : Ms) (hk : kindM m.ty = true) (hm : MsOk m) (w : World) :
  Calls Tryz.prog 407 #[.agg m.cs] w fun r w' => r = .returned (.string ⟨(restL m).toArray⟩) ∧ ((restL m).length : Int) ≤ 400008 ∧ Below w.heap.size w w' := by
 unfold Ms.cs
 go_enter Tryz.func407, Tryz.ntmps407
 go_upto_region 1 with fail
 go_step
 refine wpList_load_row rfl 38 _ rfl _ rfl 38 _ _ _ (heap_alloc_last _ _) Tryz.underlying38 rfl infoMs ?_
 go_step
 go_step
 go_step
 go_step
 go_step
 go_step
 refine wpList_store_rowTo rfl 461 _ _ rfl rfl _ _ rfl rfl 461 _ (heap_alloc_last2 _ _ _) infoCd rfl (by simp [Value.oneCell']) ?_
 rw [setRow_alloc_new2]
 have hO1 := Obj?.new (w.alloc (.cells m.cs 38 (0, 0))) (wrC m (.slice none 0 0)) 461
 rw [size_alloc1] at hO1
 have H := Lib.hid (through_write hk hm hO1)
 have HB0 := Lib.hid (below_al (below_al (Below.refl _ w) (.cells m.cs 38 (0, 0))) (.cells (wrC m (.slice none 0 0)) 461 (0, 0)))
 clear hO1
 unfold wrC cdC Ms.cs at H HB0
 go_wp2_with fail
 refine H.out.mono ?_
 rintro r w2 ⟨rfl, ⟨B, v, hB, ho, hr⟩, hl, hkp⟩
 have kc := Obj?.cells ho
 have hconv := conv_own hr
 have HF := Lib.hid (And.intro hl (HB0.out.trans (hkp.to_below (by omega) (by omega) (by simp; omega))))
 clear H hkp ho hr HB0
 go_wp2
 go_ret
 exact ⟨rfl, HF.out.1, HF.out.2⟩
end Go.Proofs.YtanofjmkkhocaaaGreatDoor
