/- snmsg: Check, the way past the flags: no. -/
import Derived.Test.YtanofjmkkhocaaaGreatDoorMsP
set_option linter.unusedVariables false
set_option linter.unusedSimpArgs false
set_option maxRecDepth 100000
set_option maxHeartbeats 3200000
namespace Go.Proofs.YtanofjmkkhocaaaGreatDoor
open Go.RowKit
attribute [local go_sem ↓] Go.wp_at_zero Go.wp_at_succ load_Msg
theorem check_bad_no (m : Ms) (hk : kindM m.ty = true) (hm : mayF m.ty m.fl = true) (hw : willB m.ty = false) (hbad : (lookAll m).2 = true) : CheckSaid m 2 := by
 intro w hmx
 have H1 := Lib.hid (fun w => message_any m.ty w)
 have H2 := Lib.hid (fun w => snmay_any m.ty m.fl w)
 have H3 := Lib.hid (fun w => will_any m.ty w)
 rw [hk] at H1
 rw [hm] at H2
 rw [hw] at H3
 clear hm hw
 unfold Ms.cs
 go_enter Tryz.func406, Tryz.ntmps406
 go_wp2_with fail
 refine (H1.out _).mono ?_
 rintro r w1 ⟨rfl, hw1⟩
 subst hw1
 go_wp2_with fail
 refine (H2.out _).mono ?_
 rintro r w2 ⟨rfl, hb⟩
 have O2 := obj_msg m hb
 have hkc := O2.cells
 unfold Ms.cs at hkc
 have HB := Lib.hid ((below_al (Below.refl _ w) (.cells m.cs 38 (0, 0))).trans (hb.mono (below_al (Below.refl _ w) (.cells m.cs 38 (0, 0))).size))
 have HO := Lib.hid O2
 unfold Ms.cs at HO
 clear hb O2
 go_wp2_with fail
 refine (H3.out _).mono ?_
 rintro r w3 ⟨rfl, hw3⟩
 subst hw3
 go_upto_region 5 with fail
 go_step
 refine wpList_load_row rfl 38 _ rfl _ rfl 38 _ _ _ (HO.out : _ = _) Tryz.underlying38 rfl infoMs ?_
 go_step
 go_step
 go_step
 go_step
 go_step
 go_step
 refine wpList_store_rowTo rfl 461 _ _ rfl rfl _ _ rfl rfl 461 _ (heap_alloc_last _ _) infoCd rfl (by simp [Value.oneCell']) ?_
 rw [World.setRow_alloc_new]
 have hO1 := Obj?.new w2 (lkC m false) 461
 have HT := Lib.hid (through_look hk hO1)
 have HA := Lib.hid (HO.out.alloc (.cells (lkC m false) 461 (0, 0)))
 have HB2 := Lib.hid (below_al HB.out (.cells (lkC m false) 461 (0, 0)))
 have hs2 := HO.out.lt
 have hs3 := size_alloc1 w2 (.cells (lkC m false) 461 (0, 0))
 unfold lkC cdC at HT HA HB2
 clear hO1 HO HB
 go_wp2_with fail
 refine HT.out.mono ?_
 rintro r w4 ⟨rfl, ho, hkp⟩
 unfold lkC cdC at hs3
 rw [hs3] at hkp
 have hkc4 := ho.cells
 have hlk4 := load_look (X := (lookAll m).1) (bad := (lookAll m).2) ho
 unfold Ms.cs at hlk4
 have O4 := hkp.obj HA.out (by omega) (by omega) (by omega)
 have hkm4 := O4.cells
 have hld4 := load_msg (m := m) O4
 have HO4 := Lib.hid O4
 have HB4 := Lib.hid (HB2.out.trans (hkp.to_below (A := w.heap.size) (by omega) (by omega) (by omega)))
 clear ho hkp HT HA HB2 O4 hkc
 rw [hbad] at hkc4
 go_wp2
 go_ret
 exact ⟨rfl, HB4.out⟩
theorem check_neq_no (m : Ms) (hk : kindM m.ty = true) (hm : mayF m.ty m.fl = true) (hw : willB m.ty = false) (hbad : (lookAll m).2 = false) (hne : (lookAll m).1 ≠ Ms.bare m.ty m.fl) : CheckSaid m 2 := by
 intro w hmx
 have H1 := Lib.hid (fun w => message_any m.ty w)
 have H2 := Lib.hid (fun w => snmay_any m.ty m.fl w)
 have H3 := Lib.hid (fun w => will_any m.ty w)
 rw [hk] at H1
 rw [hm] at H2
 rw [hw] at H3
 clear hm hw
 unfold Ms.cs
 go_enter Tryz.func406, Tryz.ntmps406
 go_wp2_with fail
 refine (H1.out _).mono ?_
 rintro r w1 ⟨rfl, hw1⟩
 subst hw1
 go_wp2_with fail
 refine (H2.out _).mono ?_
 rintro r w2 ⟨rfl, hb⟩
 have O2 := obj_msg m hb
 have hkc := O2.cells
 unfold Ms.cs at hkc
 have HB := Lib.hid ((below_al (Below.refl _ w) (.cells m.cs 38 (0, 0))).trans (hb.mono (below_al (Below.refl _ w) (.cells m.cs 38 (0, 0))).size))
 have HO := Lib.hid O2
 unfold Ms.cs at HO
 clear hb O2
 go_wp2_with fail
 refine (H3.out _).mono ?_
 rintro r w3 ⟨rfl, hw3⟩
 subst hw3
 go_upto_region 5 with fail
 go_step
 refine wpList_load_row rfl 38 _ rfl _ rfl 38 _ _ _ (HO.out : _ = _) Tryz.underlying38 rfl infoMs ?_
 go_step
 go_step
 go_step
 go_step
 go_step
 go_step
 refine wpList_store_rowTo rfl 461 _ _ rfl rfl _ _ rfl rfl 461 _ (heap_alloc_last _ _) infoCd rfl (by simp [Value.oneCell']) ?_
 rw [World.setRow_alloc_new]
 have hO1 := Obj?.new w2 (lkC m false) 461
 have HT := Lib.hid (through_look hk hO1)
 have HA := Lib.hid (HO.out.alloc (.cells (lkC m false) 461 (0, 0)))
 have HB2 := Lib.hid (below_al HB.out (.cells (lkC m false) 461 (0, 0)))
 have hs2 := HO.out.lt
 have hs3 := size_alloc1 w2 (.cells (lkC m false) 461 (0, 0))
 unfold lkC cdC at HT HA HB2
 clear hO1 HO HB
 go_wp2_with fail
 refine HT.out.mono ?_
 rintro r w4 ⟨rfl, ho, hkp⟩
 unfold lkC cdC at hs3
 rw [hs3] at hkp
 have hkc4 := ho.cells
 have hlk4 := load_look (X := (lookAll m).1) (bad := (lookAll m).2) ho
 unfold Ms.cs at hlk4
 have O4 := hkp.obj HA.out (by omega) (by omega) (by omega)
 have hkm4 := O4.cells
 have hld4 := load_msg (m := m) O4
 have HO4 := Lib.hid O4
 have HB4 := Lib.hid (HB2.out.trans (hkp.to_below (A := w.heap.size) (by omega) (by omega) (by omega)))
 clear ho hkp HT HA HB2 O4 hkc
 rw [hbad] at hkc4
 have hcmp2 := fun w => neq_bare (lookAll m).1 m.ty m.fl w hne
 unfold msNeq at hcmp2
 go_wp2
 go_ret
 exact ⟨rfl, HB4.out⟩
theorem check_id_no (m : Ms) (hk : kindM m.ty = true) (hm : mayF m.ty m.fl = true) (hw : willB m.ty = false) (hbad : (lookAll m).2 = false) (hx : (lookAll m).1 = Ms.bare m.ty m.fl) (hid : msgIdB m = false) : CheckSaid m 2 := by
 intro w hmx
 have H4 := Lib.hid (fun w => msgid_any m hk w)
 rw [hid] at H4
 unfold Ms.cs at H4
 clear hid
 have H1 := Lib.hid (fun w => message_any m.ty w)
 have H2 := Lib.hid (fun w => snmay_any m.ty m.fl w)
 have H3 := Lib.hid (fun w => will_any m.ty w)
 rw [hk] at H1
 rw [hm] at H2
 rw [hw] at H3
 clear hm hw
 unfold Ms.cs
 go_enter Tryz.func406, Tryz.ntmps406
 go_wp2_with fail
 refine (H1.out _).mono ?_
 rintro r w1 ⟨rfl, hw1⟩
 subst hw1
 go_wp2_with fail
 refine (H2.out _).mono ?_
 rintro r w2 ⟨rfl, hb⟩
 have O2 := obj_msg m hb
 have hkc := O2.cells
 unfold Ms.cs at hkc
 have HB := Lib.hid ((below_al (Below.refl _ w) (.cells m.cs 38 (0, 0))).trans (hb.mono (below_al (Below.refl _ w) (.cells m.cs 38 (0, 0))).size))
 have HO := Lib.hid O2
 unfold Ms.cs at HO
 clear hb O2
 go_wp2_with fail
 refine (H3.out _).mono ?_
 rintro r w3 ⟨rfl, hw3⟩
 subst hw3
 go_upto_region 5 with fail
 go_step
 refine wpList_load_row rfl 38 _ rfl _ rfl 38 _ _ _ (HO.out : _ = _) Tryz.underlying38 rfl infoMs ?_
 go_step
 go_step
 go_step
 go_step
 go_step
 go_step
 refine wpList_store_rowTo rfl 461 _ _ rfl rfl _ _ rfl rfl 461 _ (heap_alloc_last _ _) infoCd rfl (by simp [Value.oneCell']) ?_
 rw [World.setRow_alloc_new]
 have hO1 := Obj?.new w2 (lkC m false) 461
 have HT := Lib.hid (through_look hk hO1)
 have HA := Lib.hid (HO.out.alloc (.cells (lkC m false) 461 (0, 0)))
 have HB2 := Lib.hid (below_al HB.out (.cells (lkC m false) 461 (0, 0)))
 have hs2 := HO.out.lt
 have hs3 := size_alloc1 w2 (.cells (lkC m false) 461 (0, 0))
 unfold lkC cdC at HT HA HB2
 clear hO1 HO HB
 go_wp2_with fail
 refine HT.out.mono ?_
 rintro r w4 ⟨rfl, ho, hkp⟩
 unfold lkC cdC at hs3
 rw [hs3] at hkp
 have hkc4 := ho.cells
 have hlk4 := load_look (X := (lookAll m).1) (bad := (lookAll m).2) ho
 unfold Ms.cs at hlk4
 have O4 := hkp.obj HA.out (by omega) (by omega) (by omega)
 have hkm4 := O4.cells
 have hld4 := load_msg (m := m) O4
 have HO4 := Lib.hid O4
 have HB4 := Lib.hid (HB2.out.trans (hkp.to_below (A := w.heap.size) (by omega) (by omega) (by omega)))
 clear ho hkp HT HA HB2 O4 hkc
 rw [hbad] at hkc4
 have hcmp2 := fun w => neq_bare_no (lookAll m).1 m.ty m.fl w hx
 unfold msNeq at hcmp2
 clear hx
 go_wp2_with fail
 refine (H4.out _).mono ?_
 rintro r w5 ⟨rfl, hb⟩
 have O5 := HO4.out.below hb HO4.out.lt
 have hkm5 := O5.cells
 have hld5 := load_msg (m := m) O5
 have HB5 := Lib.hid (HB4.out.trans (hb.mono HB4.out.size))
 have HO5 := Lib.hid O5
 clear hb O5 hkm4 hld4
 go_wp2
 go_ret
 exact ⟨rfl, HB5.out⟩
theorem check_top_no (m : Ms) (hk : kindM m.ty = true) (hm : mayF m.ty m.fl = true) (hw : willB m.ty = false) (hbad : (lookAll m).2 = false) (hx : (lookAll m).1 = Ms.bare m.ty m.fl) (hid : msgIdB m = true) (ht : topicIdF m ≠ 0) : CheckSaid m (topicIdF m) := by
 intro w hmx
 have H4 := Lib.hid (fun w => msgid_any m hk w)
 rw [hid] at H4
 unfold Ms.cs at H4
 clear hid
 have H5 := Lib.hid (fun w => topicid_any m hk w)
 obtain ⟨e5, he5⟩ : ∃ e5, e5 = topicIdF m := ⟨_, rfl⟩
 rw [← he5] at H5 ht ⊢
 unfold Ms.cs at H5
 clear he5
 have dt : (e5 != 0) = true := by simpa using ht
 clear ht
 have H1 := Lib.hid (fun w => message_any m.ty w)
 have H2 := Lib.hid (fun w => snmay_any m.ty m.fl w)
 have H3 := Lib.hid (fun w => will_any m.ty w)
 rw [hk] at H1
 rw [hm] at H2
 rw [hw] at H3
 clear hm hw
 unfold Ms.cs
 go_enter Tryz.func406, Tryz.ntmps406
 go_wp2_with fail
 refine (H1.out _).mono ?_
 rintro r w1 ⟨rfl, hw1⟩
 subst hw1
 go_wp2_with fail
 refine (H2.out _).mono ?_
 rintro r w2 ⟨rfl, hb⟩
 have O2 := obj_msg m hb
 have hkc := O2.cells
 unfold Ms.cs at hkc
 have HB := Lib.hid ((below_al (Below.refl _ w) (.cells m.cs 38 (0, 0))).trans (hb.mono (below_al (Below.refl _ w) (.cells m.cs 38 (0, 0))).size))
 have HO := Lib.hid O2
 unfold Ms.cs at HO
 clear hb O2
 go_wp2_with fail
 refine (H3.out _).mono ?_
 rintro r w3 ⟨rfl, hw3⟩
 subst hw3
 go_upto_region 5 with fail
 go_step
 refine wpList_load_row rfl 38 _ rfl _ rfl 38 _ _ _ (HO.out : _ = _) Tryz.underlying38 rfl infoMs ?_
 go_step
 go_step
 go_step
 go_step
 go_step
 go_step
 refine wpList_store_rowTo rfl 461 _ _ rfl rfl _ _ rfl rfl 461 _ (heap_alloc_last _ _) infoCd rfl (by simp [Value.oneCell']) ?_
 rw [World.setRow_alloc_new]
 have hO1 := Obj?.new w2 (lkC m false) 461
 have HT := Lib.hid (through_look hk hO1)
 have HA := Lib.hid (HO.out.alloc (.cells (lkC m false) 461 (0, 0)))
 have HB2 := Lib.hid (below_al HB.out (.cells (lkC m false) 461 (0, 0)))
 have hs2 := HO.out.lt
 have hs3 := size_alloc1 w2 (.cells (lkC m false) 461 (0, 0))
 unfold lkC cdC at HT HA HB2
 clear hO1 HO HB
 go_wp2_with fail
 refine HT.out.mono ?_
 rintro r w4 ⟨rfl, ho, hkp⟩
 unfold lkC cdC at hs3
 rw [hs3] at hkp
 have hkc4 := ho.cells
 have hlk4 := load_look (X := (lookAll m).1) (bad := (lookAll m).2) ho
 unfold Ms.cs at hlk4
 have O4 := hkp.obj HA.out (by omega) (by omega) (by omega)
 have hkm4 := O4.cells
 have hld4 := load_msg (m := m) O4
 have HO4 := Lib.hid O4
 have HB4 := Lib.hid (HB2.out.trans (hkp.to_below (A := w.heap.size) (by omega) (by omega) (by omega)))
 clear ho hkp HT HA HB2 O4 hkc
 rw [hbad] at hkc4
 have hcmp2 := fun w => neq_bare_no (lookAll m).1 m.ty m.fl w hx
 unfold msNeq at hcmp2
 clear hx
 go_wp2_with fail
 refine (H4.out _).mono ?_
 rintro r w5 ⟨rfl, hb⟩
 have O5 := HO4.out.below hb HO4.out.lt
 have hkm5 := O5.cells
 have hld5 := load_msg (m := m) O5
 have HB5 := Lib.hid (HB4.out.trans (hb.mono HB4.out.size))
 have HO5 := Lib.hid O5
 clear hb O5 hkm4 hld4
 go_wp2_with fail
 refine (H5.out _).mono ?_
 rintro r w6 ⟨rfl, hb⟩
 have O6 := HO5.out.below hb HO5.out.lt
 have hkm6 := O6.cells
 have hld6 := load_msg (m := m) O6
 have HB6 := Lib.hid (HB5.out.trans (hb.mono HB5.out.size))
 have HO6 := Lib.hid O6
 clear hb O6 hkm5 hld5
 go_wp2
 go_ret
 exact ⟨rfl, HB6.out⟩
theorem check_name_no (m : Ms) (hk : kindM m.ty = true) (hm : mayF m.ty m.fl = true) (hw : willB m.ty = false) (hbad : (lookAll m).2 = false) (hx : (lookAll m).1 = Ms.bare m.ty m.fl) (hid : msgIdB m = true) (ht : topicIdF m = 0) (hl : m.name.length ≤ 100000) (hn : nameF m ≠ 0) : CheckSaid m (nameF m) := by
 intro w hmx
 have H4 := Lib.hid (fun w => msgid_any m hk w)
 rw [hid] at H4
 unfold Ms.cs at H4
 clear hid
 have H5 := Lib.hid (fun w => topicid_any m hk w)
 rw [ht] at H5
 unfold Ms.cs at H5
 clear ht
 have H6 := Lib.hid (fun w hm => msname_any m hk hl w hm)
 obtain ⟨e6, he6⟩ : ∃ e6, e6 = nameF m := ⟨_, rfl⟩
 rw [← he6] at H6 hn ⊢
 unfold Ms.cs at H6
 clear he6
 have dn : (e6 != 0) = true := by simpa using hn
 clear hn
 have H1 := Lib.hid (fun w => message_any m.ty w)
 have H2 := Lib.hid (fun w => snmay_any m.ty m.fl w)
 have H3 := Lib.hid (fun w => will_any m.ty w)
 rw [hk] at H1
 rw [hm] at H2
 rw [hw] at H3
 clear hm hw
 unfold Ms.cs
 go_enter Tryz.func406, Tryz.ntmps406
 go_wp2_with fail
 refine (H1.out _).mono ?_
 rintro r w1 ⟨rfl, hw1⟩
 subst hw1
 go_wp2_with fail
 refine (H2.out _).mono ?_
 rintro r w2 ⟨rfl, hb⟩
 have O2 := obj_msg m hb
 have hkc := O2.cells
 unfold Ms.cs at hkc
 have HB := Lib.hid ((below_al (Below.refl _ w) (.cells m.cs 38 (0, 0))).trans (hb.mono (below_al (Below.refl _ w) (.cells m.cs 38 (0, 0))).size))
 have HO := Lib.hid O2
 unfold Ms.cs at HO
 clear hb O2
 go_wp2_with fail
 refine (H3.out _).mono ?_
 rintro r w3 ⟨rfl, hw3⟩
 subst hw3
 go_upto_region 5 with fail
 go_step
 refine wpList_load_row rfl 38 _ rfl _ rfl 38 _ _ _ (HO.out : _ = _) Tryz.underlying38 rfl infoMs ?_
 go_step
 go_step
 go_step
 go_step
 go_step
 go_step
 refine wpList_store_rowTo rfl 461 _ _ rfl rfl _ _ rfl rfl 461 _ (heap_alloc_last _ _) infoCd rfl (by simp [Value.oneCell']) ?_
 rw [World.setRow_alloc_new]
 have hO1 := Obj?.new w2 (lkC m false) 461
 have HT := Lib.hid (through_look hk hO1)
 have HA := Lib.hid (HO.out.alloc (.cells (lkC m false) 461 (0, 0)))
 have HB2 := Lib.hid (below_al HB.out (.cells (lkC m false) 461 (0, 0)))
 have hs2 := HO.out.lt
 have hs3 := size_alloc1 w2 (.cells (lkC m false) 461 (0, 0))
 unfold lkC cdC at HT HA HB2
 clear hO1 HO HB
 go_wp2_with fail
 refine HT.out.mono ?_
 rintro r w4 ⟨rfl, ho, hkp⟩
 unfold lkC cdC at hs3
 rw [hs3] at hkp
 have hkc4 := ho.cells
 have hlk4 := load_look (X := (lookAll m).1) (bad := (lookAll m).2) ho
 unfold Ms.cs at hlk4
 have O4 := hkp.obj HA.out (by omega) (by omega) (by omega)
 have hkm4 := O4.cells
 have hld4 := load_msg (m := m) O4
 have HO4 := Lib.hid O4
 have HB4 := Lib.hid (HB2.out.trans (hkp.to_below (A := w.heap.size) (by omega) (by omega) (by omega)))
 clear ho hkp HT HA HB2 O4 hkc
 rw [hbad] at hkc4
 have hcmp2 := fun w => neq_bare_no (lookAll m).1 m.ty m.fl w hx
 unfold msNeq at hcmp2
 clear hx
 go_wp2_with fail
 refine (H4.out _).mono ?_
 rintro r w5 ⟨rfl, hb⟩
 have O5 := HO4.out.below hb HO4.out.lt
 have hkm5 := O5.cells
 have hld5 := load_msg (m := m) O5
 have HB5 := Lib.hid (HB4.out.trans (hb.mono HB4.out.size))
 have HO5 := Lib.hid O5
 clear hb O5 hkm4 hld4
 go_wp2_with fail
 refine (H5.out _).mono ?_
 rintro r w6 ⟨rfl, hb⟩
 have O6 := HO5.out.below hb HO5.out.lt
 have hkm6 := O6.cells
 have hld6 := load_msg (m := m) O6
 have HB6 := Lib.hid (HB5.out.trans (hb.mono HB5.out.size))
 have HO6 := Lib.hid O6
 clear hb O6 hkm5 hld5
 have HMx := Lib.hid (hmx.below HB6.out hmx.1)
 go_wp2_with fail
 refine (H6.out _ HMx.out).mono ?_
 rintro r w7 ⟨rfl, hb⟩
 have O7 := HO6.out.below hb HO6.out.lt
 have hkm7 := O7.cells
 have hld7 := load_msg (m := m) O7
 have HB7 := Lib.hid (HB6.out.trans (hb.mono HB6.out.size))
 have HO7 := Lib.hid O7
 clear hb O7 hkm6 hld6
 go_wp2
 go_ret
 exact ⟨rfl, HB7.out⟩
theorem check_end_no (m : Ms) (hk : kindM m.ty = true) (hm : mayF m.ty m.fl = true) (hw : willB m.ty = false) (hbad : (lookAll m).2 = false) (hx : (lookAll m).1 = Ms.bare m.ty m.fl) (hid : msgIdB m = true) (ht : topicIdF m = 0) (hl : m.name.length ≤ 100000) (hn : nameF m = 0) (hok : MsOk m) : CheckSaid m (snB m.ty (restL m).length).2 := by
 intro w hmx
 have H4 := Lib.hid (fun w => msgid_any m hk w)
 rw [hid] at H4
 unfold Ms.cs at H4
 clear hid
 have H5 := Lib.hid (fun w => topicid_any m hk w)
 rw [ht] at H5
 unfold Ms.cs at H5
 clear ht
 have H6 := Lib.hid (fun w hm => msname_any m hk hl w hm)
 rw [hn] at H6
 unfold Ms.cs at H6
 clear hn
 have H7 := Lib.hid (fun w => msrest_any m hk hok w)
 unfold Ms.cs at H7
 have H8 := Lib.hid (fun w (hr : ((restL m).length : Int) ≤ 400008) => snbytes_any m.ty (restL m).length (by omega) w)
 have H1 := Lib.hid (fun w => message_any m.ty w)
 have H2 := Lib.hid (fun w => snmay_any m.ty m.fl w)
 have H3 := Lib.hid (fun w => will_any m.ty w)
 rw [hk] at H1
 rw [hm] at H2
 rw [hw] at H3
 clear hm hw
 unfold Ms.cs
 go_enter Tryz.func406, Tryz.ntmps406
 go_wp2_with fail
 refine (H1.out _).mono ?_
 rintro r w1 ⟨rfl, hw1⟩
 subst hw1
 go_wp2_with fail
 refine (H2.out _).mono ?_
 rintro r w2 ⟨rfl, hb⟩
 have O2 := obj_msg m hb
 have hkc := O2.cells
 unfold Ms.cs at hkc
 have HB := Lib.hid ((below_al (Below.refl _ w) (.cells m.cs 38 (0, 0))).trans (hb.mono (below_al (Below.refl _ w) (.cells m.cs 38 (0, 0))).size))
 have HO := Lib.hid O2
 unfold Ms.cs at HO
 clear hb O2
 go_wp2_with fail
 refine (H3.out _).mono ?_
 rintro r w3 ⟨rfl, hw3⟩
 subst hw3
 go_upto_region 5 with fail
 go_step
 refine wpList_load_row rfl 38 _ rfl _ rfl 38 _ _ _ (HO.out : _ = _) Tryz.underlying38 rfl infoMs ?_
 go_step
 go_step
 go_step
 go_step
 go_step
 go_step
 refine wpList_store_rowTo rfl 461 _ _ rfl rfl _ _ rfl rfl 461 _ (heap_alloc_last _ _) infoCd rfl (by simp [Value.oneCell']) ?_
 rw [World.setRow_alloc_new]
 have hO1 := Obj?.new w2 (lkC m false) 461
 have HT := Lib.hid (through_look hk hO1)
 have HA := Lib.hid (HO.out.alloc (.cells (lkC m false) 461 (0, 0)))
 have HB2 := Lib.hid (below_al HB.out (.cells (lkC m false) 461 (0, 0)))
 have hs2 := HO.out.lt
 have hs3 := size_alloc1 w2 (.cells (lkC m false) 461 (0, 0))
 unfold lkC cdC at HT HA HB2
 clear hO1 HO HB
 go_wp2_with fail
 refine HT.out.mono ?_
 rintro r w4 ⟨rfl, ho, hkp⟩
 unfold lkC cdC at hs3
 rw [hs3] at hkp
 have hkc4 := ho.cells
 have hlk4 := load_look (X := (lookAll m).1) (bad := (lookAll m).2) ho
 unfold Ms.cs at hlk4
 have O4 := hkp.obj HA.out (by omega) (by omega) (by omega)
 have hkm4 := O4.cells
 have hld4 := load_msg (m := m) O4
 have HO4 := Lib.hid O4
 have HB4 := Lib.hid (HB2.out.trans (hkp.to_below (A := w.heap.size) (by omega) (by omega) (by omega)))
 clear ho hkp HT HA HB2 O4 hkc
 rw [hbad] at hkc4
 have hcmp2 := fun w => neq_bare_no (lookAll m).1 m.ty m.fl w hx
 unfold msNeq at hcmp2
 clear hx
 go_wp2_with fail
 refine (H4.out _).mono ?_
 rintro r w5 ⟨rfl, hb⟩
 have O5 := HO4.out.below hb HO4.out.lt
 have hkm5 := O5.cells
 have hld5 := load_msg (m := m) O5
 have HB5 := Lib.hid (HB4.out.trans (hb.mono HB4.out.size))
 have HO5 := Lib.hid O5
 clear hb O5 hkm4 hld4
 go_wp2_with fail
 refine (H5.out _).mono ?_
 rintro r w6 ⟨rfl, hb⟩
 have O6 := HO5.out.below hb HO5.out.lt
 have hkm6 := O6.cells
 have hld6 := load_msg (m := m) O6
 have HB6 := Lib.hid (HB5.out.trans (hb.mono HB5.out.size))
 have HO6 := Lib.hid O6
 clear hb O6 hkm5 hld5
 have HMx := Lib.hid (hmx.below HB6.out hmx.1)
 go_wp2_with fail
 refine (H6.out _ HMx.out).mono ?_
 rintro r w7 ⟨rfl, hb⟩
 have O7 := HO6.out.below hb HO6.out.lt
 have hkm7 := O7.cells
 have hld7 := load_msg (m := m) O7
 have HB7 := Lib.hid (HB6.out.trans (hb.mono HB6.out.size))
 have HO7 := Lib.hid O7
 clear hb O7 hkm6 hld6
 have hld7d : (rowSem 38 ⟨w.heap.size, 0, none⟩).run Tryz.prog w7.drew = _ := load_msg (m := m) (w := w7.drew) HO7.out
 have hty7 : w7.cell? ⟨w.heap.size, 0, none⟩ = some (.int .i64 m.ty) := HO7.out.cell 0 _ rfl
 have HK7 := Lib.hid hkm7
 clear hkm7 hld7
 go_wp2_with fail
 generalize hA : (#[.int .i64 m.ty, .bool m.fl.dup, .int .i64 m.fl.q, .bool m.fl.retain, .bool m.fl.will, .bool m.fl.clean, .int .i64 m.fl.typ, .int .i64 m.gw, .int .i64 m.rad, .int .i64 m.time, .bool m.timed, .int .i64 m.tid, .int .i64 m.mid, .int .i64 m.code, .string ⟨m.name.toArray⟩, .string ⟨m.data.toArray⟩] : Array Value) = A at hld7d H7 HO7 ⊢
 have hA0 : A[0]? = some (.int .i64 m.ty) := by rw [← hA]; rfl
 have hAs : A.size = 16 := by rw [← hA]; rfl
 have HAA := Lib.hid (And.intro hA0 hAs)
 clear hA0 hAs hA
 go_region_with ((first
   | (go_at_call 407; refine (H7.out _).mono ?_; rintro r w8 ⟨rfl, hlr, hb⟩; have O8 := obj_below_drew hb HO7.out; have hty8 := Obj?.cell O8 0 _ HAA.out.1; have hld8 := load_msgA HAA.out.2 O8)
   | (go_at_call 408; refine (H8.out _ hlr).mono ?_; rintro r w9 ⟨rfl, hb9⟩)))
 all_goals
  go_wp2
  go_ret
  exact ⟨rfl, (below_drewM HB7.out).trans ((hb.mono HB7.out.size).trans (hb9.mono (Nat.le_trans HB7.out.size hb.size)))⟩
end Go.Proofs.YtanofjmkkhocaaaGreatDoor
