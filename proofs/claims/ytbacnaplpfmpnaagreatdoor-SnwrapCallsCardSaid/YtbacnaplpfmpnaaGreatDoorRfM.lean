/- polyglotref22: Check. -/
import Derived.Test.YtbacnaplpfmpnaaGreatDoorRfF
import Derived.Test.YtbacnaplpfmpnaaGreatDoorRfJ
import Derived.Test.YtbacnaplpfmpnaaGreatDoorRfK
import Derived.Test.YtbacnaplpfmpnaaGreatDoorRfL
import Derived.Test.YtbacnaplpfmpnaaGreatDoorSnK
import Derived.Deep.CutRange
namespace Go.Proofs.YtbacnaplpfmpnaaGreatDoor
open Go.RowKit
set_option linter.unusedVariables false
set_option linter.unusedSimpArgs false
attribute [local go_sem ↓] load_Msg store_Msg
attribute [local irreducible] rowSem rowStore

def bareB (m : Ms) : Bool := willB m.ty && m.name.isEmpty
theorem bareB_is (m : Ms) : bareB m = (((m.ty == 7) || (m.ty == 26)) && (m.name == [])) := by
  unfold bareB willB
  have e : m.name.isEmpty = (m.name == []) := by cases m.name <;> rfl
  rw [e]; rfl
set_option maxRecDepth 100000 in
set_option maxHeartbeats 3200000 in
theorem rcheck_kn (m : Ms) (hk : knownK m.ty = false) (w : World) : Calls Tryz.prog 19 #[.agg m.cs] w fun e w' => e = .returned (.int .i64 8) ∧ Below w.heap.size w w' := by
  have HK := Lib.hid (fun w => rknown_any m.ty w)
  rw [hk] at HK
  clear hk
  have O0 := Obj?.new w m.cs 25
  have hB0 := below_al (Below.refl _ w) (.cells m.cs 25 (0, 0))
  obtain ⟨BR, hBR⟩ : ∃ BR, BR = bareB m := ⟨_, rfl⟩
  have HBR := Lib.hid (hBR.trans (bareB_is m))
  have HBQ := Lib.hid hBR
  have HO0 := Lib.hid O0
  have HB0 := Lib.hid hB0
  have hkc := O0.cells
  clear O0 hB0 hBR
  unfold Ms.cs at HO0 HB0 hkc ⊢
  go_enter Tryz.func19, Tryz.ntmps19
  refine wp_hide fun Q1 hQ1 => ?_
  have HQ1 := Lib.hid hQ1
  clear hQ1
  go_upto_region 1 with fail
  go_cut [3] from 5 to 17 (fun (z : Value) (wx : World) => z = .bool BR ∧ Obj? wx w.heap.size #[.int .i64 m.ty, .bool m.fl.dup, .int .i64 m.fl.q, .bool m.fl.retain, .bool m.fl.will, .bool m.fl.clean, .int .i64 m.fl.typ, .int .i64 m.gw, .int .i64 m.rad, .int .i64 m.time, .bool m.timed, .int .i64 m.tid, .int .i64 m.mid, .int .i64 m.code, .string ⟨m.name.toArray⟩, .string ⟨m.data.toArray⟩] 25 ∧ Below w.heap.size w wx)
  case first =>
    cases d7 : (m.ty == 7)
    · cases d26 : (m.ty == 26)
      · go_wp2_with fail
        go_meet
        exact ⟨congrArg Value.bool (by rw [HBR.out, d7, d26]; rfl), HO0.out, HB0.out⟩
      · cases dn : (m.name == [])
        all_goals
          go_wp2_with fail
          go_meet
          exact ⟨congrArg Value.bool (by rw [HBR.out, d7, d26, dn]; rfl), HO0.out, HB0.out⟩
    · cases dn : (m.name == [])
      all_goals
        go_wp2_with fail
        go_meet
        exact ⟨congrArg Value.bool (by rw [HBR.out, d7, dn]; rfl), HO0.out, HB0.out⟩
  case rest =>
  obtain ⟨rfl, hO1, hB1⟩ := hcut
  have HO1 := Lib.hid hO1
  have HB1 := Lib.hid hB1
  clear hkc HO0 HB0
  have hkc := hO1.cells
  have hld := load_msg (m := m) hO1
  clear hO1 hB1
  go_wp2_with fail
  refine (HK.out _).mono ?_
  rintro r w' ⟨rfl, hw⟩
  subst hw
  go_wp2
  refine HQ1.out _ _ _ ?_
  go_ret
  exact ⟨rfl, HB1.out⟩
set_option maxRecDepth 100000 in
set_option maxHeartbeats 3200000 in
theorem rcheck_enc (m : Ms) (h254 : (m.ty == 254) = true) (hk : knownK m.ty = true) (w : World) : Calls Tryz.prog 19 #[.agg m.cs] w fun e w' => e = .returned (.int .i64 8) ∧ Below w.heap.size w w' := by
  have HK := Lib.hid (fun w => rknown_any m.ty w)
  rw [hk] at HK
  clear hk
  have H254 := Lib.hid h254
  clear h254
  have O0 := Obj?.new w m.cs 25
  have hB0 := below_al (Below.refl _ w) (.cells m.cs 25 (0, 0))
  obtain ⟨BR, hBR⟩ : ∃ BR, BR = bareB m := ⟨_, rfl⟩
  have HBR := Lib.hid (hBR.trans (bareB_is m))
  have HBQ := Lib.hid hBR
  have HO0 := Lib.hid O0
  have HB0 := Lib.hid hB0
  have hkc := O0.cells
  clear O0 hB0 hBR
  unfold Ms.cs at HO0 HB0 hkc ⊢
  go_enter Tryz.func19, Tryz.ntmps19
  refine wp_hide fun Q1 hQ1 => ?_
  have HQ1 := Lib.hid hQ1
  clear hQ1
  go_upto_region 1 with fail
  go_cut [3] from 5 to 17 (fun (z : Value) (wx : World) => z = .bool BR ∧ Obj? wx w.heap.size #[.int .i64 m.ty, .bool m.fl.dup, .int .i64 m.fl.q, .bool m.fl.retain, .bool m.fl.will, .bool m.fl.clean, .int .i64 m.fl.typ, .int .i64 m.gw, .int .i64 m.rad, .int .i64 m.time, .bool m.timed, .int .i64 m.tid, .int .i64 m.mid, .int .i64 m.code, .string ⟨m.name.toArray⟩, .string ⟨m.data.toArray⟩] 25 ∧ Below w.heap.size w wx)
  case first =>
    cases d7 : (m.ty == 7)
    · cases d26 : (m.ty == 26)
      · go_wp2_with fail
        go_meet
        exact ⟨congrArg Value.bool (by rw [HBR.out, d7, d26]; rfl), HO0.out, HB0.out⟩
      · cases dn : (m.name == [])
        all_goals
          go_wp2_with fail
          go_meet
          exact ⟨congrArg Value.bool (by rw [HBR.out, d7, d26, dn]; rfl), HO0.out, HB0.out⟩
    · cases dn : (m.name == [])
      all_goals
        go_wp2_with fail
        go_meet
        exact ⟨congrArg Value.bool (by rw [HBR.out, d7, dn]; rfl), HO0.out, HB0.out⟩
  case rest =>
  obtain ⟨rfl, hO1, hB1⟩ := hcut
  have HO1 := Lib.hid hO1
  have HB1 := Lib.hid hB1
  clear hkc HO0 HB0
  have hkc := hO1.cells
  have hld := load_msg (m := m) hO1
  clear hO1 hB1
  have d254 := H254.out
  go_wp2_with fail
  refine (HK.out _).mono ?_
  rintro r w' ⟨rfl, hw⟩
  subst hw
  go_wp2
  refine HQ1.out _ _ _ ?_
  go_ret
  exact ⟨rfl, HB1.out⟩
set_option maxRecDepth 100000 in
set_option maxHeartbeats 3200000 in
theorem rcheck_may (m : Ms) (hk : knownK m.ty = true) (h254 : (m.ty == 254) = false) (hm : mayF m.ty m.fl = false) (w : World) : Calls Tryz.prog 19 #[.agg m.cs] w fun e w' => e = .returned (.int .i64 7) ∧ Below w.heap.size w w' := by
  have HK := Lib.hid (fun w => rknown_any m.ty w)
  rw [hk] at HK
  clear hk
  have H254 := Lib.hid h254
  clear h254
  have HM := Lib.hid (fun w => rmay_any m.ty m.fl w)
  rw [hm] at HM
  clear hm
  have O0 := Obj?.new w m.cs 25
  have hB0 := below_al (Below.refl _ w) (.cells m.cs 25 (0, 0))
  obtain ⟨BR, hBR⟩ : ∃ BR, BR = bareB m := ⟨_, rfl⟩
  have HBR := Lib.hid (hBR.trans (bareB_is m))
  have HBQ := Lib.hid hBR
  have HO0 := Lib.hid O0
  have HB0 := Lib.hid hB0
  have hkc := O0.cells
  clear O0 hB0 hBR
  unfold Ms.cs at HO0 HB0 hkc ⊢
  go_enter Tryz.func19, Tryz.ntmps19
  refine wp_hide fun Q1 hQ1 => ?_
  have HQ1 := Lib.hid hQ1
  clear hQ1
  go_upto_region 1 with fail
  go_cut [3] from 5 to 17 (fun (z : Value) (wx : World) => z = .bool BR ∧ Obj? wx w.heap.size #[.int .i64 m.ty, .bool m.fl.dup, .int .i64 m.fl.q, .bool m.fl.retain, .bool m.fl.will, .bool m.fl.clean, .int .i64 m.fl.typ, .int .i64 m.gw, .int .i64 m.rad, .int .i64 m.time, .bool m.timed, .int .i64 m.tid, .int .i64 m.mid, .int .i64 m.code, .string ⟨m.name.toArray⟩, .string ⟨m.data.toArray⟩] 25 ∧ Below w.heap.size w wx)
  case first =>
    cases d7 : (m.ty == 7)
    · cases d26 : (m.ty == 26)
      · go_wp2_with fail
        go_meet
        exact ⟨congrArg Value.bool (by rw [HBR.out, d7, d26]; rfl), HO0.out, HB0.out⟩
      · cases dn : (m.name == [])
        all_goals
          go_wp2_with fail
          go_meet
          exact ⟨congrArg Value.bool (by rw [HBR.out, d7, d26, dn]; rfl), HO0.out, HB0.out⟩
    · cases dn : (m.name == [])
      all_goals
        go_wp2_with fail
        go_meet
        exact ⟨congrArg Value.bool (by rw [HBR.out, d7, dn]; rfl), HO0.out, HB0.out⟩
  case rest =>
  obtain ⟨rfl, hO1, hB1⟩ := hcut
  have HO1 := Lib.hid hO1
  have HB1 := Lib.hid hB1
  clear hkc HO0 HB0
  have hkc := hO1.cells
  have hld := load_msg (m := m) hO1
  clear hO1 hB1
  have d254 := H254.out
  go_wp2_with fail
  refine (HK.out _).mono ?_
  rintro r w' ⟨rfl, hw⟩
  subst hw
  go_upto_region 4 with fail
  clear d254
  go_wp2_with fail
  refine (HM.out _).mono ?_
  rintro r w2 ⟨rfl, hb⟩
  have hO := HO1.out.below hb HO1.out.lt
  have HO2 := Lib.hid hO
  have HB2 := Lib.hid (HB1.out.trans (hb.mono HB1.out.size))
  clear hkc hld hb
  have hkc := hO.cells
  have hld := load_msg (m := m) hO
  clear hO
  go_wp2
  refine HQ1.out _ _ _ ?_
  go_ret
  exact ⟨rfl, HB2.out⟩
set_option maxRecDepth 100000 in
set_option maxHeartbeats 3200000 in
theorem rcheck_fl (m : Ms) (hk : knownK m.ty = true) (h254 : (m.ty == 254) = false) (hm : mayF m.ty m.fl = true) (hb : bareB m = true) (hf : m.fl ≠ fl0) (w : World) : Calls Tryz.prog 19 #[.agg m.cs] w fun e w' => e = .returned (.int .i64 7) ∧ Below w.heap.size w w' := by
  have HK := Lib.hid (fun w => rknown_any m.ty w)
  rw [hk] at HK
  clear hk
  have H254 := Lib.hid h254
  clear h254
  have HM := Lib.hid (fun w => rmay_any m.ty m.fl w)
  rw [hm] at HM
  have HC := Lib.hid (fun w => neq_fl0 m.fl w hf)
  have HBB := Lib.hid hb
  clear hm hb hf
  have O0 := Obj?.new w m.cs 25
  have hB0 := below_al (Below.refl _ w) (.cells m.cs 25 (0, 0))
  obtain ⟨BR, hBR⟩ : ∃ BR, BR = bareB m := ⟨_, rfl⟩
  have HBR := Lib.hid (hBR.trans (bareB_is m))
  have HBQ := Lib.hid hBR
  have HO0 := Lib.hid O0
  have HB0 := Lib.hid hB0
  have hkc := O0.cells
  clear O0 hB0 hBR
  unfold Ms.cs at HO0 HB0 hkc ⊢
  go_enter Tryz.func19, Tryz.ntmps19
  refine wp_hide fun Q1 hQ1 => ?_
  have HQ1 := Lib.hid hQ1
  clear hQ1
  go_upto_region 1 with fail
  go_cut [3] from 5 to 17 (fun (z : Value) (wx : World) => z = .bool BR ∧ Obj? wx w.heap.size #[.int .i64 m.ty, .bool m.fl.dup, .int .i64 m.fl.q, .bool m.fl.retain, .bool m.fl.will, .bool m.fl.clean, .int .i64 m.fl.typ, .int .i64 m.gw, .int .i64 m.rad, .int .i64 m.time, .bool m.timed, .int .i64 m.tid, .int .i64 m.mid, .int .i64 m.code, .string ⟨m.name.toArray⟩, .string ⟨m.data.toArray⟩] 25 ∧ Below w.heap.size w wx)
  case first =>
    cases d7 : (m.ty == 7)
    · cases d26 : (m.ty == 26)
      · go_wp2_with fail
        go_meet
        exact ⟨congrArg Value.bool (by rw [HBR.out, d7, d26]; rfl), HO0.out, HB0.out⟩
      · cases dn : (m.name == [])
        all_goals
          go_wp2_with fail
          go_meet
          exact ⟨congrArg Value.bool (by rw [HBR.out, d7, d26, dn]; rfl), HO0.out, HB0.out⟩
    · cases dn : (m.name == [])
      all_goals
        go_wp2_with fail
        go_meet
        exact ⟨congrArg Value.bool (by rw [HBR.out, d7, dn]; rfl), HO0.out, HB0.out⟩
  case rest =>
  obtain ⟨rfl, hO1, hB1⟩ := hcut
  have HO1 := Lib.hid hO1
  have HB1 := Lib.hid hB1
  clear hkc HO0 HB0
  have hkc := hO1.cells
  have hld := load_msg (m := m) hO1
  clear hO1 hB1
  obtain rfl : BR = true := HBQ.out.trans HBB.out
  have d254 := H254.out
  go_wp2_with fail
  refine (HK.out _).mono ?_
  rintro r w' ⟨rfl, hw⟩
  subst hw
  go_upto_region 4 with fail
  clear d254
  have hcmp := HC.out
  go_wp2_with fail
  refine (HM.out _).mono ?_
  rintro r w2 ⟨rfl, hb⟩
  have hO := HO1.out.below hb HO1.out.lt
  have HO2 := Lib.hid hO
  have HB2 := Lib.hid (HB1.out.trans (hb.mono HB1.out.size))
  clear hkc hld hb
  have hkc := hO.cells
  have hld := load_msg (m := m) hO
  clear hO
  go_wp2
  refine HQ1.out _ _ _ ?_
  go_ret
  exact ⟨rfl, HB2.out⟩
set_option maxRecDepth 100000 in
set_option maxHeartbeats 3200000 in
theorem rcheck_nums_n (m : Ms) (hk : knownK m.ty = true) (h254 : (m.ty == 254) = false) (hm : mayF m.ty m.fl = true) (hb : bareB m = false) (hkm : kindM m.ty = true) (hn : numsR m = false) (w : World) : Calls Tryz.prog 19 #[.agg m.cs] w fun e w' => e = .returned (.int .i64 2) ∧ Below w.heap.size w w' := by
  have HK := Lib.hid (fun w => rknown_any m.ty w)
  rw [hk] at HK
  clear hk
  have H254 := Lib.hid h254
  clear h254
  have HM := Lib.hid (fun w => rmay_any m.ty m.fl w)
  rw [hm] at HM
  have HBB := Lib.hid hb
  clear hm hb
  have HN := Lib.hid (fun w => rnums_any m hkm w)
  rw [hn] at HN
  clear hkm hn
  unfold Ms.cs at HN
  have O0 := Obj?.new w m.cs 25
  have hB0 := below_al (Below.refl _ w) (.cells m.cs 25 (0, 0))
  obtain ⟨BR, hBR⟩ : ∃ BR, BR = bareB m := ⟨_, rfl⟩
  have HBR := Lib.hid (hBR.trans (bareB_is m))
  have HBQ := Lib.hid hBR
  have HO0 := Lib.hid O0
  have HB0 := Lib.hid hB0
  have hkc := O0.cells
  clear O0 hB0 hBR
  unfold Ms.cs at HO0 HB0 hkc ⊢
  go_enter Tryz.func19, Tryz.ntmps19
  refine wp_hide fun Q1 hQ1 => ?_
  have HQ1 := Lib.hid hQ1
  clear hQ1
  go_upto_region 1 with fail
  go_cut [3] from 5 to 17 (fun (z : Value) (wx : World) => z = .bool BR ∧ Obj? wx w.heap.size #[.int .i64 m.ty, .bool m.fl.dup, .int .i64 m.fl.q, .bool m.fl.retain, .bool m.fl.will, .bool m.fl.clean, .int .i64 m.fl.typ, .int .i64 m.gw, .int .i64 m.rad, .int .i64 m.time, .bool m.timed, .int .i64 m.tid, .int .i64 m.mid, .int .i64 m.code, .string ⟨m.name.toArray⟩, .string ⟨m.data.toArray⟩] 25 ∧ Below w.heap.size w wx)
  case first =>
    cases d7 : (m.ty == 7)
    · cases d26 : (m.ty == 26)
      · go_wp2_with fail
        go_meet
        exact ⟨congrArg Value.bool (by rw [HBR.out, d7, d26]; rfl), HO0.out, HB0.out⟩
      · cases dn : (m.name == [])
        all_goals
          go_wp2_with fail
          go_meet
          exact ⟨congrArg Value.bool (by rw [HBR.out, d7, d26, dn]; rfl), HO0.out, HB0.out⟩
    · cases dn : (m.name == [])
      all_goals
        go_wp2_with fail
        go_meet
        exact ⟨congrArg Value.bool (by rw [HBR.out, d7, dn]; rfl), HO0.out, HB0.out⟩
  case rest =>
  obtain ⟨rfl, hO1, hB1⟩ := hcut
  have HO1 := Lib.hid hO1
  have HB1 := Lib.hid hB1
  clear hkc HO0 HB0
  have hkc := hO1.cells
  have hld := load_msg (m := m) hO1
  clear hO1 hB1
  obtain rfl : BR = false := HBQ.out.trans HBB.out
  have d254 := H254.out
  go_wp2_with fail
  refine (HK.out _).mono ?_
  rintro r w' ⟨rfl, hw⟩
  subst hw
  go_upto_region 4 with fail
  clear d254
  go_wp2_with fail
  refine (HM.out _).mono ?_
  rintro r w2 ⟨rfl, hb⟩
  have hO := HO1.out.below hb HO1.out.lt
  have HO2 := Lib.hid hO
  have HB2 := Lib.hid (HB1.out.trans (hb.mono HB1.out.size))
  clear hkc hld hb
  have hkc := hO.cells
  have hld := load_msg (m := m) hO
  clear hO
  go_wp2_with fail
  refine (HN.out _).mono ?_
  rintro r w3 ⟨rfl, hb⟩
  have hO := HO2.out.below hb HO2.out.lt
  have HO3 := Lib.hid hO
  have HB3 := Lib.hid (HB2.out.trans (hb.mono HB2.out.size))
  clear hkc hld hb
  have hkc := hO.cells
  have hld := load_msg (m := m) hO
  clear hO
  go_wp2
  refine HQ1.out _ _ _ ?_
  go_ret
  exact ⟨rfl, HB3.out⟩
set_option maxRecDepth 100000 in
set_option maxHeartbeats 3200000 in
theorem rcheck_top_n (m : Ms) (hk : knownK m.ty = true) (h254 : (m.ty == 254) = false) (hm : mayF m.ty m.fl = true) (hb : bareB m = false) (hkm : kindM m.ty = true) (hn : numsR m = true) (ht : topicIdF m ≠ 0) (w : World) : Calls Tryz.prog 19 #[.agg m.cs] w fun e w' => e = .returned (.int .i64 (topicIdF m)) ∧ Below w.heap.size w w' := by
  have HK := Lib.hid (fun w => rknown_any m.ty w)
  rw [hk] at HK
  clear hk
  have H254 := Lib.hid h254
  clear h254
  have HM := Lib.hid (fun w => rmay_any m.ty m.fl w)
  rw [hm] at HM
  have HBB := Lib.hid hb
  clear hm hb
  have HN := Lib.hid (fun w => rnums_any m hkm w)
  rw [hn] at HN
  have HT := Lib.hid (fun w => rtopic_any m hkm w)
  obtain ⟨t, ht0⟩ : ∃ t, t = topicIdF m := ⟨_, rfl⟩
  rw [← ht0] at ht HT ⊢
  have d1 : (t == 0) = false := by simpa using ht
  have HD1 := Lib.hid d1
  clear hkm hn ht ht0 d1
  unfold Ms.cs at HN HT
  have O0 := Obj?.new w m.cs 25
  have hB0 := below_al (Below.refl _ w) (.cells m.cs 25 (0, 0))
  obtain ⟨BR, hBR⟩ : ∃ BR, BR = bareB m := ⟨_, rfl⟩
  have HBR := Lib.hid (hBR.trans (bareB_is m))
  have HBQ := Lib.hid hBR
  have HO0 := Lib.hid O0
  have HB0 := Lib.hid hB0
  have hkc := O0.cells
  clear O0 hB0 hBR
  unfold Ms.cs at HO0 HB0 hkc ⊢
  go_enter Tryz.func19, Tryz.ntmps19
  refine wp_hide fun Q1 hQ1 => ?_
  have HQ1 := Lib.hid hQ1
  clear hQ1
  go_upto_region 1 with fail
  go_cut [3] from 5 to 17 (fun (z : Value) (wx : World) => z = .bool BR ∧ Obj? wx w.heap.size #[.int .i64 m.ty, .bool m.fl.dup, .int .i64 m.fl.q, .bool m.fl.retain, .bool m.fl.will, .bool m.fl.clean, .int .i64 m.fl.typ, .int .i64 m.gw, .int .i64 m.rad, .int .i64 m.time, .bool m.timed, .int .i64 m.tid, .int .i64 m.mid, .int .i64 m.code, .string ⟨m.name.toArray⟩, .string ⟨m.data.toArray⟩] 25 ∧ Below w.heap.size w wx)
  case first =>
    cases d7 : (m.ty == 7)
    · cases d26 : (m.ty == 26)
      · go_wp2_with fail
        go_meet
        exact ⟨congrArg Value.bool (by rw [HBR.out, d7, d26]; rfl), HO0.out, HB0.out⟩
      · cases dn : (m.name == [])
        all_goals
          go_wp2_with fail
          go_meet
          exact ⟨congrArg Value.bool (by rw [HBR.out, d7, d26, dn]; rfl), HO0.out, HB0.out⟩
    · cases dn : (m.name == [])
      all_goals
        go_wp2_with fail
        go_meet
        exact ⟨congrArg Value.bool (by rw [HBR.out, d7, dn]; rfl), HO0.out, HB0.out⟩
  case rest =>
  obtain ⟨rfl, hO1, hB1⟩ := hcut
  have HO1 := Lib.hid hO1
  have HB1 := Lib.hid hB1
  clear hkc HO0 HB0
  have hkc := hO1.cells
  have hld := load_msg (m := m) hO1
  clear hO1 hB1
  obtain rfl : BR = false := HBQ.out.trans HBB.out
  have d254 := H254.out
  go_wp2_with fail
  refine (HK.out _).mono ?_
  rintro r w' ⟨rfl, hw⟩
  subst hw
  go_upto_region 4 with fail
  clear d254
  go_wp2_with fail
  refine (HM.out _).mono ?_
  rintro r w2 ⟨rfl, hb⟩
  have hO := HO1.out.below hb HO1.out.lt
  have HO2 := Lib.hid hO
  have HB2 := Lib.hid (HB1.out.trans (hb.mono HB1.out.size))
  clear hkc hld hb
  have hkc := hO.cells
  have hld := load_msg (m := m) hO
  clear hO
  go_wp2_with fail
  refine (HN.out _).mono ?_
  rintro r w3 ⟨rfl, hb⟩
  have hO := HO2.out.below hb HO2.out.lt
  have HO3 := Lib.hid hO
  have HB3 := Lib.hid (HB2.out.trans (hb.mono HB2.out.size))
  clear hkc hld hb
  have hkc := hO.cells
  have hld := load_msg (m := m) hO
  clear hO
  go_wp2_with fail
  refine (HT.out _).mono ?_
  rintro r w4 ⟨rfl, hb⟩
  have hO := HO3.out.below hb HO3.out.lt
  have HO4 := Lib.hid hO
  have HB4 := Lib.hid (HB3.out.trans (hb.mono HB3.out.size))
  clear hkc hld hb
  have hkc := hO.cells
  have hld := load_msg (m := m) hO
  clear hO
  have d1 := HD1.out
  go_wp2
  refine HQ1.out _ _ _ ?_
  go_ret
  exact ⟨rfl, HB4.out⟩
set_option maxRecDepth 100000 in
set_option maxHeartbeats 3200000 in
theorem rcheck_name_n (m : Ms) (hk : knownK m.ty = true) (h254 : (m.ty == 254) = false) (hm : mayF m.ty m.fl = true) (hb : bareB m = false) (hkm : kindM m.ty = true) (hn : numsR m = true) (ht : topicIdF m = 0) (hl : m.name.length ≤ 100000) (ha : nameF m ≠ 0) (w : World) : Calls Tryz.prog 19 #[.agg m.cs] w fun e w' => e = .returned (.int .i64 (nameF m)) ∧ Below w.heap.size w w' := by
  have HK := Lib.hid (fun w => rknown_any m.ty w)
  rw [hk] at HK
  clear hk
  have H254 := Lib.hid h254
  clear h254
  have HM := Lib.hid (fun w => rmay_any m.ty m.fl w)
  rw [hm] at HM
  have HBB := Lib.hid hb
  clear hm hb
  have HN := Lib.hid (fun w => rnums_any m hkm w)
  rw [hn] at HN
  have HT := Lib.hid (fun w => rtopic_any m hkm w)
  have HA := Lib.hid (fun w => rmsname_any m hkm hl w)
  rw [ht] at HT
  obtain ⟨t, ht0⟩ : ∃ t, t = nameF m := ⟨_, rfl⟩
  rw [← ht0] at ha HA ⊢
  have d1 : (t == 0) = false := by simpa using ha
  have HD1 := Lib.hid d1
  clear hkm hn ht ht0 d1 hl ha
  unfold Ms.cs at HN HT HA
  have O0 := Obj?.new w m.cs 25
  have hB0 := below_al (Below.refl _ w) (.cells m.cs 25 (0, 0))
  obtain ⟨BR, hBR⟩ : ∃ BR, BR = bareB m := ⟨_, rfl⟩
  have HBR := Lib.hid (hBR.trans (bareB_is m))
  have HBQ := Lib.hid hBR
  have HO0 := Lib.hid O0
  have HB0 := Lib.hid hB0
  have hkc := O0.cells
  clear O0 hB0 hBR
  unfold Ms.cs at HO0 HB0 hkc ⊢
  go_enter Tryz.func19, Tryz.ntmps19
  refine wp_hide fun Q1 hQ1 => ?_
  have HQ1 := Lib.hid hQ1
  clear hQ1
  go_upto_region 1 with fail
  go_cut [3] from 5 to 17 (fun (z : Value) (wx : World) => z = .bool BR ∧ Obj? wx w.heap.size #[.int .i64 m.ty, .bool m.fl.dup, .int .i64 m.fl.q, .bool m.fl.retain, .bool m.fl.will, .bool m.fl.clean, .int .i64 m.fl.typ, .int .i64 m.gw, .int .i64 m.rad, .int .i64 m.time, .bool m.timed, .int .i64 m.tid, .int .i64 m.mid, .int .i64 m.code, .string ⟨m.name.toArray⟩, .string ⟨m.data.toArray⟩] 25 ∧ Below w.heap.size w wx)
  case first =>
    cases d7 : (m.ty == 7)
    · cases d26 : (m.ty == 26)
      · go_wp2_with fail
        go_meet
        exact ⟨congrArg Value.bool (by rw [HBR.out, d7, d26]; rfl), HO0.out, HB0.out⟩
      · cases dn : (m.name == [])
        all_goals
          go_wp2_with fail
          go_meet
          exact ⟨congrArg Value.bool (by rw [HBR.out, d7, d26, dn]; rfl), HO0.out, HB0.out⟩
    · cases dn : (m.name == [])
      all_goals
        go_wp2_with fail
        go_meet
        exact ⟨congrArg Value.bool (by rw [HBR.out, d7, dn]; rfl), HO0.out, HB0.out⟩
  case rest =>
  obtain ⟨rfl, hO1, hB1⟩ := hcut
  have HO1 := Lib.hid hO1
  have HB1 := Lib.hid hB1
  clear hkc HO0 HB0
  have hkc := hO1.cells
  have hld := load_msg (m := m) hO1
  clear hO1 hB1
  obtain rfl : BR = false := HBQ.out.trans HBB.out
  have d254 := H254.out
  go_wp2_with fail
  refine (HK.out _).mono ?_
  rintro r w' ⟨rfl, hw⟩
  subst hw
  go_upto_region 4 with fail
  clear d254
  go_wp2_with fail
  refine (HM.out _).mono ?_
  rintro r w2 ⟨rfl, hb⟩
  have hO := HO1.out.below hb HO1.out.lt
  have HO2 := Lib.hid hO
  have HB2 := Lib.hid (HB1.out.trans (hb.mono HB1.out.size))
  clear hkc hld hb
  have hkc := hO.cells
  have hld := load_msg (m := m) hO
  clear hO
  go_wp2_with fail
  refine (HN.out _).mono ?_
  rintro r w3 ⟨rfl, hb⟩
  have hO := HO2.out.below hb HO2.out.lt
  have HO3 := Lib.hid hO
  have HB3 := Lib.hid (HB2.out.trans (hb.mono HB2.out.size))
  clear hkc hld hb
  have hkc := hO.cells
  have hld := load_msg (m := m) hO
  clear hO
  go_wp2_with fail
  refine (HT.out _).mono ?_
  rintro r w4 ⟨rfl, hb⟩
  have hO := HO3.out.below hb HO3.out.lt
  have HO4 := Lib.hid hO
  have HB4 := Lib.hid (HB3.out.trans (hb.mono HB3.out.size))
  clear hkc hld hb
  have hkc := hO.cells
  have hld := load_msg (m := m) hO
  clear hO
  go_wp2_with fail
  refine (HA.out _).mono ?_
  rintro r w5 ⟨rfl, hb⟩
  have hO := HO4.out.below hb HO4.out.lt
  have HO5 := Lib.hid hO
  have HB5 := Lib.hid (HB4.out.trans (hb.mono HB4.out.size))
  clear hkc hld hb
  have hkc := hO.cells
  have hld := load_msg (m := m) hO
  clear hO
  have d1 := HD1.out
  go_wp2
  refine HQ1.out _ _ _ ?_
  go_ret
  exact ⟨rfl, HB5.out⟩
set_option maxRecDepth 100000 in
set_option maxHeartbeats 3200000 in
theorem rcheck_long_n (m : Ms) (hk : knownK m.ty = true) (h254 : (m.ty == 254) = false) (hm : mayF m.ty m.fl = true) (hb : bareB m = false) (hkm : kindM m.ty = true) (hn : numsR m = true) (ht : topicIdF m = 0) (hl : m.name.length ≤ 100000) (hd : m.data.length ≤ 100000) (ha : nameF m = 0) (hlong : 65535 < m.name.length + m.data.length) (w : World) : Calls Tryz.prog 19 #[.agg m.cs] w fun e w' => e = .returned (.int .i64 4) ∧ Below w.heap.size w w' := by
  have HK := Lib.hid (fun w => rknown_any m.ty w)
  rw [hk] at HK
  clear hk
  have H254 := Lib.hid h254
  clear h254
  have HM := Lib.hid (fun w => rmay_any m.ty m.fl w)
  rw [hm] at HM
  have HBB := Lib.hid hb
  clear hm hb
  have HN := Lib.hid (fun w => rnums_any m hkm w)
  rw [hn] at HN
  have HT := Lib.hid (fun w => rtopic_any m hkm w)
  have HA := Lib.hid (fun w => rmsname_any m hkm hl w)
  rw [ht] at HT
  rw [ha] at HA
  have HLN := Lib.hid hlong
  have HLL := Lib.hid (And.intro hl hd)
  clear hkm hn ht hl hd ha hlong
  unfold Ms.cs at HN HT HA
  have O0 := Obj?.new w m.cs 25
  have hB0 := below_al (Below.refl _ w) (.cells m.cs 25 (0, 0))
  obtain ⟨BR, hBR⟩ : ∃ BR, BR = bareB m := ⟨_, rfl⟩
  have HBR := Lib.hid (hBR.trans (bareB_is m))
  have HBQ := Lib.hid hBR
  have HO0 := Lib.hid O0
  have HB0 := Lib.hid hB0
  have hkc := O0.cells
  clear O0 hB0 hBR
  unfold Ms.cs at HO0 HB0 hkc ⊢
  go_enter Tryz.func19, Tryz.ntmps19
  refine wp_hide fun Q1 hQ1 => ?_
  have HQ1 := Lib.hid hQ1
  clear hQ1
  go_upto_region 1 with fail
  go_cut [3] from 5 to 17 (fun (z : Value) (wx : World) => z = .bool BR ∧ Obj? wx w.heap.size #[.int .i64 m.ty, .bool m.fl.dup, .int .i64 m.fl.q, .bool m.fl.retain, .bool m.fl.will, .bool m.fl.clean, .int .i64 m.fl.typ, .int .i64 m.gw, .int .i64 m.rad, .int .i64 m.time, .bool m.timed, .int .i64 m.tid, .int .i64 m.mid, .int .i64 m.code, .string ⟨m.name.toArray⟩, .string ⟨m.data.toArray⟩] 25 ∧ Below w.heap.size w wx)
  case first =>
    cases d7 : (m.ty == 7)
    · cases d26 : (m.ty == 26)
      · go_wp2_with fail
        go_meet
        exact ⟨congrArg Value.bool (by rw [HBR.out, d7, d26]; rfl), HO0.out, HB0.out⟩
      · cases dn : (m.name == [])
        all_goals
          go_wp2_with fail
          go_meet
          exact ⟨congrArg Value.bool (by rw [HBR.out, d7, d26, dn]; rfl), HO0.out, HB0.out⟩
    · cases dn : (m.name == [])
      all_goals
        go_wp2_with fail
        go_meet
        exact ⟨congrArg Value.bool (by rw [HBR.out, d7, dn]; rfl), HO0.out, HB0.out⟩
  case rest =>
  obtain ⟨rfl, hO1, hB1⟩ := hcut
  have HO1 := Lib.hid hO1
  have HB1 := Lib.hid hB1
  clear hkc HO0 HB0
  have hkc := hO1.cells
  have hld := load_msg (m := m) hO1
  clear hO1 hB1
  obtain rfl : BR = false := HBQ.out.trans HBB.out
  have d254 := H254.out
  go_wp2_with fail
  refine (HK.out _).mono ?_
  rintro r w' ⟨rfl, hw⟩
  subst hw
  go_upto_region 4 with fail
  clear d254
  go_wp2_with fail
  refine (HM.out _).mono ?_
  rintro r w2 ⟨rfl, hb⟩
  have hO := HO1.out.below hb HO1.out.lt
  have HO2 := Lib.hid hO
  have HB2 := Lib.hid (HB1.out.trans (hb.mono HB1.out.size))
  clear hkc hld hb
  have hkc := hO.cells
  have hld := load_msg (m := m) hO
  clear hO
  go_wp2_with fail
  refine (HN.out _).mono ?_
  rintro r w3 ⟨rfl, hb⟩
  have hO := HO2.out.below hb HO2.out.lt
  have HO3 := Lib.hid hO
  have HB3 := Lib.hid (HB2.out.trans (hb.mono HB2.out.size))
  clear hkc hld hb
  have hkc := hO.cells
  have hld := load_msg (m := m) hO
  clear hO
  go_wp2_with fail
  refine (HT.out _).mono ?_
  rintro r w4 ⟨rfl, hb⟩
  have hO := HO3.out.below hb HO3.out.lt
  have HO4 := Lib.hid hO
  have HB4 := Lib.hid (HB3.out.trans (hb.mono HB3.out.size))
  clear hkc hld hb
  have hkc := hO.cells
  have hld := load_msg (m := m) hO
  clear hO
  go_wp2_with fail
  refine (HA.out _).mono ?_
  rintro r w5 ⟨rfl, hb⟩
  have hO := HO4.out.below hb HO4.out.lt
  have HO5 := Lib.hid hO
  have HB5 := Lib.hid (HB4.out.trans (hb.mono HB4.out.size))
  clear hkc hld hb
  have hkc := hO.cells
  have hld := load_msg (m := m) hO
  clear hO
  have d1 : (65535 : Int) < (m.name.length : Int) + (m.data.length : Int) := by have := HLN.out; omega
  have d2 : (m.name.length : Int) ≤ 100000 := by have := HLL.out; omega
  have d3 : (m.data.length : Int) ≤ 100000 := by have := HLL.out; omega
  have d4 : IntKind.i64.wrap ((m.name.length : Int) + (m.data.length : Int)) = (m.name.length : Int) + (m.data.length : Int) := by rw [IntKind.wrap_i64]; omega
  go_wp2
  refine HQ1.out _ _ _ ?_
  go_ret
  exact ⟨rfl, HB5.out⟩
set_option maxRecDepth 100000 in
set_option maxHeartbeats 3200000 in
theorem rcheck_nums_b (m : Ms) (hk : knownK m.ty = true) (h254 : (m.ty == 254) = false) (hm : mayF m.ty m.fl = true) (hb : bareB m = true) (hf : m.fl = fl0) (hkm : kindM m.ty = true) (hn : numsR m = false) (w : World) : Calls Tryz.prog 19 #[.agg m.cs] w fun e w' => e = .returned (.int .i64 2) ∧ Below w.heap.size w w' := by
  have HK := Lib.hid (fun w => rknown_any m.ty w)
  rw [hk] at HK
  clear hk
  have H254 := Lib.hid h254
  clear h254
  have HM := Lib.hid (fun w => rmay_any m.ty m.fl w)
  rw [hm] at HM
  have hcmp0 := fun w => neq_fl0_no w
  rw [← hf] at hcmp0
  have HC := Lib.hid hcmp0
  clear hcmp0 hf
  have HBB := Lib.hid hb
  clear hm hb
  have HN := Lib.hid (fun w => rnums_any m hkm w)
  rw [hn] at HN
  clear hkm hn
  unfold Ms.cs at HN
  have O0 := Obj?.new w m.cs 25
  have hB0 := below_al (Below.refl _ w) (.cells m.cs 25 (0, 0))
  obtain ⟨BR, hBR⟩ : ∃ BR, BR = bareB m := ⟨_, rfl⟩
  have HBR := Lib.hid (hBR.trans (bareB_is m))
  have HBQ := Lib.hid hBR
  have HO0 := Lib.hid O0
  have HB0 := Lib.hid hB0
  have hkc := O0.cells
  clear O0 hB0 hBR
  unfold Ms.cs at HO0 HB0 hkc ⊢
  go_enter Tryz.func19, Tryz.ntmps19
  refine wp_hide fun Q1 hQ1 => ?_
  have HQ1 := Lib.hid hQ1
  clear hQ1
  go_upto_region 1 with fail
  go_cut [3] from 5 to 17 (fun (z : Value) (wx : World) => z = .bool BR ∧ Obj? wx w.heap.size #[.int .i64 m.ty, .bool m.fl.dup, .int .i64 m.fl.q, .bool m.fl.retain, .bool m.fl.will, .bool m.fl.clean, .int .i64 m.fl.typ, .int .i64 m.gw, .int .i64 m.rad, .int .i64 m.time, .bool m.timed, .int .i64 m.tid, .int .i64 m.mid, .int .i64 m.code, .string ⟨m.name.toArray⟩, .string ⟨m.data.toArray⟩] 25 ∧ Below w.heap.size w wx)
  case first =>
    cases d7 : (m.ty == 7)
    · cases d26 : (m.ty == 26)
      · go_wp2_with fail
        go_meet
        exact ⟨congrArg Value.bool (by rw [HBR.out, d7, d26]; rfl), HO0.out, HB0.out⟩
      · cases dn : (m.name == [])
        all_goals
          go_wp2_with fail
          go_meet
          exact ⟨congrArg Value.bool (by rw [HBR.out, d7, d26, dn]; rfl), HO0.out, HB0.out⟩
    · cases dn : (m.name == [])
      all_goals
        go_wp2_with fail
        go_meet
        exact ⟨congrArg Value.bool (by rw [HBR.out, d7, dn]; rfl), HO0.out, HB0.out⟩
  case rest =>
  obtain ⟨rfl, hO1, hB1⟩ := hcut
  have HO1 := Lib.hid hO1
  have HB1 := Lib.hid hB1
  clear hkc HO0 HB0
  have hkc := hO1.cells
  have hld := load_msg (m := m) hO1
  clear hO1 hB1
  obtain rfl : BR = true := HBQ.out.trans HBB.out
  have d254 := H254.out
  go_wp2_with fail
  refine (HK.out _).mono ?_
  rintro r w' ⟨rfl, hw⟩
  subst hw
  go_upto_region 4 with fail
  clear d254
  have hcmp := HC.out
  go_wp2_with fail
  refine (HM.out _).mono ?_
  rintro r w2 ⟨rfl, hb⟩
  have hO := HO1.out.below hb HO1.out.lt
  have HO2 := Lib.hid hO
  have HB2 := Lib.hid (HB1.out.trans (hb.mono HB1.out.size))
  clear hkc hld hb
  have hkc := hO.cells
  have hld := load_msg (m := m) hO
  clear hO
  go_upto_region 6 with fail
  clear hcmp
  go_wp2_with fail
  refine (HN.out _).mono ?_
  rintro r w3 ⟨rfl, hb⟩
  have hO := HO2.out.below hb HO2.out.lt
  have HO3 := Lib.hid hO
  have HB3 := Lib.hid (HB2.out.trans (hb.mono HB2.out.size))
  clear hkc hld hb
  have hkc := hO.cells
  have hld := load_msg (m := m) hO
  clear hO
  go_wp2
  refine HQ1.out _ _ _ ?_
  go_ret
  exact ⟨rfl, HB3.out⟩
set_option maxRecDepth 100000 in
set_option maxHeartbeats 3200000 in
theorem rcheck_top_b (m : Ms) (hk : knownK m.ty = true) (h254 : (m.ty == 254) = false) (hm : mayF m.ty m.fl = true) (hb : bareB m = true) (hf : m.fl = fl0) (hkm : kindM m.ty = true) (hn : numsR m = true) (ht : topicIdF m ≠ 0) (w : World) : Calls Tryz.prog 19 #[.agg m.cs] w fun e w' => e = .returned (.int .i64 (topicIdF m)) ∧ Below w.heap.size w w' := by
  have HK := Lib.hid (fun w => rknown_any m.ty w)
  rw [hk] at HK
  clear hk
  have H254 := Lib.hid h254
  clear h254
  have HM := Lib.hid (fun w => rmay_any m.ty m.fl w)
  rw [hm] at HM
  have hcmp0 := fun w => neq_fl0_no w
  rw [← hf] at hcmp0
  have HC := Lib.hid hcmp0
  clear hcmp0 hf
  have HBB := Lib.hid hb
  clear hm hb
  have HN := Lib.hid (fun w => rnums_any m hkm w)
  rw [hn] at HN
  have HT := Lib.hid (fun w => rtopic_any m hkm w)
  obtain ⟨t, ht0⟩ : ∃ t, t = topicIdF m := ⟨_, rfl⟩
  rw [← ht0] at ht HT ⊢
  have d1 : (t == 0) = false := by simpa using ht
  have HD1 := Lib.hid d1
  clear hkm hn ht ht0 d1
  unfold Ms.cs at HN HT
  have O0 := Obj?.new w m.cs 25
  have hB0 := below_al (Below.refl _ w) (.cells m.cs 25 (0, 0))
  obtain ⟨BR, hBR⟩ : ∃ BR, BR = bareB m := ⟨_, rfl⟩
  have HBR := Lib.hid (hBR.trans (bareB_is m))
  have HBQ := Lib.hid hBR
  have HO0 := Lib.hid O0
  have HB0 := Lib.hid hB0
  have hkc := O0.cells
  clear O0 hB0 hBR
  unfold Ms.cs at HO0 HB0 hkc ⊢
  go_enter Tryz.func19, Tryz.ntmps19
  refine wp_hide fun Q1 hQ1 => ?_
  have HQ1 := Lib.hid hQ1
  clear hQ1
  go_upto_region 1 with fail
  go_cut [3] from 5 to 17 (fun (z : Value) (wx : World) => z = .bool BR ∧ Obj? wx w.heap.size #[.int .i64 m.ty, .bool m.fl.dup, .int .i64 m.fl.q, .bool m.fl.retain, .bool m.fl.will, .bool m.fl.clean, .int .i64 m.fl.typ, .int .i64 m.gw, .int .i64 m.rad, .int .i64 m.time, .bool m.timed, .int .i64 m.tid, .int .i64 m.mid, .int .i64 m.code, .string ⟨m.name.toArray⟩, .string ⟨m.data.toArray⟩] 25 ∧ Below w.heap.size w wx)
  case first =>
    cases d7 : (m.ty == 7)
    · cases d26 : (m.ty == 26)
      · go_wp2_with fail
        go_meet
        exact ⟨congrArg Value.bool (by rw [HBR.out, d7, d26]; rfl), HO0.out, HB0.out⟩
      · cases dn : (m.name == [])
        all_goals
          go_wp2_with fail
          go_meet
          exact ⟨congrArg Value.bool (by rw [HBR.out, d7, d26, dn]; rfl), HO0.out, HB0.out⟩
    · cases dn : (m.name == [])
      all_goals
        go_wp2_with fail
        go_meet
        exact ⟨congrArg Value.bool (by rw [HBR.out, d7, dn]; rfl), HO0.out, HB0.out⟩
  case rest =>
  obtain ⟨rfl, hO1, hB1⟩ := hcut
  have HO1 := Lib.hid hO1
  have HB1 := Lib.hid hB1
  clear hkc HO0 HB0
  have hkc := hO1.cells
  have hld := load_msg (m := m) hO1
  clear hO1 hB1
  obtain rfl : BR = true := HBQ.out.trans HBB.out
  have d254 := H254.out
  go_wp2_with fail
  refine (HK.out _).mono ?_
  rintro r w' ⟨rfl, hw⟩
  subst hw
  go_upto_region 4 with fail
  clear d254
  have hcmp := HC.out
  go_wp2_with fail
  refine (HM.out _).mono ?_
  rintro r w2 ⟨rfl, hb⟩
  have hO := HO1.out.below hb HO1.out.lt
  have HO2 := Lib.hid hO
  have HB2 := Lib.hid (HB1.out.trans (hb.mono HB1.out.size))
  clear hkc hld hb
  have hkc := hO.cells
  have hld := load_msg (m := m) hO
  clear hO
  go_upto_region 6 with fail
  clear hcmp
  go_wp2_with fail
  refine (HN.out _).mono ?_
  rintro r w3 ⟨rfl, hb⟩
  have hO := HO2.out.below hb HO2.out.lt
  have HO3 := Lib.hid hO
  have HB3 := Lib.hid (HB2.out.trans (hb.mono HB2.out.size))
  clear hkc hld hb
  have hkc := hO.cells
  have hld := load_msg (m := m) hO
  clear hO
  go_wp2_with fail
  refine (HT.out _).mono ?_
  rintro r w4 ⟨rfl, hb⟩
  have hO := HO3.out.below hb HO3.out.lt
  have HO4 := Lib.hid hO
  have HB4 := Lib.hid (HB3.out.trans (hb.mono HB3.out.size))
  clear hkc hld hb
  have hkc := hO.cells
  have hld := load_msg (m := m) hO
  clear hO
  have d1 := HD1.out
  go_wp2
  refine HQ1.out _ _ _ ?_
  go_ret
  exact ⟨rfl, HB4.out⟩
set_option maxRecDepth 100000 in
set_option maxHeartbeats 3200000 in
theorem rcheck_name_b (m : Ms) (hk : knownK m.ty = true) (h254 : (m.ty == 254) = false) (hm : mayF m.ty m.fl = true) (hb : bareB m = true) (hf : m.fl = fl0) (hkm : kindM m.ty = true) (hn : numsR m = true) (ht : topicIdF m = 0) (hl : m.name.length ≤ 100000) (ha : nameF m ≠ 0) (w : World) : Calls Tryz.prog 19 #[.agg m.cs] w fun e w' => e = .returned (.int .i64 (nameF m)) ∧ Below w.heap.size w w' := by
  have HK := Lib.hid (fun w => rknown_any m.ty w)
  rw [hk] at HK
  clear hk
  have H254 := Lib.hid h254
  clear h254
  have HM := Lib.hid (fun w => rmay_any m.ty m.fl w)
  rw [hm] at HM
  have hcmp0 := fun w => neq_fl0_no w
  rw [← hf] at hcmp0
  have HC := Lib.hid hcmp0
  clear hcmp0 hf
  have HBB := Lib.hid hb
  clear hm hb
  have HN := Lib.hid (fun w => rnums_any m hkm w)
  rw [hn] at HN
  have HT := Lib.hid (fun w => rtopic_any m hkm w)
  have HA := Lib.hid (fun w => rmsname_any m hkm hl w)
  rw [ht] at HT
  obtain ⟨t, ht0⟩ : ∃ t, t = nameF m := ⟨_, rfl⟩
  rw [← ht0] at ha HA ⊢
  have d1 : (t == 0) = false := by simpa using ha
  have HD1 := Lib.hid d1
  clear hkm hn ht ht0 d1 hl ha
  unfold Ms.cs at HN HT HA
  have O0 := Obj?.new w m.cs 25
  have hB0 := below_al (Below.refl _ w) (.cells m.cs 25 (0, 0))
  obtain ⟨BR, hBR⟩ : ∃ BR, BR = bareB m := ⟨_, rfl⟩
  have HBR := Lib.hid (hBR.trans (bareB_is m))
  have HBQ := Lib.hid hBR
  have HO0 := Lib.hid O0
  have HB0 := Lib.hid hB0
  have hkc := O0.cells
  clear O0 hB0 hBR
  unfold Ms.cs at HO0 HB0 hkc ⊢
  go_enter Tryz.func19, Tryz.ntmps19
  refine wp_hide fun Q1 hQ1 => ?_
  have HQ1 := Lib.hid hQ1
  clear hQ1
  go_upto_region 1 with fail
  go_cut [3] from 5 to 17 (fun (z : Value) (wx : World) => z = .bool BR ∧ Obj? wx w.heap.size #[.int .i64 m.ty, .bool m.fl.dup, .int .i64 m.fl.q, .bool m.fl.retain, .bool m.fl.will, .bool m.fl.clean, .int .i64 m.fl.typ, .int .i64 m.gw, .int .i64 m.rad, .int .i64 m.time, .bool m.timed, .int .i64 m.tid, .int .i64 m.mid, .int .i64 m.code, .string ⟨m.name.toArray⟩, .string ⟨m.data.toArray⟩] 25 ∧ Below w.heap.size w wx)
  case first =>
    cases d7 : (m.ty == 7)
    · cases d26 : (m.ty == 26)
      · go_wp2_with fail
        go_meet
        exact ⟨congrArg Value.bool (by rw [HBR.out, d7, d26]; rfl), HO0.out, HB0.out⟩
      · cases dn : (m.name == [])
        all_goals
          go_wp2_with fail
          go_meet
          exact ⟨congrArg Value.bool (by rw [HBR.out, d7, d26, dn]; rfl), HO0.out, HB0.out⟩
    · cases dn : (m.name == [])
      all_goals
        go_wp2_with fail
        go_meet
        exact ⟨congrArg Value.bool (by rw [HBR.out, d7, dn]; rfl), HO0.out, HB0.out⟩
  case rest =>
  obtain ⟨rfl, hO1, hB1⟩ := hcut
  have HO1 := Lib.hid hO1
  have HB1 := Lib.hid hB1
  clear hkc HO0 HB0
  have hkc := hO1.cells
  have hld := load_msg (m := m) hO1
  clear hO1 hB1
  obtain rfl : BR = true := HBQ.out.trans HBB.out
  have d254 := H254.out
  go_wp2_with fail
  refine (HK.out _).mono ?_
  rintro r w' ⟨rfl, hw⟩
  subst hw
  go_upto_region 4 with fail
  clear d254
  have hcmp := HC.out
  go_wp2_with fail
  refine (HM.out _).mono ?_
  rintro r w2 ⟨rfl, hb⟩
  have hO := HO1.out.below hb HO1.out.lt
  have HO2 := Lib.hid hO
  have HB2 := Lib.hid (HB1.out.trans (hb.mono HB1.out.size))
  clear hkc hld hb
  have hkc := hO.cells
  have hld := load_msg (m := m) hO
  clear hO
  go_upto_region 6 with fail
  clear hcmp
  go_wp2_with fail
  refine (HN.out _).mono ?_
  rintro r w3 ⟨rfl, hb⟩
  have hO := HO2.out.below hb HO2.out.lt
  have HO3 := Lib.hid hO
  have HB3 := Lib.hid (HB2.out.trans (hb.mono HB2.out.size))
  clear hkc hld hb
  have hkc := hO.cells
  have hld := load_msg (m := m) hO
  clear hO
  go_wp2_with fail
  refine (HT.out _).mono ?_
  rintro r w4 ⟨rfl, hb⟩
  have hO := HO3.out.below hb HO3.out.lt
  have HO4 := Lib.hid hO
  have HB4 := Lib.hid (HB3.out.trans (hb.mono HB3.out.size))
  clear hkc hld hb
  have hkc := hO.cells
  have hld := load_msg (m := m) hO
  clear hO
  go_wp2_with fail
  refine (HA.out _).mono ?_
  rintro r w5 ⟨rfl, hb⟩
  have hO := HO4.out.below hb HO4.out.lt
  have HO5 := Lib.hid hO
  have HB5 := Lib.hid (HB4.out.trans (hb.mono HB4.out.size))
  clear hkc hld hb
  have hkc := hO.cells
  have hld := load_msg (m := m) hO
  clear hO
  have d1 := HD1.out
  go_wp2
  refine HQ1.out _ _ _ ?_
  go_ret
  exact ⟨rfl, HB5.out⟩
set_option maxRecDepth 100000 in
set_option maxHeartbeats 3200000 in
theorem rcheck_long_b (m : Ms) (hk : knownK m.ty = true) (h254 : (m.ty == 254) = false) (hm : mayF m.ty m.fl = true) (hb : bareB m = true) (hf : m.fl = fl0) (hkm : kindM m.ty = true) (hn : numsR m = true) (ht : topicIdF m = 0) (hl : m.name.length ≤ 100000) (hd : m.data.length ≤ 100000) (ha : nameF m = 0) (hlong : 65535 < m.name.length + m.data.length) (w : World) : Calls Tryz.prog 19 #[.agg m.cs] w fun e w' => e = .returned (.int .i64 4) ∧ Below w.heap.size w w' := by
  have HK := Lib.hid (fun w => rknown_any m.ty w)
  rw [hk] at HK
  clear hk
  have H254 := Lib.hid h254
  clear h254
  have HM := Lib.hid (fun w => rmay_any m.ty m.fl w)
  rw [hm] at HM
  have hcmp0 := fun w => neq_fl0_no w
  rw [← hf] at hcmp0
  have HC := Lib.hid hcmp0
  clear hcmp0 hf
  have HBB := Lib.hid hb
  clear hm hb
  have HN := Lib.hid (fun w => rnums_any m hkm w)
  rw [hn] at HN
  have HT := Lib.hid (fun w => rtopic_any m hkm w)
  have HA := Lib.hid (fun w => rmsname_any m hkm hl w)
  rw [ht] at HT
  rw [ha] at HA
  have HLN := Lib.hid hlong
  have HLL := Lib.hid (And.intro hl hd)
  clear hkm hn ht hl hd ha hlong
  unfold Ms.cs at HN HT HA
  have O0 := Obj?.new w m.cs 25
  have hB0 := below_al (Below.refl _ w) (.cells m.cs 25 (0, 0))
  obtain ⟨BR, hBR⟩ : ∃ BR, BR = bareB m := ⟨_, rfl⟩
  have HBR := Lib.hid (hBR.trans (bareB_is m))
  have HBQ := Lib.hid hBR
  have HO0 := Lib.hid O0
  have HB0 := Lib.hid hB0
  have hkc := O0.cells
  clear O0 hB0 hBR
  unfold Ms.cs at HO0 HB0 hkc ⊢
  go_enter Tryz.func19, Tryz.ntmps19
  refine wp_hide fun Q1 hQ1 => ?_
  have HQ1 := Lib.hid hQ1
  clear hQ1
  go_upto_region 1 with fail
  go_cut [3] from 5 to 17 (fun (z : Value) (wx : World) => z = .bool BR ∧ Obj? wx w.heap.size #[.int .i64 m.ty, .bool m.fl.dup, .int .i64 m.fl.q, .bool m.fl.retain, .bool m.fl.will, .bool m.fl.clean, .int .i64 m.fl.typ, .int .i64 m.gw, .int .i64 m.rad, .int .i64 m.time, .bool m.timed, .int .i64 m.tid, .int .i64 m.mid, .int .i64 m.code, .string ⟨m.name.toArray⟩, .string ⟨m.data.toArray⟩] 25 ∧ Below w.heap.size w wx)
  case first =>
    cases d7 : (m.ty == 7)
    · cases d26 : (m.ty == 26)
      · go_wp2_with fail
        go_meet
        exact ⟨congrArg Value.bool (by rw [HBR.out, d7, d26]; rfl), HO0.out, HB0.out⟩
      · cases dn : (m.name == [])
        all_goals
          go_wp2_with fail
          go_meet
          exact ⟨congrArg Value.bool (by rw [HBR.out, d7, d26, dn]; rfl), HO0.out, HB0.out⟩
    · cases dn : (m.name == [])
      all_goals
        go_wp2_with fail
        go_meet
        exact ⟨congrArg Value.bool (by rw [HBR.out, d7, dn]; rfl), HO0.out, HB0.out⟩
  case rest =>
  obtain ⟨rfl, hO1, hB1⟩ := hcut
  have HO1 := Lib.hid hO1
  have HB1 := Lib.hid hB1
  clear hkc HO0 HB0
  have hkc := hO1.cells
  have hld := load_msg (m := m) hO1
  clear hO1 hB1
  obtain rfl : BR = true := HBQ.out.trans HBB.out
  have d254 := H254.out
  go_wp2_with fail
  refine (HK.out _).mono ?_
  rintro r w' ⟨rfl, hw⟩
  subst hw
  go_upto_region 4 with fail
  clear d254
  have hcmp := HC.out
  go_wp2_with fail
  refine (HM.out _).mono ?_
  rintro r w2 ⟨rfl, hb⟩
  have hO := HO1.out.below hb HO1.out.lt
  have HO2 := Lib.hid hO
  have HB2 := Lib.hid (HB1.out.trans (hb.mono HB1.out.size))
  clear hkc hld hb
  have hkc := hO.cells
  have hld := load_msg (m := m) hO
  clear hO
  go_upto_region 6 with fail
  clear hcmp
  go_wp2_with fail
  refine (HN.out _).mono ?_
  rintro r w3 ⟨rfl, hb⟩
  have hO := HO2.out.below hb HO2.out.lt
  have HO3 := Lib.hid hO
  have HB3 := Lib.hid (HB2.out.trans (hb.mono HB2.out.size))
  clear hkc hld hb
  have hkc := hO.cells
  have hld := load_msg (m := m) hO
  clear hO
  go_wp2_with fail
  refine (HT.out _).mono ?_
  rintro r w4 ⟨rfl, hb⟩
  have hO := HO3.out.below hb HO3.out.lt
  have HO4 := Lib.hid hO
  have HB4 := Lib.hid (HB3.out.trans (hb.mono HB3.out.size))
  clear hkc hld hb
  have hkc := hO.cells
  have hld := load_msg (m := m) hO
  clear hO
  go_wp2_with fail
  refine (HA.out _).mono ?_
  rintro r w5 ⟨rfl, hb⟩
  have hO := HO4.out.below hb HO4.out.lt
  have HO5 := Lib.hid hO
  have HB5 := Lib.hid (HB4.out.trans (hb.mono HB4.out.size))
  clear hkc hld hb
  have hkc := hO.cells
  have hld := load_msg (m := m) hO
  clear hO
  have d1 : (65535 : Int) < (m.name.length : Int) + (m.data.length : Int) := by have := HLN.out; omega
  have d2 : (m.name.length : Int) ≤ 100000 := by have := HLL.out; omega
  have d3 : (m.data.length : Int) ≤ 100000 := by have := HLL.out; omega
  have d4 : IntKind.i64.wrap ((m.name.length : Int) + (m.data.length : Int)) = (m.name.length : Int) + (m.data.length : Int) := by rw [IntKind.wrap_i64]; omega
  go_wp2
  refine HQ1.out _ _ _ ?_
  go_ret
  exact ⟨rfl, HB5.out⟩
end Go.Proofs.YtbacnaplpfmpnaaGreatDoor
