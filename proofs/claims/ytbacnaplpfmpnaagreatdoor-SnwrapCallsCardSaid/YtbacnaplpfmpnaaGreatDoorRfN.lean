/- polyglotref22: Check, its last ways. polyglotref22: Check, all ways together. polyglotref22: Bytes. -/
import Derived.Test.YtbacnaplpfmpnaaGreatDoorRfM
import Derived.Test.YtbacnaplpfmpnaaGreatDoorRfJ
import Derived.Test.YtbacnaplpfmpnaaGreatDoorRfK
import Derived.Test.YtbacnaplpfmpnaaGreatDoorRfL
import Derived.Test.YtbacnaplpfmpnaaGreatDoorSnK
import Derived.Deep.CutRange
import Derived.Test.YtbacnaplpfmpnaaGreatDoorMsT
namespace Go.Proofs.YtbacnaplpfmpnaaGreatDoor
open Go.RowKit
set_option linter.unusedVariables false
set_option linter.unusedSimpArgs false
attribute [local go_sem ↓] load_Msg store_Msg
attribute [local irreducible] rowSem rowStore

theorem flat_len {f : Int → List UInt8} {B : Nat} : ∀ l : List Int, (∀ p ∈ l, (f p).length ≤ B) → (l.flatMap f).length ≤ B * l.length
  | [], _ => by simp
  | a :: l, h => by
    have h1 := h a (List.mem_cons_self ..)
    have h2 := flat_len l (fun p hp => h p (List.mem_cons_of_mem _ hp))
    rw [List.flatMap_cons, List.length_append, List.length_cons, Nat.mul_succ]
    omega
theorem parts_len {m : Ms} (hk : kindM m.ty = true) : (partsM m).length ≤ 10 := by
  have h1 : ∀ p, (partOf m p).length ≤ 2 := by intro p; cases p <;> simp [partOf] <;> split <;> simp
  have h2 : (layoutF m.ty).length ≤ 5 := by
    rcases kinds_of hk with h | h | h | h | h | h | h | h | h | h | h | h | h | h | h | h | h | h | h | h | h | h | h | h | h | h | h <;> rw [h] <;> decide
  have h3 : ∀ l : List Pt, (l.flatMap (partOf m)).length ≤ 2 * l.length := by
    intro l
    induction l with
    | nil => simp
    | cons a l ih => rw [List.flatMap_cons, List.length_append, List.length_cons]; have := h1 a; omega
  have := h3 (layoutF m.ty)
  unfold partsM
  omega
theorem rest_len {m : Ms} (hk : kindM m.ty = true) (hr : InR m) : (restL m).length ≤ 1000000 := by
  rw [restL_parts]
  have h1 := flat_len (f := writeR m) (B := 100000) (partsM m) (fun p hp => writeR_len hr hp)
  have h2 := parts_len hk
  omega
set_option maxRecDepth 100000 in
set_option maxHeartbeats 3200000 in
theorem rcheck_end_n (m : Ms) (hk : knownK m.ty = true) (h254 : (m.ty == 254) = false) (hm : mayF m.ty m.fl = true) (hb : bareB m = false) (hkm : kindM m.ty = true) (hn : numsR m = true) (ht : topicIdF m = 0) (hl : m.name.length ≤ 100000) (hd : m.data.length ≤ 100000) (hr : InR m) (ha : nameF m = 0) (hlong : m.name.length + m.data.length ≤ 65535) (w : World) : Calls Tryz.prog 19 #[.agg m.cs] w fun e w' => e = .returned (.int .i64 ((snB m.ty (restL m).length).2)) ∧ Below w.heap.size w w' := by
  have HK := Lib.hid (fun w => rknown_any m.ty w)
  rw [hk] at HK
  clear hk
  have H254 := Lib.hid h254
  clear h254
  have HM := Lib.hid (fun w => rmay_any m.ty m.fl w)
  rw [hm] at HM
  have HBB := Lib.hid hb
  clear hm hb
  have HN := Lib.hid (fun w => rnums_any m hkm w)
  rw [hn] at HN
  have HT := Lib.hid (fun w => rtopic_any m hkm w)
  have HA := Lib.hid (fun w => rmsname_any m hkm hl w)
  rw [ht] at HT
  rw [ha] at HA
  have HLN := Lib.hid hlong
  have HLL := Lib.hid (And.intro hl hd)
  have hrl := rest_len hkm hr
  have HRS := Lib.hid (fun w => rrest_any m hkm hr w)
  obtain ⟨R, hR⟩ : ∃ R, R = restL m := ⟨_, rfl⟩
  rw [← hR] at HRS hrl ⊢
  have hlr : (R.length : Int) ≤ 1000000 := by omega
  have HBY := Lib.hid (fun w => rsnbytes_any m.ty R.length (by omega) w)
  obtain ⟨X, hX⟩ : ∃ X, X = (snB m.ty R.length).1 := ⟨_, rfl⟩
  obtain ⟨t, hT⟩ : ∃ t, t = (snB m.ty R.length).2 := ⟨_, rfl⟩
  rw [← hX, ← hT] at HBY
  rw [← hT]
  have HLR := Lib.hid hlr
  clear hkm hn ht hl hd ha hlong hr hrl hlr hR hX hT
  unfold Ms.cs at HN HT HA HRS
  have O0 := Obj?.new w m.cs 25
  have hB0 := below_al (Below.refl _ w) (.cells m.cs 25 (0, 0))
  obtain ⟨BR, hBR⟩ : ∃ BR, BR = bareB m := ⟨_, rfl⟩
  have HBR := Lib.hid (hBR.trans (bareB_is m))
  have HBQ := Lib.hid hBR
  have HO0 := Lib.hid O0
  have HB0 := Lib.hid hB0
  have hkc := O0.cells
  clear O0 hB0 hBR
  unfold Ms.cs at HO0 HB0 hkc ⊢
  go_enter Tryz.func19, Tryz.ntmps19
  refine wp_hide fun Q1 hQ1 => ?_
  have HQ1 := Lib.hid hQ1
  clear hQ1
  go_upto_region 1 with fail
  go_cut [3] from 5 to 17 (fun (z : Value) (wx : World) => z = .bool BR ∧ Obj? wx w.heap.size #[.int .i64 m.ty, .bool m.fl.dup, .int .i64 m.fl.q, .bool m.fl.retain, .bool m.fl.will, .bool m.fl.clean, .int .i64 m.fl.typ, .int .i64 m.gw, .int .i64 m.rad, .int .i64 m.time, .bool m.timed, .int .i64 m.tid, .int .i64 m.mid, .int .i64 m.code, .string ⟨m.name.toArray⟩, .string ⟨m.data.toArray⟩] 25 ∧ Below w.heap.size w wx)
  case first =>
    cases d7 : (m.ty == 7)
    · cases d26 : (m.ty == 26)
      · go_wp2_with fail
        go_meet
        exact ⟨congrArg Value.bool (by rw [HBR.out, d7, d26]; rfl), HO0.out, HB0.out⟩
      · cases dn : (m.name == [])
        all_goals
          go_wp2_with fail
          go_meet
          exact ⟨congrArg Value.bool (by rw [HBR.out, d7, d26, dn]; rfl), HO0.out, HB0.out⟩
    · cases dn : (m.name == [])
      all_goals
        go_wp2_with fail
        go_meet
        exact ⟨congrArg Value.bool (by rw [HBR.out, d7, dn]; rfl), HO0.out, HB0.out⟩
  case rest =>
  obtain ⟨rfl, hO1, hB1⟩ := hcut
  have HO1 := Lib.hid hO1
  have HB1 := Lib.hid hB1
  clear hkc HO0 HB0
  have hkc := hO1.cells
  have hld := load_msg (m := m) hO1
  clear hO1 hB1
  obtain rfl : BR = false := HBQ.out.trans HBB.out
  have d254 := H254.out
  go_wp2_with fail
  refine (HK.out _).mono ?_
  rintro r w' ⟨rfl, hw⟩
  subst hw
  go_upto_region 4 with fail
  clear d254
  go_wp2_with fail
  refine (HM.out _).mono ?_
  rintro r w2 ⟨rfl, hb⟩
  have hO := HO1.out.below hb HO1.out.lt
  have HO2 := Lib.hid hO
  have HB2 := Lib.hid (HB1.out.trans (hb.mono HB1.out.size))
  clear hkc hld hb
  have hkc := hO.cells
  have hld := load_msg (m := m) hO
  clear hO
  go_wp2_with fail
  refine (HN.out _).mono ?_
  rintro r w3 ⟨rfl, hb⟩
  have hO := HO2.out.below hb HO2.out.lt
  have HO3 := Lib.hid hO
  have HB3 := Lib.hid (HB2.out.trans (hb.mono HB2.out.size))
  clear hkc hld hb
  have hkc := hO.cells
  have hld := load_msg (m := m) hO
  clear hO
  go_wp2_with fail
  refine (HT.out _).mono ?_
  rintro r w4 ⟨rfl, hb⟩
  have hO := HO3.out.below hb HO3.out.lt
  have HO4 := Lib.hid hO
  have HB4 := Lib.hid (HB3.out.trans (hb.mono HB3.out.size))
  clear hkc hld hb
  have hkc := hO.cells
  have hld := load_msg (m := m) hO
  clear hO
  go_wp2_with fail
  refine (HA.out _).mono ?_
  rintro r w5 ⟨rfl, hb⟩
  have hO := HO4.out.below hb HO4.out.lt
  have HO5 := Lib.hid hO
  have HB5 := Lib.hid (HB4.out.trans (hb.mono HB4.out.size))
  clear hkc hld hb
  have hkc := hO.cells
  have hld := load_msg (m := m) hO
  clear hO
  have d1 : ¬ (65535 : Int) < (m.name.length : Int) + (m.data.length : Int) := by have := HLN.out; omega
  have d1b : (m.name.length : Int) + (m.data.length : Int) ≤ 65535 := by omega
  have d2 : (m.name.length : Int) ≤ 100000 := by have := HLL.out; omega
  have d3 : (m.data.length : Int) ≤ 100000 := by have := HLL.out; omega
  have d4 : IntKind.i64.wrap ((m.name.length : Int) + (m.data.length : Int)) = (m.name.length : Int) + (m.data.length : Int) := by rw [IntKind.wrap_i64]; omega
  have hld7d : (rowSem 25 ⟨w.heap.size, 0, none⟩).run Tryz.prog w5.drew = _ := load_msg (m := m) (w := w5.drew) HO5.out
  have hty7 : w5.cell? ⟨w.heap.size, 0, none⟩ = some (.int .i64 m.ty) := HO5.out.cell 0 _ rfl
  go_wp2_with fail
  have hlr := HLR.out
  generalize hA : (#[.int .i64 m.ty, .bool m.fl.dup, .int .i64 m.fl.q, .bool m.fl.retain, .bool m.fl.will, .bool m.fl.clean, .int .i64 m.fl.typ, .int .i64 m.gw, .int .i64 m.rad, .int .i64 m.time, .bool m.timed, .int .i64 m.tid, .int .i64 m.mid, .int .i64 m.code, .string ⟨m.name.toArray⟩, .string ⟨m.data.toArray⟩] : Array Value) = A at hld7d HRS HO5 hld ⊢
  have hA0 : A[0]? = some (.int .i64 m.ty) := by rw [← hA]; rfl
  have hAs : A.size = 16 := by rw [← hA]; rfl
  have HAA := Lib.hid (And.intro hA0 hAs)
  clear hA0 hAs hA hld hkc
  go_region_with ((first
      | (go_at_call 45; refine (HRS.out _).mono ?_; rintro r w8 ⟨rfl, hb⟩; have O8 := obj_below_drew hb HO5.out; have hty8 := Obj?.cell O8 0 _ HAA.out.1; have hld8 := load_msgA HAA.out.2 O8)
      | (go_at_call 46; refine (HBY.out _).mono ?_; rintro r w9 ⟨rfl, hb9⟩)))
  all_goals
    go_wp2
    refine HQ1.out _ _ _ ?_
    go_ret
    exact ⟨rfl, (below_drewM HB5.out).trans ((hb.mono HB5.out.size).trans (hb9.mono (Nat.le_trans HB5.out.size hb.size)))⟩
set_option maxRecDepth 100000 in
set_option maxHeartbeats 3200000 in
theorem rcheck_end_b (m : Ms) (hk : knownK m.ty = true) (h254 : (m.ty == 254) = false) (hm : mayF m.ty m.fl = true) (hb : bareB m = true) (hf : m.fl = fl0) (hkm : kindM m.ty = true) (hn : numsR m = true) (ht : topicIdF m = 0) (hl : m.name.length ≤ 100000) (hd : m.data.length ≤ 100000) (hr : InR m) (ha : nameF m = 0) (hlong : m.name.length + m.data.length ≤ 65535) (w : World) : Calls Tryz.prog 19 #[.agg m.cs] w fun e w' => e = .returned (.int .i64 ((snB m.ty (restL m).length).2)) ∧ Below w.heap.size w w' := by
  have HK := Lib.hid (fun w => rknown_any m.ty w)
  rw [hk] at HK
  clear hk
  have H254 := Lib.hid h254
  clear h254
  have HM := Lib.hid (fun w => rmay_any m.ty m.fl w)
  rw [hm] at HM
  have hcmp0 := fun w => neq_fl0_no w
  rw [← hf] at hcmp0
  have HC := Lib.hid hcmp0
  clear hcmp0 hf
  have HBB := Lib.hid hb
  clear hm hb
  have HN := Lib.hid (fun w => rnums_any m hkm w)
  rw [hn] at HN
  have HT := Lib.hid (fun w => rtopic_any m hkm w)
  have HA := Lib.hid (fun w => rmsname_any m hkm hl w)
  rw [ht] at HT
  rw [ha] at HA
  have HLN := Lib.hid hlong
  have HLL := Lib.hid (And.intro hl hd)
  have hrl := rest_len hkm hr
  have HRS := Lib.hid (fun w => rrest_any m hkm hr w)
  obtain ⟨R, hR⟩ : ∃ R, R = restL m := ⟨_, rfl⟩
  rw [← hR] at HRS hrl ⊢
  have hlr : (R.length : Int) ≤ 1000000 := by omega
  have HBY := Lib.hid (fun w => rsnbytes_any m.ty R.length (by omega) w)
  obtain ⟨X, hX⟩ : ∃ X, X = (snB m.ty R.length).1 := ⟨_, rfl⟩
  obtain ⟨t, hT⟩ : ∃ t, t = (snB m.ty R.length).2 := ⟨_, rfl⟩
  rw [← hX, ← hT] at HBY
  rw [← hT]
  have HLR := Lib.hid hlr
  clear hkm hn ht hl hd ha hlong hr hrl hlr hR hX hT
  unfold Ms.cs at HN HT HA HRS
  have O0 := Obj?.new w m.cs 25
  have hB0 := below_al (Below.refl _ w) (.cells m.cs 25 (0, 0))
  obtain ⟨BR, hBR⟩ : ∃ BR, BR = bareB m := ⟨_, rfl⟩
  have HBR := Lib.hid (hBR.trans (bareB_is m))
  have HBQ := Lib.hid hBR
  have HO0 := Lib.hid O0
  have HB0 := Lib.hid hB0
  have hkc := O0.cells
  clear O0 hB0 hBR
  unfold Ms.cs at HO0 HB0 hkc ⊢
  go_enter Tryz.func19, Tryz.ntmps19
  refine wp_hide fun Q1 hQ1 => ?_
  have HQ1 := Lib.hid hQ1
  clear hQ1
  go_upto_region 1 with fail
  go_cut [3] from 5 to 17 (fun (z : Value) (wx : World) => z = .bool BR ∧ Obj? wx w.heap.size #[.int .i64 m.ty, .bool m.fl.dup, .int .i64 m.fl.q, .bool m.fl.retain, .bool m.fl.will, .bool m.fl.clean, .int .i64 m.fl.typ, .int .i64 m.gw, .int .i64 m.rad, .int .i64 m.time, .bool m.timed, .int .i64 m.tid, .int .i64 m.mid, .int .i64 m.code, .string ⟨m.name.toArray⟩, .string ⟨m.data.toArray⟩] 25 ∧ Below w.heap.size w wx)
  case first =>
    cases d7 : (m.ty == 7)
    · cases d26 : (m.ty == 26)
      · go_wp2_with fail
        go_meet
        exact ⟨congrArg Value.bool (by rw [HBR.out, d7, d26]; rfl), HO0.out, HB0.out⟩
      · cases dn : (m.name == [])
        all_goals
          go_wp2_with fail
          go_meet
          exact ⟨congrArg Value.bool (by rw [HBR.out, d7, d26, dn]; rfl), HO0.out, HB0.out⟩
    · cases dn : (m.name == [])
      all_goals
        go_wp2_with fail
        go_meet
        exact ⟨congrArg Value.bool (by rw [HBR.out, d7, dn]; rfl), HO0.out, HB0.out⟩
  case rest =>
  obtain ⟨rfl, hO1, hB1⟩ := hcut
  have HO1 := Lib.hid hO1
  have HB1 := Lib.hid hB1
  clear hkc HO0 HB0
  have hkc := hO1.cells
  have hld := load_msg (m := m) hO1
  clear hO1 hB1
  obtain rfl : BR = true := HBQ.out.trans HBB.out
  have d254 := H254.out
  go_wp2_with fail
  refine (HK.out _).mono ?_
  rintro r w' ⟨rfl, hw⟩
  subst hw
  go_upto_region 4 with fail
  clear d254
  have hcmp := HC.out
  go_wp2_with fail
  refine (HM.out _).mono ?_
  rintro r w2 ⟨rfl, hb⟩
  have hO := HO1.out.below hb HO1.out.lt
  have HO2 := Lib.hid hO
  have HB2 := Lib.hid (HB1.out.trans (hb.mono HB1.out.size))
  clear hkc hld hb
  have hkc := hO.cells
  have hld := load_msg (m := m) hO
  clear hO
  go_upto_region 6 with fail
  clear hcmp
  go_wp2_with fail
  refine (HN.out _).mono ?_
  rintro r w3 ⟨rfl, hb⟩
  have hO := HO2.out.below hb HO2.out.lt
  have HO3 := Lib.hid hO
  have HB3 := Lib.hid (HB2.out.trans (hb.mono HB2.out.size))
  clear hkc hld hb
  have hkc := hO.cells
  have hld := load_msg (m := m) hO
  clear hO
  go_wp2_with fail
  refine (HT.out _).mono ?_
  rintro r w4 ⟨rfl, hb⟩
  have hO := HO3.out.below hb HO3.out.lt
  have HO4 := Lib.hid hO
  have HB4 := Lib.hid (HB3.out.trans (hb.mono HB3.out.size))
  clear hkc hld hb
  have hkc := hO.cells
  have hld := load_msg (m := m) hO
  clear hO
  go_wp2_with fail
  refine (HA.out _).mono ?_
  rintro r w5 ⟨rfl, hb⟩
  have hO := HO4.out.below hb HO4.out.lt
  have HO5 := Lib.hid hO
  have HB5 := Lib.hid (HB4.out.trans (hb.mono HB4.out.size))
  clear hkc hld hb
  have hkc := hO.cells
  have hld := load_msg (m := m) hO
  clear hO
  have d1 : ¬ (65535 : Int) < (m.name.length : Int) + (m.data.length : Int) := by have := HLN.out; omega
  have d1b : (m.name.length : Int) + (m.data.length : Int) ≤ 65535 := by omega
  have d2 : (m.name.length : Int) ≤ 100000 := by have := HLL.out; omega
  have d3 : (m.data.length : Int) ≤ 100000 := by have := HLL.out; omega
  have d4 : IntKind.i64.wrap ((m.name.length : Int) + (m.data.length : Int)) = (m.name.length : Int) + (m.data.length : Int) := by rw [IntKind.wrap_i64]; omega
  have hld7d : (rowSem 25 ⟨w.heap.size, 0, none⟩).run Tryz.prog w5.drew = _ := load_msg (m := m) (w := w5.drew) HO5.out
  have hty7 : w5.cell? ⟨w.heap.size, 0, none⟩ = some (.int .i64 m.ty) := HO5.out.cell 0 _ rfl
  go_wp2_with fail
  have hlr := HLR.out
  generalize hA : (#[.int .i64 m.ty, .bool m.fl.dup, .int .i64 m.fl.q, .bool m.fl.retain, .bool m.fl.will, .bool m.fl.clean, .int .i64 m.fl.typ, .int .i64 m.gw, .int .i64 m.rad, .int .i64 m.time, .bool m.timed, .int .i64 m.tid, .int .i64 m.mid, .int .i64 m.code, .string ⟨m.name.toArray⟩, .string ⟨m.data.toArray⟩] : Array Value) = A at hld7d HRS HO5 hld ⊢
  have hA0 : A[0]? = some (.int .i64 m.ty) := by rw [← hA]; rfl
  have hAs : A.size = 16 := by rw [← hA]; rfl
  have HAA := Lib.hid (And.intro hA0 hAs)
  clear hA0 hAs hA hld hkc
  go_region_with ((first
      | (go_at_call 45; refine (HRS.out _).mono ?_; rintro r w8 ⟨rfl, hb⟩; have O8 := obj_below_drew hb HO5.out; have hty8 := Obj?.cell O8 0 _ HAA.out.1; have hld8 := load_msgA HAA.out.2 O8)
      | (go_at_call 46; refine (HBY.out _).mono ?_; rintro r w9 ⟨rfl, hb9⟩)))
  all_goals
    go_wp2
    refine HQ1.out _ _ _ ?_
    go_ret
    exact ⟨rfl, (below_drewM HB5.out).trans ((hb.mono HB5.out.size).trans (hb9.mono (Nat.le_trans HB5.out.size hb.size)))⟩
end Go.Proofs.YtbacnaplpfmpnaaGreatDoor
namespace Go.Proofs.YtbacnaplpfmpnaaGreatDoor
open Go.RowKit
set_option linter.unusedVariables false
set_option linter.unusedSimpArgs false

theorem mem_flat_len {f : Int → List UInt8} {p : Int} : ∀ {l : List Int}, p ∈ l → (f p).length ≤ (l.flatMap f).length
  | a :: l, h => by
    rw [List.flatMap_cons, List.length_append]
    rcases List.mem_cons.1 h with rfl | h
    · omega
    · have := mem_flat_len (f := f) h; omega
theorem not_both {m : Ms} (hk : kindM m.ty = true) (h : hasR m 9 = true) : hasR m 10 = false := by
  obtain ⟨ty, ⟨dup, q, retain, will, clean, typ⟩, gw, rad, time, timed, tid, mid, code, name, data⟩ := m
  rcases kinds_of hk with h0 | h0 | h0 | h0 | h0 | h0 | h0 | h0 | h0 | h0 | h0 | h0 | h0 | h0 | h0 | h0 | h0 | h0 | h0 | h0 | h0 | h0 | h0 | h0 | h0 | h0 | h0 <;> simp only at h0 <;> subst h0 <;> clear hk <;>
    by_cases hN : name = [] <;> by_cases hT : typ = 0 <;> cases timed <;> revert h <;>
    simp [hasR, partsM, layoutF, partOf, hN, hT]
theorem inr_of {m : Ms} (hk : kindM m.ty = true) (hm : mayF m.ty m.fl = true) (hn : numsR m = true) (hl : m.name.length ≤ 100000) (hd : m.data.length ≤ 100000) : InR m := by
  rw [numsR_eq hk, Bool.and_eq_true] at hn
  obtain ⟨a, b, c, d, e, f, g⟩ := rng_of hn.1 (may_flok hm)
  exact ⟨c, d, e, hl, hd⟩
theorem long_four {m : Ms} (hk : kindM m.ty = true) (hn : numsR m = true) (hlong : 65535 < m.name.length + m.data.length) : (snB m.ty (restL m).length).2 = 4 := by
  have h9 : (hasR m 9 || m.name.isEmpty) = true := by
    unfold numsR at hn; simp only [Bool.and_eq_true] at hn; exact hn.2.1.1.2
  have h10 : (hasR m 10 || m.data.isEmpty) = true := by
    unfold numsR at hn; simp only [Bool.and_eq_true] at hn; exact hn.2.1.2
  have hrl : 65531 < (restL m).length := by
    rw [restL_parts]
    cases h : hasR m 9 with
    | true =>
      have hb := not_both hk h
      rw [hb] at h10
      have he : m.data = [] := by simpa using h10
      rw [he] at hlong
      have h1 : (9 : Int) ∈ partsM m := by unfold hasR at h; exact List.contains_iff_mem.1 h
      have := mem_flat_len (f := writeR m) h1
      have h2 : writeR m 9 = m.name := rfl
      rw [h2] at this
      simp at hlong
      omega
    | false =>
      rw [h] at h9
      have he : m.name = [] := by simpa using h9
      rw [he] at hlong
      have h3 : hasR m 10 = true := by
        cases h4 : hasR m 10 with
        | true => rfl
        | false =>
          rw [h4] at h10
          have he2 : m.data = [] := by simpa using h10
          rw [he2] at hlong
          simp at hlong
      have h1 : (10 : Int) ∈ partsM m := by unfold hasR at h3; exact List.contains_iff_mem.1 h3
      have := mem_flat_len (f := writeR m) h1
      have h2 : writeR m 10 = m.data := rfl
      rw [h2] at this
      simp at hlong
      omega
  unfold snB
  rw [if_neg (by rw [kindM_known hk]; simp), if_neg (by omega), if_pos (by omega)]
theorem rcheck_any (m : Ms) (hl : m.name.length ≤ 100000) (hd : m.data.length ≤ 100000) (w : World) : Calls Tryz.prog 19 #[.agg m.cs] w fun e w' => e = .returned (.int .i64 (checkM m)) ∧ Below w.heap.size w w' := by
  cases hk : kindM m.ty with
  | false =>
    have e : checkM m = 8 := by unfold checkM; rw [if_pos hk]
    rw [e]
    cases hkn : knownK m.ty with
    | false => exact rcheck_kn m hkn w
    | true =>
      have h254 : (m.ty == 254) = true := by
        have := msgB_kindM m.ty
        unfold msgB at this
        rw [hk, hkn] at this
        simpa using this
      exact rcheck_enc m h254 hkn w
  | true =>
  have k0 : ¬ (kindM m.ty = false) := by simp [hk]
  have hkn := kindM_known hk
  have h254 : (m.ty == 254) = false := by
    have := msgB_kindM m.ty
    unfold msgB at this
    rw [hk, hkn] at this
    simpa using this
  cases hm : mayF m.ty m.fl with
  | false =>
    have e : checkM m = 7 := by unfold checkM; rw [if_neg k0, if_pos (.inl hm)]
    rw [e]; exact rcheck_may m hkn h254 hm w
  | true =>
  by_cases hw : willB m.ty = true ∧ m.name.isEmpty = true ∧ m.fl ≠ fl0
  · have e : checkM m = 7 := by unfold checkM; rw [if_neg k0, if_pos (.inr hw)]
    rw [e]; exact rcheck_fl m hkn h254 hm (by unfold bareB; rw [hw.1, hw.2.1]; rfl) hw.2.2 w
  have m0 : ¬ (mayF m.ty m.fl = false ∨ (willB m.ty = true ∧ m.name.isEmpty = true ∧ m.fl ≠ fl0)) := by
    rintro (h | h)
    · rw [hm] at h; cases h
    · exact hw h
  have e : checkM m = checkR m := by unfold checkM checkR; rw [if_neg k0, if_neg m0]
  rw [e]
  have hnq := numsR_eq hk
  cases hn : numsR m with
  | false =>
    have e2 : checkR m = 2 := by
      unfold checkR
      rw [if_pos]
      rw [hn] at hnq
      by_cases h1 : (lookAll m).2 = false ∧ (lookAll m).1 = Ms.bare m.ty m.fl
      · have := (look_iff hk).1 h1
        rw [this] at hnq
        exact .inr (.inr (by simpa using hnq.symm))
      · by_cases h2 : (lookAll m).2 = true
        · exact .inl h2
        · exact .inr (.inl (fun h3 => h1 ⟨by simpa using h2, h3⟩))
    rw [e2]
    cases hb : bareB m with
    | false => exact rcheck_nums_n m hkn h254 hm hb hk hn w
    | true =>
      refine rcheck_nums_b m hkn h254 hm hb ?_ hk hn w
      unfold bareB at hb; simp only [Bool.and_eq_true] at hb
      exact Classical.byContradiction fun hf => hw ⟨hb.1, hb.2, hf⟩
  | true =>
  have hfit := hnq.symm.trans hn
  rw [Bool.and_eq_true] at hfit
  have hlk := (look_iff hk).2 hfit.1
  have e0 : ¬ ((lookAll m).2 = true ∨ (lookAll m).1 ≠ Ms.bare m.ty m.fl ∨ msgIdB m = false) := by
    rintro (h | h | h)
    · rw [hlk.1] at h; cases h
    · exact h hlk.2
    · rw [hfit.2] at h; cases h
  have hir := inr_of hk hm hn hl hd
  have hfl : bareB m = true → m.fl = fl0 := fun hb => by
    unfold bareB at hb; simp only [Bool.and_eq_true] at hb
    exact Classical.byContradiction fun hf => hw ⟨hb.1, hb.2, hf⟩
  by_cases ht : topicIdF m = 0
  rotate_left
  · have e2 : checkR m = topicIdF m := by unfold checkR; rw [if_neg e0, if_pos ht]
    rw [e2]
    cases hb : bareB m with
    | false => exact rcheck_top_n m hkn h254 hm hb hk hn ht w
    | true => exact rcheck_top_b m hkn h254 hm hb (hfl hb) hk hn ht w
  by_cases ha : nameF m = 0
  rotate_left
  · have e2 : checkR m = nameF m := by unfold checkR; rw [if_neg e0, if_neg (by simpa using ht), if_pos ha]
    rw [e2]
    cases hb : bareB m with
    | false => exact rcheck_name_n m hkn h254 hm hb hk hn ht hl ha w
    | true => exact rcheck_name_b m hkn h254 hm hb (hfl hb) hk hn ht hl ha w
  have e2 : checkR m = (snB m.ty (restL m).length).2 := by unfold checkR; rw [if_neg e0, if_neg (by simpa using ht), if_neg (by simpa using ha)]
  rw [e2]
  by_cases hlong : 65535 < m.name.length + m.data.length
  · rw [long_four hk hn hlong]
    cases hb : bareB m with
    | false => exact rcheck_long_n m hkn h254 hm hb hk hn ht hl hd ha hlong w
    | true => exact rcheck_long_b m hkn h254 hm hb (hfl hb) hk hn ht hl hd ha hlong w
  · cases hb : bareB m with
    | false => exact rcheck_end_n m hkn h254 hm hb hk hn ht hl hd hir ha (by omega) w
    | true => exact rcheck_end_b m hkn h254 hm hb (hfl hb) hk hn ht hl hd hir ha (by omega) w
end Go.Proofs.YtbacnaplpfmpnaaGreatDoor
namespace Go.Proofs.YtbacnaplpfmpnaaGreatDoor
open Go.RowKit
set_option linter.unusedVariables false
set_option linter.unusedSimpArgs false
attribute [local go_sem ↓] Go.wp_at_zero Go.wp_at_succ load_Msg

set_option maxRecDepth 100000 in
set_option maxHeartbeats 3200000 in
theorem rbytes_any (m : Ms) (hn : (m.name.length : Int) ≤ 100000) (hd : (m.data.length : Int) ≤ 100000) (w : World) :
    Calls Tryz.prog 11 #[.agg m.cs] w fun r w' => r = .returned (.tuple #[.string ⟨(bytesM m).1.toArray⟩, .int .i64 (bytesM m).2]) ∧ Below w.heap.size w w' := by
  have HC := Lib.hid (fun w => rcheck_any m (by omega) (by omega) w)
  unfold Ms.cs at HC
  have hB0 := below_al (Below.refl _ w) (.cells m.cs 25 (0, 0))
  have HB := Lib.hid hB0
  have hld := load_msg (m := m) (Obj?.new w m.cs 25)
  by_cases hc : checkM m = 0
  · have hg := (check_iff m).1 hc
    have hz := snB_zero hg.head
    have e : bytesM m = (snS m.ty (restL m).length ++ restL m, 0) := by unfold bytesM; rw [if_pos hc]
    rw [hc] at HC
    rw [e]
    have H7 := Lib.hid (fun w => rrest_any m hg.kind (inr_of hg.kind hg.may (by rw [numsR_eq hg.kind, hg.fits, hg.mid]; rfl) (by omega) (by omega)) w)
    have H8 := Lib.hid (fun w => by have := rsnbytes_any m.ty (restL m).length (by omega) w; rw [hz.2.2.2] at this; exact this)
    obtain ⟨A, hA⟩ : ∃ A, A = restL m := ⟨_, rfl⟩
    obtain ⟨B, hB⟩ : ∃ B, B = snS m.ty (restL m).length := ⟨_, rfl⟩
    have hBl : B.length ≤ 4 := by rw [hB]; exact snS_len_le _ _
    have hAl : A.length ≤ 65531 := by rw [hA]; omega
    rw [← hB] at H8 ⊢
    rw [← hA] at H7 H8 ⊢
    have hx : ByteArray.mk B.toArray ++ ByteArray.mk A.toArray = ByteArray.mk (B ++ A).toArray := ByteArray.mk_append_mk _ _
    clear hc hg hz e hA hB hB0 hn hd
    unfold Ms.cs at H7 hld ⊢
    go_enter Tryz.func11, Tryz.ntmps11
    go_wp2_with fail
    refine (HC.out _).mono ?_
    rintro r w1 ⟨rfl, hb⟩
    have O1 := obj_msg m hb
    have hld1 := load_msg (m := m) O1
    have HB1 := Lib.hid (HB.out.trans (hb.mono HB.out.size))
    have HO1 := Lib.hid O1
    clear hb O1 hld
    go_wp2_with fail
    refine (H7.out _).mono ?_
    rintro r w2 ⟨rfl, hb⟩
    have O2 := HO1.out.below hb HO1.out.lt
    have k2 : w2.cell? ⟨w.heap.size, 0, none⟩ = some (.int .i64 m.ty) := O2.cell 0 _ rfl
    have HB2 := Lib.hid (HB1.out.trans (hb.mono HB1.out.size))
    clear hb O2 hld1 HO1
    go_wp2_with fail
    refine (H8.out _).mono ?_
    rintro r w3 ⟨rfl, hb⟩
    have HB3 := Lib.hid (HB2.out.trans (hb.mono HB2.out.size))
    clear hb k2
    go_wp2
    go_ret2
    exact ⟨rfl, HB3.out⟩
  · have e : bytesM m = ([], checkM m) := by unfold bytesM; rw [if_neg hc]
    rw [e]
    have hd : (checkM m != 0) = true := by simpa using hc
    obtain ⟨c, hcc⟩ : ∃ c, c = checkM m := ⟨_, rfl⟩
    rw [← hcc] at HC hd ⊢
    clear hc e hcc hB0
    unfold Ms.cs at hld ⊢
    go_enter Tryz.func11, Tryz.ntmps11
    go_wp2_with fail
    refine (HC.out _).mono ?_
    rintro r w1 ⟨rfl, hb⟩
    have HB1 := Lib.hid (HB.out.trans (hb.mono HB.out.size))
    clear hb hld
    go_wp2
    go_ret2
    exact ⟨rfl, HB1.out⟩
end Go.Proofs.YtbacnaplpfmpnaaGreatDoor
