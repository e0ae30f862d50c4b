/- SnmsgBack. The post of a walk laid behind a variable: the walk then does not carry it along. At a panic nothing is promised, so drawn regions still go through. -/
import Derived.Test.YtbacnaplpfmpnaaDoorLkB
import Derived.Test.YtbacnaplpfmpnaaDoorOctL
import Derived.Test.YtbacnaplpfmpnaaDoorOpenM
import Derived.WalkKit
namespace Go.Proofs.YtbacnaplpfmpnaaDoor
open Go.RowKit
set_option linter.unusedVariables false
set_option linter.unusedSimpArgs false
attribute [local go_sem ↓] load_Msg store_Msg

theorem neq_self (m : Ms) (w : World) : (binOp .neq 25 (.agg m.cs) (.agg m.cs)).run Tryd.prog w = .ok (.bool false) w := by
  unfold Ms.cs
  go_simp
theorem eql_zero (w : World) : (binOp .eql 25 (.agg #[.int .i64 0, .bool false, .int .i64 0, .bool false, .bool false, .bool false, .int .i64 0, .int .i64 0, .int .i64 0, .int .i64 0, .bool false, .int .i64 0, .int .i64 0, .int .i64 0, .string ⟨#[]⟩, .string ⟨#[]⟩]) (.agg #[.int .i64 0, .bool false, .int .i64 0, .bool false, .bool false, .bool false, .int .i64 0, .int .i64 0, .int .i64 0, .int .i64 0, .bool false, .int .i64 0, .int .i64 0, .int .i64 0, .string ⟨#[]⟩, .string ⟨#[]⟩])).run Tryd.prog w = .ok (.bool true) w := by
  go_simp
theorem store_new (w : World) (m : Ms) : (rowStore 25 ⟨w.heap.size, 0, none⟩ (.agg m.cs)).run Tryd.prog (w.alloc (.cells #[.int .i64 0, .bool false, .int .i64 0, .bool false, .bool false, .bool false, .int .i64 0, .int .i64 0, .int .i64 0, .int .i64 0, .bool false, .int .i64 0, .int .i64 0, .int .i64 0, .string ⟨#[]⟩, .string ⟨#[]⟩] 25 (0, 0))) = .ok () (w.alloc (.cells m.cs 25 (0, 0))) := by
  have h := rowStore_run (P := Tryd.prog) (w.alloc (.cells #[.int .i64 0, .bool false, .int .i64 0, .bool false, .bool false, .bool false, .int .i64 0, .int .i64 0, .int .i64 0, .int .i64 0, .bool false, .int .i64 0, .int .i64 0, .int .i64 0, .string ⟨#[]⟩, .string ⟨#[]⟩] 25 (0, 0))) w.heap.size 25 25 _ m.cs (Obj?.new w _ _) infoMs rfl (by simp [Ms.cs, Value.oneCell'])
  rw [World.setRow_alloc_new] at h
  exact h
/-- Is a message gone through? -/
def lightM (m : Ms) : Bool := decide (m.name.length ≤ 70000) && decide (m.data.length ≤ 70000)
set_option maxRecDepth 100000 in
theorem lightmsg_any (m : Ms) (w : World) : Calls Tryd.prog 10 #[.agg m.cs] w fun e w' => e = .returned (.bool (lightM m)) ∧ Below w.heap.size w w' := by
  have hB := below_al (Below.refl _ w) (.cells m.cs 25 (0, 0))
  by_cases h1 : m.name.length ≤ 70000
  · by_cases h2 : m.data.length ≤ 70000
    · have e : lightM m = true := by simp [lightM, h1, h2]
      rw [e]
      unfold Ms.cs at hB ⊢
      go_enter Tryd.func10, Tryd.ntmps10
      go_wp2
      go_ret
      exact ⟨ret_val (congrArg Value.bool (by simp; omega)), hB⟩
    · have e : lightM m = false := by simp [lightM, h1, h2]
      have h2' : 70000 < m.data.length := by omega
      rw [e]
      clear e h2
      unfold Ms.cs at hB ⊢
      go_enter Tryd.func10, Tryd.ntmps10
      go_wp2
      go_ret
      exact ⟨ret_val (congrArg Value.bool (by simp; omega)), hB⟩
  · have e : lightM m = false := by simp [lightM, h1]
    have h1' : 70000 < m.name.length := by omega
    rw [e]
    clear e h1
    unfold Ms.cs at hB ⊢
    go_enter Tryd.func10, Tryd.ntmps10
    go_wp2
    go_ret
    exact ⟨rfl, hB⟩
theorem light_len {m : Ms} (h : lightM m = true) : m.name.length ≤ 70000 ∧ m.data.length ≤ 70000 := by simpa [lightM] using h
set_option maxRecDepth 100000 in
set_option maxHeartbeats 3200000 in
theorem snmsgBack_heavy (m : Ms) (s : List UInt8) (cut : Int) (h : lightM m = false ∨ 400 < s.length) (w : World) (hm : Mx w) :
    Calls Tryd.prog 6 #[.agg m.cs, .string ⟨s.toArray⟩, .int .i64 cut] w fun e w' => e = .returned (.bool true) ∧ Below w.heap.size w w' := by
  have O0 := Obj?.new w m.cs 25
  have hB0 := below_al (Below.refl _ w) (.cells m.cs 25 (0, 0))
  have HM := Lib.hid (hm.below hB0 hm.1)
  have HMW := Lib.hid hm
  have HB0 := Lib.hid hB0
  have HO0 := Lib.hid O0
  have HL := Lib.hid lives22
  have HG := Lib.hid (fun w => lightmsg_any m w)
  clear hm hB0 O0
  rcases h with h | h
  · rw [h] at HG
    unfold Ms.cs at HO0 HB0 HM HG ⊢
    go_enter Tryd.func6, Tryd.ntmps6
    go_wp2_with fail
    refine (HL.out _ HM.out).mono ?_
    rintro r w1 ⟨rfl, hb⟩
    have O1 := HO0.out.below hb HO0.out.lt
    have HB1 := Lib.hid (HB0.out.trans (hb.mono HB0.out.size))
    have HO1 := Lib.hid O1
    have hld1 := load_msg (m := m) O1
    clear hb O1
    go_wp2_with fail
    refine (HG.out _).mono ?_
    rintro r w2 ⟨rfl, hb⟩
    clear hld1
    have O2 := HO1.out.below hb HO1.out.lt
    have HB2 := Lib.hid (HB1.out.trans (hb.mono HB1.out.size))
    have HO2 := Lib.hid O2
    have hld2 := load_msg (m := m) O2
    clear hb O2
    go_wp2
    go_ret
    exact ⟨rfl, HB2.out⟩
  · cases hl : lightM m
    all_goals
      rw [hl] at HG
      unfold Ms.cs at HO0 HB0 HM HG ⊢
      go_enter Tryd.func6, Tryd.ntmps6
      go_wp2_with fail
      refine (HL.out _ HM.out).mono ?_
      rintro r w1 ⟨rfl, hb⟩
      have O1 := HO0.out.below hb HO0.out.lt
      have HB1 := Lib.hid (HB0.out.trans (hb.mono HB0.out.size))
      have HO1 := Lib.hid O1
      have hld1 := load_msg (m := m) O1
      clear hb O1
      go_wp2_with fail
      refine (HG.out _).mono ?_
      rintro r w2 ⟨rfl, hb⟩
      clear hld1
      have O2 := HO1.out.below hb HO1.out.lt
      have HB2 := Lib.hid (HB1.out.trans (hb.mono HB1.out.size))
      have HO2 := Lib.hid O2
      have hld2 := load_msg (m := m) O2
      clear hb O2
      go_wp2
      go_ret
      exact ⟨rfl, HB2.out⟩
set_option maxRecDepth 100000 in
set_option maxHeartbeats 3200000 in
theorem snmsgBack_ok_got (m : Ms) (s : List UInt8) (cut : Int) (h : lightM m = true) (hs : s.length ≤ 400) (he : checkM m = 0) (hf : (readM s).2.2 = 0) (w : World) (hm : Mx w) :
    Calls Tryd.prog 6 #[.agg m.cs, .string ⟨s.toArray⟩, .int .i64 cut] w fun e w' => e = .returned (.bool true) ∧ Below w.heap.size w w' := by
  have O0 := Obj?.new w m.cs 25
  have hB0 := below_al (Below.refl _ w) (.cells m.cs 25 (0, 0))
  have HM := Lib.hid (hm.below hB0 hm.1)
  have HMW := Lib.hid hm
  have HB0 := Lib.hid hB0
  have HO0 := Lib.hid O0
  have HL := Lib.hid lives22
  have HG := Lib.hid (fun w => lightmsg_any m w)
  clear hm hB0 O0
  have hnd := light_len h
  rw [h] at HG
  clear h
  have HBy := Lib.hid (fun w hm => msbytes_any m (by omega) (by omega) w hm)
  have HCk := Lib.hid (check_any m (by omega) (by omega))
  unfold CheckSaid at HCk
  have HRs := Lib.hid (msread_any s (by omega))
  unfold ReadIs at HRs
  have HR1 := Lib.hid (msread_any ((bytesM m).1 ++ s) (by have := bytesM_len m; simp; omega))
  rw [readM_bytes he s] at HR1
  unfold ReadIs at HR1
  have hne := bytesM_pos he
  obtain ⟨j, hj⟩ : ∃ j : Nat, (j : Int) = cut % ((bytesM m).1.length : Int) := ⟨(cut % ((bytesM m).1.length : Int)).toNat, Int.toNat_of_nonneg (Int.emod_nonneg _ (by omega))⟩
  have hjl : j < (bytesM m).1.length := by have := Int.emod_lt_of_pos cut (show (0 : Int) < ((bytesM m).1.length : Int) by omega); omega
  have HR2 := Lib.hid (msread_any ((bytesM m).1.take j) (by have := bytesM_len m; simp; omega))
  rw [readM_cut he j hjl] at HR2
  unfold ReadIs at HR2
  have HPk := Lib.hid (fun w => by have := pick_any cut ((bytesM m).1.length : Int) (by omega) (by have := bytesM_len m; omega) w; rw [← hj] at this; exact this)
  have hbl := bytesM_len m
  obtain ⟨B, hB⟩ : ∃ B, B = (bytesM m).1 := ⟨_, rfl⟩
  have hBe : bytesM m = (B, 0) := by rw [hB, bytesM_ok he]
  rw [hBe] at HBy
  rw [← hB] at HR1 HR2 HPk hjl hbl hne
  rw [he] at HCk
  have hcat : ByteArray.mk B.toArray ++ ByteArray.mk s.toArray = ByteArray.mk (B ++ s).toArray := ByteArray.mk_append_mk _ _
  have hcut : (ByteArray.mk B.toArray).extract 0 j = ByteArray.mk (B.take j).toArray := by rw [ByteArray.extract_mk]; simp
  have hcmp := fun w => neq_self m w
  clear hB hBe he hj
  obtain ⟨k1, k2, k3, k4⟩ := readM_back hf
  obtain ⟨X, n, E, hX⟩ : ∃ X n E, readM s = (X, n, E) := ⟨_, _, _, rfl⟩
  rw [hX] at HRs hf k1 k2 k3 k4
  simp only at HRs hf k1 k2 k3 k4
  subst hf
  obtain ⟨i, rfl⟩ : ∃ i : Nat, n = i := ⟨n.toNat, by omega⟩
  rw [Int.toNat_natCast] at k4
  have k5 := Lib.hid (readM_small hX)
  have HBx := Lib.hid (fun w hm => msbytes_any X (by have := k5.out; omega) (by have := k5.out; omega) w hm)
  have HCx := Lib.hid (check_any X (by have := k5.out; omega) (by have := k5.out; omega))
  unfold CheckSaid at HCx
  rw [k4] at HBx
  rw [k1] at HCx
  have hil : i ≤ s.length := by omega
  have htk : (ByteArray.mk s.toArray).extract 0 i = ByteArray.mk (s.take i).toArray := by rw [ByteArray.extract_mk]; simp
  clear k1 k2 k3 k4 k5 hX
  clear hnd
  unfold Ms.cs at HBy HCk HR1 hcmp HBx HCx HRs
  unfold ms0 Ms.bare Ms.cs fl0 at HR2
  dsimp only at HR2
  unfold Ms.cs at HO0 HB0 HM HG ⊢
  go_enter Tryd.func6, Tryd.ntmps6
  go_wp2_with fail
  refine (HL.out _ HM.out).mono ?_
  rintro r w1 ⟨rfl, hb⟩
  have O1 := HO0.out.below hb HO0.out.lt
  have HB1 := Lib.hid (HB0.out.trans (hb.mono HB0.out.size))
  have HO1 := Lib.hid O1
  have hld1 := load_msg (m := m) O1
  clear hb O1
  go_wp2_with fail
  refine (HG.out _).mono ?_
  rintro r w2 ⟨rfl, hb⟩
  clear hld1
  have O2 := HO1.out.below hb HO1.out.lt
  have HB2 := Lib.hid (HB1.out.trans (hb.mono HB1.out.size))
  have HO2 := Lib.hid O2
  have hld2 := load_msg (m := m) O2
  clear hb O2
  go_wp2_with fail
  refine (HBy.out _ (HMW.out.below HB2.out HMW.out.1)).mono ?_
  rintro r w3 ⟨rfl, hb⟩
  clear hld2
  have O3 := HO2.out.below hb HO2.out.lt
  have HB3 := Lib.hid (HB2.out.trans (hb.mono HB2.out.size))
  have HO3 := Lib.hid O3
  have hld3 := load_msg (m := m) O3
  clear hb O3
  go_wp2_with fail
  refine (HCk.out _ (HMW.out.below HB3.out HMW.out.1)).mono ?_
  rintro r w4 ⟨rfl, hb⟩
  clear hld3
  have O4 := HO3.out.below hb HO3.out.lt
  have HB4 := Lib.hid (HB3.out.trans (hb.mono HB3.out.size))
  have HO4 := Lib.hid O4
  have hld4 := load_msg (m := m) O4
  clear hb O4
  go_wp2_with fail
  refine (HR1.out _ (HMW.out.below HB4.out HMW.out.1)).mono ?_
  rintro r w5 ⟨rfl, hb⟩
  clear hld4
  have O5 := HO4.out.below hb HO4.out.lt
  have HB5 := Lib.hid (HB4.out.trans (hb.mono HB4.out.size))
  have HO5 := Lib.hid O5
  have hld5 := load_msg (m := m) O5
  clear hb O5
  have hst5 := store_new w5 m
  have HB6 := Lib.hid (HB5.out.alloc HB5.out.size (.cells m.cs 25 (0, 0)))
  have HN6 := Lib.hid (Obj?.new w5 m.cs 25)
  have HO6 := Lib.hid (HO5.out.alloc (.cells m.cs 25 (0, 0)))
  unfold Ms.cs at hst5 HB6 HN6 HO6
  go_wp2_with fail
  refine (HPk.out _).mono ?_
  rintro r w6 ⟨rfl, hw6⟩
  subst hw6
  go_wp2_with fail
  refine (HR2.out _ (HMW.out.below HB6.out HMW.out.1)).mono ?_
  rintro r w7 ⟨rfl, hb⟩
  clear hst5 hld5
  have N7 := HN6.out.below hb HN6.out.lt
  have O7 := HO6.out.below hb HO6.out.lt
  have HB7 := Lib.hid (HB6.out.trans (hb.mono HB6.out.size))
  have HO7 := Lib.hid O7
  clear hb O7
  have hst7 := store_new w7 ms0
  unfold ms0 Ms.bare Ms.cs fl0 at hst7
  dsimp only at hst7
  have HB8 := Lib.hid (HB7.out.alloc HB7.out.size (.cells #[.int .i64 0, .bool false, .int .i64 0, .bool false, .bool false, .bool false, .int .i64 0, .int .i64 0, .int .i64 0, .int .i64 0, .bool false, .int .i64 0, .int .i64 0, .int .i64 0, .string ⟨#[]⟩, .string ⟨#[]⟩] 25 (0, 0)))
  have HO8 := Lib.hid (HO7.out.alloc (.cells #[.int .i64 0, .bool false, .int .i64 0, .bool false, .bool false, .bool false, .int .i64 0, .int .i64 0, .int .i64 0, .int .i64 0, .bool false, .int .i64 0, .int .i64 0, .int .i64 0, .string ⟨#[]⟩, .string ⟨#[]⟩] 25 (0, 0)))
  have hld8 := load_msg (m := m) HO8.out
  have hln8 := load_msg (m := m) (N7.alloc (.cells #[.int .i64 0, .bool false, .int .i64 0, .bool false, .bool false, .bool false, .int .i64 0, .int .i64 0, .int .i64 0, .int .i64 0, .bool false, .int .i64 0, .int .i64 0, .int .i64 0, .string ⟨#[]⟩, .string ⟨#[]⟩] 25 (0, 0)))
  clear N7
  go_wp2_with fail
  refine (HRs.out _ (HMW.out.below HB8.out HMW.out.1)).mono ?_
  rintro r w9 ⟨rfl, hb⟩
  clear hst7 hld8 hln8 hcmp
  have O9 := HO8.out.below hb HO8.out.lt
  have HB9 := Lib.hid (HB8.out.trans (hb.mono HB8.out.size))
  have HO9 := Lib.hid O9
  clear hb O9
  have hst9 := store_new w9 X
  have HB10 := Lib.hid (HB9.out.alloc HB9.out.size (.cells X.cs 25 (0, 0)))
  have HX10 := Lib.hid (Obj?.new w9 X.cs 25)
  have hlx := load_msg (m := X) HX10.out
  unfold Ms.cs at hst9 HB10 HX10 hlx
  go_wp2_with fail
  refine (HBx.out _ (HMW.out.below HB10.out HMW.out.1)).mono ?_
  rintro r w11 ⟨rfl, hb⟩
  have X11 := HX10.out.below hb HX10.out.lt
  clear hlx hst9
  have hlx := load_msg (m := X) X11
  have HB11 := Lib.hid (HB10.out.trans (hb.mono HB10.out.size))
  clear hb X11
  go_wp2_with fail
  refine (HCx.out _ (HMW.out.below HB11.out HMW.out.1)).mono ?_
  rintro r w12 ⟨rfl, hb⟩
  have HB12 := Lib.hid (HB11.out.trans (hb.mono HB11.out.size))
  clear hb hlx
  go_wp2
  go_ret
  exact ⟨rfl, HB12.out⟩
set_option maxRecDepth 100000 in
set_option maxHeartbeats 3200000 in
theorem snmsgBack_ok_lost (m : Ms) (s : List UInt8) (cut : Int) (h : lightM m = true) (hs : s.length ≤ 400) (he : checkM m = 0) (hf : (readM s).2.2 ≠ 0) (w : World) (hm : Mx w) :
    Calls Tryd.prog 6 #[.agg m.cs, .string ⟨s.toArray⟩, .int .i64 cut] w fun e w' => e = .returned (.bool true) ∧ Below w.heap.size w w' := by
  have O0 := Obj?.new w m.cs 25
  have hB0 := below_al (Below.refl _ w) (.cells m.cs 25 (0, 0))
  have HM := Lib.hid (hm.below hB0 hm.1)
  have HMW := Lib.hid hm
  have HB0 := Lib.hid hB0
  have HO0 := Lib.hid O0
  have HL := Lib.hid lives22
  have HG := Lib.hid (fun w => lightmsg_any m w)
  clear hm hB0 O0
  have hnd := light_len h
  rw [h] at HG
  clear h
  have HBy := Lib.hid (fun w hm => msbytes_any m (by omega) (by omega) w hm)
  have HCk := Lib.hid (check_any m (by omega) (by omega))
  unfold CheckSaid at HCk
  have HRs := Lib.hid (msread_any s (by omega))
  unfold ReadIs at HRs
  have HR1 := Lib.hid (msread_any ((bytesM m).1 ++ s) (by have := bytesM_len m; simp; omega))
  rw [readM_bytes he s] at HR1
  unfold ReadIs at HR1
  have hne := bytesM_pos he
  obtain ⟨j, hj⟩ : ∃ j : Nat, (j : Int) = cut % ((bytesM m).1.length : Int) := ⟨(cut % ((bytesM m).1.length : Int)).toNat, Int.toNat_of_nonneg (Int.emod_nonneg _ (by omega))⟩
  have hjl : j < (bytesM m).1.length := by have := Int.emod_lt_of_pos cut (show (0 : Int) < ((bytesM m).1.length : Int) by omega); omega
  have HR2 := Lib.hid (msread_any ((bytesM m).1.take j) (by have := bytesM_len m; simp; omega))
  rw [readM_cut he j hjl] at HR2
  unfold ReadIs at HR2
  have HPk := Lib.hid (fun w => by have := pick_any cut ((bytesM m).1.length : Int) (by omega) (by have := bytesM_len m; omega) w; rw [← hj] at this; exact this)
  have hbl := bytesM_len m
  obtain ⟨B, hB⟩ : ∃ B, B = (bytesM m).1 := ⟨_, rfl⟩
  have hBe : bytesM m = (B, 0) := by rw [hB, bytesM_ok he]
  rw [hBe] at HBy
  rw [← hB] at HR1 HR2 HPk hjl hbl hne
  rw [he] at HCk
  have hcat : ByteArray.mk B.toArray ++ ByteArray.mk s.toArray = ByteArray.mk (B ++ s).toArray := ByteArray.mk_append_mk _ _
  have hcut : (ByteArray.mk B.toArray).extract 0 j = ByteArray.mk (B.take j).toArray := by rw [ByteArray.extract_mk]; simp
  have hcmp := fun w => neq_self m w
  clear hB hBe he hj
  obtain ⟨k1, k2⟩ := readM_no hf
  obtain ⟨X, n, E, hX⟩ : ∃ X n E, readM s = (X, n, E) := ⟨_, _, _, rfl⟩
  rw [hX] at HRs hf k1 k2
  simp only at HRs hf k1 k2
  subst k1 k2
  have dE : (E != 0) = true := by simpa using hf
  have hcz := eql_zero
  clear hX hf
  clear hnd
  unfold Ms.cs at HBy HCk HR1 hcmp HRs
  unfold ms0 Ms.bare Ms.cs fl0 at HR2
  dsimp only at HR2
  unfold ms0 Ms.bare fl0 at HRs
  dsimp only at HRs
  unfold Ms.cs at HO0 HB0 HM HG ⊢
  go_enter Tryd.func6, Tryd.ntmps6
  go_wp2_with fail
  refine (HL.out _ HM.out).mono ?_
  rintro r w1 ⟨rfl, hb⟩
  have O1 := HO0.out.below hb HO0.out.lt
  have HB1 := Lib.hid (HB0.out.trans (hb.mono HB0.out.size))
  have HO1 := Lib.hid O1
  have hld1 := load_msg (m := m) O1
  clear hb O1
  go_wp2_with fail
  refine (HG.out _).mono ?_
  rintro r w2 ⟨rfl, hb⟩
  clear hld1
  have O2 := HO1.out.below hb HO1.out.lt
  have HB2 := Lib.hid (HB1.out.trans (hb.mono HB1.out.size))
  have HO2 := Lib.hid O2
  have hld2 := load_msg (m := m) O2
  clear hb O2
  go_wp2_with fail
  refine (HBy.out _ (HMW.out.below HB2.out HMW.out.1)).mono ?_
  rintro r w3 ⟨rfl, hb⟩
  clear hld2
  have O3 := HO2.out.below hb HO2.out.lt
  have HB3 := Lib.hid (HB2.out.trans (hb.mono HB2.out.size))
  have HO3 := Lib.hid O3
  have hld3 := load_msg (m := m) O3
  clear hb O3
  go_wp2_with fail
  refine (HCk.out _ (HMW.out.below HB3.out HMW.out.1)).mono ?_
  rintro r w4 ⟨rfl, hb⟩
  clear hld3
  have O4 := HO3.out.below hb HO3.out.lt
  have HB4 := Lib.hid (HB3.out.trans (hb.mono HB3.out.size))
  have HO4 := Lib.hid O4
  have hld4 := load_msg (m := m) O4
  clear hb O4
  go_wp2_with fail
  refine (HR1.out _ (HMW.out.below HB4.out HMW.out.1)).mono ?_
  rintro r w5 ⟨rfl, hb⟩
  clear hld4
  have O5 := HO4.out.below hb HO4.out.lt
  have HB5 := Lib.hid (HB4.out.trans (hb.mono HB4.out.size))
  have HO5 := Lib.hid O5
  have hld5 := load_msg (m := m) O5
  clear hb O5
  have hst5 := store_new w5 m
  have HB6 := Lib.hid (HB5.out.alloc HB5.out.size (.cells m.cs 25 (0, 0)))
  have HN6 := Lib.hid (Obj?.new w5 m.cs 25)
  have HO6 := Lib.hid (HO5.out.alloc (.cells m.cs 25 (0, 0)))
  unfold Ms.cs at hst5 HB6 HN6 HO6
  go_wp2_with fail
  refine (HPk.out _).mono ?_
  rintro r w6 ⟨rfl, hw6⟩
  subst hw6
  go_wp2_with fail
  refine (HR2.out _ (HMW.out.below HB6.out HMW.out.1)).mono ?_
  rintro r w7 ⟨rfl, hb⟩
  clear hst5 hld5
  have N7 := HN6.out.below hb HN6.out.lt
  have O7 := HO6.out.below hb HO6.out.lt
  have HB7 := Lib.hid (HB6.out.trans (hb.mono HB6.out.size))
  have HO7 := Lib.hid O7
  clear hb O7
  have hst7 := store_new w7 ms0
  unfold ms0 Ms.bare Ms.cs fl0 at hst7
  dsimp only at hst7
  have HB8 := Lib.hid (HB7.out.alloc HB7.out.size (.cells #[.int .i64 0, .bool false, .int .i64 0, .bool false, .bool false, .bool false, .int .i64 0, .int .i64 0, .int .i64 0, .int .i64 0, .bool false, .int .i64 0, .int .i64 0, .int .i64 0, .string ⟨#[]⟩, .string ⟨#[]⟩] 25 (0, 0)))
  have HO8 := Lib.hid (HO7.out.alloc (.cells #[.int .i64 0, .bool false, .int .i64 0, .bool false, .bool false, .bool false, .int .i64 0, .int .i64 0, .int .i64 0, .int .i64 0, .bool false, .int .i64 0, .int .i64 0, .int .i64 0, .string ⟨#[]⟩, .string ⟨#[]⟩] 25 (0, 0)))
  have hld8 := load_msg (m := m) HO8.out
  have hln8 := load_msg (m := m) (N7.alloc (.cells #[.int .i64 0, .bool false, .int .i64 0, .bool false, .bool false, .bool false, .int .i64 0, .int .i64 0, .int .i64 0, .int .i64 0, .bool false, .int .i64 0, .int .i64 0, .int .i64 0, .string ⟨#[]⟩, .string ⟨#[]⟩] 25 (0, 0)))
  clear N7
  go_wp2_with fail
  refine (HRs.out _ (HMW.out.below HB8.out HMW.out.1)).mono ?_
  rintro r w9 ⟨rfl, hb⟩
  clear hst7 hld8 hln8 hcmp
  have O9 := HO8.out.below hb HO8.out.lt
  have HB9 := Lib.hid (HB8.out.trans (hb.mono HB8.out.size))
  have HO9 := Lib.hid O9
  clear hb O9
  have hst9 := store_new w9 ms0
  unfold ms0 Ms.bare Ms.cs fl0 at hst9
  dsimp only at hst9
  have HB10 := Lib.hid (HB9.out.alloc HB9.out.size (.cells #[.int .i64 0, .bool false, .int .i64 0, .bool false, .bool false, .bool false, .int .i64 0, .int .i64 0, .int .i64 0, .int .i64 0, .bool false, .int .i64 0, .int .i64 0, .int .i64 0, .string ⟨#[]⟩, .string ⟨#[]⟩] 25 (0, 0)))
  have hldz := load_msg (m := ms0) (Obj?.new w9 ms0.cs 25)
  unfold ms0 Ms.bare Ms.cs fl0 at hldz
  dsimp only at hldz
  go_wp2
  go_ret
  exact ⟨rfl, HB10.out⟩
set_option maxRecDepth 100000 in
set_option maxHeartbeats 3200000 in
theorem snmsgBack_no_got (m : Ms) (s : List UInt8) (cut : Int) (h : lightM m = true) (hs : s.length ≤ 400) (he : checkM m ≠ 0) (hf : (readM s).2.2 = 0) (w : World) (hm : Mx w) :
    Calls Tryd.prog 6 #[.agg m.cs, .string ⟨s.toArray⟩, .int .i64 cut] w fun e w' => e = .returned (.bool true) ∧ Below w.heap.size w w' := by
  have O0 := Obj?.new w m.cs 25
  have hB0 := below_al (Below.refl _ w) (.cells m.cs 25 (0, 0))
  have HM := Lib.hid (hm.below hB0 hm.1)
  have HMW := Lib.hid hm
  have HB0 := Lib.hid hB0
  have HO0 := Lib.hid O0
  have HL := Lib.hid lives22
  have HG := Lib.hid (fun w => lightmsg_any m w)
  clear hm hB0 O0
  have hnd := light_len h
  rw [h] at HG
  clear h
  have HBy := Lib.hid (fun w hm => msbytes_any m (by omega) (by omega) w hm)
  have HCk := Lib.hid (check_any m (by omega) (by omega))
  unfold CheckSaid at HCk
  have HRs := Lib.hid (msread_any s (by omega))
  unfold ReadIs at HRs
  obtain ⟨c, hc⟩ : ∃ c, c = checkM m := ⟨_, rfl⟩
  have dc : (c == 0) = false := by rw [hc]; simpa using he
  rw [bytesM_no he, ← hc] at HBy
  rw [← hc] at HCk
  clear hc he
  obtain ⟨k1, k2, k3, k4⟩ := readM_back hf
  obtain ⟨X, n, E, hX⟩ : ∃ X n E, readM s = (X, n, E) := ⟨_, _, _, rfl⟩
  rw [hX] at HRs hf k1 k2 k3 k4
  simp only at HRs hf k1 k2 k3 k4
  subst hf
  obtain ⟨i, rfl⟩ : ∃ i : Nat, n = i := ⟨n.toNat, by omega⟩
  rw [Int.toNat_natCast] at k4
  have k5 := Lib.hid (readM_small hX)
  have HBx := Lib.hid (fun w hm => msbytes_any X (by have := k5.out; omega) (by have := k5.out; omega) w hm)
  have HCx := Lib.hid (check_any X (by have := k5.out; omega) (by have := k5.out; omega))
  unfold CheckSaid at HCx
  rw [k4] at HBx
  rw [k1] at HCx
  have hil : i ≤ s.length := by omega
  have htk : (ByteArray.mk s.toArray).extract 0 i = ByteArray.mk (s.take i).toArray := by rw [ByteArray.extract_mk]; simp
  clear k1 k2 k3 k4 k5 hX
  clear hnd
  unfold Ms.cs at HBy HCk HBx HCx HRs
  unfold Ms.cs at HO0 HB0 HM HG ⊢
  go_enter Tryd.func6, Tryd.ntmps6
  go_wp2_with fail
  refine (HL.out _ HM.out).mono ?_
  rintro r w1 ⟨rfl, hb⟩
  have O1 := HO0.out.below hb HO0.out.lt
  have HB1 := Lib.hid (HB0.out.trans (hb.mono HB0.out.size))
  have HO1 := Lib.hid O1
  have hld1 := load_msg (m := m) O1
  clear hb O1
  go_wp2_with fail
  refine (HG.out _).mono ?_
  rintro r w2 ⟨rfl, hb⟩
  clear hld1
  have O2 := HO1.out.below hb HO1.out.lt
  have HB2 := Lib.hid (HB1.out.trans (hb.mono HB1.out.size))
  have HO2 := Lib.hid O2
  have hld2 := load_msg (m := m) O2
  clear hb O2
  go_wp2_with fail
  refine (HBy.out _ (HMW.out.below HB2.out HMW.out.1)).mono ?_
  rintro r w3 ⟨rfl, hb⟩
  clear hld2
  have O3 := HO2.out.below hb HO2.out.lt
  have HB3 := Lib.hid (HB2.out.trans (hb.mono HB2.out.size))
  have HO3 := Lib.hid O3
  have hld3 := load_msg (m := m) O3
  clear hb O3
  go_wp2_with fail
  refine (HCk.out _ (HMW.out.below HB3.out HMW.out.1)).mono ?_
  rintro r w4 ⟨rfl, hb⟩
  clear hld3
  have O4 := HO3.out.below hb HO3.out.lt
  have HB4 := Lib.hid (HB3.out.trans (hb.mono HB3.out.size))
  have HO4 := Lib.hid O4
  have hld4 := load_msg (m := m) O4
  clear hb O4
  go_wp2_with fail
  refine (HRs.out _ (HMW.out.below HB4.out HMW.out.1)).mono ?_
  rintro r w9 ⟨rfl, hb⟩
  clear hld4
  have O9 := HO4.out.below hb HO4.out.lt
  have HB9 := Lib.hid (HB4.out.trans (hb.mono HB4.out.size))
  have HO9 := Lib.hid O9
  clear hb O9
  have hst9 := store_new w9 X
  have HB10 := Lib.hid (HB9.out.alloc HB9.out.size (.cells X.cs 25 (0, 0)))
  have HX10 := Lib.hid (Obj?.new w9 X.cs 25)
  have hlx := load_msg (m := X) HX10.out
  unfold Ms.cs at hst9 HB10 HX10 hlx
  go_wp2_with fail
  refine (HBx.out _ (HMW.out.below HB10.out HMW.out.1)).mono ?_
  rintro r w11 ⟨rfl, hb⟩
  have X11 := HX10.out.below hb HX10.out.lt
  clear hlx hst9
  have hlx := load_msg (m := X) X11
  have HB11 := Lib.hid (HB10.out.trans (hb.mono HB10.out.size))
  clear hb X11
  go_wp2_with fail
  refine (HCx.out _ (HMW.out.below HB11.out HMW.out.1)).mono ?_
  rintro r w12 ⟨rfl, hb⟩
  have HB12 := Lib.hid (HB11.out.trans (hb.mono HB11.out.size))
  clear hb hlx
  go_wp2
  go_ret
  exact ⟨rfl, HB12.out⟩
set_option maxRecDepth 100000 in
set_option maxHeartbeats 3200000 in
theorem snmsgBack_no_lost (m : Ms) (s : List UInt8) (cut : Int) (h : lightM m = true) (hs : s.length ≤ 400) (he : checkM m ≠ 0) (hf : (readM s).2.2 ≠ 0) (w : World) (hm : Mx w) :
    Calls Tryd.prog 6 #[.agg m.cs, .string ⟨s.toArray⟩, .int .i64 cut] w fun e w' => e = .returned (.bool true) ∧ Below w.heap.size w w' := by
  have O0 := Obj?.new w m.cs 25
  have hB0 := below_al (Below.refl _ w) (.cells m.cs 25 (0, 0))
  have HM := Lib.hid (hm.below hB0 hm.1)
  have HMW := Lib.hid hm
  have HB0 := Lib.hid hB0
  have HO0 := Lib.hid O0
  have HL := Lib.hid lives22
  have HG := Lib.hid (fun w => lightmsg_any m w)
  clear hm hB0 O0
  have hnd := light_len h
  rw [h] at HG
  clear h
  have HBy := Lib.hid (fun w hm => msbytes_any m (by omega) (by omega) w hm)
  have HCk := Lib.hid (check_any m (by omega) (by omega))
  unfold CheckSaid at HCk
  have HRs := Lib.hid (msread_any s (by omega))
  unfold ReadIs at HRs
  obtain ⟨c, hc⟩ : ∃ c, c = checkM m := ⟨_, rfl⟩
  have dc : (c == 0) = false := by rw [hc]; simpa using he
  rw [bytesM_no he, ← hc] at HBy
  rw [← hc] at HCk
  clear hc he
  obtain ⟨k1, k2⟩ := readM_no hf
  obtain ⟨X, n, E, hX⟩ : ∃ X n E, readM s = (X, n, E) := ⟨_, _, _, rfl⟩
  rw [hX] at HRs hf k1 k2
  simp only at HRs hf k1 k2
  subst k1 k2
  have dE : (E != 0) = true := by simpa using hf
  have hcz := eql_zero
  clear hX hf
  clear hnd
  unfold Ms.cs at HBy HCk HRs
  unfold ms0 Ms.bare fl0 at HRs
  dsimp only at HRs
  unfold Ms.cs at HO0 HB0 HM HG ⊢
  go_enter Tryd.func6, Tryd.ntmps6
  go_wp2_with fail
  refine (HL.out _ HM.out).mono ?_
  rintro r w1 ⟨rfl, hb⟩
  have O1 := HO0.out.below hb HO0.out.lt
  have HB1 := Lib.hid (HB0.out.trans (hb.mono HB0.out.size))
  have HO1 := Lib.hid O1
  have hld1 := load_msg (m := m) O1
  clear hb O1
  go_wp2_with fail
  refine (HG.out _).mono ?_
  rintro r w2 ⟨rfl, hb⟩
  clear hld1
  have O2 := HO1.out.below hb HO1.out.lt
  have HB2 := Lib.hid (HB1.out.trans (hb.mono HB1.out.size))
  have HO2 := Lib.hid O2
  have hld2 := load_msg (m := m) O2
  clear hb O2
  go_wp2_with fail
  refine (HBy.out _ (HMW.out.below HB2.out HMW.out.1)).mono ?_
  rintro r w3 ⟨rfl, hb⟩
  clear hld2
  have O3 := HO2.out.below hb HO2.out.lt
  have HB3 := Lib.hid (HB2.out.trans (hb.mono HB2.out.size))
  have HO3 := Lib.hid O3
  have hld3 := load_msg (m := m) O3
  clear hb O3
  go_wp2_with fail
  refine (HCk.out _ (HMW.out.below HB3.out HMW.out.1)).mono ?_
  rintro r w4 ⟨rfl, hb⟩
  clear hld3
  have O4 := HO3.out.below hb HO3.out.lt
  have HB4 := Lib.hid (HB3.out.trans (hb.mono HB3.out.size))
  have HO4 := Lib.hid O4
  have hld4 := load_msg (m := m) O4
  clear hb O4
  go_wp2_with fail
  refine (HRs.out _ (HMW.out.below HB4.out HMW.out.1)).mono ?_
  rintro r w9 ⟨rfl, hb⟩
  clear hld4
  have O9 := HO4.out.below hb HO4.out.lt
  have HB9 := Lib.hid (HB4.out.trans (hb.mono HB4.out.size))
  have HO9 := Lib.hid O9
  clear hb O9
  have hst9 := store_new w9 ms0
  unfold ms0 Ms.bare Ms.cs fl0 at hst9
  dsimp only at hst9
  have HB10 := Lib.hid (HB9.out.alloc HB9.out.size (.cells #[.int .i64 0, .bool false, .int .i64 0, .bool false, .bool false, .bool false, .int .i64 0, .int .i64 0, .int .i64 0, .int .i64 0, .bool false, .int .i64 0, .int .i64 0, .int .i64 0, .string ⟨#[]⟩, .string ⟨#[]⟩] 25 (0, 0)))
  have hldz := load_msg (m := ms0) (Obj?.new w9 ms0.cs 25)
  unfold ms0 Ms.bare Ms.cs fl0 at hldz
  dsimp only at hldz
  go_wp2
  go_ret
  exact ⟨rfl, HB10.out⟩
theorem snmsgBack_walk (m : Ms) (s : List UInt8) (cut : Int)  (w : World) (hm : Mx w) :
    Calls Tryd.prog 6 #[.agg m.cs, .string ⟨s.toArray⟩, .int .i64 cut] w fun e w' => e = .returned (.bool true) ∧ Below w.heap.size w w' := by
  by_cases h : lightM m = false ∨ 400 < s.length
  · exact snmsgBack_heavy m s cut h w hm
  have h1 : lightM m = true := by
    cases hl : lightM m with
    | true => rfl
    | false => exact (h (.inl hl)).elim
  have h2 : s.length ≤ 400 := by
    rcases Nat.lt_or_ge 400 s.length with h3 | h3
    · exact (h (.inr h3)).elim
    · exact h3
  by_cases he : checkM m = 0 <;> by_cases hf : (readM s).2.2 = 0
  · exact snmsgBack_ok_got m s cut h1 h2 he hf w hm
  · exact snmsgBack_ok_lost m s cut h1 h2 he hf w hm
  · exact snmsgBack_no_got m s cut h1 h2 he hf w hm
  · exact snmsgBack_no_lost m s cut h1 h2 he hf w hm
end Go.Proofs.YtbacnaplpfmpnaaDoor
namespace Go.Proofs.YtbacnaplpfmpnaaDoor
def Calm (Q : Exit → Act → World → Prop) : Exit → Act → World → Prop
  | .panic _, _, _ => False
  | e, a, w => Q e a w
theorem Calm.le {Q : Exit → Act → World → Prop} : ∀ e a w, Calm Q e a w → Q e a w := by
  intro e a w h
  cases e <;> first | exact h | exact h.elim
theorem wp_hide {P : Program} {c : Code} {Q : Exit → Act → World → Prop} {a : Act} {w : World} (h : ∀ Q' : Exit → Act → World → Prop, (∀ e a w, Q e a w → Q' e a w) → Code.wp P c (Calm Q') a w) : Code.wp P c Q a w :=
  wp_mono (h Q (fun _ _ _ q => q)) Calm.le
theorem then_le {K : Act → World → Prop} {Q Q' : Exit → Act → World → Prop} (h : ∀ e a w, Q e a w → Q' e a w) : ∀ e a w, Exit.then K Q e a w → Exit.then K Q' e a w := by
  intro e a w q
  cases e <;> first | exact q | exact h _ _ _ q
theorem wp_hide_then {P : Program} {c : Code} {K : Act → World → Prop} {Q : Exit → Act → World → Prop} {a : Act} {w : World} (h : ∀ Q' : Exit → Act → World → Prop, (∀ e a w, Q e a w → Q' e a w) → Code.wp P c (Exit.then K (Calm Q')) a w) : Code.wp P c (Exit.then K Q) a w :=
  wp_mono (h Q (fun _ _ _ q => q)) (then_le Calm.le)
end Go.Proofs.YtbacnaplpfmpnaaDoor
