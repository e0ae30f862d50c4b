/- polyglotref22: numbers, its last parts. polyglotref22: numbers, joined. -/
import Derived.Test.YtbacnaplpfmpnaaGreatDoorRfD
import Derived.Deep.CutRange
import Derived.Test.YtbacnaplpfmpnaaGreatDoorRfE
namespace Go.Proofs.YtbacnaplpfmpnaaGreatDoor
open Go.RowKit
set_option linter.unusedVariables false
set_option linter.unusedSimpArgs false
attribute [local go_sem ↓] load_Msg store_Msg
attribute [local irreducible] rowSem rowStore

set_option maxRecDepth 100000 in
set_option maxHeartbeats 3200000 in
theorem rnums_tABB (m : Ms) (hk : kindM m.ty = true) (hmb : midBad m = false) (hf1 : fitB m.gw 255 (hasR m 3) = true) (hf2 : fitB m.rad 255 (hasR m 4) = true) (hf3 : fitB m.code 255 (hasR m 5) = true) (hf4 : fitB m.time 65535 (hasR m 6) = true) (hf5 : fitB m.tid 65535 (hasR m 7) = true) (hf6 : fitB m.mid 65535 (hasR m 8) = true) (h9 : hasR m 9 = true) (h10 : hasR m 10 = false) (g10 : m.data.isEmpty = true) (h24 : (m.ty == 24) = false) (ht : m.timed = false) (w : World) : Calls Tryz.prog 71 #[.agg m.cs] w fun e w' => e = .returned (.bool true) ∧ Below w.heap.size w w' := by
  unfold hasR at hf1 hf2 hf3 hf4 hf5 hf6
  have H24 := Lib.hid h24
  clear h24
  have HTM := Lib.hid ht
  clear ht
  have O0 := Obj?.new w m.cs 25
  have HO0 := Lib.hid O0
  have HB0 := Lib.hid (below_al (Below.refl _ w) (.cells m.cs 25 (0, 0)))
  have HP := Lib.hid (fun w => rparts_any m hk w)
  have hld0 := load_msg (m := m) O0
  obtain ⟨Z, hZ⟩ : ∃ Z, Z = (m.ty == 12 && decide (m.fl.q < 1)) := ⟨_, rfl⟩
  obtain ⟨ANY, hA⟩ : ∃ ANY, ANY = (m.ty == 11 || m.ty == 13 || m.ty == 19) := ⟨_, rfl⟩
  have hMB : midBad m = (hasR m 8 && !ANY && ((m.mid == 0) != Z)) := by unfold midBad; rw [hZ, hA]
  have HZ := Lib.hid hZ
  have HAN := Lib.hid hA
  have HMB := Lib.hid (hmb.symm.trans hMB)
  unfold Ms.cs at HO0 HB0 HP hld0 ⊢
  clear hZ hA O0 hk hmb hMB
  go_enter Tryz.func71, Tryz.ntmps71
  refine wp_hide fun Q1 hQ1 => ?_
  have HQ1 := Lib.hid hQ1
  clear hQ1
  go_wp2_with fail
  refine (HP.out _).mono ?_
  rintro r w1 ⟨v, rfl, hI, hb⟩
  have O1 := HO0.out.below hb HO0.out.lt
  have HB1 := Lib.hid (HB0.out.trans (hb.mono HB0.out.size))
  have kc := O1.cells
  clear hld0 hb O1
  have HH := Lib.hid (fun p n => rhas22_any (hI.below (below_drewN (Below.refl _ w1) n)) p)
  have HF := Lib.hid rfits_any
  clear hI
  go_upto_region 2 with fail
  go_cut [4] from 8 to 16 (fun (z : Value) (wx : World) => z = .bool Z ∧ wx = w1)
  case first =>
    by_cases h12 : m.ty = 12
    · have d1 : (m.ty == 12) = true := by simpa using h12
      clear h12
      by_cases hq : m.fl.q < 1
      all_goals
        go_wp2_with fail
        go_meet
        exact ⟨congrArg Value.bool (by rw [HZ.out, d1]; first | rfl | (simp; done) | (simp; omega)), rfl⟩
    · have d1 : (m.ty == 12) = false := by simpa using h12
      clear h12
      go_wp2_with fail
      go_meet
      exact ⟨congrArg Value.bool (by rw [HZ.out, d1]; rfl), rfl⟩
  case rest =>
  obtain ⟨rfl, rfl⟩ := hcut
  go_upto_region 3 with fail
  go_cut [5] from 17 to 29 (fun (z : Value) (wx : World) => z = .bool ANY ∧ wx = wc)
  case first =>
    cases d1 : (m.ty == 11)
    · cases d2 : (m.ty == 13)
      · cases d3 : (m.ty == 19)
        all_goals
          go_wp2_with fail
          go_meet
          exact ⟨congrArg Value.bool (by rw [HAN.out, d1, d2, d3]; rfl), rfl⟩
      · go_wp2_with fail
        go_meet
        exact ⟨congrArg Value.bool (by rw [HAN.out, d1, d2]; rfl), rfl⟩
    · go_wp2_with fail
      go_meet
      exact ⟨congrArg Value.bool (by rw [HAN.out, d1]; rfl), rfl⟩
  case rest =>
  obtain ⟨rfl, rfl⟩ := hcut
  obtain ⟨b8, hb8⟩ : ∃ b8, b8 = hasR m 8 := ⟨_, rfl⟩
  have HH8 := Lib.hid (HH.out 8 0)
  unfold hasR at HMB hb8
  rw [← hb8] at HMB HH8
  clear hb8
  go_upto_region 4 with fail
  go_cut [42] from 30 to 41 (fun (z : Value) (wx : World) => z = .bool false ∧ wx = wc)
  case first =>
    go_wp2_with fail
    refine HH8.out.mono ?_
    rintro r w' ⟨rfl, hw⟩
    subst hw
    cases b8
    · go_wp2_with fail
      go_meet
      exact ⟨congrArg Value.bool (by first | rfl | (rw [HMB.out]; rfl) | (have h := HMB.out; simp at h) | (rw [HMB.out]; simp)), rfl⟩
    · cases ANY
      · go_wp2_with fail
        go_meet
        exact ⟨congrArg Value.bool (by first | rfl | (rw [HMB.out]; rfl) | (have h := HMB.out; simp at h) | (rw [HMB.out]; simp)), rfl⟩
      · go_wp2_with fail
        go_meet
        exact ⟨congrArg Value.bool (by first | rfl | (rw [HMB.out]; rfl) | (have h := HMB.out; simp at h) | (rw [HMB.out]; simp)), rfl⟩
  case rest =>
  obtain ⟨rfl, rfl⟩ := hcut
  obtain ⟨b3, hb3⟩ : ∃ b, b = (partsM m).contains 3 := ⟨_, rfl⟩
  have HH3x := Lib.hid (HH.out 3)
  rw [← hb3] at HH3x hf1
  have F1 := Lib.hid (HF.out m.gw 255 b3)
  rw [hf1] at F1
  clear hb3 hf1
  obtain ⟨b4, hb4⟩ : ∃ b, b = (partsM m).contains 4 := ⟨_, rfl⟩
  have HH4x := Lib.hid (HH.out 4)
  rw [← hb4] at HH4x hf2
  have F2 := Lib.hid (HF.out m.rad 255 b4)
  rw [hf2] at F2
  clear hb4 hf2
  obtain ⟨b5, hb5⟩ : ∃ b, b = (partsM m).contains 5 := ⟨_, rfl⟩
  have HH5x := Lib.hid (HH.out 5)
  rw [← hb5] at HH5x hf3
  have F3 := Lib.hid (HF.out m.code 255 b5)
  rw [hf3] at F3
  clear hb5 hf3
  obtain ⟨b6, hb6⟩ : ∃ b, b = (partsM m).contains 6 := ⟨_, rfl⟩
  have HH6x := Lib.hid (HH.out 6)
  rw [← hb6] at HH6x hf4
  have F4 := Lib.hid (HF.out m.time 65535 b6)
  rw [hf4] at F4
  clear hb6 hf4
  obtain ⟨b7, hb7⟩ : ∃ b, b = (partsM m).contains 7 := ⟨_, rfl⟩
  have HH7x := Lib.hid (HH.out 7)
  rw [← hb7] at HH7x hf5
  have F5 := Lib.hid (HF.out m.tid 65535 b7)
  rw [hf5] at F5
  clear hb7 hf5
  obtain ⟨b8, hb8⟩ : ∃ b, b = (partsM m).contains 8 := ⟨_, rfl⟩
  have HH8x := Lib.hid (HH.out 8)
  rw [← hb8] at HH8x hf6
  have F6 := Lib.hid (HF.out m.mid 65535 b8)
  rw [hf6] at F6
  clear hb8 hf6
  have HH9x := Lib.hid (HH.out 9)
  unfold hasR at h9
  rw [h9] at HH9x
  clear h9
  have HH10x := Lib.hid (HH.out 10)
  unfold hasR at h10
  rw [h10] at HH10x
  clear h10
  have g10b : (m.data == []) = true := by rw [← g10]; cases m.data <;> rfl
  have h24 := H24.out
  have ht := HTM.out
  go_upto_region 6 with fail
  dsimp only [List.append]
  go_big_quiet ((first | (go_at_call 104; with_reducible exact quiet_left (HH3x.out _)) | (go_at_call 105; with_reducible exact quiet_left (F1.out _)) | (go_at_call 104; with_reducible exact quiet_left (HH4x.out _)) | (go_at_call 105; with_reducible exact quiet_left (F2.out _)) | (go_at_call 104; with_reducible exact quiet_left (HH5x.out _)) | (go_at_call 105; with_reducible exact quiet_left (F3.out _)) | (go_at_call 104; with_reducible exact quiet_left (HH6x.out _)) | (go_at_call 105; with_reducible exact quiet_left (F4.out _)) | (go_at_call 104; with_reducible exact quiet_left (HH7x.out _)) | (go_at_call 105; with_reducible exact quiet_left (F5.out _)) | (go_at_call 104; with_reducible exact quiet_left (HH8x.out _)) | (go_at_call 105; with_reducible exact quiet_left (F6.out _)) | (go_at_call 104; with_reducible exact quiet_left (HH9x.out _)) | (go_at_call 104; with_reducible exact quiet_left (HH10x.out _))))
  go_wp2
  refine HQ1.out _ _ _ ?_
  go_ret
  exact ⟨rfl, below_drewN HB1.out _⟩
set_option maxRecDepth 100000 in
set_option maxHeartbeats 3200000 in
theorem rnums_tABF (m : Ms) (hk : kindM m.ty = true) (hmb : midBad m = false) (hf1 : fitB m.gw 255 (hasR m 3) = true) (hf2 : fitB m.rad 255 (hasR m 4) = true) (hf3 : fitB m.code 255 (hasR m 5) = true) (hf4 : fitB m.time 65535 (hasR m 6) = true) (hf5 : fitB m.tid 65535 (hasR m 7) = true) (hf6 : fitB m.mid 65535 (hasR m 8) = true) (h9 : hasR m 9 = true) (h10 : hasR m 10 = false) (g10 : m.data.isEmpty = true) (h24 : (m.ty == 24) = false) (ht : m.timed = true) (w : World) : Calls Tryz.prog 71 #[.agg m.cs] w fun e w' => e = .returned (.bool false) ∧ Below w.heap.size w w' := by
  unfold hasR at hf1 hf2 hf3 hf4 hf5 hf6
  have H24 := Lib.hid h24
  clear h24
  have HTM := Lib.hid ht
  clear ht
  have O0 := Obj?.new w m.cs 25
  have HO0 := Lib.hid O0
  have HB0 := Lib.hid (below_al (Below.refl _ w) (.cells m.cs 25 (0, 0)))
  have HP := Lib.hid (fun w => rparts_any m hk w)
  have hld0 := load_msg (m := m) O0
  obtain ⟨Z, hZ⟩ : ∃ Z, Z = (m.ty == 12 && decide (m.fl.q < 1)) := ⟨_, rfl⟩
  obtain ⟨ANY, hA⟩ : ∃ ANY, ANY = (m.ty == 11 || m.ty == 13 || m.ty == 19) := ⟨_, rfl⟩
  have hMB : midBad m = (hasR m 8 && !ANY && ((m.mid == 0) != Z)) := by unfold midBad; rw [hZ, hA]
  have HZ := Lib.hid hZ
  have HAN := Lib.hid hA
  have HMB := Lib.hid (hmb.symm.trans hMB)
  unfold Ms.cs at HO0 HB0 HP hld0 ⊢
  clear hZ hA O0 hk hmb hMB
  go_enter Tryz.func71, Tryz.ntmps71
  refine wp_hide fun Q1 hQ1 => ?_
  have HQ1 := Lib.hid hQ1
  clear hQ1
  go_wp2_with fail
  refine (HP.out _).mono ?_
  rintro r w1 ⟨v, rfl, hI, hb⟩
  have O1 := HO0.out.below hb HO0.out.lt
  have HB1 := Lib.hid (HB0.out.trans (hb.mono HB0.out.size))
  have kc := O1.cells
  clear hld0 hb O1
  have HH := Lib.hid (fun p n => rhas22_any (hI.below (below_drewN (Below.refl _ w1) n)) p)
  have HF := Lib.hid rfits_any
  clear hI
  go_upto_region 2 with fail
  go_cut [4] from 8 to 16 (fun (z : Value) (wx : World) => z = .bool Z ∧ wx = w1)
  case first =>
    by_cases h12 : m.ty = 12
    · have d1 : (m.ty == 12) = true := by simpa using h12
      clear h12
      by_cases hq : m.fl.q < 1
      all_goals
        go_wp2_with fail
        go_meet
        exact ⟨congrArg Value.bool (by rw [HZ.out, d1]; first | rfl | (simp; done) | (simp; omega)), rfl⟩
    · have d1 : (m.ty == 12) = false := by simpa using h12
      clear h12
      go_wp2_with fail
      go_meet
      exact ⟨congrArg Value.bool (by rw [HZ.out, d1]; rfl), rfl⟩
  case rest =>
  obtain ⟨rfl, rfl⟩ := hcut
  go_upto_region 3 with fail
  go_cut [5] from 17 to 29 (fun (z : Value) (wx : World) => z = .bool ANY ∧ wx = wc)
  case first =>
    cases d1 : (m.ty == 11)
    · cases d2 : (m.ty == 13)
      · cases d3 : (m.ty == 19)
        all_goals
          go_wp2_with fail
          go_meet
          exact ⟨congrArg Value.bool (by rw [HAN.out, d1, d2, d3]; rfl), rfl⟩
      · go_wp2_with fail
        go_meet
        exact ⟨congrArg Value.bool (by rw [HAN.out, d1, d2]; rfl), rfl⟩
    · go_wp2_with fail
      go_meet
      exact ⟨congrArg Value.bool (by rw [HAN.out, d1]; rfl), rfl⟩
  case rest =>
  obtain ⟨rfl, rfl⟩ := hcut
  obtain ⟨b8, hb8⟩ : ∃ b8, b8 = hasR m 8 := ⟨_, rfl⟩
  have HH8 := Lib.hid (HH.out 8 0)
  unfold hasR at HMB hb8
  rw [← hb8] at HMB HH8
  clear hb8
  go_upto_region 4 with fail
  go_cut [42] from 30 to 41 (fun (z : Value) (wx : World) => z = .bool false ∧ wx = wc)
  case first =>
    go_wp2_with fail
    refine HH8.out.mono ?_
    rintro r w' ⟨rfl, hw⟩
    subst hw
    cases b8
    · go_wp2_with fail
      go_meet
      exact ⟨congrArg Value.bool (by first | rfl | (rw [HMB.out]; rfl) | (have h := HMB.out; simp at h) | (rw [HMB.out]; simp)), rfl⟩
    · cases ANY
      · go_wp2_with fail
        go_meet
        exact ⟨congrArg Value.bool (by first | rfl | (rw [HMB.out]; rfl) | (have h := HMB.out; simp at h) | (rw [HMB.out]; simp)), rfl⟩
      · go_wp2_with fail
        go_meet
        exact ⟨congrArg Value.bool (by first | rfl | (rw [HMB.out]; rfl) | (have h := HMB.out; simp at h) | (rw [HMB.out]; simp)), rfl⟩
  case rest =>
  obtain ⟨rfl, rfl⟩ := hcut
  obtain ⟨b3, hb3⟩ : ∃ b, b = (partsM m).contains 3 := ⟨_, rfl⟩
  have HH3x := Lib.hid (HH.out 3)
  rw [← hb3] at HH3x hf1
  have F1 := Lib.hid (HF.out m.gw 255 b3)
  rw [hf1] at F1
  clear hb3 hf1
  obtain ⟨b4, hb4⟩ : ∃ b, b = (partsM m).contains 4 := ⟨_, rfl⟩
  have HH4x := Lib.hid (HH.out 4)
  rw [← hb4] at HH4x hf2
  have F2 := Lib.hid (HF.out m.rad 255 b4)
  rw [hf2] at F2
  clear hb4 hf2
  obtain ⟨b5, hb5⟩ : ∃ b, b = (partsM m).contains 5 := ⟨_, rfl⟩
  have HH5x := Lib.hid (HH.out 5)
  rw [← hb5] at HH5x hf3
  have F3 := Lib.hid (HF.out m.code 255 b5)
  rw [hf3] at F3
  clear hb5 hf3
  obtain ⟨b6, hb6⟩ : ∃ b, b = (partsM m).contains 6 := ⟨_, rfl⟩
  have HH6x := Lib.hid (HH.out 6)
  rw [← hb6] at HH6x hf4
  have F4 := Lib.hid (HF.out m.time 65535 b6)
  rw [hf4] at F4
  clear hb6 hf4
  obtain ⟨b7, hb7⟩ : ∃ b, b = (partsM m).contains 7 := ⟨_, rfl⟩
  have HH7x := Lib.hid (HH.out 7)
  rw [← hb7] at HH7x hf5
  have F5 := Lib.hid (HF.out m.tid 65535 b7)
  rw [hf5] at F5
  clear hb7 hf5
  obtain ⟨b8, hb8⟩ : ∃ b, b = (partsM m).contains 8 := ⟨_, rfl⟩
  have HH8x := Lib.hid (HH.out 8)
  rw [← hb8] at HH8x hf6
  have F6 := Lib.hid (HF.out m.mid 65535 b8)
  rw [hf6] at F6
  clear hb8 hf6
  have HH9x := Lib.hid (HH.out 9)
  unfold hasR at h9
  rw [h9] at HH9x
  clear h9
  have HH10x := Lib.hid (HH.out 10)
  unfold hasR at h10
  rw [h10] at HH10x
  clear h10
  have g10b : (m.data == []) = true := by rw [← g10]; cases m.data <;> rfl
  have h24 := H24.out
  have ht := HTM.out
  go_upto_region 6 with fail
  dsimp only [List.append]
  go_big_quiet ((first | (go_at_call 104; with_reducible exact quiet_left (HH3x.out _)) | (go_at_call 105; with_reducible exact quiet_left (F1.out _)) | (go_at_call 104; with_reducible exact quiet_left (HH4x.out _)) | (go_at_call 105; with_reducible exact quiet_left (F2.out _)) | (go_at_call 104; with_reducible exact quiet_left (HH5x.out _)) | (go_at_call 105; with_reducible exact quiet_left (F3.out _)) | (go_at_call 104; with_reducible exact quiet_left (HH6x.out _)) | (go_at_call 105; with_reducible exact quiet_left (F4.out _)) | (go_at_call 104; with_reducible exact quiet_left (HH7x.out _)) | (go_at_call 105; with_reducible exact quiet_left (F5.out _)) | (go_at_call 104; with_reducible exact quiet_left (HH8x.out _)) | (go_at_call 105; with_reducible exact quiet_left (F6.out _)) | (go_at_call 104; with_reducible exact quiet_left (HH9x.out _)) | (go_at_call 104; with_reducible exact quiet_left (HH10x.out _))))
  go_wp2
  refine HQ1.out _ _ _ ?_
  go_ret
  exact ⟨rfl, below_drewN HB1.out _⟩
set_option maxRecDepth 100000 in
set_option maxHeartbeats 3200000 in
theorem rnums_tBAA (m : Ms) (hk : kindM m.ty = true) (hmb : midBad m = false) (hf1 : fitB m.gw 255 (hasR m 3) = true) (hf2 : fitB m.rad 255 (hasR m 4) = true) (hf3 : fitB m.code 255 (hasR m 5) = true) (hf4 : fitB m.time 65535 (hasR m 6) = true) (hf5 : fitB m.tid 65535 (hasR m 7) = true) (hf6 : fitB m.mid 65535 (hasR m 8) = true) (h9 : hasR m 9 = false) (g9 : m.name.isEmpty = true) (h10 : hasR m 10 = true) (h24 : (m.ty == 24) = true) (w : World) : Calls Tryz.prog 71 #[.agg m.cs] w fun e w' => e = .returned (.bool true) ∧ Below w.heap.size w w' := by
  unfold hasR at hf1 hf2 hf3 hf4 hf5 hf6
  have H24 := Lib.hid h24
  clear h24
  have O0 := Obj?.new w m.cs 25
  have HO0 := Lib.hid O0
  have HB0 := Lib.hid (below_al (Below.refl _ w) (.cells m.cs 25 (0, 0)))
  have HP := Lib.hid (fun w => rparts_any m hk w)
  have hld0 := load_msg (m := m) O0
  obtain ⟨Z, hZ⟩ : ∃ Z, Z = (m.ty == 12 && decide (m.fl.q < 1)) := ⟨_, rfl⟩
  obtain ⟨ANY, hA⟩ : ∃ ANY, ANY = (m.ty == 11 || m.ty == 13 || m.ty == 19) := ⟨_, rfl⟩
  have hMB : midBad m = (hasR m 8 && !ANY && ((m.mid == 0) != Z)) := by unfold midBad; rw [hZ, hA]
  have HZ := Lib.hid hZ
  have HAN := Lib.hid hA
  have HMB := Lib.hid (hmb.symm.trans hMB)
  unfold Ms.cs at HO0 HB0 HP hld0 ⊢
  clear hZ hA O0 hk hmb hMB
  go_enter Tryz.func71, Tryz.ntmps71
  refine wp_hide fun Q1 hQ1 => ?_
  have HQ1 := Lib.hid hQ1
  clear hQ1
  go_wp2_with fail
  refine (HP.out _).mono ?_
  rintro r w1 ⟨v, rfl, hI, hb⟩
  have O1 := HO0.out.below hb HO0.out.lt
  have HB1 := Lib.hid (HB0.out.trans (hb.mono HB0.out.size))
  have kc := O1.cells
  clear hld0 hb O1
  have HH := Lib.hid (fun p n => rhas22_any (hI.below (below_drewN (Below.refl _ w1) n)) p)
  have HF := Lib.hid rfits_any
  clear hI
  go_upto_region 2 with fail
  go_cut [4] from 8 to 16 (fun (z : Value) (wx : World) => z = .bool Z ∧ wx = w1)
  case first =>
    by_cases h12 : m.ty = 12
    · have d1 : (m.ty == 12) = true := by simpa using h12
      clear h12
      by_cases hq : m.fl.q < 1
      all_goals
        go_wp2_with fail
        go_meet
        exact ⟨congrArg Value.bool (by rw [HZ.out, d1]; first | rfl | (simp; done) | (simp; omega)), rfl⟩
    · have d1 : (m.ty == 12) = false := by simpa using h12
      clear h12
      go_wp2_with fail
      go_meet
      exact ⟨congrArg Value.bool (by rw [HZ.out, d1]; rfl), rfl⟩
  case rest =>
  obtain ⟨rfl, rfl⟩ := hcut
  go_upto_region 3 with fail
  go_cut [5] from 17 to 29 (fun (z : Value) (wx : World) => z = .bool ANY ∧ wx = wc)
  case first =>
    cases d1 : (m.ty == 11)
    · cases d2 : (m.ty == 13)
      · cases d3 : (m.ty == 19)
        all_goals
          go_wp2_with fail
          go_meet
          exact ⟨congrArg Value.bool (by rw [HAN.out, d1, d2, d3]; rfl), rfl⟩
      · go_wp2_with fail
        go_meet
        exact ⟨congrArg Value.bool (by rw [HAN.out, d1, d2]; rfl), rfl⟩
    · go_wp2_with fail
      go_meet
      exact ⟨congrArg Value.bool (by rw [HAN.out, d1]; rfl), rfl⟩
  case rest =>
  obtain ⟨rfl, rfl⟩ := hcut
  obtain ⟨b8, hb8⟩ : ∃ b8, b8 = hasR m 8 := ⟨_, rfl⟩
  have HH8 := Lib.hid (HH.out 8 0)
  unfold hasR at HMB hb8
  rw [← hb8] at HMB HH8
  clear hb8
  go_upto_region 4 with fail
  go_cut [42] from 30 to 41 (fun (z : Value) (wx : World) => z = .bool false ∧ wx = wc)
  case first =>
    go_wp2_with fail
    refine HH8.out.mono ?_
    rintro r w' ⟨rfl, hw⟩
    subst hw
    cases b8
    · go_wp2_with fail
      go_meet
      exact ⟨congrArg Value.bool (by first | rfl | (rw [HMB.out]; rfl) | (have h := HMB.out; simp at h) | (rw [HMB.out]; simp)), rfl⟩
    · cases ANY
      · go_wp2_with fail
        go_meet
        exact ⟨congrArg Value.bool (by first | rfl | (rw [HMB.out]; rfl) | (have h := HMB.out; simp at h) | (rw [HMB.out]; simp)), rfl⟩
      · go_wp2_with fail
        go_meet
        exact ⟨congrArg Value.bool (by first | rfl | (rw [HMB.out]; rfl) | (have h := HMB.out; simp at h) | (rw [HMB.out]; simp)), rfl⟩
  case rest =>
  obtain ⟨rfl, rfl⟩ := hcut
  obtain ⟨b3, hb3⟩ : ∃ b, b = (partsM m).contains 3 := ⟨_, rfl⟩
  have HH3x := Lib.hid (HH.out 3)
  rw [← hb3] at HH3x hf1
  have F1 := Lib.hid (HF.out m.gw 255 b3)
  rw [hf1] at F1
  clear hb3 hf1
  obtain ⟨b4, hb4⟩ : ∃ b, b = (partsM m).contains 4 := ⟨_, rfl⟩
  have HH4x := Lib.hid (HH.out 4)
  rw [← hb4] at HH4x hf2
  have F2 := Lib.hid (HF.out m.rad 255 b4)
  rw [hf2] at F2
  clear hb4 hf2
  obtain ⟨b5, hb5⟩ : ∃ b, b = (partsM m).contains 5 := ⟨_, rfl⟩
  have HH5x := Lib.hid (HH.out 5)
  rw [← hb5] at HH5x hf3
  have F3 := Lib.hid (HF.out m.code 255 b5)
  rw [hf3] at F3
  clear hb5 hf3
  obtain ⟨b6, hb6⟩ : ∃ b, b = (partsM m).contains 6 := ⟨_, rfl⟩
  have HH6x := Lib.hid (HH.out 6)
  rw [← hb6] at HH6x hf4
  have F4 := Lib.hid (HF.out m.time 65535 b6)
  rw [hf4] at F4
  clear hb6 hf4
  obtain ⟨b7, hb7⟩ : ∃ b, b = (partsM m).contains 7 := ⟨_, rfl⟩
  have HH7x := Lib.hid (HH.out 7)
  rw [← hb7] at HH7x hf5
  have F5 := Lib.hid (HF.out m.tid 65535 b7)
  rw [hf5] at F5
  clear hb7 hf5
  obtain ⟨b8, hb8⟩ : ∃ b, b = (partsM m).contains 8 := ⟨_, rfl⟩
  have HH8x := Lib.hid (HH.out 8)
  rw [← hb8] at HH8x hf6
  have F6 := Lib.hid (HF.out m.mid 65535 b8)
  rw [hf6] at F6
  clear hb8 hf6
  have HH9x := Lib.hid (HH.out 9)
  unfold hasR at h9
  rw [h9] at HH9x
  clear h9
  have g9b : (m.name == []) = true := by rw [← g9]; cases m.name <;> rfl
  have HH10x := Lib.hid (HH.out 10)
  unfold hasR at h10
  rw [h10] at HH10x
  clear h10
  have h24 := H24.out
  go_upto_region 6 with fail
  dsimp only [List.append]
  go_big_quiet ((first | (go_at_call 104; with_reducible exact quiet_left (HH3x.out _)) | (go_at_call 105; with_reducible exact quiet_left (F1.out _)) | (go_at_call 104; with_reducible exact quiet_left (HH4x.out _)) | (go_at_call 105; with_reducible exact quiet_left (F2.out _)) | (go_at_call 104; with_reducible exact quiet_left (HH5x.out _)) | (go_at_call 105; with_reducible exact quiet_left (F3.out _)) | (go_at_call 104; with_reducible exact quiet_left (HH6x.out _)) | (go_at_call 105; with_reducible exact quiet_left (F4.out _)) | (go_at_call 104; with_reducible exact quiet_left (HH7x.out _)) | (go_at_call 105; with_reducible exact quiet_left (F5.out _)) | (go_at_call 104; with_reducible exact quiet_left (HH8x.out _)) | (go_at_call 105; with_reducible exact quiet_left (F6.out _)) | (go_at_call 104; with_reducible exact quiet_left (HH9x.out _)) | (go_at_call 104; with_reducible exact quiet_left (HH10x.out _))))
  go_wp2
  refine HQ1.out _ _ _ ?_
  go_ret
  exact ⟨rfl, below_drewN HB1.out _⟩
set_option maxRecDepth 100000 in
set_option maxHeartbeats 3200000 in
theorem rnums_tBAB (m : Ms) (hk : kindM m.ty = true) (hmb : midBad m = false) (hf1 : fitB m.gw 255 (hasR m 3) = true) (hf2 : fitB m.rad 255 (hasR m 4) = true) (hf3 : fitB m.code 255 (hasR m 5) = true) (hf4 : fitB m.time 65535 (hasR m 6) = true) (hf5 : fitB m.tid 65535 (hasR m 7) = true) (hf6 : fitB m.mid 65535 (hasR m 8) = true) (h9 : hasR m 9 = false) (g9 : m.name.isEmpty = true) (h10 : hasR m 10 = true) (h24 : (m.ty == 24) = false) (ht : m.timed = false) (w : World) : Calls Tryz.prog 71 #[.agg m.cs] w fun e w' => e = .returned (.bool true) ∧ Below w.heap.size w w' := by
  unfold hasR at hf1 hf2 hf3 hf4 hf5 hf6
  have H24 := Lib.hid h24
  clear h24
  have HTM := Lib.hid ht
  clear ht
  have O0 := Obj?.new w m.cs 25
  have HO0 := Lib.hid O0
  have HB0 := Lib.hid (below_al (Below.refl _ w) (.cells m.cs 25 (0, 0)))
  have HP := Lib.hid (fun w => rparts_any m hk w)
  have hld0 := load_msg (m := m) O0
  obtain ⟨Z, hZ⟩ : ∃ Z, Z = (m.ty == 12 && decide (m.fl.q < 1)) := ⟨_, rfl⟩
  obtain ⟨ANY, hA⟩ : ∃ ANY, ANY = (m.ty == 11 || m.ty == 13 || m.ty == 19) := ⟨_, rfl⟩
  have hMB : midBad m = (hasR m 8 && !ANY && ((m.mid == 0) != Z)) := by unfold midBad; rw [hZ, hA]
  have HZ := Lib.hid hZ
  have HAN := Lib.hid hA
  have HMB := Lib.hid (hmb.symm.trans hMB)
  unfold Ms.cs at HO0 HB0 HP hld0 ⊢
  clear hZ hA O0 hk hmb hMB
  go_enter Tryz.func71, Tryz.ntmps71
  refine wp_hide fun Q1 hQ1 => ?_
  have HQ1 := Lib.hid hQ1
  clear hQ1
  go_wp2_with fail
  refine (HP.out _).mono ?_
  rintro r w1 ⟨v, rfl, hI, hb⟩
  have O1 := HO0.out.below hb HO0.out.lt
  have HB1 := Lib.hid (HB0.out.trans (hb.mono HB0.out.size))
  have kc := O1.cells
  clear hld0 hb O1
  have HH := Lib.hid (fun p n => rhas22_any (hI.below (below_drewN (Below.refl _ w1) n)) p)
  have HF := Lib.hid rfits_any
  clear hI
  go_upto_region 2 with fail
  go_cut [4] from 8 to 16 (fun (z : Value) (wx : World) => z = .bool Z ∧ wx = w1)
  case first =>
    by_cases h12 : m.ty = 12
    · have d1 : (m.ty == 12) = true := by simpa using h12
      clear h12
      by_cases hq : m.fl.q < 1
      all_goals
        go_wp2_with fail
        go_meet
        exact ⟨congrArg Value.bool (by rw [HZ.out, d1]; first | rfl | (simp; done) | (simp; omega)), rfl⟩
    · have d1 : (m.ty == 12) = false := by simpa using h12
      clear h12
      go_wp2_with fail
      go_meet
      exact ⟨congrArg Value.bool (by rw [HZ.out, d1]; rfl), rfl⟩
  case rest =>
  obtain ⟨rfl, rfl⟩ := hcut
  go_upto_region 3 with fail
  go_cut [5] from 17 to 29 (fun (z : Value) (wx : World) => z = .bool ANY ∧ wx = wc)
  case first =>
    cases d1 : (m.ty == 11)
    · cases d2 : (m.ty == 13)
      · cases d3 : (m.ty == 19)
        all_goals
          go_wp2_with fail
          go_meet
          exact ⟨congrArg Value.bool (by rw [HAN.out, d1, d2, d3]; rfl), rfl⟩
      · go_wp2_with fail
        go_meet
        exact ⟨congrArg Value.bool (by rw [HAN.out, d1, d2]; rfl), rfl⟩
    · go_wp2_with fail
      go_meet
      exact ⟨congrArg Value.bool (by rw [HAN.out, d1]; rfl), rfl⟩
  case rest =>
  obtain ⟨rfl, rfl⟩ := hcut
  obtain ⟨b8, hb8⟩ : ∃ b8, b8 = hasR m 8 := ⟨_, rfl⟩
  have HH8 := Lib.hid (HH.out 8 0)
  unfold hasR at HMB hb8
  rw [← hb8] at HMB HH8
  clear hb8
  go_upto_region 4 with fail
  go_cut [42] from 30 to 41 (fun (z : Value) (wx : World) => z = .bool false ∧ wx = wc)
  case first =>
    go_wp2_with fail
    refine HH8.out.mono ?_
    rintro r w' ⟨rfl, hw⟩
    subst hw
    cases b8
    · go_wp2_with fail
      go_meet
      exact ⟨congrArg Value.bool (by first | rfl | (rw [HMB.out]; rfl) | (have h := HMB.out; simp at h) | (rw [HMB.out]; simp)), rfl⟩
    · cases ANY
      · go_wp2_with fail
        go_meet
        exact ⟨congrArg Value.bool (by first | rfl | (rw [HMB.out]; rfl) | (have h := HMB.out; simp at h) | (rw [HMB.out]; simp)), rfl⟩
      · go_wp2_with fail
        go_meet
        exact ⟨congrArg Value.bool (by first | rfl | (rw [HMB.out]; rfl) | (have h := HMB.out; simp at h) | (rw [HMB.out]; simp)), rfl⟩
  case rest =>
  obtain ⟨rfl, rfl⟩ := hcut
  obtain ⟨b3, hb3⟩ : ∃ b, b = (partsM m).contains 3 := ⟨_, rfl⟩
  have HH3x := Lib.hid (HH.out 3)
  rw [← hb3] at HH3x hf1
  have F1 := Lib.hid (HF.out m.gw 255 b3)
  rw [hf1] at F1
  clear hb3 hf1
  obtain ⟨b4, hb4⟩ : ∃ b, b = (partsM m).contains 4 := ⟨_, rfl⟩
  have HH4x := Lib.hid (HH.out 4)
  rw [← hb4] at HH4x hf2
  have F2 := Lib.hid (HF.out m.rad 255 b4)
  rw [hf2] at F2
  clear hb4 hf2
  obtain ⟨b5, hb5⟩ : ∃ b, b = (partsM m).contains 5 := ⟨_, rfl⟩
  have HH5x := Lib.hid (HH.out 5)
  rw [← hb5] at HH5x hf3
  have F3 := Lib.hid (HF.out m.code 255 b5)
  rw [hf3] at F3
  clear hb5 hf3
  obtain ⟨b6, hb6⟩ : ∃ b, b = (partsM m).contains 6 := ⟨_, rfl⟩
  have HH6x := Lib.hid (HH.out 6)
  rw [← hb6] at HH6x hf4
  have F4 := Lib.hid (HF.out m.time 65535 b6)
  rw [hf4] at F4
  clear hb6 hf4
  obtain ⟨b7, hb7⟩ : ∃ b, b = (partsM m).contains 7 := ⟨_, rfl⟩
  have HH7x := Lib.hid (HH.out 7)
  rw [← hb7] at HH7x hf5
  have F5 := Lib.hid (HF.out m.tid 65535 b7)
  rw [hf5] at F5
  clear hb7 hf5
  obtain ⟨b8, hb8⟩ : ∃ b, b = (partsM m).contains 8 := ⟨_, rfl⟩
  have HH8x := Lib.hid (HH.out 8)
  rw [← hb8] at HH8x hf6
  have F6 := Lib.hid (HF.out m.mid 65535 b8)
  rw [hf6] at F6
  clear hb8 hf6
  have HH9x := Lib.hid (HH.out 9)
  unfold hasR at h9
  rw [h9] at HH9x
  clear h9
  have g9b : (m.name == []) = true := by rw [← g9]; cases m.name <;> rfl
  have HH10x := Lib.hid (HH.out 10)
  unfold hasR at h10
  rw [h10] at HH10x
  clear h10
  have h24 := H24.out
  have ht := HTM.out
  go_upto_region 6 with fail
  dsimp only [List.append]
  go_big_quiet ((first | (go_at_call 104; with_reducible exact quiet_left (HH3x.out _)) | (go_at_call 105; with_reducible exact quiet_left (F1.out _)) | (go_at_call 104; with_reducible exact quiet_left (HH4x.out _)) | (go_at_call 105; with_reducible exact quiet_left (F2.out _)) | (go_at_call 104; with_reducible exact quiet_left (HH5x.out _)) | (go_at_call 105; with_reducible exact quiet_left (F3.out _)) | (go_at_call 104; with_reducible exact quiet_left (HH6x.out _)) | (go_at_call 105; with_reducible exact quiet_left (F4.out _)) | (go_at_call 104; with_reducible exact quiet_left (HH7x.out _)) | (go_at_call 105; with_reducible exact quiet_left (F5.out _)) | (go_at_call 104; with_reducible exact quiet_left (HH8x.out _)) | (go_at_call 105; with_reducible exact quiet_left (F6.out _)) | (go_at_call 104; with_reducible exact quiet_left (HH9x.out _)) | (go_at_call 104; with_reducible exact quiet_left (HH10x.out _))))
  go_wp2
  refine HQ1.out _ _ _ ?_
  go_ret
  exact ⟨rfl, below_drewN HB1.out _⟩
set_option maxRecDepth 100000 in
set_option maxHeartbeats 3200000 in
theorem rnums_tBAF (m : Ms) (hk : kindM m.ty = true) (hmb : midBad m = false) (hf1 : fitB m.gw 255 (hasR m 3) = true) (hf2 : fitB m.rad 255 (hasR m 4) = true) (hf3 : fitB m.code 255 (hasR m 5) = true) (hf4 : fitB m.time 65535 (hasR m 6) = true) (hf5 : fitB m.tid 65535 (hasR m 7) = true) (hf6 : fitB m.mid 65535 (hasR m 8) = true) (h9 : hasR m 9 = false) (g9 : m.name.isEmpty = true) (h10 : hasR m 10 = true) (h24 : (m.ty == 24) = false) (ht : m.timed = true) (w : World) : Calls Tryz.prog 71 #[.agg m.cs] w fun e w' => e = .returned (.bool false) ∧ Below w.heap.size w w' := by
  unfold hasR at hf1 hf2 hf3 hf4 hf5 hf6
  have H24 := Lib.hid h24
  clear h24
  have HTM := Lib.hid ht
  clear ht
  have O0 := Obj?.new w m.cs 25
  have HO0 := Lib.hid O0
  have HB0 := Lib.hid (below_al (Below.refl _ w) (.cells m.cs 25 (0, 0)))
  have HP := Lib.hid (fun w => rparts_any m hk w)
  have hld0 := load_msg (m := m) O0
  obtain ⟨Z, hZ⟩ : ∃ Z, Z = (m.ty == 12 && decide (m.fl.q < 1)) := ⟨_, rfl⟩
  obtain ⟨ANY, hA⟩ : ∃ ANY, ANY = (m.ty == 11 || m.ty == 13 || m.ty == 19) := ⟨_, rfl⟩
  have hMB : midBad m = (hasR m 8 && !ANY && ((m.mid == 0) != Z)) := by unfold midBad; rw [hZ, hA]
  have HZ := Lib.hid hZ
  have HAN := Lib.hid hA
  have HMB := Lib.hid (hmb.symm.trans hMB)
  unfold Ms.cs at HO0 HB0 HP hld0 ⊢
  clear hZ hA O0 hk hmb hMB
  go_enter Tryz.func71, Tryz.ntmps71
  refine wp_hide fun Q1 hQ1 => ?_
  have HQ1 := Lib.hid hQ1
  clear hQ1
  go_wp2_with fail
  refine (HP.out _).mono ?_
  rintro r w1 ⟨v, rfl, hI, hb⟩
  have O1 := HO0.out.below hb HO0.out.lt
  have HB1 := Lib.hid (HB0.out.trans (hb.mono HB0.out.size))
  have kc := O1.cells
  clear hld0 hb O1
  have HH := Lib.hid (fun p n => rhas22_any (hI.below (below_drewN (Below.refl _ w1) n)) p)
  have HF := Lib.hid rfits_any
  clear hI
  go_upto_region 2 with fail
  go_cut [4] from 8 to 16 (fun (z : Value) (wx : World) => z = .bool Z ∧ wx = w1)
  case first =>
    by_cases h12 : m.ty = 12
    · have d1 : (m.ty == 12) = true := by simpa using h12
      clear h12
      by_cases hq : m.fl.q < 1
      all_goals
        go_wp2_with fail
        go_meet
        exact ⟨congrArg Value.bool (by rw [HZ.out, d1]; first | rfl | (simp; done) | (simp; omega)), rfl⟩
    · have d1 : (m.ty == 12) = false := by simpa using h12
      clear h12
      go_wp2_with fail
      go_meet
      exact ⟨congrArg Value.bool (by rw [HZ.out, d1]; rfl), rfl⟩
  case rest =>
  obtain ⟨rfl, rfl⟩ := hcut
  go_upto_region 3 with fail
  go_cut [5] from 17 to 29 (fun (z : Value) (wx : World) => z = .bool ANY ∧ wx = wc)
  case first =>
    cases d1 : (m.ty == 11)
    · cases d2 : (m.ty == 13)
      · cases d3 : (m.ty == 19)
        all_goals
          go_wp2_with fail
          go_meet
          exact ⟨congrArg Value.bool (by rw [HAN.out, d1, d2, d3]; rfl), rfl⟩
      · go_wp2_with fail
        go_meet
        exact ⟨congrArg Value.bool (by rw [HAN.out, d1, d2]; rfl), rfl⟩
    · go_wp2_with fail
      go_meet
      exact ⟨congrArg Value.bool (by rw [HAN.out, d1]; rfl), rfl⟩
  case rest =>
  obtain ⟨rfl, rfl⟩ := hcut
  obtain ⟨b8, hb8⟩ : ∃ b8, b8 = hasR m 8 := ⟨_, rfl⟩
  have HH8 := Lib.hid (HH.out 8 0)
  unfold hasR at HMB hb8
  rw [← hb8] at HMB HH8
  clear hb8
  go_upto_region 4 with fail
  go_cut [42] from 30 to 41 (fun (z : Value) (wx : World) => z = .bool false ∧ wx = wc)
  case first =>
    go_wp2_with fail
    refine HH8.out.mono ?_
    rintro r w' ⟨rfl, hw⟩
    subst hw
    cases b8
    · go_wp2_with fail
      go_meet
      exact ⟨congrArg Value.bool (by first | rfl | (rw [HMB.out]; rfl) | (have h := HMB.out; simp at h) | (rw [HMB.out]; simp)), rfl⟩
    · cases ANY
      · go_wp2_with fail
        go_meet
        exact ⟨congrArg Value.bool (by first | rfl | (rw [HMB.out]; rfl) | (have h := HMB.out; simp at h) | (rw [HMB.out]; simp)), rfl⟩
      · go_wp2_with fail
        go_meet
        exact ⟨congrArg Value.bool (by first | rfl | (rw [HMB.out]; rfl) | (have h := HMB.out; simp at h) | (rw [HMB.out]; simp)), rfl⟩
  case rest =>
  obtain ⟨rfl, rfl⟩ := hcut
  obtain ⟨b3, hb3⟩ : ∃ b, b = (partsM m).contains 3 := ⟨_, rfl⟩
  have HH3x := Lib.hid (HH.out 3)
  rw [← hb3] at HH3x hf1
  have F1 := Lib.hid (HF.out m.gw 255 b3)
  rw [hf1] at F1
  clear hb3 hf1
  obtain ⟨b4, hb4⟩ : ∃ b, b = (partsM m).contains 4 := ⟨_, rfl⟩
  have HH4x := Lib.hid (HH.out 4)
  rw [← hb4] at HH4x hf2
  have F2 := Lib.hid (HF.out m.rad 255 b4)
  rw [hf2] at F2
  clear hb4 hf2
  obtain ⟨b5, hb5⟩ : ∃ b, b = (partsM m).contains 5 := ⟨_, rfl⟩
  have HH5x := Lib.hid (HH.out 5)
  rw [← hb5] at HH5x hf3
  have F3 := Lib.hid (HF.out m.code 255 b5)
  rw [hf3] at F3
  clear hb5 hf3
  obtain ⟨b6, hb6⟩ : ∃ b, b = (partsM m).contains 6 := ⟨_, rfl⟩
  have HH6x := Lib.hid (HH.out 6)
  rw [← hb6] at HH6x hf4
  have F4 := Lib.hid (HF.out m.time 65535 b6)
  rw [hf4] at F4
  clear hb6 hf4
  obtain ⟨b7, hb7⟩ : ∃ b, b = (partsM m).contains 7 := ⟨_, rfl⟩
  have HH7x := Lib.hid (HH.out 7)
  rw [← hb7] at HH7x hf5
  have F5 := Lib.hid (HF.out m.tid 65535 b7)
  rw [hf5] at F5
  clear hb7 hf5
  obtain ⟨b8, hb8⟩ : ∃ b, b = (partsM m).contains 8 := ⟨_, rfl⟩
  have HH8x := Lib.hid (HH.out 8)
  rw [← hb8] at HH8x hf6
  have F6 := Lib.hid (HF.out m.mid 65535 b8)
  rw [hf6] at F6
  clear hb8 hf6
  have HH9x := Lib.hid (HH.out 9)
  unfold hasR at h9
  rw [h9] at HH9x
  clear h9
  have g9b : (m.name == []) = true := by rw [← g9]; cases m.name <;> rfl
  have HH10x := Lib.hid (HH.out 10)
  unfold hasR at h10
  rw [h10] at HH10x
  clear h10
  have h24 := H24.out
  have ht := HTM.out
  go_upto_region 6 with fail
  dsimp only [List.append]
  go_big_quiet ((first | (go_at_call 104; with_reducible exact quiet_left (HH3x.out _)) | (go_at_call 105; with_reducible exact quiet_left (F1.out _)) | (go_at_call 104; with_reducible exact quiet_left (HH4x.out _)) | (go_at_call 105; with_reducible exact quiet_left (F2.out _)) | (go_at_call 104; with_reducible exact quiet_left (HH5x.out _)) | (go_at_call 105; with_reducible exact quiet_left (F3.out _)) | (go_at_call 104; with_reducible exact quiet_left (HH6x.out _)) | (go_at_call 105; with_reducible exact quiet_left (F4.out _)) | (go_at_call 104; with_reducible exact quiet_left (HH7x.out _)) | (go_at_call 105; with_reducible exact quiet_left (F5.out _)) | (go_at_call 104; with_reducible exact quiet_left (HH8x.out _)) | (go_at_call 105; with_reducible exact quiet_left (F6.out _)) | (go_at_call 104; with_reducible exact quiet_left (HH9x.out _)) | (go_at_call 104; with_reducible exact quiet_left (HH10x.out _))))
  go_wp2
  refine HQ1.out _ _ _ ?_
  go_ret
  exact ⟨rfl, below_drewN HB1.out _⟩
set_option maxRecDepth 100000 in
set_option maxHeartbeats 3200000 in
theorem rnums_tBBA (m : Ms) (hk : kindM m.ty = true) (hmb : midBad m = false) (hf1 : fitB m.gw 255 (hasR m 3) = true) (hf2 : fitB m.rad 255 (hasR m 4) = true) (hf3 : fitB m.code 255 (hasR m 5) = true) (hf4 : fitB m.time 65535 (hasR m 6) = true) (hf5 : fitB m.tid 65535 (hasR m 7) = true) (hf6 : fitB m.mid 65535 (hasR m 8) = true) (h9 : hasR m 9 = false) (g9 : m.name.isEmpty = true) (h10 : hasR m 10 = false) (g10 : m.data.isEmpty = true) (h24 : (m.ty == 24) = true) (w : World) : Calls Tryz.prog 71 #[.agg m.cs] w fun e w' => e = .returned (.bool true) ∧ Below w.heap.size w w' := by
  unfold hasR at hf1 hf2 hf3 hf4 hf5 hf6
  have H24 := Lib.hid h24
  clear h24
  have O0 := Obj?.new w m.cs 25
  have HO0 := Lib.hid O0
  have HB0 := Lib.hid (below_al (Below.refl _ w) (.cells m.cs 25 (0, 0)))
  have HP := Lib.hid (fun w => rparts_any m hk w)
  have hld0 := load_msg (m := m) O0
  obtain ⟨Z, hZ⟩ : ∃ Z, Z = (m.ty == 12 && decide (m.fl.q < 1)) := ⟨_, rfl⟩
  obtain ⟨ANY, hA⟩ : ∃ ANY, ANY = (m.ty == 11 || m.ty == 13 || m.ty == 19) := ⟨_, rfl⟩
  have hMB : midBad m = (hasR m 8 && !ANY && ((m.mid == 0) != Z)) := by unfold midBad; rw [hZ, hA]
  have HZ := Lib.hid hZ
  have HAN := Lib.hid hA
  have HMB := Lib.hid (hmb.symm.trans hMB)
  unfold Ms.cs at HO0 HB0 HP hld0 ⊢
  clear hZ hA O0 hk hmb hMB
  go_enter Tryz.func71, Tryz.ntmps71
  refine wp_hide fun Q1 hQ1 => ?_
  have HQ1 := Lib.hid hQ1
  clear hQ1
  go_wp2_with fail
  refine (HP.out _).mono ?_
  rintro r w1 ⟨v, rfl, hI, hb⟩
  have O1 := HO0.out.below hb HO0.out.lt
  have HB1 := Lib.hid (HB0.out.trans (hb.mono HB0.out.size))
  have kc := O1.cells
  clear hld0 hb O1
  have HH := Lib.hid (fun p n => rhas22_any (hI.below (below_drewN (Below.refl _ w1) n)) p)
  have HF := Lib.hid rfits_any
  clear hI
  go_upto_region 2 with fail
  go_cut [4] from 8 to 16 (fun (z : Value) (wx : World) => z = .bool Z ∧ wx = w1)
  case first =>
    by_cases h12 : m.ty = 12
    · have d1 : (m.ty == 12) = true := by simpa using h12
      clear h12
      by_cases hq : m.fl.q < 1
      all_goals
        go_wp2_with fail
        go_meet
        exact ⟨congrArg Value.bool (by rw [HZ.out, d1]; first | rfl | (simp; done) | (simp; omega)), rfl⟩
    · have d1 : (m.ty == 12) = false := by simpa using h12
      clear h12
      go_wp2_with fail
      go_meet
      exact ⟨congrArg Value.bool (by rw [HZ.out, d1]; rfl), rfl⟩
  case rest =>
  obtain ⟨rfl, rfl⟩ := hcut
  go_upto_region 3 with fail
  go_cut [5] from 17 to 29 (fun (z : Value) (wx : World) => z = .bool ANY ∧ wx = wc)
  case first =>
    cases d1 : (m.ty == 11)
    · cases d2 : (m.ty == 13)
      · cases d3 : (m.ty == 19)
        all_goals
          go_wp2_with fail
          go_meet
          exact ⟨congrArg Value.bool (by rw [HAN.out, d1, d2, d3]; rfl), rfl⟩
      · go_wp2_with fail
        go_meet
        exact ⟨congrArg Value.bool (by rw [HAN.out, d1, d2]; rfl), rfl⟩
    · go_wp2_with fail
      go_meet
      exact ⟨congrArg Value.bool (by rw [HAN.out, d1]; rfl), rfl⟩
  case rest =>
  obtain ⟨rfl, rfl⟩ := hcut
  obtain ⟨b8, hb8⟩ : ∃ b8, b8 = hasR m 8 := ⟨_, rfl⟩
  have HH8 := Lib.hid (HH.out 8 0)
  unfold hasR at HMB hb8
  rw [← hb8] at HMB HH8
  clear hb8
  go_upto_region 4 with fail
  go_cut [42] from 30 to 41 (fun (z : Value) (wx : World) => z = .bool false ∧ wx = wc)
  case first =>
    go_wp2_with fail
    refine HH8.out.mono ?_
    rintro r w' ⟨rfl, hw⟩
    subst hw
    cases b8
    · go_wp2_with fail
      go_meet
      exact ⟨congrArg Value.bool (by first | rfl | (rw [HMB.out]; rfl) | (have h := HMB.out; simp at h) | (rw [HMB.out]; simp)), rfl⟩
    · cases ANY
      · go_wp2_with fail
        go_meet
        exact ⟨congrArg Value.bool (by first | rfl | (rw [HMB.out]; rfl) | (have h := HMB.out; simp at h) | (rw [HMB.out]; simp)), rfl⟩
      · go_wp2_with fail
        go_meet
        exact ⟨congrArg Value.bool (by first | rfl | (rw [HMB.out]; rfl) | (have h := HMB.out; simp at h) | (rw [HMB.out]; simp)), rfl⟩
  case rest =>
  obtain ⟨rfl, rfl⟩ := hcut
  obtain ⟨b3, hb3⟩ : ∃ b, b = (partsM m).contains 3 := ⟨_, rfl⟩
  have HH3x := Lib.hid (HH.out 3)
  rw [← hb3] at HH3x hf1
  have F1 := Lib.hid (HF.out m.gw 255 b3)
  rw [hf1] at F1
  clear hb3 hf1
  obtain ⟨b4, hb4⟩ : ∃ b, b = (partsM m).contains 4 := ⟨_, rfl⟩
  have HH4x := Lib.hid (HH.out 4)
  rw [← hb4] at HH4x hf2
  have F2 := Lib.hid (HF.out m.rad 255 b4)
  rw [hf2] at F2
  clear hb4 hf2
  obtain ⟨b5, hb5⟩ : ∃ b, b = (partsM m).contains 5 := ⟨_, rfl⟩
  have HH5x := Lib.hid (HH.out 5)
  rw [← hb5] at HH5x hf3
  have F3 := Lib.hid (HF.out m.code 255 b5)
  rw [hf3] at F3
  clear hb5 hf3
  obtain ⟨b6, hb6⟩ : ∃ b, b = (partsM m).contains 6 := ⟨_, rfl⟩
  have HH6x := Lib.hid (HH.out 6)
  rw [← hb6] at HH6x hf4
  have F4 := Lib.hid (HF.out m.time 65535 b6)
  rw [hf4] at F4
  clear hb6 hf4
  obtain ⟨b7, hb7⟩ : ∃ b, b = (partsM m).contains 7 := ⟨_, rfl⟩
  have HH7x := Lib.hid (HH.out 7)
  rw [← hb7] at HH7x hf5
  have F5 := Lib.hid (HF.out m.tid 65535 b7)
  rw [hf5] at F5
  clear hb7 hf5
  obtain ⟨b8, hb8⟩ : ∃ b, b = (partsM m).contains 8 := ⟨_, rfl⟩
  have HH8x := Lib.hid (HH.out 8)
  rw [← hb8] at HH8x hf6
  have F6 := Lib.hid (HF.out m.mid 65535 b8)
  rw [hf6] at F6
  clear hb8 hf6
  have HH9x := Lib.hid (HH.out 9)
  unfold hasR at h9
  rw [h9] at HH9x
  clear h9
  have g9b : (m.name == []) = true := by rw [← g9]; cases m.name <;> rfl
  have HH10x := Lib.hid (HH.out 10)
  unfold hasR at h10
  rw [h10] at HH10x
  clear h10
  have g10b : (m.data == []) = true := by rw [← g10]; cases m.data <;> rfl
  have h24 := H24.out
  go_upto_region 6 with fail
  dsimp only [List.append]
  go_big_quiet ((first | (go_at_call 104; with_reducible exact quiet_left (HH3x.out _)) | (go_at_call 105; with_reducible exact quiet_left (F1.out _)) | (go_at_call 104; with_reducible exact quiet_left (HH4x.out _)) | (go_at_call 105; with_reducible exact quiet_left (F2.out _)) | (go_at_call 104; with_reducible exact quiet_left (HH5x.out _)) | (go_at_call 105; with_reducible exact quiet_left (F3.out _)) | (go_at_call 104; with_reducible exact quiet_left (HH6x.out _)) | (go_at_call 105; with_reducible exact quiet_left (F4.out _)) | (go_at_call 104; with_reducible exact quiet_left (HH7x.out _)) | (go_at_call 105; with_reducible exact quiet_left (F5.out _)) | (go_at_call 104; with_reducible exact quiet_left (HH8x.out _)) | (go_at_call 105; with_reducible exact quiet_left (F6.out _)) | (go_at_call 104; with_reducible exact quiet_left (HH9x.out _)) | (go_at_call 104; with_reducible exact quiet_left (HH10x.out _))))
  go_wp2
  refine HQ1.out _ _ _ ?_
  go_ret
  exact ⟨rfl, below_drewN HB1.out _⟩
set_option maxRecDepth 100000 in
set_option maxHeartbeats 3200000 in
theorem rnums_tBBB (m : Ms) (hk : kindM m.ty = true) (hmb : midBad m = false) (hf1 : fitB m.gw 255 (hasR m 3) = true) (hf2 : fitB m.rad 255 (hasR m 4) = true) (hf3 : fitB m.code 255 (hasR m 5) = true) (hf4 : fitB m.time 65535 (hasR m 6) = true) (hf5 : fitB m.tid 65535 (hasR m 7) = true) (hf6 : fitB m.mid 65535 (hasR m 8) = true) (h9 : hasR m 9 = false) (g9 : m.name.isEmpty = true) (h10 : hasR m 10 = false) (g10 : m.data.isEmpty = true) (h24 : (m.ty == 24) = false) (ht : m.timed = false) (w : World) : Calls Tryz.prog 71 #[.agg m.cs] w fun e w' => e = .returned (.bool true) ∧ Below w.heap.size w w' := by
  unfold hasR at hf1 hf2 hf3 hf4 hf5 hf6
  have H24 := Lib.hid h24
  clear h24
  have HTM := Lib.hid ht
  clear ht
  have O0 := Obj?.new w m.cs 25
  have HO0 := Lib.hid O0
  have HB0 := Lib.hid (below_al (Below.refl _ w) (.cells m.cs 25 (0, 0)))
  have HP := Lib.hid (fun w => rparts_any m hk w)
  have hld0 := load_msg (m := m) O0
  obtain ⟨Z, hZ⟩ : ∃ Z, Z = (m.ty == 12 && decide (m.fl.q < 1)) := ⟨_, rfl⟩
  obtain ⟨ANY, hA⟩ : ∃ ANY, ANY = (m.ty == 11 || m.ty == 13 || m.ty == 19) := ⟨_, rfl⟩
  have hMB : midBad m = (hasR m 8 && !ANY && ((m.mid == 0) != Z)) := by unfold midBad; rw [hZ, hA]
  have HZ := Lib.hid hZ
  have HAN := Lib.hid hA
  have HMB := Lib.hid (hmb.symm.trans hMB)
  unfold Ms.cs at HO0 HB0 HP hld0 ⊢
  clear hZ hA O0 hk hmb hMB
  go_enter Tryz.func71, Tryz.ntmps71
  refine wp_hide fun Q1 hQ1 => ?_
  have HQ1 := Lib.hid hQ1
  clear hQ1
  go_wp2_with fail
  refine (HP.out _).mono ?_
  rintro r w1 ⟨v, rfl, hI, hb⟩
  have O1 := HO0.out.below hb HO0.out.lt
  have HB1 := Lib.hid (HB0.out.trans (hb.mono HB0.out.size))
  have kc := O1.cells
  clear hld0 hb O1
  have HH := Lib.hid (fun p n => rhas22_any (hI.below (below_drewN (Below.refl _ w1) n)) p)
  have HF := Lib.hid rfits_any
  clear hI
  go_upto_region 2 with fail
  go_cut [4] from 8 to 16 (fun (z : Value) (wx : World) => z = .bool Z ∧ wx = w1)
  case first =>
    by_cases h12 : m.ty = 12
    · have d1 : (m.ty == 12) = true := by simpa using h12
      clear h12
      by_cases hq : m.fl.q < 1
      all_goals
        go_wp2_with fail
        go_meet
        exact ⟨congrArg Value.bool (by rw [HZ.out, d1]; first | rfl | (simp; done) | (simp; omega)), rfl⟩
    · have d1 : (m.ty == 12) = false := by simpa using h12
      clear h12
      go_wp2_with fail
      go_meet
      exact ⟨congrArg Value.bool (by rw [HZ.out, d1]; rfl), rfl⟩
  case rest =>
  obtain ⟨rfl, rfl⟩ := hcut
  go_upto_region 3 with fail
  go_cut [5] from 17 to 29 (fun (z : Value) (wx : World) => z = .bool ANY ∧ wx = wc)
  case first =>
    cases d1 : (m.ty == 11)
    · cases d2 : (m.ty == 13)
      · cases d3 : (m.ty == 19)
        all_goals
          go_wp2_with fail
          go_meet
          exact ⟨congrArg Value.bool (by rw [HAN.out, d1, d2, d3]; rfl), rfl⟩
      · go_wp2_with fail
        go_meet
        exact ⟨congrArg Value.bool (by rw [HAN.out, d1, d2]; rfl), rfl⟩
    · go_wp2_with fail
      go_meet
      exact ⟨congrArg Value.bool (by rw [HAN.out, d1]; rfl), rfl⟩
  case rest =>
  obtain ⟨rfl, rfl⟩ := hcut
  obtain ⟨b8, hb8⟩ : ∃ b8, b8 = hasR m 8 := ⟨_, rfl⟩
  have HH8 := Lib.hid (HH.out 8 0)
  unfold hasR at HMB hb8
  rw [← hb8] at HMB HH8
  clear hb8
  go_upto_region 4 with fail
  go_cut [42] from 30 to 41 (fun (z : Value) (wx : World) => z = .bool false ∧ wx = wc)
  case first =>
    go_wp2_with fail
    refine HH8.out.mono ?_
    rintro r w' ⟨rfl, hw⟩
    subst hw
    cases b8
    · go_wp2_with fail
      go_meet
      exact ⟨congrArg Value.bool (by first | rfl | (rw [HMB.out]; rfl) | (have h := HMB.out; simp at h) | (rw [HMB.out]; simp)), rfl⟩
    · cases ANY
      · go_wp2_with fail
        go_meet
        exact ⟨congrArg Value.bool (by first | rfl | (rw [HMB.out]; rfl) | (have h := HMB.out; simp at h) | (rw [HMB.out]; simp)), rfl⟩
      · go_wp2_with fail
        go_meet
        exact ⟨congrArg Value.bool (by first | rfl | (rw [HMB.out]; rfl) | (have h := HMB.out; simp at h) | (rw [HMB.out]; simp)), rfl⟩
  case rest =>
  obtain ⟨rfl, rfl⟩ := hcut
  obtain ⟨b3, hb3⟩ : ∃ b, b = (partsM m).contains 3 := ⟨_, rfl⟩
  have HH3x := Lib.hid (HH.out 3)
  rw [← hb3] at HH3x hf1
  have F1 := Lib.hid (HF.out m.gw 255 b3)
  rw [hf1] at F1
  clear hb3 hf1
  obtain ⟨b4, hb4⟩ : ∃ b, b = (partsM m).contains 4 := ⟨_, rfl⟩
  have HH4x := Lib.hid (HH.out 4)
  rw [← hb4] at HH4x hf2
  have F2 := Lib.hid (HF.out m.rad 255 b4)
  rw [hf2] at F2
  clear hb4 hf2
  obtain ⟨b5, hb5⟩ : ∃ b, b = (partsM m).contains 5 := ⟨_, rfl⟩
  have HH5x := Lib.hid (HH.out 5)
  rw [← hb5] at HH5x hf3
  have F3 := Lib.hid (HF.out m.code 255 b5)
  rw [hf3] at F3
  clear hb5 hf3
  obtain ⟨b6, hb6⟩ : ∃ b, b = (partsM m).contains 6 := ⟨_, rfl⟩
  have HH6x := Lib.hid (HH.out 6)
  rw [← hb6] at HH6x hf4
  have F4 := Lib.hid (HF.out m.time 65535 b6)
  rw [hf4] at F4
  clear hb6 hf4
  obtain ⟨b7, hb7⟩ : ∃ b, b = (partsM m).contains 7 := ⟨_, rfl⟩
  have HH7x := Lib.hid (HH.out 7)
  rw [← hb7] at HH7x hf5
  have F5 := Lib.hid (HF.out m.tid 65535 b7)
  rw [hf5] at F5
  clear hb7 hf5
  obtain ⟨b8, hb8⟩ : ∃ b, b = (partsM m).contains 8 := ⟨_, rfl⟩
  have HH8x := Lib.hid (HH.out 8)
  rw [← hb8] at HH8x hf6
  have F6 := Lib.hid (HF.out m.mid 65535 b8)
  rw [hf6] at F6
  clear hb8 hf6
  have HH9x := Lib.hid (HH.out 9)
  unfold hasR at h9
  rw [h9] at HH9x
  clear h9
  have g9b : (m.name == []) = true := by rw [← g9]; cases m.name <;> rfl
  have HH10x := Lib.hid (HH.out 10)
  unfold hasR at h10
  rw [h10] at HH10x
  clear h10
  have g10b : (m.data == []) = true := by rw [← g10]; cases m.data <;> rfl
  have h24 := H24.out
  have ht := HTM.out
  go_upto_region 6 with fail
  dsimp only [List.append]
  go_big_quiet ((first | (go_at_call 104; with_reducible exact quiet_left (HH3x.out _)) | (go_at_call 105; with_reducible exact quiet_left (F1.out _)) | (go_at_call 104; with_reducible exact quiet_left (HH4x.out _)) | (go_at_call 105; with_reducible exact quiet_left (F2.out _)) | (go_at_call 104; with_reducible exact quiet_left (HH5x.out _)) | (go_at_call 105; with_reducible exact quiet_left (F3.out _)) | (go_at_call 104; with_reducible exact quiet_left (HH6x.out _)) | (go_at_call 105; with_reducible exact quiet_left (F4.out _)) | (go_at_call 104; with_reducible exact quiet_left (HH7x.out _)) | (go_at_call 105; with_reducible exact quiet_left (F5.out _)) | (go_at_call 104; with_reducible exact quiet_left (HH8x.out _)) | (go_at_call 105; with_reducible exact quiet_left (F6.out _)) | (go_at_call 104; with_reducible exact quiet_left (HH9x.out _)) | (go_at_call 104; with_reducible exact quiet_left (HH10x.out _))))
  go_wp2
  refine HQ1.out _ _ _ ?_
  go_ret
  exact ⟨rfl, below_drewN HB1.out _⟩
set_option maxRecDepth 100000 in
set_option maxHeartbeats 3200000 in
theorem rnums_tBBF (m : Ms) (hk : kindM m.ty = true) (hmb : midBad m = false) (hf1 : fitB m.gw 255 (hasR m 3) = true) (hf2 : fitB m.rad 255 (hasR m 4) = true) (hf3 : fitB m.code 255 (hasR m 5) = true) (hf4 : fitB m.time 65535 (hasR m 6) = true) (hf5 : fitB m.tid 65535 (hasR m 7) = true) (hf6 : fitB m.mid 65535 (hasR m 8) = true) (h9 : hasR m 9 = false) (g9 : m.name.isEmpty = true) (h10 : hasR m 10 = false) (g10 : m.data.isEmpty = true) (h24 : (m.ty == 24) = false) (ht : m.timed = true) (w : World) : Calls Tryz.prog 71 #[.agg m.cs] w fun e w' => e = .returned (.bool false) ∧ Below w.heap.size w w' := by
  unfold hasR at hf1 hf2 hf3 hf4 hf5 hf6
  have H24 := Lib.hid h24
  clear h24
  have HTM := Lib.hid ht
  clear ht
  have O0 := Obj?.new w m.cs 25
  have HO0 := Lib.hid O0
  have HB0 := Lib.hid (below_al (Below.refl _ w) (.cells m.cs 25 (0, 0)))
  have HP := Lib.hid (fun w => rparts_any m hk w)
  have hld0 := load_msg (m := m) O0
  obtain ⟨Z, hZ⟩ : ∃ Z, Z = (m.ty == 12 && decide (m.fl.q < 1)) := ⟨_, rfl⟩
  obtain ⟨ANY, hA⟩ : ∃ ANY, ANY = (m.ty == 11 || m.ty == 13 || m.ty == 19) := ⟨_, rfl⟩
  have hMB : midBad m = (hasR m 8 && !ANY && ((m.mid == 0) != Z)) := by unfold midBad; rw [hZ, hA]
  have HZ := Lib.hid hZ
  have HAN := Lib.hid hA
  have HMB := Lib.hid (hmb.symm.trans hMB)
  unfold Ms.cs at HO0 HB0 HP hld0 ⊢
  clear hZ hA O0 hk hmb hMB
  go_enter Tryz.func71, Tryz.ntmps71
  refine wp_hide fun Q1 hQ1 => ?_
  have HQ1 := Lib.hid hQ1
  clear hQ1
  go_wp2_with fail
  refine (HP.out _).mono ?_
  rintro r w1 ⟨v, rfl, hI, hb⟩
  have O1 := HO0.out.below hb HO0.out.lt
  have HB1 := Lib.hid (HB0.out.trans (hb.mono HB0.out.size))
  have kc := O1.cells
  clear hld0 hb O1
  have HH := Lib.hid (fun p n => rhas22_any (hI.below (below_drewN (Below.refl _ w1) n)) p)
  have HF := Lib.hid rfits_any
  clear hI
  go_upto_region 2 with fail
  go_cut [4] from 8 to 16 (fun (z : Value) (wx : World) => z = .bool Z ∧ wx = w1)
  case first =>
    by_cases h12 : m.ty = 12
    · have d1 : (m.ty == 12) = true := by simpa using h12
      clear h12
      by_cases hq : m.fl.q < 1
      all_goals
        go_wp2_with fail
        go_meet
        exact ⟨congrArg Value.bool (by rw [HZ.out, d1]; first | rfl | (simp; done) | (simp; omega)), rfl⟩
    · have d1 : (m.ty == 12) = false := by simpa using h12
      clear h12
      go_wp2_with fail
      go_meet
      exact ⟨congrArg Value.bool (by rw [HZ.out, d1]; rfl), rfl⟩
  case rest =>
  obtain ⟨rfl, rfl⟩ := hcut
  go_upto_region 3 with fail
  go_cut [5] from 17 to 29 (fun (z : Value) (wx : World) => z = .bool ANY ∧ wx = wc)
  case first =>
    cases d1 : (m.ty == 11)
    · cases d2 : (m.ty == 13)
      · cases d3 : (m.ty == 19)
        all_goals
          go_wp2_with fail
          go_meet
          exact ⟨congrArg Value.bool (by rw [HAN.out, d1, d2, d3]; rfl), rfl⟩
      · go_wp2_with fail
        go_meet
        exact ⟨congrArg Value.bool (by rw [HAN.out, d1, d2]; rfl), rfl⟩
    · go_wp2_with fail
      go_meet
      exact ⟨congrArg Value.bool (by rw [HAN.out, d1]; rfl), rfl⟩
  case rest =>
  obtain ⟨rfl, rfl⟩ := hcut
  obtain ⟨b8, hb8⟩ : ∃ b8, b8 = hasR m 8 := ⟨_, rfl⟩
  have HH8 := Lib.hid (HH.out 8 0)
  unfold hasR at HMB hb8
  rw [← hb8] at HMB HH8
  clear hb8
  go_upto_region 4 with fail
  go_cut [42] from 30 to 41 (fun (z : Value) (wx : World) => z = .bool false ∧ wx = wc)
  case first =>
    go_wp2_with fail
    refine HH8.out.mono ?_
    rintro r w' ⟨rfl, hw⟩
    subst hw
    cases b8
    · go_wp2_with fail
      go_meet
      exact ⟨congrArg Value.bool (by first | rfl | (rw [HMB.out]; rfl) | (have h := HMB.out; simp at h) | (rw [HMB.out]; simp)), rfl⟩
    · cases ANY
      · go_wp2_with fail
        go_meet
        exact ⟨congrArg Value.bool (by first | rfl | (rw [HMB.out]; rfl) | (have h := HMB.out; simp at h) | (rw [HMB.out]; simp)), rfl⟩
      · go_wp2_with fail
        go_meet
        exact ⟨congrArg Value.bool (by first | rfl | (rw [HMB.out]; rfl) | (have h := HMB.out; simp at h) | (rw [HMB.out]; simp)), rfl⟩
  case rest =>
  obtain ⟨rfl, rfl⟩ := hcut
  obtain ⟨b3, hb3⟩ : ∃ b, b = (partsM m).contains 3 := ⟨_, rfl⟩
  have HH3x := Lib.hid (HH.out 3)
  rw [← hb3] at HH3x hf1
  have F1 := Lib.hid (HF.out m.gw 255 b3)
  rw [hf1] at F1
  clear hb3 hf1
  obtain ⟨b4, hb4⟩ : ∃ b, b = (partsM m).contains 4 := ⟨_, rfl⟩
  have HH4x := Lib.hid (HH.out 4)
  rw [← hb4] at HH4x hf2
  have F2 := Lib.hid (HF.out m.rad 255 b4)
  rw [hf2] at F2
  clear hb4 hf2
  obtain ⟨b5, hb5⟩ : ∃ b, b = (partsM m).contains 5 := ⟨_, rfl⟩
  have HH5x := Lib.hid (HH.out 5)
  rw [← hb5] at HH5x hf3
  have F3 := Lib.hid (HF.out m.code 255 b5)
  rw [hf3] at F3
  clear hb5 hf3
  obtain ⟨b6, hb6⟩ : ∃ b, b = (partsM m).contains 6 := ⟨_, rfl⟩
  have HH6x := Lib.hid (HH.out 6)
  rw [← hb6] at HH6x hf4
  have F4 := Lib.hid (HF.out m.time 65535 b6)
  rw [hf4] at F4
  clear hb6 hf4
  obtain ⟨b7, hb7⟩ : ∃ b, b = (partsM m).contains 7 := ⟨_, rfl⟩
  have HH7x := Lib.hid (HH.out 7)
  rw [← hb7] at HH7x hf5
  have F5 := Lib.hid (HF.out m.tid 65535 b7)
  rw [hf5] at F5
  clear hb7 hf5
  obtain ⟨b8, hb8⟩ : ∃ b, b = (partsM m).contains 8 := ⟨_, rfl⟩
  have HH8x := Lib.hid (HH.out 8)
  rw [← hb8] at HH8x hf6
  have F6 := Lib.hid (HF.out m.mid 65535 b8)
  rw [hf6] at F6
  clear hb8 hf6
  have HH9x := Lib.hid (HH.out 9)
  unfold hasR at h9
  rw [h9] at HH9x
  clear h9
  have g9b : (m.name == []) = true := by rw [← g9]; cases m.name <;> rfl
  have HH10x := Lib.hid (HH.out 10)
  unfold hasR at h10
  rw [h10] at HH10x
  clear h10
  have g10b : (m.data == []) = true := by rw [← g10]; cases m.data <;> rfl
  have h24 := H24.out
  have ht := HTM.out
  go_upto_region 6 with fail
  dsimp only [List.append]
  go_big_quiet ((first | (go_at_call 104; with_reducible exact quiet_left (HH3x.out _)) | (go_at_call 105; with_reducible exact quiet_left (F1.out _)) | (go_at_call 104; with_reducible exact quiet_left (HH4x.out _)) | (go_at_call 105; with_reducible exact quiet_left (F2.out _)) | (go_at_call 104; with_reducible exact quiet_left (HH5x.out _)) | (go_at_call 105; with_reducible exact quiet_left (F3.out _)) | (go_at_call 104; with_reducible exact quiet_left (HH6x.out _)) | (go_at_call 105; with_reducible exact quiet_left (F4.out _)) | (go_at_call 104; with_reducible exact quiet_left (HH7x.out _)) | (go_at_call 105; with_reducible exact quiet_left (F5.out _)) | (go_at_call 104; with_reducible exact quiet_left (HH8x.out _)) | (go_at_call 105; with_reducible exact quiet_left (F6.out _)) | (go_at_call 104; with_reducible exact quiet_left (HH9x.out _)) | (go_at_call 104; with_reducible exact quiet_left (HH10x.out _))))
  go_wp2
  refine HQ1.out _ _ _ ?_
  go_ret
  exact ⟨rfl, below_drewN HB1.out _⟩
end Go.Proofs.YtbacnaplpfmpnaaGreatDoor
namespace Go.Proofs.YtbacnaplpfmpnaaGreatDoor
open Go.RowKit
set_option linter.unusedVariables false
set_option linter.unusedSimpArgs false

theorem rnums_any (m : Ms) (hk : kindM m.ty = true) (w : World) : Calls Tryz.prog 71 #[.agg m.cs] w fun e w' => e = .returned (.bool (numsR m)) ∧ Below w.heap.size w w' := by
  have hN : numsR m = (!midBad m && (fitB m.gw 255 (hasR m 3) && fitB m.rad 255 (hasR m 4) && fitB m.code 255 (hasR m 5) && fitB m.time 65535 (hasR m 6) && fitB m.tid 65535 (hasR m 7) && fitB m.mid 65535 (hasR m 8) && (hasR m 9 || m.name.isEmpty) && (hasR m 10 || m.data.isEmpty) && (decide (m.ty = 24) || !m.timed))) := rfl
  have h24e : decide (m.ty = 24) = (m.ty == 24) := rfl
  rw [h24e] at hN
  cases hmb : midBad m
  rotate_left
  · rw [show numsR m = false by rw [hN, hmb]; rfl]
    exact rnums_bad m hk hmb w
  cases hf1 : fitB m.gw 255 (hasR m 3)
  · rw [show numsR m = false by rw [hN, hmb, hf1]; simp]
    exact rnums_f1 m hk hmb hf1 w
  cases hf2 : fitB m.rad 255 (hasR m 4)
  · rw [show numsR m = false by rw [hN, hmb, hf1, hf2]; simp]
    exact rnums_f2 m hk hmb hf1 hf2 w
  cases hf3 : fitB m.code 255 (hasR m 5)
  · rw [show numsR m = false by rw [hN, hmb, hf1, hf2, hf3]; simp]
    exact rnums_f3 m hk hmb hf1 hf2 hf3 w
  cases hf4 : fitB m.time 65535 (hasR m 6)
  · rw [show numsR m = false by rw [hN, hmb, hf1, hf2, hf3, hf4]; simp]
    exact rnums_f4 m hk hmb hf1 hf2 hf3 hf4 w
  cases hf5 : fitB m.tid 65535 (hasR m 7)
  · rw [show numsR m = false by rw [hN, hmb, hf1, hf2, hf3, hf4, hf5]; simp]
    exact rnums_f5 m hk hmb hf1 hf2 hf3 hf4 hf5 w
  cases hf6 : fitB m.mid 65535 (hasR m 8)
  · rw [show numsR m = false by rw [hN, hmb, hf1, hf2, hf3, hf4, hf5, hf6]; simp]
    exact rnums_f6 m hk hmb hf1 hf2 hf3 hf4 hf5 hf6 w
  cases h9 : hasR m 9
  · cases g9 : m.name.isEmpty
    · skip
      rw [show numsR m = false by rw [hN, hmb, hf1, hf2, hf3, hf4, hf5, hf6]; simp [h9, g9]]
      exact rnums_tF m hk hmb hf1 hf2 hf3 hf4 hf5 hf6 h9 g9 w
    · skip
      cases h10 : hasR m 10
      · cases g10 : m.data.isEmpty
        · skip
          rw [show numsR m = false by rw [hN, hmb, hf1, hf2, hf3, hf4, hf5, hf6]; simp [h9, g9, h10, g10]]
          exact rnums_tBF m hk hmb hf1 hf2 hf3 hf4 hf5 hf6 h9 g9 h10 g10 w
        · skip
          cases h24 : (m.ty == 24)
          · cases ht : m.timed
            · skip
              rw [show numsR m = true by rw [hN, hmb, hf1, hf2, hf3, hf4, hf5, hf6]; simp [h9, g9, h10, g10, h24, ht]]
              exact rnums_tBBB m hk hmb hf1 hf2 hf3 hf4 hf5 hf6 h9 g9 h10 g10 h24 ht w
            · skip
              rw [show numsR m = false by rw [hN, hmb, hf1, hf2, hf3, hf4, hf5, hf6]; simp [h9, g9, h10, g10, h24, ht]]
              exact rnums_tBBF m hk hmb hf1 hf2 hf3 hf4 hf5 hf6 h9 g9 h10 g10 h24 ht w
          · skip
            rw [show numsR m = true by rw [hN, hmb, hf1, hf2, hf3, hf4, hf5, hf6]; simp [h9, g9, h10, g10, h24]]
            exact rnums_tBBA m hk hmb hf1 hf2 hf3 hf4 hf5 hf6 h9 g9 h10 g10 h24 w
      · skip
        cases h24 : (m.ty == 24)
        · cases ht : m.timed
          · skip
            rw [show numsR m = true by rw [hN, hmb, hf1, hf2, hf3, hf4, hf5, hf6]; simp [h9, g9, h10, h24, ht]]
            exact rnums_tBAB m hk hmb hf1 hf2 hf3 hf4 hf5 hf6 h9 g9 h10 h24 ht w
          · skip
            rw [show numsR m = false by rw [hN, hmb, hf1, hf2, hf3, hf4, hf5, hf6]; simp [h9, g9, h10, h24, ht]]
            exact rnums_tBAF m hk hmb hf1 hf2 hf3 hf4 hf5 hf6 h9 g9 h10 h24 ht w
        · skip
          rw [show numsR m = true by rw [hN, hmb, hf1, hf2, hf3, hf4, hf5, hf6]; simp [h9, g9, h10, h24]]
          exact rnums_tBAA m hk hmb hf1 hf2 hf3 hf4 hf5 hf6 h9 g9 h10 h24 w
  · skip
    cases h10 : hasR m 10
    · cases g10 : m.data.isEmpty
      · skip
        rw [show numsR m = false by rw [hN, hmb, hf1, hf2, hf3, hf4, hf5, hf6]; simp [h9, h10, g10]]
        exact rnums_tAF m hk hmb hf1 hf2 hf3 hf4 hf5 hf6 h9 h10 g10 w
      · skip
        cases h24 : (m.ty == 24)
        · cases ht : m.timed
          · skip
            rw [show numsR m = true by rw [hN, hmb, hf1, hf2, hf3, hf4, hf5, hf6]; simp [h9, h10, g10, h24, ht]]
            exact rnums_tABB m hk hmb hf1 hf2 hf3 hf4 hf5 hf6 h9 h10 g10 h24 ht w
          · skip
            rw [show numsR m = false by rw [hN, hmb, hf1, hf2, hf3, hf4, hf5, hf6]; simp [h9, h10, g10, h24, ht]]
            exact rnums_tABF m hk hmb hf1 hf2 hf3 hf4 hf5 hf6 h9 h10 g10 h24 ht w
        · skip
          rw [show numsR m = true by rw [hN, hmb, hf1, hf2, hf3, hf4, hf5, hf6]; simp [h9, h10, g10, h24]]
          exact rnums_tABA m hk hmb hf1 hf2 hf3 hf4 hf5 hf6 h9 h10 g10 h24 w
    · skip
      cases h24 : (m.ty == 24)
      · cases ht : m.timed
        · skip
          rw [show numsR m = true by rw [hN, hmb, hf1, hf2, hf3, hf4, hf5, hf6]; simp [h9, h10, h24, ht]]
          exact rnums_tAAB m hk hmb hf1 hf2 hf3 hf4 hf5 hf6 h9 h10 h24 ht w
        · skip
          rw [show numsR m = false by rw [hN, hmb, hf1, hf2, hf3, hf4, hf5, hf6]; simp [h9, h10, h24, ht]]
          exact rnums_tAAF m hk hmb hf1 hf2 hf3 hf4 hf5 hf6 h9 h10 h24 ht w
      · skip
        rw [show numsR m = true by rw [hN, hmb, hf1, hf2, hf3, hf4, hf5, hf6]; simp [h9, h10, h24]]
        exact rnums_tAAA m hk hmb hf1 hf2 hf3 hf4 hf5 hf6 h9 h10 h24 w
end Go.Proofs.YtbacnaplpfmpnaaGreatDoor
