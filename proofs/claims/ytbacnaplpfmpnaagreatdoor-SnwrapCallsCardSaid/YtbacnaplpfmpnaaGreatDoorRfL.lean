/- polyglotref22: rest. -/
import Derived.Test.YtbacnaplpfmpnaaGreatDoorRfB
import Derived.Test.YtbacnaplpfmpnaaGreatDoorSnK
import Derived.Deep.LoopGhost
namespace Go.Proofs.YtbacnaplpfmpnaaGreatDoor
open Go.RowKit
set_option linter.unusedVariables false
set_option linter.unusedSimpArgs false
attribute [local go_sem ↓] load_Msg store_Msg
attribute [local irreducible] rowSem rowStore

theorem putL_byte (n : Int) : putL n 1 = [UInt8.ofNat (n % 256).toNat] := by
  unfold putL
  rw [show (min (1 : Int) 16).toNat = 0 + 1 by decide, putB_succ, byteAt_eq n 0 (by decide), show n / 256 ^ 0 % 256 = n % 256 by simp]
  rfl
/-- The numbers of a message lie in their fields' range. -/
structure InR (m : Ms) : Prop where
  time : 0 ≤ m.time ∧ m.time ≤ 65535
  tid : 0 ≤ m.tid ∧ m.tid ≤ 65535
  mid : 0 ≤ m.mid ∧ m.mid ≤ 65535
  name : m.name.length ≤ 100000
  data : m.data.length ≤ 100000
theorem mem_parts {m : Ms} {p : Int} (h : p ∈ partsM m) : p = 1 ∨ p = 2 ∨ p = 3 ∨ p = 4 ∨ p = 5 ∨ p = 6 ∨ p = 7 ∨ p = 8 ∨ p = 9 ∨ p = 10 := by
  unfold partsM at h
  obtain ⟨t, -, h⟩ := List.mem_flatMap.1 h
  cases t <;> simp only [partOf] at h <;> (try split at h) <;> simp at h <;> omega
theorem writeR_len {m : Ms} (h : InR m) {p : Int} (hp : p ∈ partsM m) : (writeR m p).length ≤ 100000 := by
  have h1 := h.name
  have h2 := h.data
  rcases mem_parts hp with rfl | rfl | rfl | rfl | rfl | rfl | rfl | rfl | rfl | rfl <;> simp [writeR, length_putL] <;> omega
theorem rest_step {m : Ms} {l : List Int} {k : Nat} {p : Int} (hk : k < l.length) (hp : l[k] = p) : (l.take (k + 1)).flatMap (writeR m) = (l.take k).flatMap (writeR m) ++ writeR m p := by
  rw [List.take_succ_eq_append_getElem hk, List.flatMap_append, hp]; simp
theorem str_app (a b : List UInt8) : ByteArray.mk a.toArray ++ ByteArray.mk b.toArray = ByteArray.mk (a ++ b).toArray := ByteArray.mk_append_mk a b
theorem rest_conv {O : List UInt8} {x : Int} {W : List UInt8} (h : putL x 1 = W) : ByteArray.mk O.toArray ++ ByteArray.mk #[UInt8.ofNat (x % 256).toNat] = ByteArray.mk (O ++ W).toArray := by
  rw [← h, putL_byte]; exact str_app O [UInt8.ofNat (x % 256).toNat]
set_option maxRecDepth 100000 in
set_option maxHeartbeats 3200000 in
theorem rrest_any (m : Ms) (hk : kindM m.ty = true) (hr : InR m) (w : World) : Calls Tryz.prog 45 #[.agg m.cs] w fun e w' => e = .returned (.string ⟨(restL m).toArray⟩) ∧ Below w.heap.size w w' := by
  have O0 := Obj?.new w m.cs 25
  have HO0 := Lib.hid O0
  have HB0 := Lib.hid (below_al (Below.refl _ w) (.cells m.cs 25 (0, 0)))
  have HP := Lib.hid (fun w => rparts_any m hk w)
  have hld0 := load_msg (m := m) O0
  have HE := Lib.hid (restL_parts m)
  rw [HE.out]
  obtain ⟨l, hl⟩ : ∃ l, l = partsM m := ⟨_, rfl⟩
  have HM := Lib.hid (show ∀ p ∈ l, (p = 1 ∨ p = 2 ∨ p = 3 ∨ p = 4 ∨ p = 5 ∨ p = 6 ∨ p = 7 ∨ p = 8 ∨ p = 9 ∨ p = 10) ∧ (writeR m p).length ≤ 100000 from fun p hp => by rw [hl] at hp; exact ⟨mem_parts hp, writeR_len hr hp⟩)
  rw [← hl] at HP ⊢
  have HR := Lib.hid hr
  unfold Ms.cs at HO0 HB0 HP hld0 ⊢
  clear O0 hk hr hl
  go_enter Tryz.func45, Tryz.ntmps45
  refine wp_hide fun Q1 hQ1 => ?_
  have HQ1 := Lib.hid hQ1
  clear hQ1
  go_wp2_with fail
  refine (HP.out _).mono ?_
  rintro r w1 ⟨v, rfl, hI, hb⟩
  have O1 := Lib.hid (HO0.out.below hb HO0.out.lt)
  have HB1 := Lib.hid (HB0.out.trans (hb.mono HB0.out.size))
  have HI := Lib.hid hI
  obtain ⟨a, cap, rfl, hln, -⟩ := hI
  obtain ⟨n, hN⟩ : ∃ n, n = l.length := ⟨_, rfl⟩
  rw [← hN] at hln HI ⊢
  have HN := Lib.hid hN
  clear hld0 hb hN
  go_wp2
  go_loopw [4, 5] (fun o i wr => ∃ k : Nat, k ≤ n ∧ i = .int .i64 k ∧ o = .string ⟨((l.take k).flatMap (writeR m)).toArray⟩ ∧ Hid (((l.take k).flatMap (writeR m)).length ≤ 100000 * k ∧ Below w1.heap.size w1 wr)) (fun _ i _ => n - (intOf i).toNat)
  case atStart => exact ⟨0, Nat.zero_le _, rfl, rfl, Lib.hid ⟨by simp, Below.refl _ _⟩⟩
  case round =>
    obtain ⟨k, hkn, rfl, rfl, HL⟩ := hrel
    by_cases hlt : k < n
    · have hkl : k < l.length := by rw [← HN.out]; exact hlt
      have hIr := HI.out.below HL.out.2
      obtain ⟨b, off, rfl, hblt, k1⟩ := intat_cell hIr k hkl
      obtain ⟨x, hx⟩ : ∃ x, l[k] = x := ⟨_, rfl⟩
      have hmem := HM.out x (by rw [← hx]; exact List.getElem_mem hkl)
      have HS := Lib.hid (rest_step (m := m) hkl hx)
      rw [hx] at k1
      have hol : (((l.take k).flatMap (writeR m)).length : Int) ≤ 10000000000 := by have := HL.out.1; omega
      obtain ⟨O, hO⟩ : ∃ O, O = (l.take k).flatMap (writeR m) := ⟨_, rfl⟩
      rw [← hO] at HS HL hol ⊢
      have hki : (k : Int) < n := by omega
      have d0 : decide ((k : Int) < n) = true := decide_eq_true hki
      have hwl := hmem.2
      have HW := Lib.hid hwl
      have OW := O1.out.below HL.out.2 O1.out.lt
      have HOW := Lib.hid OW
      have kc := OW.cells
      clear hx hIr hkl hO OW
      have HBW := Lib.hid HL.out.2
      obtain ⟨hcs, -⟩ := hmem
      rcases hcs with rfl | rfl | rfl | rfl | rfl | rfl | rfl | rfl | rfl | rfl
      · skip
        have hwe : writeR m 1 = putL (flagV m.fl).1 1 := rfl
        rw [hwe] at HS HW hwl
        clear hwl
        have HFL := Lib.hid (fun w => rflag_fl m.fl w)
        obtain ⟨g, hg⟩ : ∃ g, g = (flagV m.fl).1 := ⟨_, rfl⟩
        rw [← hg] at HS HW HFL
        clear hg
        go_wp2_with fail
        refine (HFL.out _).mono ?_
        rintro r w2 ⟨rfl, hb2⟩
        have HB2 := Lib.hid (HBW.out.trans (hb2.mono HBW.out.size))
        have hcv := conv_one (g % 256) w2
        have hap := rest_conv (O := O) (x := g) rfl
        clear hb2 kc
        go_wp2
        go_roundw
        case rel => exact ⟨k + 1, by omega, by go_num, by rw [HS.out], Lib.hid ⟨by rw [HS.out, List.length_append]; have := HL.out.1; have := HW.out; omega, below_al HB2.out _⟩⟩
        case measure => simp [intOf]; omega
      · skip
        have hwe : writeR m 2 = [1] := rfl
        rw [hwe] at HS HW hwl
        have hap := str_app O [1]
        clear kc
        go_wp2
        go_roundw
        case rel => exact ⟨k + 1, by omega, by go_num, by rw [HS.out], Lib.hid ⟨by rw [HS.out, List.length_append]; have := HL.out.1; have := HW.out; omega, HBW.out⟩⟩
        case measure => simp [intOf]; omega
      · skip
        have hwe : writeR m 3 = putL m.gw 1 := rfl
        rw [hwe] at HS HW hwl
        clear hwl
        have hcv := conv_one (m.gw % 256) wr
        have hap := rest_conv (O := O) (x := m.gw) rfl
        go_wp2
        go_roundw
        case rel => exact ⟨k + 1, by omega, by go_num, by rw [HS.out], Lib.hid ⟨by rw [HS.out, List.length_append]; have := HL.out.1; have := HW.out; omega, below_al HBW.out _⟩⟩
        case measure => simp [intOf]; omega
      · skip
        have hwe : writeR m 4 = putL m.rad 1 := rfl
        rw [hwe] at HS HW hwl
        clear hwl
        have hcv := conv_one (m.rad % 256) wr
        have hap := rest_conv (O := O) (x := m.rad) rfl
        go_wp2
        go_roundw
        case rel => exact ⟨k + 1, by omega, by go_num, by rw [HS.out], Lib.hid ⟨by rw [HS.out, List.length_append]; have := HL.out.1; have := HW.out; omega, below_al HBW.out _⟩⟩
        case measure => simp [intOf]; omega
      · skip
        have hwe : writeR m 5 = putL m.code 1 := rfl
        rw [hwe] at HS HW hwl
        clear hwl
        have hcv := conv_one (m.code % 256) wr
        have hap := rest_conv (O := O) (x := m.code) rfl
        go_wp2
        go_roundw
        case rel => exact ⟨k + 1, by omega, by go_num, by rw [HS.out], Lib.hid ⟨by rw [HS.out, List.length_append]; have := HL.out.1; have := HW.out; omega, below_al HBW.out _⟩⟩
        case measure => simp [intOf]; omega
      · skip
        have hwe : writeR m 6 = putL m.time 2 := rfl
        rw [hwe] at HS HW hwl
        have hr1 := HR.out.time
        have hu : IntKind.u64.wrap m.time = m.time := wraps_u64 _ (by omega) (by omega)
        have HBG := Lib.hid (fun w => rbig_any m.time hr1.1 (by omega) 2 (by decide) w)
        have hpp : putB m.time 2 = putL m.time 2 := rfl
        rw [hpp] at HBG
        obtain ⟨g, hg⟩ : ∃ g, g = putL m.time 2 := ⟨_, rfl⟩
        rw [← hg] at HS HW HBG hwl
        have hap := str_app O g
        clear hg hpp
        go_wp2_with fail
        refine (HBG.out _).mono ?_
        rintro r w2 ⟨rfl, hb2⟩
        have HB2 := Lib.hid (HBW.out.trans (hb2.mono HBW.out.size))
        clear hb2 kc
        go_wp2
        go_roundw
        case rel => exact ⟨k + 1, by omega, by go_num, by rw [HS.out], Lib.hid ⟨by rw [HS.out, List.length_append]; have := HL.out.1; have := HW.out; omega, HB2.out⟩⟩
        case measure => simp [intOf]; omega
      · skip
        have hwe : writeR m 7 = putL m.tid 2 := rfl
        rw [hwe] at HS HW hwl
        have hr1 := HR.out.tid
        have hu : IntKind.u64.wrap m.tid = m.tid := wraps_u64 _ (by omega) (by omega)
        have HBG := Lib.hid (fun w => rbig_any m.tid hr1.1 (by omega) 2 (by decide) w)
        have hpp : putB m.tid 2 = putL m.tid 2 := rfl
        rw [hpp] at HBG
        obtain ⟨g, hg⟩ : ∃ g, g = putL m.tid 2 := ⟨_, rfl⟩
        rw [← hg] at HS HW HBG hwl
        have hap := str_app O g
        clear hg hpp
        go_wp2_with fail
        refine (HBG.out _).mono ?_
        rintro r w2 ⟨rfl, hb2⟩
        have HB2 := Lib.hid (HBW.out.trans (hb2.mono HBW.out.size))
        clear hb2 kc
        go_wp2
        go_roundw
        case rel => exact ⟨k + 1, by omega, by go_num, by rw [HS.out], Lib.hid ⟨by rw [HS.out, List.length_append]; have := HL.out.1; have := HW.out; omega, HB2.out⟩⟩
        case measure => simp [intOf]; omega
      · skip
        have hwe : writeR m 8 = putL m.mid 2 := rfl
        rw [hwe] at HS HW hwl
        have hr1 := HR.out.mid
        have hu : IntKind.u64.wrap m.mid = m.mid := wraps_u64 _ (by omega) (by omega)
        have HBG := Lib.hid (fun w => rbig_any m.mid hr1.1 (by omega) 2 (by decide) w)
        have hpp : putB m.mid 2 = putL m.mid 2 := rfl
        rw [hpp] at HBG
        obtain ⟨g, hg⟩ : ∃ g, g = putL m.mid 2 := ⟨_, rfl⟩
        rw [← hg] at HS HW HBG hwl
        have hap := str_app O g
        clear hg hpp
        go_wp2_with fail
        refine (HBG.out _).mono ?_
        rintro r w2 ⟨rfl, hb2⟩
        have HB2 := Lib.hid (HBW.out.trans (hb2.mono HBW.out.size))
        clear hb2 kc
        go_wp2
        go_roundw
        case rel => exact ⟨k + 1, by omega, by go_num, by rw [HS.out], Lib.hid ⟨by rw [HS.out, List.length_append]; have := HL.out.1; have := HW.out; omega, HB2.out⟩⟩
        case measure => simp [intOf]; omega
      · skip
        have hwe : writeR m 9 = m.name := rfl
        rw [hwe] at HS HW hwl
        have hap := str_app O m.name
        go_wp2
        go_roundw
        case rel => exact ⟨k + 1, by omega, by go_num, by rw [HS.out], Lib.hid ⟨by rw [HS.out, List.length_append]; have := HL.out.1; have := HW.out; omega, HBW.out⟩⟩
        case measure => simp [intOf]; omega
      · skip
        have hwe : writeR m 10 = m.data := rfl
        rw [hwe] at HS HW hwl
        have hap := str_app O m.data
        go_wp2
        go_roundw
        case rel => exact ⟨k + 1, by omega, by go_num, by rw [HS.out], Lib.hid ⟨by rw [HS.out, List.length_append]; have := HL.out.1; have := HW.out; omega, HBW.out⟩⟩
        case measure => simp [intOf]; omega
    · obtain rfl : k = n := by omega
      have d0 : decide ((k : Int) < k) = false := decide_eq_false (by omega)
      have HX := Lib.hid (show l.take k = l from by rw [HN.out]; exact List.take_length)
      go_wp2
      refine HQ1.out _ _ _ ?_
      go_ret
      exact ⟨by rw [HX.out]; rfl, HB1.out.trans (HL.out.2.mono HB1.out.size)⟩
end Go.Proofs.YtbacnaplpfmpnaaGreatDoor
