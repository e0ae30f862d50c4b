/- SnmsgTopics, walk pt. -/
import Derived.Test.YtbacnaplpfmpnaaDoorLkE
namespace Go.Proofs.YtbacnaplpfmpnaaDoor
open Go.RowKit
set_option linter.unusedVariables false
set_option linter.unusedSimpArgs false
attribute [local go_sem ↓] load_Msg store_Msg
attribute [local irreducible] rowSem rowStore
set_option maxRecDepth 100000 in
set_option maxHeartbeats 3200000 in
theorem snmsgTopics_pt_y_l (name : List UInt8) (id : Int) (data : List UInt8) (msg : Int) (hl : name.length ≤ 400) (hd : data.length ≤ 400) (h2 : name.length ≠ 2) (hnb : nameB name = true) (ho : (nameOfF id).2 = true) (hc : id < 1) (w : World) (hm : Mx w) :
    Calls Tryd.prog 4 #[.string ⟨name.toArray⟩, .int .i64 id, .string ⟨data.toArray⟩, .int .i64 msg] w fun e w' => e = .returned (.bool true) ∧ Below w.heap.size w w' := by
  have HL := Lib.hid lives22
  have HM := Lib.hid hm
  clear hm
  have HSh := Lib.hid (fun w => short_any name (by omega) w)
  have HNo := Lib.hid (fun w => nameof_any id w)
  have HRn := Lib.hid (fun w => rtname_any name (by omega) w)
  have HCf := Lib.hid (fun w hm => check_any (pubM 1 id data) (by show (0 : Int) ≤ 100000; decide) (by show ((data.length : Nat) : Int) ≤ 100000; omega) w hm)
  obtain ⟨cf, hcf⟩ : ∃ cf, cf = checkM (pubM 1 id data) := ⟨_, rfl⟩
  have dcf := pub_fixed id hd
  rw [← hcf] at HCf dcf
  clear hcf
  rw [decide_eq_false (by omega)] at dcf
  have hsf : shortF name = (0, false) := by unfold shortF; rw [if_neg (by rintro ⟨a, b⟩; exact h2 a)]
  rw [hsf] at HSh
  clear hsf
  have hnbR := hnb
  rw [hnb] at HRn
  have d2 : ((name.length : Int) == 2) = false := by apply beq_eq_false_iff_ne.2; omega
  obtain ⟨o1, o2, o3, o4⟩ := nameOf_sound ho
  have hno : nameOfF id = (putL id 2, true) := by rw [← o3, ← ho]
  have HS2 := Lib.hid (fun w => short_any (putL id 2) (by rw [length_putL]; decide) w)
  rw [o4] at HS2
  rw [hno] at HNo
  obtain ⟨q, hq⟩ : ∃ q, q = putL id 2 := ⟨_, rfl⟩
  rw [← hq] at HS2 HNo
  clear o1 o2 o3 o4 hno ho hq
  have HP1 := Lib.hid (fun w => pick_any id 65534 (by decide) (by decide) w)
  have HP2 := Lib.hid (fun w => pick_any msg 65535 (by decide) (by decide) w)
  have e1 := Int.emod_nonneg id (show (65534 : Int) ≠ 0 by decide)
  have e2 := Int.emod_lt_of_pos id (show (0 : Int) < 65534 by decide)
  have e3 := Int.emod_nonneg msg (show (65535 : Int) ≠ 0 by decide)
  have e4 := Int.emod_lt_of_pos msg (show (0 : Int) < 65535 by decide)
  obtain ⟨ti, hti⟩ : ∃ ti, ti = id % 65534 := ⟨_, rfl⟩
  obtain ⟨mi, hmi⟩ : ∃ mi, mi = msg % 65535 := ⟨_, rfl⟩
  rw [← hti] at HP1 e1 e2
  rw [← hmi] at HP2 e3 e4
  have hrb := reg_bytes (tid := 1 + ti) (mid := 1 + mi) (name := name) (by omega) (by omega) hl
  have HBr := Lib.hid (fun w hm => msbytes_any (regX (1 + ti) (1 + mi) name) (by show ((name.length : Nat) : Int) ≤ 100000; omega) (by show (0 : Int) ≤ 100000; decide) w hm)
  clear hti hmi
  obtain ⟨-, B, b1, b2, b3, b4⟩ := hrb.resolve_right (fun h => by rw [hnbR] at h; cases h.1)
  rw [b1] at HBr
  obtain ⟨S, hS⟩ : ∃ S, S = snS 10 ((name.length : Int) + 4) := ⟨_, rfl⟩
  have hS4 : S.length ≤ 4 := by rw [hS]; exact snS_len_le _ _
  rw [← hS] at b2 b4
  have HBq := Lib.hid (fun w => by have := rsnbytes_any 10 ((name.length : Int) + 4) (by omega) w; rw [b4] at this; exact this)
  have b5 : (B.length : Int) = (S.length : Int) + 4 + (name.length : Int) := by omega
  have b6 : (B.length : Int) - (name.length : Int) = ((B.length - name.length : Nat) : Int) := by omega
  have b7 : (ByteArray.mk B.toArray).extract (S.length + 4) (S.length + 4 + name.length) = ByteArray.mk name.toArray := by
    have q1 : S.length + 4 = B.length - name.length := by omega
    have q2 : S.length + 4 + name.length = B.length := by omega
    rw [q2, q1, ByteArray.extract_mk]
    simp [b3]
    exact List.take_of_length_le (by omega)
  have hBl : B.length ≤ 1000 := by omega
  clear hrb b1 b3 b4 hS hnb hnbR
  unfold pubM Ms.cs at HCf
  unfold regX fl0 Ms.cs at HBr
  dsimp only at HBr HCf
  go_enter Tryd.func4, Tryd.ntmps4
  refine wp_hide fun Q1 hQ1 => ?_
  have HQ1 := Lib.hid hQ1
  clear hQ1
  go_wp2_with fail
  refine (HL.out _ HM.out).mono ?_
  rintro r w1 ⟨rfl, hb⟩
  have HB1 := Lib.hid hb
  clear hb
  go_wp2_with fail
  refine (HSh.out _).mono ?_
  rintro r w2 ⟨rfl, hb⟩
  have HB2 := Lib.hid (HB1.out.trans (hb.mono HB1.out.size))
  clear hb
  go_wp2_with fail
  refine (HNo.out _).mono ?_
  rintro r w6 ⟨rfl, hb⟩
  have HB6 := Lib.hid (HB2.out.trans (hb.mono HB2.out.size))
  clear hb
  go_wp2_with fail
  refine (HS2.out _).mono ?_
  rintro r w7 ⟨rfl, hb⟩
  have HB7 := Lib.hid (HB6.out.trans (hb.mono HB6.out.size))
  clear hb
  have hst8 := store_new w7 (pubM 1 id data)
  have hld8 := load_msg (Obj?.new w7 (Ms.cs (pubM 1 id data)) 25)
  have HB8 := Lib.hid (HB7.out.alloc HB7.out.size (.cells (Ms.cs (pubM 1 id data)) 25 (0, 0)))
  unfold pubM Ms.cs at hst8 hld8 HB8
  dsimp only at hst8 hld8 HB8
  go_wp2_with fail
  refine (HCf.out _ (HM.out.below HB8.out HM.out.1)).mono ?_
  rintro r w9 ⟨rfl, hb⟩
  have HB9 := Lib.hid (HB8.out.trans (hb.mono HB8.out.size))
  clear hb
  clear hst8 hld8
  go_wp2_with fail
  refine (HP1.out _).mono ?_
  rintro r wp ⟨rfl, hwp⟩
  subst hwp
  go_wp2_with fail
  refine (HP2.out _).mono ?_
  rintro r wp ⟨rfl, hwp⟩
  subst hwp
  have hst10 := store_new w9 (regX (1 + ti) (1 + mi) name)
  have hld10 := load_msg (Obj?.new w9 (Ms.cs (regX (1 + ti) (1 + mi) name)) 25)
  have HB10 := Lib.hid (HB9.out.alloc HB9.out.size (.cells (Ms.cs (regX (1 + ti) (1 + mi) name)) 25 (0, 0)))
  unfold regX fl0 Ms.cs at hst10 hld10 HB10
  dsimp only at hst10 hld10 HB10
  go_wp2_with fail
  refine (HBr.out _ (HM.out.below HB10.out HM.out.1)).mono ?_
  rintro r w11 ⟨rfl, hb⟩
  have HB11 := Lib.hid (HB10.out.trans (hb.mono HB10.out.size))
  clear hb
  clear hst10 hld10
  go_wp2_with fail
  refine (HRn.out _).mono ?_
  rintro r wp ⟨rfl, hwp⟩
  subst hwp
  go_wp2_with fail
  refine (HBq.out _).mono ?_
  rintro r w12 ⟨rfl, hb⟩
  have HB12 := Lib.hid (HB11.out.trans (hb.mono HB11.out.size))
  clear hb
  go_wp2
  refine HQ1.out _ _ _ ?_
  go_ret
  exact ⟨rfl, HB12.out⟩
set_option maxRecDepth 100000 in
set_option maxHeartbeats 3200000 in
theorem snmsgTopics_pt_y_i (name : List UInt8) (id : Int) (data : List UInt8) (msg : Int) (hl : name.length ≤ 400) (hd : data.length ≤ 400) (h2 : name.length ≠ 2) (hnb : nameB name = true) (ho : (nameOfF id).2 = true) (hc : 1 ≤ id) (hc2 : id ≤ 65534) (w : World) (hm : Mx w) :
    Calls Tryd.prog 4 #[.string ⟨name.toArray⟩, .int .i64 id, .string ⟨data.toArray⟩, .int .i64 msg] w fun e w' => e = .returned (.bool true) ∧ Below w.heap.size w w' := by
  have HL := Lib.hid lives22
  have HM := Lib.hid hm
  clear hm
  have HSh := Lib.hid (fun w => short_any name (by omega) w)
  have HNo := Lib.hid (fun w => nameof_any id w)
  have HRn := Lib.hid (fun w => rtname_any name (by omega) w)
  have HCf := Lib.hid (fun w hm => check_any (pubM 1 id data) (by show (0 : Int) ≤ 100000; decide) (by show ((data.length : Nat) : Int) ≤ 100000; omega) w hm)
  obtain ⟨cf, hcf⟩ : ∃ cf, cf = checkM (pubM 1 id data) := ⟨_, rfl⟩
  have dcf := pub_fixed id hd
  rw [← hcf] at HCf dcf
  clear hcf
  rw [decide_eq_true (by omega)] at dcf
  have hsf : shortF name = (0, false) := by unfold shortF; rw [if_neg (by rintro ⟨a, b⟩; exact h2 a)]
  rw [hsf] at HSh
  clear hsf
  have hnbR := hnb
  rw [hnb] at HRn
  have d2 : ((name.length : Int) == 2) = false := by apply beq_eq_false_iff_ne.2; omega
  obtain ⟨o1, o2, o3, o4⟩ := nameOf_sound ho
  have hno : nameOfF id = (putL id 2, true) := by rw [← o3, ← ho]
  have HS2 := Lib.hid (fun w => short_any (putL id 2) (by rw [length_putL]; decide) w)
  rw [o4] at HS2
  rw [hno] at HNo
  obtain ⟨q, hq⟩ : ∃ q, q = putL id 2 := ⟨_, rfl⟩
  rw [← hq] at HS2 HNo
  clear o1 o2 o3 o4 hno ho hq
  have HP1 := Lib.hid (fun w => pick_any id 65534 (by decide) (by decide) w)
  have HP2 := Lib.hid (fun w => pick_any msg 65535 (by decide) (by decide) w)
  have e1 := Int.emod_nonneg id (show (65534 : Int) ≠ 0 by decide)
  have e2 := Int.emod_lt_of_pos id (show (0 : Int) < 65534 by decide)
  have e3 := Int.emod_nonneg msg (show (65535 : Int) ≠ 0 by decide)
  have e4 := Int.emod_lt_of_pos msg (show (0 : Int) < 65535 by decide)
  obtain ⟨ti, hti⟩ : ∃ ti, ti = id % 65534 := ⟨_, rfl⟩
  obtain ⟨mi, hmi⟩ : ∃ mi, mi = msg % 65535 := ⟨_, rfl⟩
  rw [← hti] at HP1 e1 e2
  rw [← hmi] at HP2 e3 e4
  have hrb := reg_bytes (tid := 1 + ti) (mid := 1 + mi) (name := name) (by omega) (by omega) hl
  have HBr := Lib.hid (fun w hm => msbytes_any (regX (1 + ti) (1 + mi) name) (by show ((name.length : Nat) : Int) ≤ 100000; omega) (by show (0 : Int) ≤ 100000; decide) w hm)
  clear hti hmi
  obtain ⟨-, B, b1, b2, b3, b4⟩ := hrb.resolve_right (fun h => by rw [hnbR] at h; cases h.1)
  rw [b1] at HBr
  obtain ⟨S, hS⟩ : ∃ S, S = snS 10 ((name.length : Int) + 4) := ⟨_, rfl⟩
  have hS4 : S.length ≤ 4 := by rw [hS]; exact snS_len_le _ _
  rw [← hS] at b2 b4
  have HBq := Lib.hid (fun w => by have := rsnbytes_any 10 ((name.length : Int) + 4) (by omega) w; rw [b4] at this; exact this)
  have b5 : (B.length : Int) = (S.length : Int) + 4 + (name.length : Int) := by omega
  have b6 : (B.length : Int) - (name.length : Int) = ((B.length - name.length : Nat) : Int) := by omega
  have b7 : (ByteArray.mk B.toArray).extract (S.length + 4) (S.length + 4 + name.length) = ByteArray.mk name.toArray := by
    have q1 : S.length + 4 = B.length - name.length := by omega
    have q2 : S.length + 4 + name.length = B.length := by omega
    rw [q2, q1, ByteArray.extract_mk]
    simp [b3]
    exact List.take_of_length_le (by omega)
  have hBl : B.length ≤ 1000 := by omega
  clear hrb b1 b3 b4 hS hnb hnbR
  unfold pubM Ms.cs at HCf
  unfold regX fl0 Ms.cs at HBr
  dsimp only at HBr HCf
  go_enter Tryd.func4, Tryd.ntmps4
  refine wp_hide fun Q1 hQ1 => ?_
  have HQ1 := Lib.hid hQ1
  clear hQ1
  go_wp2_with fail
  refine (HL.out _ HM.out).mono ?_
  rintro r w1 ⟨rfl, hb⟩
  have HB1 := Lib.hid hb
  clear hb
  go_wp2_with fail
  refine (HSh.out _).mono ?_
  rintro r w2 ⟨rfl, hb⟩
  have HB2 := Lib.hid (HB1.out.trans (hb.mono HB1.out.size))
  clear hb
  go_wp2_with fail
  refine (HNo.out _).mono ?_
  rintro r w6 ⟨rfl, hb⟩
  have HB6 := Lib.hid (HB2.out.trans (hb.mono HB2.out.size))
  clear hb
  go_wp2_with fail
  refine (HS2.out _).mono ?_
  rintro r w7 ⟨rfl, hb⟩
  have HB7 := Lib.hid (HB6.out.trans (hb.mono HB6.out.size))
  clear hb
  have hst8 := store_new w7 (pubM 1 id data)
  have hld8 := load_msg (Obj?.new w7 (Ms.cs (pubM 1 id data)) 25)
  have HB8 := Lib.hid (HB7.out.alloc HB7.out.size (.cells (Ms.cs (pubM 1 id data)) 25 (0, 0)))
  unfold pubM Ms.cs at hst8 hld8 HB8
  dsimp only at hst8 hld8 HB8
  go_wp2_with fail
  refine (HCf.out _ (HM.out.below HB8.out HM.out.1)).mono ?_
  rintro r w9 ⟨rfl, hb⟩
  have HB9 := Lib.hid (HB8.out.trans (hb.mono HB8.out.size))
  clear hb
  clear hst8 hld8
  go_wp2_with fail
  refine (HP1.out _).mono ?_
  rintro r wp ⟨rfl, hwp⟩
  subst hwp
  go_wp2_with fail
  refine (HP2.out _).mono ?_
  rintro r wp ⟨rfl, hwp⟩
  subst hwp
  have hst10 := store_new w9 (regX (1 + ti) (1 + mi) name)
  have hld10 := load_msg (Obj?.new w9 (Ms.cs (regX (1 + ti) (1 + mi) name)) 25)
  have HB10 := Lib.hid (HB9.out.alloc HB9.out.size (.cells (Ms.cs (regX (1 + ti) (1 + mi) name)) 25 (0, 0)))
  unfold regX fl0 Ms.cs at hst10 hld10 HB10
  dsimp only at hst10 hld10 HB10
  go_wp2_with fail
  refine (HBr.out _ (HM.out.below HB10.out HM.out.1)).mono ?_
  rintro r w11 ⟨rfl, hb⟩
  have HB11 := Lib.hid (HB10.out.trans (hb.mono HB10.out.size))
  clear hb
  clear hst10 hld10
  go_wp2_with fail
  refine (HRn.out _).mono ?_
  rintro r wp ⟨rfl, hwp⟩
  subst hwp
  go_wp2_with fail
  refine (HBq.out _).mono ?_
  rintro r w12 ⟨rfl, hb⟩
  have HB12 := Lib.hid (HB11.out.trans (hb.mono HB11.out.size))
  clear hb
  go_wp2
  refine HQ1.out _ _ _ ?_
  go_ret
  exact ⟨rfl, HB12.out⟩
set_option maxRecDepth 100000 in
set_option maxHeartbeats 3200000 in
theorem snmsgTopics_pt_y_h (name : List UInt8) (id : Int) (data : List UInt8) (msg : Int) (hl : name.length ≤ 400) (hd : data.length ≤ 400) (h2 : name.length ≠ 2) (hnb : nameB name = true) (ho : (nameOfF id).2 = true) (hc : 1 ≤ id) (hc2 : 65534 < id) (w : World) (hm : Mx w) :
    Calls Tryd.prog 4 #[.string ⟨name.toArray⟩, .int .i64 id, .string ⟨data.toArray⟩, .int .i64 msg] w fun e w' => e = .returned (.bool true) ∧ Below w.heap.size w w' := by
  have HL := Lib.hid lives22
  have HM := Lib.hid hm
  clear hm
  have HSh := Lib.hid (fun w => short_any name (by omega) w)
  have HNo := Lib.hid (fun w => nameof_any id w)
  have HRn := Lib.hid (fun w => rtname_any name (by omega) w)
  have HCf := Lib.hid (fun w hm => check_any (pubM 1 id data) (by show (0 : Int) ≤ 100000; decide) (by show ((data.length : Nat) : Int) ≤ 100000; omega) w hm)
  obtain ⟨cf, hcf⟩ : ∃ cf, cf = checkM (pubM 1 id data) := ⟨_, rfl⟩
  have dcf := pub_fixed id hd
  rw [← hcf] at HCf dcf
  clear hcf
  rw [decide_eq_false (by omega)] at dcf
  have hsf : shortF name = (0, false) := by unfold shortF; rw [if_neg (by rintro ⟨a, b⟩; exact h2 a)]
  rw [hsf] at HSh
  clear hsf
  have hnbR := hnb
  rw [hnb] at HRn
  have d2 : ((name.length : Int) == 2) = false := by apply beq_eq_false_iff_ne.2; omega
  obtain ⟨o1, o2, o3, o4⟩ := nameOf_sound ho
  have hno : nameOfF id = (putL id 2, true) := by rw [← o3, ← ho]
  have HS2 := Lib.hid (fun w => short_any (putL id 2) (by rw [length_putL]; decide) w)
  rw [o4] at HS2
  rw [hno] at HNo
  obtain ⟨q, hq⟩ : ∃ q, q = putL id 2 := ⟨_, rfl⟩
  rw [← hq] at HS2 HNo
  clear o1 o2 o3 o4 hno ho hq
  have HP1 := Lib.hid (fun w => pick_any id 65534 (by decide) (by decide) w)
  have HP2 := Lib.hid (fun w => pick_any msg 65535 (by decide) (by decide) w)
  have e1 := Int.emod_nonneg id (show (65534 : Int) ≠ 0 by decide)
  have e2 := Int.emod_lt_of_pos id (show (0 : Int) < 65534 by decide)
  have e3 := Int.emod_nonneg msg (show (65535 : Int) ≠ 0 by decide)
  have e4 := Int.emod_lt_of_pos msg (show (0 : Int) < 65535 by decide)
  obtain ⟨ti, hti⟩ : ∃ ti, ti = id % 65534 := ⟨_, rfl⟩
  obtain ⟨mi, hmi⟩ : ∃ mi, mi = msg % 65535 := ⟨_, rfl⟩
  rw [← hti] at HP1 e1 e2
  rw [← hmi] at HP2 e3 e4
  have hrb := reg_bytes (tid := 1 + ti) (mid := 1 + mi) (name := name) (by omega) (by omega) hl
  have HBr := Lib.hid (fun w hm => msbytes_any (regX (1 + ti) (1 + mi) name) (by show ((name.length : Nat) : Int) ≤ 100000; omega) (by show (0 : Int) ≤ 100000; decide) w hm)
  clear hti hmi
  obtain ⟨-, B, b1, b2, b3, b4⟩ := hrb.resolve_right (fun h => by rw [hnbR] at h; cases h.1)
  rw [b1] at HBr
  obtain ⟨S, hS⟩ : ∃ S, S = snS 10 ((name.length : Int) + 4) := ⟨_, rfl⟩
  have hS4 : S.length ≤ 4 := by rw [hS]; exact snS_len_le _ _
  rw [← hS] at b2 b4
  have HBq := Lib.hid (fun w => by have := rsnbytes_any 10 ((name.length : Int) + 4) (by omega) w; rw [b4] at this; exact this)
  have b5 : (B.length : Int) = (S.length : Int) + 4 + (name.length : Int) := by omega
  have b6 : (B.length : Int) - (name.length : Int) = ((B.length - name.length : Nat) : Int) := by omega
  have b7 : (ByteArray.mk B.toArray).extract (S.length + 4) (S.length + 4 + name.length) = ByteArray.mk name.toArray := by
    have q1 : S.length + 4 = B.length - name.length := by omega
    have q2 : S.length + 4 + name.length = B.length := by omega
    rw [q2, q1, ByteArray.extract_mk]
    simp [b3]
    exact List.take_of_length_le (by omega)
  have hBl : B.length ≤ 1000 := by omega
  clear hrb b1 b3 b4 hS hnb hnbR
  unfold pubM Ms.cs at HCf
  unfold regX fl0 Ms.cs at HBr
  dsimp only at HBr HCf
  go_enter Tryd.func4, Tryd.ntmps4
  refine wp_hide fun Q1 hQ1 => ?_
  have HQ1 := Lib.hid hQ1
  clear hQ1
  go_wp2_with fail
  refine (HL.out _ HM.out).mono ?_
  rintro r w1 ⟨rfl, hb⟩
  have HB1 := Lib.hid hb
  clear hb
  go_wp2_with fail
  refine (HSh.out _).mono ?_
  rintro r w2 ⟨rfl, hb⟩
  have HB2 := Lib.hid (HB1.out.trans (hb.mono HB1.out.size))
  clear hb
  go_wp2_with fail
  refine (HNo.out _).mono ?_
  rintro r w6 ⟨rfl, hb⟩
  have HB6 := Lib.hid (HB2.out.trans (hb.mono HB2.out.size))
  clear hb
  go_wp2_with fail
  refine (HS2.out _).mono ?_
  rintro r w7 ⟨rfl, hb⟩
  have HB7 := Lib.hid (HB6.out.trans (hb.mono HB6.out.size))
  clear hb
  have hst8 := store_new w7 (pubM 1 id data)
  have hld8 := load_msg (Obj?.new w7 (Ms.cs (pubM 1 id data)) 25)
  have HB8 := Lib.hid (HB7.out.alloc HB7.out.size (.cells (Ms.cs (pubM 1 id data)) 25 (0, 0)))
  unfold pubM Ms.cs at hst8 hld8 HB8
  dsimp only at hst8 hld8 HB8
  go_wp2_with fail
  refine (HCf.out _ (HM.out.below HB8.out HM.out.1)).mono ?_
  rintro r w9 ⟨rfl, hb⟩
  have HB9 := Lib.hid (HB8.out.trans (hb.mono HB8.out.size))
  clear hb
  clear hst8 hld8
  go_wp2_with fail
  refine (HP1.out _).mono ?_
  rintro r wp ⟨rfl, hwp⟩
  subst hwp
  go_wp2_with fail
  refine (HP2.out _).mono ?_
  rintro r wp ⟨rfl, hwp⟩
  subst hwp
  have hst10 := store_new w9 (regX (1 + ti) (1 + mi) name)
  have hld10 := load_msg (Obj?.new w9 (Ms.cs (regX (1 + ti) (1 + mi) name)) 25)
  have HB10 := Lib.hid (HB9.out.alloc HB9.out.size (.cells (Ms.cs (regX (1 + ti) (1 + mi) name)) 25 (0, 0)))
  unfold regX fl0 Ms.cs at hst10 hld10 HB10
  dsimp only at hst10 hld10 HB10
  go_wp2_with fail
  refine (HBr.out _ (HM.out.below HB10.out HM.out.1)).mono ?_
  rintro r w11 ⟨rfl, hb⟩
  have HB11 := Lib.hid (HB10.out.trans (hb.mono HB10.out.size))
  clear hb
  clear hst10 hld10
  go_wp2_with fail
  refine (HRn.out _).mono ?_
  rintro r wp ⟨rfl, hwp⟩
  subst hwp
  go_wp2_with fail
  refine (HBq.out _).mono ?_
  rintro r w12 ⟨rfl, hb⟩
  have HB12 := Lib.hid (HB11.out.trans (hb.mono HB11.out.size))
  clear hb
  go_wp2
  refine HQ1.out _ _ _ ?_
  go_ret
  exact ⟨rfl, HB12.out⟩
set_option maxRecDepth 100000 in
set_option maxHeartbeats 3200000 in
theorem snmsgTopics_pt_n_l (name : List UInt8) (id : Int) (data : List UInt8) (msg : Int) (hl : name.length ≤ 400) (hd : data.length ≤ 400) (h2 : name.length ≠ 2) (hnb : nameB name = true) (ho : (nameOfF id).2 = false) (hc : id < 1) (w : World) (hm : Mx w) :
    Calls Tryd.prog 4 #[.string ⟨name.toArray⟩, .int .i64 id, .string ⟨data.toArray⟩, .int .i64 msg] w fun e w' => e = .returned (.bool true) ∧ Below w.heap.size w w' := by
  have HL := Lib.hid lives22
  have HM := Lib.hid hm
  clear hm
  have HSh := Lib.hid (fun w => short_any name (by omega) w)
  have HNo := Lib.hid (fun w => nameof_any id w)
  have HRn := Lib.hid (fun w => rtname_any name (by omega) w)
  have HCf := Lib.hid (fun w hm => check_any (pubM 1 id data) (by show (0 : Int) ≤ 100000; decide) (by show ((data.length : Nat) : Int) ≤ 100000; omega) w hm)
  obtain ⟨cf, hcf⟩ : ∃ cf, cf = checkM (pubM 1 id data) := ⟨_, rfl⟩
  have dcf := pub_fixed id hd
  rw [← hcf] at HCf dcf
  clear hcf
  rw [decide_eq_false (by omega)] at dcf
  have hsf : shortF name = (0, false) := by unfold shortF; rw [if_neg (by rintro ⟨a, b⟩; exact h2 a)]
  rw [hsf] at HSh
  clear hsf
  have hnbR := hnb
  rw [hnb] at HRn
  have d2 : ((name.length : Int) == 2) = false := by apply beq_eq_false_iff_ne.2; omega
  have hno : nameOfF id = ([], false) := by
    unfold nameOfF at ho ⊢
    split
    · rename_i h; rw [if_pos h] at ho; cases ho
    · rfl
  rw [hno] at HNo
  clear hno ho
  have HP1 := Lib.hid (fun w => pick_any id 65534 (by decide) (by decide) w)
  have HP2 := Lib.hid (fun w => pick_any msg 65535 (by decide) (by decide) w)
  have e1 := Int.emod_nonneg id (show (65534 : Int) ≠ 0 by decide)
  have e2 := Int.emod_lt_of_pos id (show (0 : Int) < 65534 by decide)
  have e3 := Int.emod_nonneg msg (show (65535 : Int) ≠ 0 by decide)
  have e4 := Int.emod_lt_of_pos msg (show (0 : Int) < 65535 by decide)
  obtain ⟨ti, hti⟩ : ∃ ti, ti = id % 65534 := ⟨_, rfl⟩
  obtain ⟨mi, hmi⟩ : ∃ mi, mi = msg % 65535 := ⟨_, rfl⟩
  rw [← hti] at HP1 e1 e2
  rw [← hmi] at HP2 e3 e4
  have hrb := reg_bytes (tid := 1 + ti) (mid := 1 + mi) (name := name) (by omega) (by omega) hl
  have HBr := Lib.hid (fun w hm => msbytes_any (regX (1 + ti) (1 + mi) name) (by show ((name.length : Nat) : Int) ≤ 100000; omega) (by show (0 : Int) ≤ 100000; decide) w hm)
  clear hti hmi
  obtain ⟨-, B, b1, b2, b3, b4⟩ := hrb.resolve_right (fun h => by rw [hnbR] at h; cases h.1)
  rw [b1] at HBr
  obtain ⟨S, hS⟩ : ∃ S, S = snS 10 ((name.length : Int) + 4) := ⟨_, rfl⟩
  have hS4 : S.length ≤ 4 := by rw [hS]; exact snS_len_le _ _
  rw [← hS] at b2 b4
  have HBq := Lib.hid (fun w => by have := rsnbytes_any 10 ((name.length : Int) + 4) (by omega) w; rw [b4] at this; exact this)
  have b5 : (B.length : Int) = (S.length : Int) + 4 + (name.length : Int) := by omega
  have b6 : (B.length : Int) - (name.length : Int) = ((B.length - name.length : Nat) : Int) := by omega
  have b7 : (ByteArray.mk B.toArray).extract (S.length + 4) (S.length + 4 + name.length) = ByteArray.mk name.toArray := by
    have q1 : S.length + 4 = B.length - name.length := by omega
    have q2 : S.length + 4 + name.length = B.length := by omega
    rw [q2, q1, ByteArray.extract_mk]
    simp [b3]
    exact List.take_of_length_le (by omega)
  have hBl : B.length ≤ 1000 := by omega
  clear hrb b1 b3 b4 hS hnb hnbR
  unfold pubM Ms.cs at HCf
  unfold regX fl0 Ms.cs at HBr
  dsimp only at HBr HCf
  go_enter Tryd.func4, Tryd.ntmps4
  refine wp_hide fun Q1 hQ1 => ?_
  have HQ1 := Lib.hid hQ1
  clear hQ1
  go_wp2_with fail
  refine (HL.out _ HM.out).mono ?_
  rintro r w1 ⟨rfl, hb⟩
  have HB1 := Lib.hid hb
  clear hb
  go_wp2_with fail
  refine (HSh.out _).mono ?_
  rintro r w2 ⟨rfl, hb⟩
  have HB2 := Lib.hid (HB1.out.trans (hb.mono HB1.out.size))
  clear hb
  go_wp2_with fail
  refine (HNo.out _).mono ?_
  rintro r w6 ⟨rfl, hb⟩
  have HB6 := Lib.hid (HB2.out.trans (hb.mono HB2.out.size))
  clear hb
  have hst8 := store_new w6 (pubM 1 id data)
  have hld8 := load_msg (Obj?.new w6 (Ms.cs (pubM 1 id data)) 25)
  have HB8 := Lib.hid (HB6.out.alloc HB6.out.size (.cells (Ms.cs (pubM 1 id data)) 25 (0, 0)))
  unfold pubM Ms.cs at hst8 hld8 HB8
  dsimp only at hst8 hld8 HB8
  go_wp2_with fail
  refine (HCf.out _ (HM.out.below HB8.out HM.out.1)).mono ?_
  rintro r w9 ⟨rfl, hb⟩
  have HB9 := Lib.hid (HB8.out.trans (hb.mono HB8.out.size))
  clear hb
  clear hst8 hld8
  go_wp2_with fail
  refine (HP1.out _).mono ?_
  rintro r wp ⟨rfl, hwp⟩
  subst hwp
  go_wp2_with fail
  refine (HP2.out _).mono ?_
  rintro r wp ⟨rfl, hwp⟩
  subst hwp
  have hst10 := store_new w9 (regX (1 + ti) (1 + mi) name)
  have hld10 := load_msg (Obj?.new w9 (Ms.cs (regX (1 + ti) (1 + mi) name)) 25)
  have HB10 := Lib.hid (HB9.out.alloc HB9.out.size (.cells (Ms.cs (regX (1 + ti) (1 + mi) name)) 25 (0, 0)))
  unfold regX fl0 Ms.cs at hst10 hld10 HB10
  dsimp only at hst10 hld10 HB10
  go_wp2_with fail
  refine (HBr.out _ (HM.out.below HB10.out HM.out.1)).mono ?_
  rintro r w11 ⟨rfl, hb⟩
  have HB11 := Lib.hid (HB10.out.trans (hb.mono HB10.out.size))
  clear hb
  clear hst10 hld10
  go_wp2_with fail
  refine (HRn.out _).mono ?_
  rintro r wp ⟨rfl, hwp⟩
  subst hwp
  go_wp2_with fail
  refine (HBq.out _).mono ?_
  rintro r w12 ⟨rfl, hb⟩
  have HB12 := Lib.hid (HB11.out.trans (hb.mono HB11.out.size))
  clear hb
  go_wp2
  refine HQ1.out _ _ _ ?_
  go_ret
  exact ⟨rfl, HB12.out⟩
set_option maxRecDepth 100000 in
set_option maxHeartbeats 3200000 in
theorem snmsgTopics_pt_n_i (name : List UInt8) (id : Int) (data : List UInt8) (msg : Int) (hl : name.length ≤ 400) (hd : data.length ≤ 400) (h2 : name.length ≠ 2) (hnb : nameB name = true) (ho : (nameOfF id).2 = false) (hc : 1 ≤ id) (hc2 : id ≤ 65534) (w : World) (hm : Mx w) :
    Calls Tryd.prog 4 #[.string ⟨name.toArray⟩, .int .i64 id, .string ⟨data.toArray⟩, .int .i64 msg] w fun e w' => e = .returned (.bool true) ∧ Below w.heap.size w w' := by
  have HL := Lib.hid lives22
  have HM := Lib.hid hm
  clear hm
  have HSh := Lib.hid (fun w => short_any name (by omega) w)
  have HNo := Lib.hid (fun w => nameof_any id w)
  have HRn := Lib.hid (fun w => rtname_any name (by omega) w)
  have HCf := Lib.hid (fun w hm => check_any (pubM 1 id data) (by show (0 : Int) ≤ 100000; decide) (by show ((data.length : Nat) : Int) ≤ 100000; omega) w hm)
  obtain ⟨cf, hcf⟩ : ∃ cf, cf = checkM (pubM 1 id data) := ⟨_, rfl⟩
  have dcf := pub_fixed id hd
  rw [← hcf] at HCf dcf
  clear hcf
  rw [decide_eq_true (by omega)] at dcf
  have hsf : shortF name = (0, false) := by unfold shortF; rw [if_neg (by rintro ⟨a, b⟩; exact h2 a)]
  rw [hsf] at HSh
  clear hsf
  have hnbR := hnb
  rw [hnb] at HRn
  have d2 : ((name.length : Int) == 2) = false := by apply beq_eq_false_iff_ne.2; omega
  have hno : nameOfF id = ([], false) := by
    unfold nameOfF at ho ⊢
    split
    · rename_i h; rw [if_pos h] at ho; cases ho
    · rfl
  rw [hno] at HNo
  clear hno ho
  have HP1 := Lib.hid (fun w => pick_any id 65534 (by decide) (by decide) w)
  have HP2 := Lib.hid (fun w => pick_any msg 65535 (by decide) (by decide) w)
  have e1 := Int.emod_nonneg id (show (65534 : Int) ≠ 0 by decide)
  have e2 := Int.emod_lt_of_pos id (show (0 : Int) < 65534 by decide)
  have e3 := Int.emod_nonneg msg (show (65535 : Int) ≠ 0 by decide)
  have e4 := Int.emod_lt_of_pos msg (show (0 : Int) < 65535 by decide)
  obtain ⟨ti, hti⟩ : ∃ ti, ti = id % 65534 := ⟨_, rfl⟩
  obtain ⟨mi, hmi⟩ : ∃ mi, mi = msg % 65535 := ⟨_, rfl⟩
  rw [← hti] at HP1 e1 e2
  rw [← hmi] at HP2 e3 e4
  have hrb := reg_bytes (tid := 1 + ti) (mid := 1 + mi) (name := name) (by omega) (by omega) hl
  have HBr := Lib.hid (fun w hm => msbytes_any (regX (1 + ti) (1 + mi) name) (by show ((name.length : Nat) : Int) ≤ 100000; omega) (by show (0 : Int) ≤ 100000; decide) w hm)
  clear hti hmi
  obtain ⟨-, B, b1, b2, b3, b4⟩ := hrb.resolve_right (fun h => by rw [hnbR] at h; cases h.1)
  rw [b1] at HBr
  obtain ⟨S, hS⟩ : ∃ S, S = snS 10 ((name.length : Int) + 4) := ⟨_, rfl⟩
  have hS4 : S.length ≤ 4 := by rw [hS]; exact snS_len_le _ _
  rw [← hS] at b2 b4
  have HBq := Lib.hid (fun w => by have := rsnbytes_any 10 ((name.length : Int) + 4) (by omega) w; rw [b4] at this; exact this)
  have b5 : (B.length : Int) = (S.length : Int) + 4 + (name.length : Int) := by omega
  have b6 : (B.length : Int) - (name.length : Int) = ((B.length - name.length : Nat) : Int) := by omega
  have b7 : (ByteArray.mk B.toArray).extract (S.length + 4) (S.length + 4 + name.length) = ByteArray.mk name.toArray := by
    have q1 : S.length + 4 = B.length - name.length := by omega
    have q2 : S.length + 4 + name.length = B.length := by omega
    rw [q2, q1, ByteArray.extract_mk]
    simp [b3]
    exact List.take_of_length_le (by omega)
  have hBl : B.length ≤ 1000 := by omega
  clear hrb b1 b3 b4 hS hnb hnbR
  unfold pubM Ms.cs at HCf
  unfold regX fl0 Ms.cs at HBr
  dsimp only at HBr HCf
  go_enter Tryd.func4, Tryd.ntmps4
  refine wp_hide fun Q1 hQ1 => ?_
  have HQ1 := Lib.hid hQ1
  clear hQ1
  go_wp2_with fail
  refine (HL.out _ HM.out).mono ?_
  rintro r w1 ⟨rfl, hb⟩
  have HB1 := Lib.hid hb
  clear hb
  go_wp2_with fail
  refine (HSh.out _).mono ?_
  rintro r w2 ⟨rfl, hb⟩
  have HB2 := Lib.hid (HB1.out.trans (hb.mono HB1.out.size))
  clear hb
  go_wp2_with fail
  refine (HNo.out _).mono ?_
  rintro r w6 ⟨rfl, hb⟩
  have HB6 := Lib.hid (HB2.out.trans (hb.mono HB2.out.size))
  clear hb
  have hst8 := store_new w6 (pubM 1 id data)
  have hld8 := load_msg (Obj?.new w6 (Ms.cs (pubM 1 id data)) 25)
  have HB8 := Lib.hid (HB6.out.alloc HB6.out.size (.cells (Ms.cs (pubM 1 id data)) 25 (0, 0)))
  unfold pubM Ms.cs at hst8 hld8 HB8
  dsimp only at hst8 hld8 HB8
  go_wp2_with fail
  refine (HCf.out _ (HM.out.below HB8.out HM.out.1)).mono ?_
  rintro r w9 ⟨rfl, hb⟩
  have HB9 := Lib.hid (HB8.out.trans (hb.mono HB8.out.size))
  clear hb
  clear hst8 hld8
  go_wp2_with fail
  refine (HP1.out _).mono ?_
  rintro r wp ⟨rfl, hwp⟩
  subst hwp
  go_wp2_with fail
  refine (HP2.out _).mono ?_
  rintro r wp ⟨rfl, hwp⟩
  subst hwp
  have hst10 := store_new w9 (regX (1 + ti) (1 + mi) name)
  have hld10 := load_msg (Obj?.new w9 (Ms.cs (regX (1 + ti) (1 + mi) name)) 25)
  have HB10 := Lib.hid (HB9.out.alloc HB9.out.size (.cells (Ms.cs (regX (1 + ti) (1 + mi) name)) 25 (0, 0)))
  unfold regX fl0 Ms.cs at hst10 hld10 HB10
  dsimp only at hst10 hld10 HB10
  go_wp2_with fail
  refine (HBr.out _ (HM.out.below HB10.out HM.out.1)).mono ?_
  rintro r w11 ⟨rfl, hb⟩
  have HB11 := Lib.hid (HB10.out.trans (hb.mono HB10.out.size))
  clear hb
  clear hst10 hld10
  go_wp2_with fail
  refine (HRn.out _).mono ?_
  rintro r wp ⟨rfl, hwp⟩
  subst hwp
  go_wp2_with fail
  refine (HBq.out _).mono ?_
  rintro r w12 ⟨rfl, hb⟩
  have HB12 := Lib.hid (HB11.out.trans (hb.mono HB11.out.size))
  clear hb
  go_wp2
  refine HQ1.out _ _ _ ?_
  go_ret
  exact ⟨rfl, HB12.out⟩
set_option maxRecDepth 100000 in
set_option maxHeartbeats 3200000 in
theorem snmsgTopics_pt_n_h (name : List UInt8) (id : Int) (data : List UInt8) (msg : Int) (hl : name.length ≤ 400) (hd : data.length ≤ 400) (h2 : name.length ≠ 2) (hnb : nameB name = true) (ho : (nameOfF id).2 = false) (hc : 1 ≤ id) (hc2 : 65534 < id) (w : World) (hm : Mx w) :
    Calls Tryd.prog 4 #[.string ⟨name.toArray⟩, .int .i64 id, .string ⟨data.toArray⟩, .int .i64 msg] w fun e w' => e = .returned (.bool true) ∧ Below w.heap.size w w' := by
  have HL := Lib.hid lives22
  have HM := Lib.hid hm
  clear hm
  have HSh := Lib.hid (fun w => short_any name (by omega) w)
  have HNo := Lib.hid (fun w => nameof_any id w)
  have HRn := Lib.hid (fun w => rtname_any name (by omega) w)
  have HCf := Lib.hid (fun w hm => check_any (pubM 1 id data) (by show (0 : Int) ≤ 100000; decide) (by show ((data.length : Nat) : Int) ≤ 100000; omega) w hm)
  obtain ⟨cf, hcf⟩ : ∃ cf, cf = checkM (pubM 1 id data) := ⟨_, rfl⟩
  have dcf := pub_fixed id hd
  rw [← hcf] at HCf dcf
  clear hcf
  rw [decide_eq_false (by omega)] at dcf
  have hsf : shortF name = (0, false) := by unfold shortF; rw [if_neg (by rintro ⟨a, b⟩; exact h2 a)]
  rw [hsf] at HSh
  clear hsf
  have hnbR := hnb
  rw [hnb] at HRn
  have d2 : ((name.length : Int) == 2) = false := by apply beq_eq_false_iff_ne.2; omega
  have hno : nameOfF id = ([], false) := by
    unfold nameOfF at ho ⊢
    split
    · rename_i h; rw [if_pos h] at ho; cases ho
    · rfl
  rw [hno] at HNo
  clear hno ho
  have HP1 := Lib.hid (fun w => pick_any id 65534 (by decide) (by decide) w)
  have HP2 := Lib.hid (fun w => pick_any msg 65535 (by decide) (by decide) w)
  have e1 := Int.emod_nonneg id (show (65534 : Int) ≠ 0 by decide)
  have e2 := Int.emod_lt_of_pos id (show (0 : Int) < 65534 by decide)
  have e3 := Int.emod_nonneg msg (show (65535 : Int) ≠ 0 by decide)
  have e4 := Int.emod_lt_of_pos msg (show (0 : Int) < 65535 by decide)
  obtain ⟨ti, hti⟩ : ∃ ti, ti = id % 65534 := ⟨_, rfl⟩
  obtain ⟨mi, hmi⟩ : ∃ mi, mi = msg % 65535 := ⟨_, rfl⟩
  rw [← hti] at HP1 e1 e2
  rw [← hmi] at HP2 e3 e4
  have hrb := reg_bytes (tid := 1 + ti) (mid := 1 + mi) (name := name) (by omega) (by omega) hl
  have HBr := Lib.hid (fun w hm => msbytes_any (regX (1 + ti) (1 + mi) name) (by show ((name.length : Nat) : Int) ≤ 100000; omega) (by show (0 : Int) ≤ 100000; decide) w hm)
  clear hti hmi
  obtain ⟨-, B, b1, b2, b3, b4⟩ := hrb.resolve_right (fun h => by rw [hnbR] at h; cases h.1)
  rw [b1] at HBr
  obtain ⟨S, hS⟩ : ∃ S, S = snS 10 ((name.length : Int) + 4) := ⟨_, rfl⟩
  have hS4 : S.length ≤ 4 := by rw [hS]; exact snS_len_le _ _
  rw [← hS] at b2 b4
  have HBq := Lib.hid (fun w => by have := rsnbytes_any 10 ((name.length : Int) + 4) (by omega) w; rw [b4] at this; exact this)
  have b5 : (B.length : Int) = (S.length : Int) + 4 + (name.length : Int) := by omega
  have b6 : (B.length : Int) - (name.length : Int) = ((B.length - name.length : Nat) : Int) := by omega
  have b7 : (ByteArray.mk B.toArray).extract (S.length + 4) (S.length + 4 + name.length) = ByteArray.mk name.toArray := by
    have q1 : S.length + 4 = B.length - name.length := by omega
    have q2 : S.length + 4 + name.length = B.length := by omega
    rw [q2, q1, ByteArray.extract_mk]
    simp [b3]
    exact List.take_of_length_le (by omega)
  have hBl : B.length ≤ 1000 := by omega
  clear hrb b1 b3 b4 hS hnb hnbR
  unfold pubM Ms.cs at HCf
  unfold regX fl0 Ms.cs at HBr
  dsimp only at HBr HCf
  go_enter Tryd.func4, Tryd.ntmps4
  refine wp_hide fun Q1 hQ1 => ?_
  have HQ1 := Lib.hid hQ1
  clear hQ1
  go_wp2_with fail
  refine (HL.out _ HM.out).mono ?_
  rintro r w1 ⟨rfl, hb⟩
  have HB1 := Lib.hid hb
  clear hb
  go_wp2_with fail
  refine (HSh.out _).mono ?_
  rintro r w2 ⟨rfl, hb⟩
  have HB2 := Lib.hid (HB1.out.trans (hb.mono HB1.out.size))
  clear hb
  go_wp2_with fail
  refine (HNo.out _).mono ?_
  rintro r w6 ⟨rfl, hb⟩
  have HB6 := Lib.hid (HB2.out.trans (hb.mono HB2.out.size))
  clear hb
  have hst8 := store_new w6 (pubM 1 id data)
  have hld8 := load_msg (Obj?.new w6 (Ms.cs (pubM 1 id data)) 25)
  have HB8 := Lib.hid (HB6.out.alloc HB6.out.size (.cells (Ms.cs (pubM 1 id data)) 25 (0, 0)))
  unfold pubM Ms.cs at hst8 hld8 HB8
  dsimp only at hst8 hld8 HB8
  go_wp2_with fail
  refine (HCf.out _ (HM.out.below HB8.out HM.out.1)).mono ?_
  rintro r w9 ⟨rfl, hb⟩
  have HB9 := Lib.hid (HB8.out.trans (hb.mono HB8.out.size))
  clear hb
  clear hst8 hld8
  go_wp2_with fail
  refine (HP1.out _).mono ?_
  rintro r wp ⟨rfl, hwp⟩
  subst hwp
  go_wp2_with fail
  refine (HP2.out _).mono ?_
  rintro r wp ⟨rfl, hwp⟩
  subst hwp
  have hst10 := store_new w9 (regX (1 + ti) (1 + mi) name)
  have hld10 := load_msg (Obj?.new w9 (Ms.cs (regX (1 + ti) (1 + mi) name)) 25)
  have HB10 := Lib.hid (HB9.out.alloc HB9.out.size (.cells (Ms.cs (regX (1 + ti) (1 + mi) name)) 25 (0, 0)))
  unfold regX fl0 Ms.cs at hst10 hld10 HB10
  dsimp only at hst10 hld10 HB10
  go_wp2_with fail
  refine (HBr.out _ (HM.out.below HB10.out HM.out.1)).mono ?_
  rintro r w11 ⟨rfl, hb⟩
  have HB11 := Lib.hid (HB10.out.trans (hb.mono HB10.out.size))
  clear hb
  clear hst10 hld10
  go_wp2_with fail
  refine (HRn.out _).mono ?_
  rintro r wp ⟨rfl, hwp⟩
  subst hwp
  go_wp2_with fail
  refine (HBq.out _).mono ?_
  rintro r w12 ⟨rfl, hb⟩
  have HB12 := Lib.hid (HB11.out.trans (hb.mono HB11.out.size))
  clear hb
  go_wp2
  refine HQ1.out _ _ _ ?_
  go_ret
  exact ⟨rfl, HB12.out⟩
end Go.Proofs.YtbacnaplpfmpnaaDoor
