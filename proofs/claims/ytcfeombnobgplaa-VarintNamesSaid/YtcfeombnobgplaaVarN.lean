/- VarintNames: the walk. -/
import Derived.Test.YtcfeombnobgplaaVarB
namespace Go.Proofs.Ytcfeombnobgplaa
open Go.RowKit

theorem vpush_nil (c : Int) (w : World) : Calls Try.prog 30 #[.pointer none, .int .u8 c] w fun e w' => e = .returned (.tuple #[.bool false, .int .i64 1]) ∧ w = w' := by
  go_enter Try.func30, Try.ntmps30
  go_wp2
  go_ret2
  exact ⟨rfl, rfl⟩

set_option maxRecDepth 100000 in
set_option maxHeartbeats 1600000 in
theorem varintNames_walk (w0 : World) : Calls Try.prog 13 #[] w0 fun e w' => e = .returned (.bool true) ∧ Below w0.heap.size w0 w' := by
  go_enter Try.func13, Try.ntmps13
  go_wp2_with fail
  refine (lives02 _).mono ?_
  rintro r w1 ⟨rfl, hB1⟩
  go_wp2_with fail
  refine (vbytes_bad (-1) (by decide) _).mono ?_
  rintro r w ⟨rfl, rfl⟩
  go_wp2_with fail
  refine (vbytes_bad 268435456 (by decide) _).mono ?_
  rintro r w ⟨rfl, rfl⟩
  go_wp2_with fail
  refine (vbytes_any 268435455 (by decide) (by decide) _).mono ?_
  rintro r w2 ⟨rfl, hb⟩
  rw [show vbytes 268435455 = [255, 255, 255, 127] by decide]
  have hB2 := hB1.trans (hb.mono hB1.size)
  clear hb
  go_wp2_with fail
  refine (vread_any [128, 0] (by decide) _).mono ?_
  rintro r w3 ⟨rfl, hb⟩
  rw [show vread [128, 0] = (0, 0, 5) by decide]
  have hB3 := hB2.trans (hb.mono hB2.size)
  clear hb
  go_wp2_with fail
  refine (vread_any [128, 128, 128] (by decide) _).mono ?_
  rintro r w4 ⟨rfl, hb⟩
  rw [show vread [128, 128, 128] = (0, 0, 3) by decide]
  have hB4 := hB3.trans (hb.mono hB3.size)
  clear hb
  go_wp2_with fail
  refine (vread_any [255, 255, 255, 255] (by decide) _).mono ?_
  rintro r w5 ⟨rfl, hb⟩
  rw [show vread [255, 255, 255, 255] = (0, 0, 5) by decide]
  have hB5 := hB4.trans (hb.mono hB4.size)
  clear hb
  go_wp2_with fail
  refine (vread_any [255, 127, 1] (by decide) _).mono ?_
  rintro r w6 ⟨rfl, hb⟩
  rw [show vread [255, 127, 1] = (16383, 2, 0) by decide]
  have hB6 := hB5.trans (hb.mono hB5.size)
  clear hb
  go_wp2_with fail
  refine (vnew_any _).mono ?_
  rintro r w7 ⟨b, rfl, hb, R, hg⟩
  have hB7 := hB6.trans ((below_grown hg).mono hB6.size)
  have Lb : w0.heap.size ≤ b := Nat.le_trans hB6.size hb
  clear hg
  go_wp2_with fail
  refine (vpush_any R VSt.new_ok 128 (by decide) (by decide)).mono ?_
  rintro r w8 ⟨rfl, R1, hg⟩
  rw [show vdone VSt.new 128 = false by decide, show verr VSt.new 128 = 0 by decide]
  rw [show vpush VSt.new 128 = ⟨0, 1, false, false⟩ by rfl] at R1
  have hB8 := hB7.grown hg hB7.size (fun k e => by cases e; exact Lb)
  clear hg R
  go_wp2_with fail
  refine (vpush_any R1 ⟨by decide, by decide, by decide, fun _ _ => by decide⟩ 0 (by decide) (by decide)).mono ?_
  rintro r w9 ⟨rfl, R2, hg⟩
  rw [show vdone ⟨0, 1, false, false⟩ 0 = false by decide, show verr ⟨0, 1, false, false⟩ 0 = 5 by decide]
  rw [show vpush ⟨0, 1, false, false⟩ 0 = ⟨0, 2, false, true⟩ by rfl] at R2
  have hB9 := hB8.grown hg hB8.size (fun k e => by cases e; exact Lb)
  clear hg R1
  go_wp2_with fail
  refine (vpush_any R2 ⟨by decide, by decide, by decide, fun _ h => by cases h⟩ 1 (by decide) (by decide)).mono ?_
  rintro r w10 ⟨rfl, R3, hg⟩
  rw [show vdone ⟨0, 2, false, true⟩ 1 = false by decide, show verr ⟨0, 2, false, true⟩ 1 = 13 by decide]
  rw [show vpush ⟨0, 2, false, true⟩ 1 = ⟨0, 2, false, true⟩ by rfl] at R3
  have hB10 := hB9.grown hg hB9.size (fun k e => by cases e; exact Lb)
  clear hg R2
  go_wp2_with fail
  refine (vvalue_any R3).mono ?_
  rintro r w ⟨rfl, rfl⟩
  go_wp2_with fail
  refine (vsize_any R3).mono ?_
  rintro r w ⟨rfl, rfl⟩
  go_wp2_with fail
  refine (vreset_any R3).mono ?_
  rintro r w11 ⟨rfl, R4, hg⟩
  have hB11 := hB10.grown hg hB10.size (fun k e => by cases e; exact Lb)
  clear hg R3
  go_wp2_with fail
  refine (vpush_any R4 VSt.new_ok 5 (by decide) (by decide)).mono ?_
  rintro r w12 ⟨rfl, R5, hg⟩
  rw [show vdone VSt.new 5 = true by decide, show verr VSt.new 5 = 0 by decide]
  rw [show vpush VSt.new 5 = ⟨5, 1, true, false⟩ by rfl] at R5
  have hB12 := hB11.grown hg hB11.size (fun k e => by cases e; exact Lb)
  clear hg R4
  go_wp2_with fail
  refine (vpush_any R5 ⟨by decide, by decide, by decide, fun h => by cases h⟩ 5 (by decide) (by decide)).mono ?_
  rintro r w13 ⟨rfl, R6, hg⟩
  rw [show vdone ⟨5, 1, true, false⟩ 5 = false by decide, show verr ⟨5, 1, true, false⟩ 5 = 13 by decide]
  rw [show vpush ⟨5, 1, true, false⟩ 5 = ⟨5, 1, true, false⟩ by rfl] at R6
  have hB13 := hB12.grown hg hB12.size (fun k e => by cases e; exact Lb)
  clear hg R5
  go_wp2_with fail
  refine (vvalue_any R6).mono ?_
  rintro r w ⟨rfl, rfl⟩
  go_wp2_with fail
  refine (vpush_nil 1 _).mono ?_
  rintro r w ⟨rfl, rfl⟩
  go_wp2_with fail
  refine (vvalue_nil _).mono ?_
  rintro r w ⟨rfl, rfl⟩
  go_wp2_with fail
  refine (vsize_any R6).mono ?_
  rintro r w ⟨rfl, rfl⟩
  go_wp2_with fail
  refine (vsz_any 0 _).mono ?_
  rintro r w ⟨rfl, rfl⟩
  rw [show vsz 0 = 1 by decide]
  go_wp2_with fail
  refine (vsz_any (-1) _).mono ?_
  rintro r w ⟨rfl, rfl⟩
  rw [show vsz (-1) = 0 by decide]
  go_wp2_with fail
  refine (vsz_any 2097152 _).mono ?_
  rintro r w ⟨rfl, rfl⟩
  rw [show vsz 2097152 = 4 by decide]
  go_wp2_with fail
  refine (vsize_nil _).mono ?_
  rintro r w ⟨rfl, rfl⟩
  go_wp2
  go_ret
  exact ⟨rfl, hB13⟩
end Go.Proofs.Ytcfeombnobgplaa
