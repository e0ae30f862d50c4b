/- VarintCalls: the walk. -/
import Derived.Test.YtcfeombnobgplaaVarB
import Derived.Test.YtcfeombnobgplaaVarR
namespace Go.Proofs.Ytcfeombnobgplaa
open Go.RowKit

set_option maxRecDepth 100000 in
set_option maxHeartbeats 1600000 in
theorem varintCalls_walk (n : Int) (s : List UInt8) (hs : (s.length : Int) ≤ 9223372036854775807) (w : World) :
    Calls Try.prog 7 #[.int .i64 n, .string ⟨s.toArray⟩] w fun e w' => e = .returned (.bool true) ∧ Below w.heap.size w w' := by
  by_cases hs60 : 60 < s.length
  · go_enter Try.func7, Try.ntmps7
    go_wp2_with fail
    refine (lives02 _).mono ?_
    rintro r w1 ⟨rfl, hB1⟩
    go_wp2
    go_ret
    exact ⟨rfl, hB1⟩
  obtain ⟨V, hV⟩ : ∃ V, V = vread s := ⟨_, rfl⟩
  have HV := Lib.hid hV
  clear hV
  cases hm : vmay n with
  | true =>
    obtain ⟨h0, h1⟩ := (vmay_vsz n).2 hm
    have HM := Lib.hid hm
    clear hm
    go_enter Try.func7, Try.ntmps7
    go_wp2_with fail
    refine (lives02 _).mono ?_
    rintro r w1 ⟨rfl, hB1⟩
    go_wp2_with fail
    refine (vbytes_any n h0 h1 _).mono ?_
    rintro r w2 ⟨rfl, hb⟩
    have hB2 := hB1.trans (hb.mono hB1.size)
    clear hb
    go_wp2_with fail
    refine (rvbytes_any n h0 h1 _).mono ?_
    rintro r w3 ⟨rfl, hb⟩
    have hB3 := hB2.trans (hb.mono hB2.size)
    clear hb
    go_wp2_with fail
    refine (vread_any s hs _).mono ?_
    rintro r w4 ⟨rfl, hb⟩
    have hB4 := hB3.trans (hb.mono hB3.size)
    clear hb
    rw [← HV.out]
    go_wp2_with fail
    refine (rvread_any s hs _).mono ?_
    rintro r w ⟨rfl, rfl⟩
    rw [← HV.out]
    go_wp2_with fail
    refine (vsz_any n _).mono ?_
    rintro r w ⟨rfl, rfl⟩
    go_wp2_with fail
    refine (rvsz_any n _).mono ?_
    rintro r w ⟨rfl, rfl⟩
    go_wp2
    go_ret
    exact ⟨ret_val (by simp), hB4⟩
  | false =>
    go_enter Try.func7, Try.ntmps7
    go_wp2_with fail
    refine (lives02 _).mono ?_
    rintro r w1 ⟨rfl, hB1⟩
    go_wp2_with fail
    refine (vbytes_bad n hm _).mono ?_
    rintro r w ⟨rfl, rfl⟩
    go_wp2_with fail
    refine (rvbytes_bad n hm _).mono ?_
    rintro r w ⟨rfl, rfl⟩
    go_wp2_with fail
    refine (vread_any s hs _).mono ?_
    rintro r w4 ⟨rfl, hb⟩
    have hB4 := hB1.trans (hb.mono hB1.size)
    clear hb
    rw [← HV.out]
    go_wp2_with fail
    refine (rvread_any s hs _).mono ?_
    rintro r w ⟨rfl, rfl⟩
    rw [← HV.out]
    go_wp2_with fail
    refine (vsz_any n _).mono ?_
    rintro r w ⟨rfl, rfl⟩
    go_wp2_with fail
    refine (rvsz_any n _).mono ?_
    rintro r w ⟨rfl, rfl⟩
    go_wp2
    go_ret
    exact ⟨ret_val (by simp), hB4⟩
end Go.Proofs.Ytcfeombnobgplaa
