/- UstringCalls. -/
import Derived.Test.YtcfeombnobgplaaUstG
namespace Go.Proofs.Ytcfeombnobgplaa
open Go.RowKit
set_option linter.unusedVariables false

set_option maxRecDepth 100000 in
set_option maxHeartbeats 3200000 in
theorem ustringCalls_walk (s b : List UInt8) (hs : (s.length : Int) ≤ 9223372036854775807) (hb : (b.length : Int) ≤ 9223372036854775807) (w : World) :
    Calls Try.prog 16 #[.string ⟨s.toArray⟩, .string ⟨b.toArray⟩] w fun e w' => e = .returned (.bool true) ∧ Below w.heap.size w w' := by
  by_cases h1 : 70000 < s.length
  · go_enter Try.func16, Try.ntmps16
    go_wp2_with fail
    refine (lives03 _).mono ?_
    rintro e w1 ⟨rfl, hB1⟩
    have d : decide (70000 < (s.length : Int)) = true := by simp; omega
    go_wp2
    go_ret
    exact ⟨rfl, hB1⟩
  by_cases h2 : 70000 < b.length
  · go_enter Try.func16, Try.ntmps16
    go_wp2_with fail
    refine (lives03 _).mono ?_
    rintro e w1 ⟨rfl, hB1⟩
    have d : decide (70000 < (s.length : Int)) = false := by simp; omega
    have d2 : decide (70000 < (b.length : Int)) = true := by simp; omega
    go_wp2
    go_ret
    exact ⟨rfl, hB1⟩
  have hsl : s.length ≤ 70000 := by omega
  have hbl : b.length ≤ 70000 := by omega
  have hrl := rn_le s 0
  obtain ⟨R, hR⟩ : ∃ R, R = rn 0 s := ⟨_, rfl⟩
  have HR := Lib.hid hR
  rw [← hR] at hrl
  clear hR h1 h2
  have d : decide (70000 < (s.length : Int)) = false := by simp; omega
  have d2 : decide (70000 < (b.length : Int)) = false := by simp; omega
  go_enter Try.func16, Try.ntmps16
  go_wp2_with fail
  refine (lives03 _).mono ?_
  rintro e w1 ⟨rfl, hB1⟩
  go_wp2_with fail
  refine (text_any s hs _).mono ?_
  rintro e w2 ⟨rfl, hb⟩
  have hB2 := hB1.trans (hb.mono hB1.size)
  clear hb
  go_wp2_with fail
  refine (rtext_any s (by omega) _).mono ?_
  rintro e w3 ⟨rfl, hb⟩
  have hB3 := hB2.trans (hb.mono hB2.size)
  clear hb
  go_wp2_with fail
  refine (binary_any s _).mono ?_
  rintro e w4 ⟨rfl, hb⟩
  have hB4 := hB3.trans (hb.mono hB3.size)
  clear hb
  go_wp2_with fail
  refine (rbinary_any s (by omega) _).mono ?_
  rintro e w5 ⟨rfl, hb⟩
  have hB5 := hB4.trans (hb.mono hB4.size)
  clear hb
  go_wp2_with fail
  refine (rdT_any b hb _).mono ?_
  rintro e w6 ⟨rfl, hb⟩
  have hB6 := hB5.trans (hb.mono hB5.size)
  clear hb
  go_wp2_with fail
  refine (rrdT_any b (by omega) _).mono ?_
  rintro e w' ⟨rfl, rfl⟩
  go_wp2_with fail
  refine (rdB_any b hb _).mono ?_
  rintro e w7 ⟨rfl, hb⟩
  have hB7 := hB6.trans (hb.mono hB6.size)
  clear hb
  go_wp2_with fail
  refine (rrdB_any b (by omega) _).mono ?_
  rintro e w' ⟨rfl, rfl⟩
  go_wp2_with fail
  refine (lawRunes_any s (by omega) _).mono ?_
  rintro e w8 ⟨v, rfl, hown, hb⟩
  have hB8 := hB7.trans (hb.mono hB7.size)
  clear hb
  rw [← HR.out] at hown
  obtain ⟨a, cap, rfl⟩ := owns_shape (by decide) hown
  have hA := RuneAt.of_own hown
  clear hown
  have HA := Lib.hid hA
  clear hA
  go_wp2_with fail
  refine (valid_any s hs _).mono ?_
  rintro e w9 ⟨rfl, hb⟩
  have hB9 := hB8.trans (hb.mono hB8.size)
  have hA := HA.out.below hb
  clear hb HA
  have HA := Lib.hid hA
  clear hA
  go_wp2_with fail
  refine (rvalid_any s (by omega) _).mono ?_
  rintro e w' ⟨rfl, rfl⟩
  go_wp2_with fail
  refine (bad_any s hs _).mono ?_
  rintro e w10 ⟨rfl, hb⟩
  have hB10 := hB9.trans (hb.mono hB9.size)
  have hA := HA.out.below hb
  clear hb HA
  have HA := Lib.hid hA
  clear hA
  go_wp2_with fail
  refine (rbad_any s (by omega) _).mono ?_
  rintro e w' ⟨rfl, rfl⟩
  go_wp2_with fail
  refine (count_any s hs _).mono ?_
  rintro e w11 ⟨rfl, hb⟩
  have hB11 := hB10.trans (hb.mono hB10.size)
  have hA := HA.out.below hb
  clear hb HA
  have HA := Lib.hid hA
  clear hA
  go_wp2_with fail
  refine (rcount_any s (by omega) _).mono ?_
  rintro e w12 ⟨rfl, hb⟩
  have hB12 := hB11.trans (hb.mono hB11.size)
  have hA := HA.out.below hb
  clear hb HA
  have HA := Lib.hid hA
  clear hA
  go_wp2_with fail
  refine (rrunes_any s (by omega) _).mono ?_
  rintro e w13 ⟨v, rfl, hown, hb⟩
  have hB13 := hB12.trans (hb.mono hB12.size)
  have hA := HA.out.below hb
  rw [← HR.out] at hown
  obtain ⟨a2, cap2, rfl⟩ := owns_shape (by decide) hown
  have hA2 := RuneAt.of_own hown
  have HA := Lib.hid hA
  have HA2 := Lib.hid hA2
  clear hown hA hA2 hb
  go_wp2_with fail
  refine (sameRune_yes a a2 cap cap2 R (by omega) _ HA.out HA2.out).mono ?_
  rintro e w14 ⟨rfl, k, rfl⟩
  go_wp2
  go_ret
  exact ⟨rfl, hB13.trans ((below_grown (quiet_grown ⟨k, rfl⟩ none)).mono hB13.size)⟩
end Go.Proofs.Ytcfeombnobgplaa
