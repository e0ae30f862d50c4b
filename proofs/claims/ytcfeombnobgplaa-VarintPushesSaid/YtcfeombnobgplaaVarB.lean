/- VarintBack: the walk. -/
import Derived.Test.YtcfeombnobgplaaVarW
import Derived.Test.YtcfeombnobgplaaVarQ
import Derived.Test.YtcfeombnobgplaaOctL
namespace Go.Proofs.Ytcfeombnobgplaa
open Go.RowKit

set_option maxHeartbeats 400000 in
theorem lives02 (w : World) : Calls Try.prog 25 #[] w fun e w' => e = .returned (.bool true) ∧ Below w.heap.size w w' := by
  have e1 : vbytes 127 = [127] := by decide
  have e2 : vbytes 128 = [128, 1] := by decide
  go_enter Try.func25, Try.ntmps25
  go_wp2_with fail
  refine (vbytes_any 127 (by decide) (by decide) _).mono ?_
  rintro r w1 ⟨rfl, hB1⟩
  rw [e1]
  go_wp2_with fail
  refine (vbytes_any 128 (by decide) (by decide) _).mono ?_
  rintro r w2 ⟨rfl, hb⟩
  rw [e2]
  have hB2 := hB1.trans (hb.mono hB1.size)
  go_wp2
  go_ret
  exact ⟨rfl, hB2⟩

theorem limit_of {m : Int} (h0 : 0 ≤ m) (h1 : m ≤ 268435455) (L : Int) (hL : L = 128 ^ vsz m) : m < L ∧ (1 < vsz m → L / 128 ≤ m) := by
  unfold vsz at *
  rw [if_neg (by omega)] at *
  subst hL
  split
  · exact ⟨by omega, fun h => by omega⟩
  · split
    · exact ⟨by omega, fun h => by omega⟩
    · split
      · exact ⟨by omega, fun h => by omega⟩
      · exact ⟨by omega, fun h => by omega⟩
theorem pow128 (j : Nat) (h : j ≤ 3) : (1 : Int) ≤ 128 ^ j ∧ (128 : Int) ^ j ≤ 2097152 := by
  have hh : j = 0 ∨ j = 1 ∨ j = 2 ∨ j = 3 := by omega
  rcases hh with rfl | rfl | rfl | rfl <;> decide

set_option maxRecDepth 100000 in
set_option maxHeartbeats 1600000 in
theorem varintBack_walk (n : Int) (bh s : List UInt8) (hb : (bh.length : Int) ≤ 9223372036854775807) (hs : (s.length : Int) ≤ 9223372036854775807) (w : World) :
    Calls Try.prog 8 #[.int .i64 n, .string ⟨bh.toArray⟩, .string ⟨s.toArray⟩] w fun e w' => e = .returned (.bool true) ∧ Below w.heap.size w w' := by
  by_cases hb60 : 60 < bh.length
  · go_enter Try.func8, Try.ntmps8
    go_wp2_with fail
    refine (lives02 _).mono ?_
    rintro r w1 ⟨rfl, hB1⟩
    go_wp2
    go_ret
    exact ⟨rfl, hB1⟩
  by_cases hs60 : 60 < s.length
  · go_enter Try.func8, Try.ntmps8
    go_wp2_with fail
    refine (lives02 _).mono ?_
    rintro r w1 ⟨rfl, hB1⟩
    go_wp2
    go_ret
    exact ⟨rfl, hB1⟩
  go_enter Try.func8, Try.ntmps8
  go_wp2_with fail
  refine (lives02 _).mono ?_
  rintro r w1 ⟨rfl, hB1⟩
  go_wp2_with fail
  refine (pick_any n 268435456 (by omega) (by omega) _).mono ?_
  rintro r w ⟨rfl, rfl⟩
  have hm0 : 0 ≤ n % 268435456 := by omega
  have hm1 : n % 268435456 ≤ 268435455 := by omega
  generalize n % 268435456 = m at hm0 hm1 ⊢
  obtain ⟨z1, z4⟩ := vsz_pos hm0 hm1
  have hlb := length_vbytes m
  have hap : (ByteArray.mk (vbytes m).toArray) ++ ByteArray.mk bh.toArray = ByteArray.mk (vbytes m ++ bh).toArray := ByteArray.mk_append_mk _ _
  have hrd := Lib.hid (vread_vbytes m hm0 hm1 bh)
  have hsz : (vbytes m).length + bh.length ≤ 64 := by omega
  have hlim := Lib.hid (fun L => limit_of hm0 hm1 L)
  go_wp2_with fail
  refine (vbytes_any m hm0 hm1 _).mono ?_
  rintro r w2 ⟨rfl, hb2⟩
  have hB2 := hB1.trans (hb2.mono hB1.size)
  clear hb2
  go_wp2_with fail
  refine (vread_any (vbytes m ++ bh) (by simp; omega) _).mono ?_
  rintro r w3 ⟨rfl, hb2⟩
  have hB3 := hB2.trans (hb2.mono hB2.size)
  rw [hrd.out]
  clear hb2 hap
  go_wp2_with fail
  refine (vsz_any m _).mono ?_
  rintro r w ⟨rfl, rfl⟩
  go_wp2_with fail
  go_loop [12, 13] (fun x i => ∃ j : Nat, j ≤ vsz m ∧ i = .int .i64 j ∧ x = .int .i64 (128 ^ j)) (fun _ i => vsz m - (intOf i).toNat)
  case atStart => exact ⟨0, Nat.zero_le _, rfl, rfl⟩
  case round =>
    obtain ⟨j, hj, rfl, rfl⟩ := hrel
    by_cases hlt : j < vsz m
    · have hp := pow128 j (by omega)
      clear hlb
      go_wp2
      go_round
      case rel => exact ⟨j + 1, by omega, by go_num, by rw [Int.pow_succ]⟩
      case measure => simp [intOf]; omega
    · have hje : j = vsz m := by omega
      obtain ⟨L, hL⟩ : ∃ L : Int, L = 128 ^ j := ⟨_, rfl⟩
      rw [← hL]
      obtain ⟨l1, l2⟩ := hlim.out L (by rw [hL, hje])
      clear hL hje hlb
      have hL0 : 0 ≤ L := by omega
      by_cases hz : 1 < vsz m
      all_goals
        try replace l2 := l2 hz
        go_wp2_with fail
        refine (vread_any s hs _).mono ?_
        rintro r w4 ⟨rfl, hb2⟩
        have hB4 := hB3.trans (hb2.mono hB3.size)
        clear hb2 l1 l2
        rcases vread_inv s with ⟨k, k0, k1, hk, hkl, hkt⟩ | hk | hk
        · rw [hk]
          have hx : (ByteArray.mk s.toArray).extract 0 (vsz k) = ByteArray.mk (vbytes k).toArray := by rw [ByteArray.extract_mk]; simp [hkt]
          clear hk hkt
          go_wp2_with fail
          refine (vbytes_any k k0 k1 _).mono ?_
          rintro r w5 ⟨rfl, hb2⟩
          have hB5 := hB4.trans (hb2.mono hB4.size)
          clear hb2
          go_wp2
          go_ret
          exact ⟨rfl, hB5⟩
        · rw [hk]
          clear hk
          go_wp2
          go_ret
          exact ⟨rfl, hB4⟩
        · rw [hk]
          clear hk
          go_wp2
          go_ret
          exact ⟨rfl, hB4⟩
end Go.Proofs.Ytcfeombnobgplaa
