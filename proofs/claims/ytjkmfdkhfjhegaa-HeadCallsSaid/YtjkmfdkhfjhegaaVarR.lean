/- varint: the reference's walks. -/
import Derived.Test.YtjkmfdkhfjhegaaVarW
import Derived.Test.YtjkmfdkhfjhegaaVarQ
namespace Go.Proofs.Ytjkmfdkhfjhegaa
open Go.RowKit

set_option maxHeartbeats 400000 in
theorem rvsz_any (n : Int) (w : World) : Calls Try.prog 61 #[.int .i64 n] w fun e w' => e = .returned (.int .i64 (vsz n)) ∧ w = w' := by
  unfold vsz
  by_cases h0 : n < 0
  · rw [if_pos (.inl h0)]
    have hd : decide (n < 0) = true := by simpa using h0
    go_enter Try.func61, Try.ntmps61
    go_wp2
    go_ret
    exact ⟨rfl, rfl⟩
  have hd : decide (n < 0) = false := by simpa using h0
  by_cases h1 : 268435455 < n
  · rw [if_pos (.inr h1)]
    have hd2 : decide (268435455 < n) = true := by simpa using h1
    go_enter Try.func61, Try.ntmps61
    go_wp2
    go_ret
    exact ⟨rfl, rfl⟩
  have hd2 : decide (268435455 < n) = false := by simpa using h1
  rw [if_neg (by omega)]
  by_cases h2 : n < 128
  · rw [if_pos h2]
    go_enter Try.func61, Try.ntmps61
    go_wp2
    go_ret
    exact ⟨rfl, rfl⟩
  rw [if_neg h2]
  by_cases h3 : n < 16384
  · rw [if_pos h3]
    go_enter Try.func61, Try.ntmps61
    go_wp2
    go_ret
    exact ⟨rfl, rfl⟩
  rw [if_neg h3]
  by_cases h4 : n < 2097152
  · rw [if_pos h4]
    go_enter Try.func61, Try.ntmps61
    go_wp2
    go_ret
    exact ⟨rfl, rfl⟩
  rw [if_neg h4]
  go_enter Try.func61, Try.ntmps61
  go_wp2
  go_ret
  exact ⟨rfl, rfl⟩

theorem vmay_vsz (n : Int) : (vmay n = false → vsz n = 0) ∧ (vmay n = true → 0 ≤ n ∧ n ≤ 268435455) := by
  refine ⟨fun h => ?_, fun h => by simpa [vmay] using h⟩
  simp [vmay] at h; unfold vsz; rw [if_pos (by omega)]

set_option maxRecDepth 100000 in
set_option maxHeartbeats 800000 in
theorem rvbytes_any (n : Int) (h0 : 0 ≤ n) (h1 : n ≤ 268435455) (w : World) :
    Calls Try.prog 40 #[.int .i64 n] w fun e w' => e = .returned (.tuple #[.string ⟨(vbytes n).toArray⟩, .int .i64 0]) ∧ Below w.heap.size w w' := by
  obtain ⟨i0, hi, hz0, hz1, hz2⟩ := info_parts Try.infoU8
  obtain ⟨z1, z4⟩ := vsz_pos h0 h1
  go_enter Try.func40, Try.ntmps40
  go_wp2_with fail
  refine (rvsz_any n _).mono ?_
  rintro e w' ⟨rfl, rfl⟩
  obtain ⟨K, hK⟩ : ∃ K, K = vsz n := ⟨_, rfl⟩
  rw [← hK] at z1 z4 ⊢
  have hk := Lib.hid hK
  clear hK
  have hK0 : ((K : Int) == 0) = false := by simp; omega
  go_wp2_with fail
  go_loopw [0, 5, 6] (fun x v i wr => ∃ (m : Int) (l : List Int), 0 ≤ m ∧ m ≤ 268435455 ∧ x = .int .i64 m ∧ i = .int .i64 l.length ∧ wr.ownsRow w.heap.size 5 1 v l.length (l.map (Value.int .u8)) ∧ Below w.heap.size w wr ∧ (l.length < K ∧ vbK (vsz n) n = l ++ vbK (vsz m) m ∧ K = l.length + vsz m ∨ l.length = K ∧ vbK (vsz n) n = l)) (fun _ _ i _ => K - (intOf i).toNat)
  case atStart => exact ⟨n, [], h0, h1, rfl, rfl, World.ownsRow_nil _ _ _ _, Below.refl _ _, .inl ⟨by simp; omega, rfl, by have := hk.out; simpa using this⟩⟩
  case round =>
    obtain ⟨m, l, hm0, hm1, rfl, rfl, hown, hB, hc⟩ := hrel
    by_cases hlt : l.length < K
    · rcases hc with ⟨_, hvk, hKl⟩ | ⟨h, _⟩
      · have HC := Lib.hid (And.intro hvk hKl)
        by_cases h : 128 ≤ m
        · have hst := vbK_step h hm1
          obtain ⟨s1, s2, s3, s4⟩ := vsz_step h hm1
          have hn : l.length + 1 < K := by omega
          have HS := Lib.hid (And.intro hst (And.intro s1 s2))
          clear hst s1 s2 hvk hKl
          go_wp2_with (at_builtin; refine wpList_append_own _ rfl _ _ 84 rfl w.heap.size 5 i0 (.int .u8 0) 1 1 Try.underlying84 hi hz0 hz1 hz2 rfl (by decide) _ _ _ rfl (hown.alloc _) ⟨wr.heap.size, 0, none⟩ 1 1 [.int .u8 (m % 128 + 128)] rfl rfl (cell_one_new _ _ _) (by simp [Value.oneCell']) (by unfold maxLen; omega) (by omega) (by have := hB.size; simp; omega) ?_; intro v' w1 hown1 hgrow _)
          have hB2 : Below w.heap.size w w1 := below_append hB hown hgrow
          go_roundw
          case rel =>
            refine ⟨m / 128, l ++ [m % 128 + 128], by omega, by omega, rfl, by simp, by simpa using hown1, hB2, .inl ⟨by simp; omega, by rw [HC.out.1, HS.out.1]; simp, ?_⟩⟩
            have a := HC.out.2
            have b := HS.out.2.1
            simp; omega
          case measure => simp [intOf]; omega
        · have hs := vbK_small hm0 (show m < 128 by omega)
          have hz := vsz_small hm0 (show m < 128 by omega)
          have hn : ¬ l.length + 1 < K := by omega
          have hn2 : m % 128 = m := by omega
          have hn3 : m / 128 = 0 := by omega
          have HS := Lib.hid (And.intro hs hz)
          clear hs hz hvk hKl
          go_wp2_with (at_builtin; refine wpList_append_own _ rfl _ _ 84 rfl w.heap.size 5 i0 (.int .u8 0) 1 1 Try.underlying84 hi hz0 hz1 hz2 rfl (by decide) _ _ _ rfl (hown.alloc _) ⟨wr.heap.size, 0, none⟩ 1 1 [.int .u8 m] rfl rfl (cell_one_new _ _ _) (by simp [Value.oneCell']) (by unfold maxLen; omega) (by omega) (by have := hB.size; simp; omega) ?_; intro v' w1 hown1 hgrow _)
          have hB2 : Below w.heap.size w w1 := below_append hB hown hgrow
          go_roundw
          case rel =>
            refine ⟨0, l ++ [m], by omega, by omega, rfl, by simp, by simpa using hown1, hB2, .inr ⟨by simp; omega, by rw [HC.out.1, HS.out.1]⟩⟩
          case measure => simp [intOf]; omega
      · omega
    · rcases hc with ⟨h, _⟩ | ⟨hKl, hvk⟩
      · omega
      · obtain ⟨k, hkk⟩ : ∃ k, l.length = k + 1 := ⟨l.length - 1, by omega⟩
        have hown2 := hown
        rw [hkk] at hown2
        obtain ⟨g', cap', rfl⟩ := owns_succ hown2
        have hconv := run_convert_bytes_arg (P := Try.prog) wr 84 5 Try.underlying84 Try.underlying5 g' 0 (k + 1) cap' l hkk (owns_ints hown2 hkk) 9 Try.underlying9
        have HC := Lib.hid hvk
        have HK2 := Lib.hid hkk
        clear hkk hvk hKl
        go_wp2
        go_ret2
        refine ⟨?_, hB⟩
        have e1 : strOfNums l = ⟨(vbytes n).toArray⟩ := by unfold vbytes u8s; rw [HC.out]; rfl
        rw [← e1]
        rfl
theorem rvbytes_bad (n : Int) (h : vmay n = false) (w : World) :
    Calls Try.prog 40 #[.int .i64 n] w fun e w' => e = .returned (.tuple #[.string ⟨#[]⟩, .int .i64 2]) ∧ w = w' := by
  have hz := (vmay_vsz n).1 h
  go_enter Try.func40, Try.ntmps40
  go_wp2_with fail
  refine (rvsz_any n _).mono ?_
  rintro e w' ⟨rfl, rfl⟩
  rw [hz]
  go_wp2
  go_ret2
  exact ⟨rfl, rfl⟩

set_option maxRecDepth 100000 in
set_option maxHeartbeats 1600000 in
theorem rvread_any (l : List UInt8) (_hl : (l.length : Int) ≤ 9223372036854775807) (w : World) :
    Calls Try.prog 42 #[.string ⟨l.toArray⟩] w fun e w' => e = .returned (.tuple #[.int .i64 (vread l).1, .int .i64 (vread l).2.1, .int .i64 (vread l).2.2]) ∧ w = w' := by
  obtain ⟨V, hV⟩ : ∃ V, V = vread l := ⟨_, rfl⟩
  rw [← hV]
  go_enter Try.func42, Try.ntmps42
  have HV := Lib.hid hV
  clear hV
  go_wp2_with fail
  go_loop [5, 6, 7] (fun n t i => ∃ (j : Nat) (a : Int), j ≤ 4 ∧ i = .int .i64 j ∧ n = .int .i64 a ∧ 0 ≤ a ∧ a < 2 ^ (7 * j) ∧ t = .int .i64 (2 ^ (7 * j)) ∧ (j ≤ 3 ∧ vread l = vrun ⟨a, j, false, false⟩ (l.drop j) ∨ j = 4 ∧ vread l = (0, 0, 5)) ∧ j ≤ l.length) (fun _ _ i => 4 - (intOf i).toNat)
  case atStart => exact ⟨0, 0, by omega, rfl, rfl, by omega, by decide, rfl, .inl ⟨by omega, rfl⟩, Nat.zero_le _⟩
  case round =>
    obtain ⟨j, a, hj, rfl, rfl, a0, a1, rfl, hc, hjl⟩ := hrel
    by_cases h4 : j < 4
    · rcases hc with ⟨_, hrun⟩ | ⟨h, _⟩
      · by_cases hlt : j < l.length
        · rw [vrun_cons hlt] at hrun
          obtain ⟨p1, p2, p3⟩ := pow7 j (by omega) (l[j].toNat : Int)
          have hp := p7_succ j
          have hp0 : (1 : Int) ≤ 2 ^ (7 * j) := by omega
          have hc1 : (l[j].toNat : Int) < 256 := by have := l[j].toNat_lt; omega
          have hjs : j < (ByteArray.mk l.toArray).size := hlt
          have eb : l[j] = (ByteArray.mk l.toArray)[j] := rfl
          rw [eb] at hrun p1 p2 hc1
          clear eb
          have HP := Lib.hid (And.intro hp a1)
          have ha : a ≤ 2097152 := by omega
          have HR := Lib.hid hrun
          clear hp a1 hrun
          by_cases h128 : 128 ≤ ((ByteArray.mk l.toArray)[j].toNat : Int)
          · go_wp2
            go_round
            case rel =>
              have hr := HR.out
              simp only [verr, vdone, vpush, vstep, Bool.or_false, Bool.false_eq_true, if_false, if_pos h128] at hr
              refine ⟨j + 1, _, by omega, by go_num, rfl, by omega, by have := HP.out; omega, by rw [HP.out.1], ?_, by omega⟩
              by_cases h3 : j + 1 = 4
              · rw [h3] at hr; exact .inr ⟨h3, by simpa using hr⟩
              · simp only [decide_eq_false h3] at hr
                rw [if_neg (by simp)] at hr
                exact .inl ⟨by omega, hr⟩
            case measure => simp [intOf]; omega
          · by_cases hz : 0 < j
            · by_cases hc0 : ((ByteArray.mk l.toArray)[j].toNat : Int) = 0
              · have hd : (((ByteArray.mk l.toArray)[j].toNat : Int) == 0) = true := by simpa using hc0
                have HC := Lib.hid hc0
                clear hc0
                go_wp2
                go_ret3
                refine ⟨?_, rfl⟩
                have hr := HR.out
                simp only [verr, vstep, Bool.or_false, Bool.false_eq_true, if_false, if_neg (show ¬ 128 ≤ ((ByteArray.mk l.toArray)[j].toNat : Int) by omega), if_pos (And.intro HC.out hz)] at hr
                rw [HV.out, hr]
                rfl
              · have hd : (((ByteArray.mk l.toArray)[j].toNat : Int) == 0) = false := beq_eq_false_iff_ne.2 hc0
                go_wp2
                go_ret3
                refine ⟨?_, rfl⟩
                have hr := HR.out
                simp only [verr, vdone, vpush, vstep, Bool.or_false, Bool.false_eq_true, if_false, if_neg (show ¬ 128 ≤ ((ByteArray.mk l.toArray)[j].toNat : Int) by omega), if_neg (show ¬ (((ByteArray.mk l.toArray)[j].toNat : Int) = 0 ∧ 0 < j) from fun h => hc0 h.1)] at hr
                rw [HV.out, hr]
                simp
            · go_wp2
              go_ret3
              refine ⟨?_, rfl⟩
              have hr := HR.out
              simp only [verr, vdone, vpush, vstep, Bool.or_false, Bool.false_eq_true, if_false, if_neg (show ¬ 128 ≤ ((ByteArray.mk l.toArray)[j].toNat : Int) by omega), if_neg (show ¬ (((ByteArray.mk l.toArray)[j].toNat : Int) = 0 ∧ 0 < j) by omega)] at hr
              rw [HV.out, hr]
              simp
        · have HR := Lib.hid hrun
          clear hrun
          go_wp2
          go_ret3
          refine ⟨?_, rfl⟩
          rw [HV.out, HR.out, List.drop_of_length_le (by omega)]
          rfl
      · omega
    · rcases hc with ⟨h, _⟩ | ⟨_, hrun⟩
      · omega
      · have HR := Lib.hid hrun
        clear hrun
        go_wp2
        go_ret3
        refine ⟨?_, rfl⟩
        rw [HV.out, HR.out]
        rfl
end Go.Proofs.Ytjkmfdkhfjhegaa
