/- varint: the walks. -/
import Derived.Test.YtlfgkdiehmoohaaGreatDoorVarP
import Derived.Test.YtlfgkdiehmoohaaGreatDoorOctA
namespace Go.Proofs.YtlfgkdiehmoohaaGreatDoor
open Go.RowKit

theorem may_any (n : Int) (w : World) : Calls Tryz.prog 68 #[.int .i64 n] w fun e w' => e = .returned (.bool (vmay n)) ∧ w = w' := by
  by_cases h : 0 ≤ n
  · have hd : decide (0 ≤ n) = true := by simpa using h
    go_enter Tryz.func68, Tryz.ntmps68
    go_wp2
    go_ret
    exact ⟨ret_val (by simp [vmay, h]), rfl⟩
  · have hd : decide (0 ≤ n) = false := by simpa using h
    go_enter Tryz.func68, Tryz.ntmps68
    go_wp2
    go_ret
    exact ⟨ret_val (by simp [vmay]; omega), rfl⟩

set_option maxHeartbeats 400000 in
theorem vsz_any (n : Int) (w : World) : Calls Tryz.prog 53 #[.int .i64 n] w fun e w' => e = .returned (.int .i64 (vsz n)) ∧ w = w' := by
  cases hm : vmay n with
  | false =>
    go_enter Tryz.func53, Tryz.ntmps53
    go_wp2_with fail
    refine (may_any n _).mono ?_
    rintro e w' ⟨rfl, rfl⟩
    rw [hm]
    have hz : vsz n = 0 := by simp [vmay] at hm; unfold vsz; rw [if_pos (by omega)]
    have HZ := Lib.hid (And.intro hz hm)
    clear hz hm
    go_wp2
    go_ret
    exact ⟨ret_int (by rw [HZ.out.1]; rfl), rfl⟩
  | true =>
    have hb : 0 ≤ n ∧ n ≤ 268435455 := by simpa [vmay] using hm
    go_enter Tryz.func53, Tryz.ntmps53
    go_wp2_with fail
    refine (may_any n _).mono ?_
    rintro e w' ⟨rfl, rfl⟩
    rw [hm]
    clear hm
    go_wp2
    go_loop [0, 3] (fun x s => ∃ (m : Int) (k : Nat), 0 ≤ m ∧ m ≤ 268435455 ∧ x = .int .i64 m ∧ s = .int .i64 k ∧ vsz n = vsz m + k - 1 ∧ 1 ≤ k ∧ k ≤ 4) (fun x _ => (intOf x).toNat)
    case atStart => exact ⟨n, 1, hb.1, hb.2, rfl, rfl, by omega, by omega, by omega⟩
    case round =>
      obtain ⟨m, k, h0, h1, rfl, rfl, hk, hk1, hk4⟩ := hrel
      have HK := Lib.hid hk
      by_cases h : 128 ≤ m
      · obtain ⟨e1, e2, e3, e4⟩ := vsz_step h h1
        have h5 : k ≤ 3 := by have := (vsz_pos hb.1 hb.2).2; omega
        have HE := Lib.hid e1
        clear hk e1
        go_wp2
        go_round
        case rel => exact ⟨m / 128, k + 1, by omega, by omega, rfl, by go_num, by have a := HK.out; have b := HE.out; omega, by omega, by omega⟩
        case measure => simp [intOf]; omega
      · clear hk
        go_wp2
        go_ret
        exact ⟨ret_int (by have a := HK.out; rw [vsz_small h0 (by omega)] at a; omega), rfl⟩

set_option maxRecDepth 100000 in
set_option maxHeartbeats 800000 in
theorem vbytes_any (n : Int) (h0 : 0 ≤ n) (h1 : n ≤ 268435455) (w : World) :
    Calls Tryz.prog 126 #[.int .i64 n] w fun e w' => e = .returned (.tuple #[.string ⟨(vbytes n).toArray⟩, .int .i64 0]) ∧ Below w.heap.size w w' := by
  obtain ⟨i0, hi, hz0, hz1, hz2⟩ := info_parts Tryz.infoU8
  have hm : vmay n = true := by simp [vmay]; omega
  go_enter Tryz.func126, Tryz.ntmps126
  go_wp2_with fail
  refine (may_any n _).mono ?_
  rintro e w' ⟨rfl, rfl⟩
  rw [hm]
  clear hm
  go_wp2_with fail
  go_loopw [0, 4] (fun x v wr => ∃ (m : Int) (l : List Int), 0 ≤ m ∧ m ≤ 268435455 ∧ x = .int .i64 m ∧ wr.ownsRow w.heap.size 5 1 v l.length (l.map (Value.int .u8)) ∧ Below w.heap.size w wr ∧ vbK (vsz n) n = l ++ vbK (vsz m) m ∧ l.length ≤ 4) (fun x _ _ => (intOf x).toNat)
  case atStart => exact ⟨n, [], h0, h1, rfl, World.ownsRow_nil _ _ _ _, Below.refl _ _, rfl, by simp⟩
  case round =>
    obtain ⟨m, l, hm0, hm1, rfl, hown, hB, hk, hl4⟩ := hrel
    have HK := Lib.hid hk
    clear hk
    by_cases h : 128 ≤ m
    · have hor := u8_or128' (m % 128) (by omega) (by omega)
      have hst := vbK_step h hm1
      have HS := Lib.hid hst
      clear hst
      go_wp2_with (at_builtin; refine wpList_append_own _ rfl _ _ 65 rfl w.heap.size 5 i0 (.int .u8 0) 1 1 Tryz.underlying65 hi hz0 hz1 hz2 rfl (by decide) _ _ _ rfl (hown.alloc _) ⟨wr.heap.size, 0, none⟩ 1 1 [.int .u8 (m % 128 + 128)] rfl rfl (cell_one_new _ _ _) (by simp [Value.oneCell']) (by unfold maxLen; omega) (by omega) (by have := hB.size; simp; omega) ?_; intro v' w1 hown1 hgrow _)
      have hB2 : Below w.heap.size w w1 := below_append hB hown hgrow
      go_roundw
      case rel =>
        refine ⟨m / 128, l ++ [m % 128 + 128], by omega, by omega, rfl, by simpa using hown1, hB2, by rw [HK.out, HS.out]; simp, ?_⟩
        have a := congrArg List.length HK.out
        have b := congrArg List.length HS.out
        have c := vsz_pos h0 h1
        have d := vsz_step h hm1
        simp [length_vbK] at a b
        simp; omega
      case measure => simp [intOf]; omega
    · have HS := vbK_small hm0 (by omega)
      have Hs := Lib.hid HS
      clear HS
      go_wp2_with (at_builtin; refine wpList_append_own _ rfl _ _ 65 rfl w.heap.size 5 i0 (.int .u8 0) 1 1 Tryz.underlying65 hi hz0 hz1 hz2 rfl (by decide) _ _ _ rfl (hown.alloc _) ⟨wr.heap.size, 0, none⟩ 1 1 [.int .u8 m] rfl rfl (cell_one_new _ _ _) (by simp [Value.oneCell']) (by unfold maxLen; omega) (by omega) (by have := hB.size; simp; omega) ?_; intro v' w1 hown1 hgrow _; obtain ⟨g', cap', rfl⟩ := owns_succ hown1; have hconv := run_convert_bytes_arg (P := Tryz.prog) w1 65 5 Tryz.underlying65 Tryz.underlying5 g' 0 (l.length + 1) cap' (l ++ [m]) (by simp) (owns_ints (by simpa using hown1) (by simp)) 9 Tryz.underlying9)
      go_ret2
      refine ⟨?_, below_append hB hown hgrow⟩
      have e1 : strOfNums (l ++ [m]) = ⟨(vbytes n).toArray⟩ := by unfold vbytes u8s; rw [HK.out, Hs.out]; rfl
      rw [← e1]
      rfl
theorem vbytes_bad (n : Int) (h : vmay n = false) (w : World) :
    Calls Tryz.prog 126 #[.int .i64 n] w fun e w' => e = .returned (.tuple #[.string ⟨#[]⟩, .int .i64 2]) ∧ w = w' := by
  go_enter Tryz.func126, Tryz.ntmps126
  go_wp2_with fail
  refine (may_any n _).mono ?_
  rintro e w' ⟨rfl, rfl⟩
  rw [h]
  go_wp2
  go_ret2
  exact ⟨rfl, rfl⟩

set_option maxRecDepth 100000 in
set_option maxHeartbeats 800000 in
theorem vread_any (l : List UInt8) (hl : (l.length : Int) ≤ 9223372036854775807) (w : World) :
    Calls Tryz.prog 34 #[.string ⟨l.toArray⟩] w fun e w' => e = .returned (.tuple #[.int .i64 (vread l).1, .int .i64 (vread l).2.1, .int .i64 (vread l).2.2]) ∧ Below w.heap.size w w' := by
  obtain ⟨V, hV⟩ : ∃ V, V = vread l := ⟨_, rfl⟩
  rw [← hV]
  go_enter Tryz.func34, Tryz.ntmps34
  go_wp2_with fail
  refine (vnew_any _).mono ?_
  rintro e w1 ⟨b, rfl, hb, R, hg⟩
  have hB1 := below_grown hg
  clear hg
  have HV := Lib.hid hV
  clear hV
  go_wp2_with fail
  go_loopw [12] (fun x wr => ∃ (j : Nat) (s : VSt), j ≤ l.length ∧ x = .int .i64 j ∧ Rdr wr b s ∧ VOk s ∧ s.done = false ∧ s.bad = false ∧ vread l = vrun s (l.drop j) ∧ Below w.heap.size w wr) (fun x _ => l.length - (intOf x).toNat)
  case atStart => exact ⟨0, VSt.new, Nat.zero_le _, rfl, R, VSt.new_ok, rfl, rfl, rfl, hB1⟩
  case round =>
    clear R hB1
    obtain ⟨j, s, hj, rfl, R, hs, hd, hbad, hrun, hB⟩ := hrel
    by_cases hlt : j < l.length
    · rw [vrun_cons hlt] at hrun
      have hR := Lib.hid (And.intro hs (And.intro hd (And.intro hbad hrun)))
      clear hd hbad hrun
      have hc0 : (0 : Int) ≤ (l[j].toNat : Int) := by omega
      have hc1 : (l[j].toNat : Int) < 256 := by have := l[j].toNat_lt; omega
      have hok := vpush_ok (c := (l[j].toNat : Int)) hs
      go_wp2_with fail
      refine (vpush_any R hs _ hc0 hc1).mono ?_
      rintro e w2 ⟨rfl, R2, hg⟩
      have hB2 := hB.grown hg hB.size (fun k e => by cases e; exact hb)
      clear hg
      have hrun := hR.out.2.2.2
      by_cases he : verr s l[j].toNat = 0
      · rw [if_neg (by simpa using he)] at hrun
        cases hdn : vdone s l[j].toNat with
        | true =>
          rw [hdn, if_pos rfl] at hrun
          have HH := Lib.hid hrun
          have HD := Lib.hid hdn
          obtain ⟨c0, c1, c2, c3, _⟩ := R2.cells
          rw [he]
          have HE := Lib.hid he
          clear hrun hdn he R R2 hok
          go_wp2
          go_quiet (fail)
          go_wp2
          go_ret3
          refine ⟨?_, below_drewN hB2 _⟩
          rw [HV.out, HH.out]
          rfl
        | false =>
          rw [hdn, if_neg (by simp)] at hrun
          have HH := Lib.hid (And.intro hrun (vgoes he hdn))
          rw [he]
          clear hrun hdn he R
          go_wp2
          go_roundw
          case rel => exact ⟨j + 1, _, by omega, by go_num, R2, hok, HH.out.2.1, HH.out.2.2, HH.out.1, hB2⟩
          case measure => simp [intOf]; omega
      · rw [if_pos he] at hrun
        have HH := Lib.hid hrun
        have he1 : (verr s l[j].toNat != 0) = true := by simp [he]
        clear hrun R R2 hok
        go_wp2
        go_ret3
        refine ⟨?_, hB2⟩
        rw [HV.out, HH.out]
        rfl
    · have HH := Lib.hid hrun
      clear hd hbad hrun
      go_wp2
      go_ret3
      refine ⟨?_, hB⟩
      rw [HV.out, HH.out, List.drop_of_length_le (by omega)]
      rfl
end Go.Proofs.YtlfgkdiehmoohaaGreatDoor
