/- The reference of chapter 3: Bad, Valid, Runes, Count, Text, Binary, ReadBinary, Read; uniform contracts of the program's Text, Binary. -/
import Derived.Test.YtcfeombnobgplaaUstE
import Derived.Test.YtcfeombnobgplaaUstR
import Derived.Test.YtcfeombnobgplaaOctR
import Derived.Test.YtcfeombnobgplaaRefA
namespace Go.Proofs.Ytcfeombnobgplaa
open Go.RowKit
set_option linter.unusedVariables false

theorem pt_at {t : List UInt8} {p : Nat} : ((((pt (t.drop p)).2 : Nat) : Int) == 0) = false → ((((pt (t.drop p)).1 : Nat) : Int) == 0) = false → off (t.drop p) = false := by
  intro h1 h2
  unfold off
  simp at h1 h2
  simp [h1, h2]

set_option maxRecDepth 100000 in
set_option maxHeartbeats 1600000 in
theorem rbad_any (t : List UInt8) (ht : (t.length : Int) ≤ 4611686018427380000) (w : World) :
    Calls Try.prog 71 #[.string ⟨t.toArray⟩] w fun e w' => e = .returned (.int .i64 (badI t)) ∧ w = w' := by
  go_enter Try.func71, Try.ntmps71
  go_wp2
  go_loop [3] (fun i => ∃ pos : Nat, pos ≤ t.length ∧ i = .int .i64 pos ∧ Hid (bd t = (bd (t.drop pos)).map (· + pos))) (fun i => t.length - (intOf i).toNat)
  case atStart => exact ⟨0, Nat.zero_le _, rfl, by show bd t = _; simp⟩
  case round =>
    obtain ⟨pos, hp, rfl, hbd⟩ := hrel
    by_cases hlt : pos < t.length
    · obtain ⟨n, z, hpt⟩ : ∃ n z, pt (t.drop pos) = (n, z) := ⟨_, _, rfl⟩
      have hsz := (pt_size (t.drop pos)).2
      rw [hpt] at hsz
      simp only at hsz
      have HP := Lib.hid hpt
      clear hpt
      by_cases hz : z = 0
      · have hoff : off (t.drop pos) = true := by unfold off; rw [HP.out]; simp [hz]
        have HO := Lib.hid (bd_at hoff hlt hbd.out)
        have hd : ((z : Int) == 0) = true := by simp [hz]
        clear hz hoff
        go_wp2_with fail
        refine (rpoint_any t (by omega) pos hlt _).mono ?_
        rintro e w' ⟨rfl, rfl⟩
        rw [HP.out]
        go_wp2
        go_ret
        exact ⟨ret_int HO.out.symm, rfl⟩
      · have hdz : ((z : Int) == 0) = false := by simp [hz]
        by_cases hn : n = 0
        · have hoff : off (t.drop pos) = true := by unfold off; rw [HP.out]; simp [hn]
          have HO := Lib.hid (bd_at hoff hlt hbd.out)
          have hd : ((n : Int) == 0) = true := by simp [hn]
          clear hz hoff hn
          go_wp2_with fail
          refine (rpoint_any t (by omega) pos hlt _).mono ?_
          rintro e w' ⟨rfl, rfl⟩
          rw [HP.out]
          go_wp2
          go_ret
          exact ⟨ret_int HO.out.symm, rfl⟩
        · have hoff : off (t.drop pos) = false := by unfold off; rw [HP.out]; simp [hn, hz]
          have hgo := bd_go hoff hbd.out
          rw [HP.out] at hgo
          simp only at hgo
          have hle := hgo.1
          have HG := Lib.hid hgo.2
          have hd : ((n : Int) == 0) = false := by simp [hn]
          have HZ := Lib.hid hz
          clear hz hoff hn hgo
          go_wp2_with fail
          refine (rpoint_any t (by omega) pos hlt _).mono ?_
          rintro e w' ⟨rfl, rfl⟩
          rw [HP.out]
          go_wp2
          go_round
          case rel => exact ⟨pos + z, hle, by go_num, HG.out⟩
          case measure => have := HZ.out; simp [intOf]; omega
    · have hbn : badI t = -1 := by unfold badI; rw [hbd.out, List.drop_of_length_le (by omega)]; rfl
      have HB := Lib.hid hbn
      clear hbn
      go_wp2
      go_ret
      exact ⟨ret_int HB.out.symm, rfl⟩

set_option maxHeartbeats 400000 in
theorem rvalid_any (t : List UInt8) (ht : (t.length : Int) ≤ 4611686018427380000) (w : World) :
    Calls Try.prog 70 #[.string ⟨t.toArray⟩] w fun e w' => e = .returned (.bool (vld t)) ∧ w = w' := by
  by_cases hl : t.length ≤ 65535
  · have hd : decide (t.length ≤ 65535) = true := by simpa using hl
    have hv : decide (badI t < 0) = vld t := by
      unfold badI vld
      rw [hd]
      cases bd t with
      | none => rfl
      | some p => simp
    have HV := Lib.hid hv
    clear hv hd
    go_enter Try.func70, Try.ntmps70
    go_wp2_with fail
    refine (rbad_any t ht _).mono ?_
    rintro e w1 ⟨rfl, rfl⟩
    go_wp2
    go_ret
    exact ⟨by rw [← HV.out]; rfl, rfl⟩
  · have hv : vld t = false := by unfold vld; simp [hl]
    have HV := Lib.hid hv
    clear hv
    go_enter Try.func70, Try.ntmps70
    go_wp2
    go_ret
    exact ⟨ret_val (by rw [HV.out]; simp), rfl⟩

set_option maxRecDepth 100000 in
set_option maxHeartbeats 1600000 in
theorem rrunes_any (t : List UInt8) (ht : t.length ≤ 100000) (w : World) :
    Calls Try.prog 73 #[.string ⟨t.toArray⟩] w fun e w' => ∃ v, e = .returned v ∧ w'.ownsRow w.heap.size 48 2 v (rn 0 t).length (rcells (rn 0 t)) ∧ Below w.heap.size w w' := by
  obtain ⟨i0, hi, hz0, hz1, hz2⟩ := info_parts Try.infoRune
  have hrl := rn_le t 0
  obtain ⟨R, hR⟩ : ∃ R, R = rn 0 t := ⟨_, rfl⟩
  rw [← hR] at hrl ⊢
  have HR := Lib.hid hR
  clear hR
  go_enter Try.func73, Try.ntmps73
  go_wp2
  go_loopw [3, 4] (fun v i wr => ∃ (pos : Nat) (pre : List (Nat × Nat)), pos ≤ t.length ∧ pre.length ≤ pos ∧ i = .int .i64 pos ∧ wr.ownsRow w.heap.size 48 2 v pre.length (rcells pre) ∧ Below w.heap.size w wr ∧ Hid (R = pre ++ rn pos (t.drop pos))) (fun _ i _ => t.length - (intOf i).toNat)
  case atStart => exact ⟨0, [], Nat.zero_le _, Nat.le_refl _, rfl, World.ownsRow_nil _ _ _ _, Below.refl _ _, by show R = _; rw [HR.out]; simp⟩
  case round =>
    obtain ⟨pos, pre, hp, hpp, rfl, hown, hB, hr⟩ := hrel
    by_cases hlt : pos < t.length
    · obtain ⟨n, z, hpt⟩ : ∃ n z, pt (t.drop pos) = (n, z) := ⟨_, _, rfl⟩
      have hsz := (pt_size (t.drop pos)).2
      have hmx := pt_max (t.drop pos)
      rw [hpt] at hsz hmx
      simp only at hsz hmx
      have HP := Lib.hid hpt
      clear hpt
      by_cases hz : z = 0
      · have hoff : off (t.drop pos) = true := by unfold off; rw [HP.out]; simp [hz]
        have he : R = pre := by rw [hr.out, rn_off pos hoff]; simp
        have hd : ((z : Int) == 0) = true := by simp [hz]
        subst he
        clear hz hoff
        go_wp2_with fail
        refine (rpoint_any t (by omega) pos hlt _).mono ?_
        rintro e w' ⟨rfl, rfl⟩
        rw [HP.out]
        go_wp2
        go_ret
        exact ⟨_, rfl, hown, hB⟩
      · have hdz : ((z : Int) == 0) = false := by simp [hz]
        by_cases hn : n = 0
        · have hoff : off (t.drop pos) = true := by unfold off; rw [HP.out]; simp [hn]
          have he : R = pre := by rw [hr.out, rn_off pos hoff]; simp
          have hd : ((n : Int) == 0) = true := by simp [hn]
          subst he
          clear hz hoff hn
          go_wp2_with fail
          refine (rpoint_any t (by omega) pos hlt _).mono ?_
          rintro e w' ⟨rfl, rfl⟩
          rw [HP.out]
          go_wp2
          go_ret
          exact ⟨_, rfl, hown, hB⟩
        · have hoff : off (t.drop pos) = false := by unfold off; rw [HP.out]; simp [hn, hz]
          have hs2 := (on_size hoff).2.1
          rw [HP.out] at hs2
          simp only [List.length_drop] at hs2
          have hr2 : R = (pre ++ [(pos, n)]) ++ rn (pos + z) (t.drop (pos + z)) := by
            rw [hr.out, rn_on pos hoff, HP.out, List.drop_drop]; simp
          have HG := Lib.hid hr2
          have hd : ((n : Int) == 0) = false := by simp [hn]
          have HZ := Lib.hid hz
          clear hz hoff hn hr2
          go_wp2_with fail
          refine (rpoint_any t (by omega) pos hlt _).mono ?_
          rintro e w' ⟨rfl, rfl⟩
          rw [HP.out]
          go_wp2_with (at_builtin; refine wpList_append_own _ rfl _ _ 44 rfl w.heap.size 48 i0 (.agg #[.int .i64 0, .int .i32 0]) 2 16 Try.underlying44 hi hz0 hz1 hz2 rfl (by decide) _ _ _ rfl (hown.alloc _) ⟨_, 0, none⟩ 1 1 [.int .i64 (pos : Int), .int .i32 (n : Int)] rfl rfl (cell_two_new _ _ _ _) (by simp [Value.oneCell']) (by unfold maxLen; omega) (by omega) (by have := hB.size; simp; omega) ?_; intro v' w1 hown1 hgrow _)
          have hB2 := below_append hB hown hgrow
          go_roundw
          case rel => exact ⟨pos + z, pre ++ [(pos, n)], by omega, by simp; have := HZ.out; omega, by go_num, by simpa [rcells] using hown1, hB2, HG.out⟩
          case measure => have := HZ.out; simp [intOf]; omega
    · have he : R = pre := by rw [hr.out, List.drop_of_length_le (by omega), rn_nil]; simp
      subst he
      go_wp2
      go_ret
      exact ⟨_, rfl, hown, hB⟩
end Go.Proofs.Ytcfeombnobgplaa
