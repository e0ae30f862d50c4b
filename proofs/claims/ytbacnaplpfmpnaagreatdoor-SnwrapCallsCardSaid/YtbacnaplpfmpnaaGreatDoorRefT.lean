/- polyglotref03: Bad, Valid. polyglotref04: has, Name. -/
import Derived.Test.YtbacnaplpfmpnaaGreatDoorUstE
import Derived.Test.YtbacnaplpfmpnaaGreatDoorTopA
namespace Go.Proofs.YtbacnaplpfmpnaaGreatDoor
open Go.RowKit
set_option linter.unusedVariables false

set_option maxRecDepth 100000 in
set_option maxHeartbeats 1600000 in
theorem rbad_any (t : List UInt8) (ht : (t.length : Int) ≤ 4611686018427380000) (w : World) :
    Calls Tryz.prog 125 #[.string ⟨t.toArray⟩] w fun e w' => e = .returned (.int .i64 (badI t)) ∧ w = w' := by
  go_enter Tryz.func125, Tryz.ntmps125
  go_wp2
  go_loop [3] (fun i => ∃ pos : Nat, pos ≤ t.length ∧ i = .int .i64 pos ∧ Hid (bd t = (bd (t.drop pos)).map (· + pos))) (fun i => t.length - (intOf i).toNat)
  case atStart => exact ⟨0, Nat.zero_le _, rfl, by show bd t = _; simp⟩
  case round =>
    obtain ⟨pos, hp, rfl, hbd⟩ := hrel
    by_cases hlt : pos < t.length
    · obtain ⟨n, z, hpt⟩ : ∃ n z, pt (t.drop pos) = (n, z) := ⟨_, _, rfl⟩
      have hsz := (pt_size (t.drop pos)).2
      rw [hpt] at hsz
      simp only at hsz
      have HP := Lib.hid hpt
      clear hpt
      by_cases hz : z = 0
      · have hoff : off (t.drop pos) = true := by unfold off; rw [HP.out]; simp [hz]
        have HO := Lib.hid (bd_at hoff hlt hbd.out)
        have hd : ((z : Int) == 0) = true := by simp [hz]
        clear hz hoff
        go_wp2_with fail
        refine (rpoint_any t (by omega) pos hlt _).mono ?_
        rintro e w' ⟨rfl, rfl⟩
        rw [HP.out]
        go_wp2
        go_ret
        exact ⟨ret_int HO.out.symm, rfl⟩
      · have hdz : ((z : Int) == 0) = false := by simp [hz]
        by_cases hn : n = 0
        · have hoff : off (t.drop pos) = true := by unfold off; rw [HP.out]; simp [hn]
          have HO := Lib.hid (bd_at hoff hlt hbd.out)
          have hd : ((n : Int) == 0) = true := by simp [hn]
          clear hz hoff hn
          go_wp2_with fail
          refine (rpoint_any t (by omega) pos hlt _).mono ?_
          rintro e w' ⟨rfl, rfl⟩
          rw [HP.out]
          go_wp2
          go_ret
          exact ⟨ret_int HO.out.symm, rfl⟩
        · have hoff : off (t.drop pos) = false := by unfold off; rw [HP.out]; simp [hn, hz]
          have hgo := bd_go hoff hbd.out
          rw [HP.out] at hgo
          simp only at hgo
          have hle := hgo.1
          have HG := Lib.hid hgo.2
          have hd : ((n : Int) == 0) = false := by simp [hn]
          have HZ := Lib.hid hz
          clear hz hoff hn hgo
          go_wp2_with fail
          refine (rpoint_any t (by omega) pos hlt _).mono ?_
          rintro e w' ⟨rfl, rfl⟩
          rw [HP.out]
          go_wp2
          go_round
          case rel => exact ⟨pos + z, hle, by go_num, HG.out⟩
          case measure => have := HZ.out; simp [intOf]; omega
    · have hbn : badI t = -1 := by unfold badI; rw [hbd.out, List.drop_of_length_le (by omega)]; rfl
      have HB := Lib.hid hbn
      clear hbn
      go_wp2
      go_ret
      exact ⟨ret_int HB.out.symm, rfl⟩

set_option maxHeartbeats 400000 in
theorem rvalid_any (t : List UInt8) (ht : (t.length : Int) ≤ 4611686018427380000) (w : World) :
    Calls Tryz.prog 97 #[.string ⟨t.toArray⟩] w fun e w' => e = .returned (.bool (vld t)) ∧ w = w' := by
  by_cases hl : t.length ≤ 65535
  · have hd : decide (t.length ≤ 65535) = true := by simpa using hl
    have hv : decide (badI t < 0) = vld t := by
      unfold badI vld
      rw [hd]
      cases bd t with
      | none => rfl
      | some p => simp
    have HV := Lib.hid hv
    clear hv hd
    go_enter Tryz.func97, Tryz.ntmps97
    go_wp2_with fail
    refine (rbad_any t ht _).mono ?_
    rintro e w1 ⟨rfl, rfl⟩
    go_wp2
    go_ret
    exact ⟨by rw [← HV.out]; rfl, rfl⟩
  · have hv : vld t = false := by unfold vld; simp [hl]
    have HV := Lib.hid hv
    clear hv
    go_enter Tryz.func97, Tryz.ntmps97
    go_wp2
    go_ret
    exact ⟨ret_val (by rw [HV.out]; simp), rfl⟩
end Go.Proofs.YtbacnaplpfmpnaaGreatDoor
namespace Go.Proofs.YtbacnaplpfmpnaaGreatDoor
open Go.RowKit
set_option linter.unusedVariables false
set_option linter.unusedSimpArgs false

def hasC (c : Nat) (l : List UInt8) : Bool := l.any fun b => b.toNat == c
theorem hasC_take (c : Nat) (l : List UInt8) (k : Nat) (h : k < l.length) : hasC c (l.take (k + 1)) = (hasC c (l.take k) || ((l[k]).toNat == c)) := by
  unfold hasC
  rw [List.take_succ_eq_append_getElem h, List.any_append]
  simp
theorem hasC_mono {c : Nat} {l : List UInt8} {k : Nat} (h : hasC c (l.take k) = true) : hasC c l = true := by
  unfold hasC at *
  rw [List.any_eq_true] at *
  obtain ⟨x, hx, h2⟩ := h
  exact ⟨x, List.mem_of_mem_take hx, h2⟩
set_option maxRecDepth 100000 in
set_option maxHeartbeats 800000 in
theorem rhas_any (t : List UInt8) (ht : (t.length : Int) ≤ 4611686018427380000) (c : Nat) (hc : c < 256) (w : World) :
    Calls Tryz.prog 98 #[.string ⟨t.toArray⟩, .int .u8 (c : Int)] w fun e w' => e = .returned (.bool (hasC c t)) ∧ w = w' := by
  go_enter Tryz.func98, Tryz.ntmps98
  go_wp2
  go_loop [5] (fun i => ∃ k : Nat, k ≤ t.length ∧ i = .int .i64 k ∧ Hid (hasC c (t.take k) = false)) (fun i => t.length - (intOf i).toNat)
  case atStart => exact ⟨0, Nat.zero_le _, rfl, by show hasC c (t.take 0) = false; rfl⟩
  case round =>
    obtain ⟨k, hk, rfl, hf⟩ := hrel
    by_cases hlt : k < t.length
    · have hx : (ByteArray.mk t.toArray)[k]'hlt = t[k] := rfl
      have hs := Lib.hid (hasC_take c t k hlt)
      by_cases he : (t[k]).toNat = c
      · have HT := Lib.hid (hasC_mono (show hasC c (t.take (k + 1)) = true by rw [hs.out, he]; simp))
        have d1 : ((t[k]).toNat : Int) = c := by omega
        clear he
        go_wp2
        go_ret
        exact ⟨by rw [HT.out]; rfl, rfl⟩
      · have HF := Lib.hid (show hasC c (t.take (k + 1)) = false by rw [hs.out, show hasC c (t.take k) = false from hf.out, beq_eq_false_iff_ne.2 he]; rfl)
        have d1 : ¬ ((t[k]).toNat : Int) = c := by omega
        have d2 : ¬ ((c : Nat) : Int) = (t[k]).toNat := by omega
        clear he
        go_wp2
        go_round
        case rel => exact ⟨k + 1, by omega, by go_num, HF⟩
        case measure => simp [intOf]; omega
    · obtain rfl : k = t.length := by omega
      have hf2 : hasC c t = false := by have := hf.out; rw [List.take_length] at this; exact this
      have HF := Lib.hid hf2
      clear hf2 hf
      go_wp2
      go_ret
      exact ⟨by rw [HF.out]; rfl, rfl⟩
theorem hasC_wild : ∀ (t : List UInt8), (hasC 43 t || hasC 35 t) = hasWild t
  | [] => rfl
  | b :: r => by
    have e := hasC_wild r
    have e1 : ∀ n : Nat, n < 256 → (b.toNat == n) = (b == UInt8.ofNat n) := by
      intro n hn
      by_cases h : b = UInt8.ofNat n
      · subst h; simp; omega
      · rw [beq_eq_false_iff_ne.2 h]
        apply beq_eq_false_iff_ne.2
        intro h2
        exact h (by rw [← h2]; simp)
    unfold hasC hasWild at *
    simp only [List.any_cons]
    rw [← e, e1 43 (by decide), e1 35 (by decide)]
    show ((b == 43 || _) || (b == 35 || _)) = ((b == 43 || b == 35) || _)
    cases (b == 43) <;> cases (b == 35) <;> cases (List.any r fun b => b.toNat == 43) <;> simp
set_option maxRecDepth 100000 in
set_option maxHeartbeats 800000 in
theorem rtname_any (t : List UInt8) (ht : (t.length : Int) ≤ 4611686018427380000) (w : World) :
    Calls Tryz.prog 59 #[.string ⟨t.toArray⟩] w fun e w' => e = .returned (.bool (nameB t)) ∧ w = w' := by
  have hw := hasC_wild t
  have HV := Lib.hid (fun w => rvalid_any t ht w)
  have HP := Lib.hid (fun w => rhas_any t ht 43 (by decide) w)
  have HH := Lib.hid (fun w => rhas_any t ht 35 (by decide) w)
  cases t with
  | nil =>
    go_enter Tryz.func59, Tryz.ntmps59
    go_wp2
    go_ret
    exact ⟨rfl, rfl⟩
  | cons a r =>
    obtain ⟨T, hT⟩ : ∃ T, T = a :: r := ⟨_, rfl⟩
    have hie : T.isEmpty = false := by rw [hT]; rfl
    rw [← hT] at HV HP HH hw ⊢
    have hnb : nameB T = (vld T && !hasC 43 T && !hasC 35 T) := by
      unfold nameB textB
      rw [← hw, hie]
      cases vld T <;> cases hasC 43 T <;> cases hasC 35 T <;> rfl
    rw [hnb]
    clear hT hnb hw
    cases hv : vld T
    · rw [hv] at HV
      clear hv
      go_enter Tryz.func59, Tryz.ntmps59
      go_wp2_with fail
      refine (HV.out _).mono ?_
      rintro e w1 ⟨rfl, hw1⟩
      subst hw1
      go_wp2
      go_ret
      exact ⟨rfl, rfl⟩
    cases hp : hasC 43 T
    rotate_left
    · rw [hv] at HV
      rw [hp] at HP
      clear hv hp
      go_enter Tryz.func59, Tryz.ntmps59
      go_wp2_with fail
      refine (HV.out _).mono ?_
      rintro e w1 ⟨rfl, hw1⟩
      subst hw1
      go_wp2_with fail
      refine (HP.out _).mono ?_
      rintro e w1 ⟨rfl, hw1⟩
      subst hw1
      go_wp2
      go_ret
      exact ⟨rfl, rfl⟩
    cases hh : hasC 35 T
    all_goals
      rw [hv] at HV
      rw [hp] at HP
      rw [hh] at HH
      clear hv hp hh
      go_enter Tryz.func59, Tryz.ntmps59
      go_wp2_with fail
      refine (HV.out _).mono ?_
      rintro e w1 ⟨rfl, hw1⟩
      subst hw1
      go_wp2_with fail
      refine (HP.out _).mono ?_
      rintro e w1 ⟨rfl, hw1⟩
      subst hw1
      go_wp2_with fail
      refine (HH.out _).mono ?_
      rintro e w1 ⟨rfl, hw1⟩
      subst hw1
      go_wp2
      go_ret
      exact ⟨rfl, rfl⟩
end Go.Proofs.YtbacnaplpfmpnaaGreatDoor
