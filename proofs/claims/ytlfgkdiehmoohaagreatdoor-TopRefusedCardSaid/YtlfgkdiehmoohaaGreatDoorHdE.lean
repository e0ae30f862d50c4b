/- Headers, plain: what is written is read back, cut it is short, what is read is valid. -/
import Derived.Test.YtlfgkdiehmoohaaGreatDoorHdD
namespace Go.Proofs.YtlfgkdiehmoohaaGreatDoor
open Go.RowKit
set_option linter.unusedVariables false

theorem putL1 (n : Int) (h0 : 0 ≤ n) (h1 : n < 256) : putL n 1 = [UInt8.ofNat n.toNat] := by
  unfold putL
  rw [show (min (1 : Int) 16).toNat = 0 + 1 by decide, putB_succ, byteAt_eq n 0 (by decide), show n / 256 ^ 0 % 256 = n by simp; omega]
  rfl
theorem checkF_zero {v k f l : Int} (h : checkF v k f l = 0) : checkF v k f 0 = 0 := by
  obtain ⟨a, b, c, _⟩ := checkF_ok h
  unfold checkF; simp [a, b, c]; decide
theorem checkF_all {v k f l : Int} (h : checkF v k f 0 = 0) (hl : 0 ≤ l) (hl2 : l ≤ 268435455) : checkF v k f l = 0 := by
  obtain ⟨a, b, c, _⟩ := checkF_ok h
  unfold checkF; simp [a, b, c, vmay, hl, hl2]
/-- A valid header's bytes. -/
def hdA (k f l : Int) : List UInt8 := putL (16 * k + f) 1 ++ vbytes l
theorem bytesF_ok {v k f l : Int} (h : checkF v k f l = 0) : bytesF v k f l = (hdA k f l, 0) := by unfold bytesF; rw [if_neg (fun q => q h)]; rfl
theorem bytesF_no {v k f l : Int} (h : checkF v k f l ≠ 0) : bytesF v k f l = ([], checkF v k f l) := by unfold bytesF; rw [if_pos h]
theorem hdA_shape {v k f l : Int} (h : checkF v k f l = 0) : ∃ c : UInt8, hdA k f l = c :: vbytes l ∧ (c.toNat / 16 : Nat) = k.toNat ∧ (c.toNat % 16 : Nat) = f.toNat ∧ 0 ≤ k ∧ 0 ≤ f ∧ 0 ≤ l ∧ l ≤ 268435455 := by
  obtain ⟨a, b, c, d⟩ := checkF_ok h
  have r2 := kindsV_range b
  have r3 := flaggedF_range c
  have r4 := vmay_range d
  refine ⟨UInt8.ofNat (16 * k + f).toNat, ?_, ?_, ?_, by omega, by omega, r4.1, r4.2⟩
  · unfold hdA; rw [putL1 _ (by omega) (by omega)]; rfl
  · rw [UInt8.toNat_ofNat_of_lt' (by show (16 * k + f).toNat < 256; omega)]; omega
  · rw [UInt8.toNat_ofNat_of_lt' (by show (16 * k + f).toNat < 256; omega)]; omega
theorem hdA_len {v k f l : Int} (h : checkF v k f l = 0) : (hdA k f l).length = 1 + vsz l ∧ 2 ≤ (hdA k f l).length ∧ (hdA k f l).length ≤ 5 := by
  obtain ⟨c, e, _, _, _, _, h0, h1⟩ := hdA_shape h
  have := vsz_pos h0 h1
  rw [e, List.length_cons, length_vbytes]
  omega
theorem rdH_cons (v : Int) (c : UInt8) (r : List UInt8) (h : knownV v = true) (hc : checkF v ((c.toNat / 16 : Nat) : Int) ((c.toNat % 16 : Nat) : Int) 0 = 0) :
    rdH v (c :: r) = if (vread r).2.2 ≠ 0 then (0, 0, 0, 0, (vread r).2.2) else (((c.toNat / 16 : Nat) : Int), ((c.toNat % 16 : Nat) : Int), (vread r).1, (vread r).2.1 + 1, 0) := by
  unfold rdH; rw [if_neg (by simp [h])]; simp only; rw [if_neg (fun q => q hc)]
/-- A header is read from its bytes, whatever follows. -/
theorem rdH_hdA {v k f l : Int} (h : checkF v k f l = 0) (behind : List UInt8) : rdH v (hdA k f l ++ behind) = (k, f, l, ((hdA k f l).length : Int), 0) := by
  obtain ⟨c, e, e1, e2, k0, f0, h0, h1⟩ := hdA_shape h
  have hl := (hdA_len h).1
  have ek : ((c.toNat / 16 : Nat) : Int) = k := by rw [e1]; omega
  have ef : ((c.toNat % 16 : Nat) : Int) = f := by rw [e2]; omega
  rw [hl, e, List.cons_append, rdH_cons v c _ (checkF_ok h).1 (by rw [ek, ef]; exact checkF_zero h), vread_vbytes l h0 h1, ek, ef]
  simp; omega
/-- Cut it is short. -/
theorem rdH_cut {v k f l : Int} (h : checkF v k f l = 0) (i : Nat) (hi : i < (hdA k f l).length) : rdH v ((hdA k f l).take i) = (0, 0, 0, 0, 3) := by
  obtain ⟨c, e, e1, e2, k0, f0, h0, h1⟩ := hdA_shape h
  have hl := (hdA_len h).1
  have ek : ((c.toNat / 16 : Nat) : Int) = k := by rw [e1]; omega
  have ef : ((c.toNat % 16 : Nat) : Int) = f := by rw [e2]; omega
  have hv := (checkF_ok h).1
  cases i with
  | zero => unfold rdH; rw [if_neg (by simp [hv]), List.take_zero]
  | succ i =>
    rw [hl] at hi
    rw [e, List.take_succ_cons, rdH_cons v c _ hv (by rw [ek, ef]; exact checkF_zero h), vread_cut l h0 h1 i (by omega)]
    rfl
/-- What is read is nothing, or valid. -/
theorem rdH_inv (v : Int) (s : List UInt8) : ((rdH v s).2.2.2.2 ≠ 0 ∧ rdH v s = (0, 0, 0, 0, (rdH v s).2.2.2.2)) ∨ ∃ (k f l : Int) (n : Nat), rdH v s = (k, f, l, (n : Int), 0) ∧ checkF v k f l = 0 ∧ n ≤ s.length ∧ hdA k f l = s.take n := by
  cases hv : knownV v with
  | false =>
    left
    have e : rdH v s = (0, 0, 0, 0, 2) := by unfold rdH; rw [if_pos hv]
    rw [e]; exact ⟨by decide, rfl⟩
  | true =>
    cases s with
    | nil =>
      left
      have e : rdH v [] = (0, 0, 0, 0, 3) := by unfold rdH; rw [if_neg (by simp [hv])]
      rw [e]; exact ⟨by decide, rfl⟩
    | cons c r =>
      by_cases hc : checkF v ((c.toNat / 16 : Nat) : Int) ((c.toNat % 16 : Nat) : Int) 0 = 0
      · rw [rdH_cons v c r hv hc]
        rcases vread_inv r with ⟨m, h0, h1, e, h2, h3⟩ | e | e
        · right
          rw [e]
          have hall := checkF_all (l := m) hc h0 h1
          refine ⟨_, _, _, vsz m + 1, by simp, hall, by simp; omega, ?_⟩
          have hlt := c.toNat_lt
          unfold hdA
          rw [putL1 _ (by omega) (by omega), List.take_succ_cons, h3, show (16 * ((c.toNat / 16 : Nat) : Int) + ((c.toNat % 16 : Nat) : Int)).toNat = c.toNat by omega]
          simp
        · left; rw [e]; exact ⟨fun q => absurd (show (3 : Int) = 0 from q) (by decide), rfl⟩
        · left; rw [e]; exact ⟨fun q => absurd (show (5 : Int) = 0 from q) (by decide), rfl⟩
      · left
        have e : rdH v (c :: r) = (0, 0, 0, 0, checkF v ((c.toNat / 16 : Nat) : Int) ((c.toNat % 16 : Nat) : Int) 0) := by unfold rdH; rw [if_neg (by simp [hv])]; simp only; rw [if_pos hc]
        rw [e]; exact ⟨hc, rfl⟩
end Go.Proofs.YtlfgkdiehmoohaaGreatDoor
