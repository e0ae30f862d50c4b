/- varint: plain laws on bytes and what is read. -/
import Derived.Test.YtlfgkdiehmoohaaGreatDoorVarP
namespace Go.Proofs.YtlfgkdiehmoohaaGreatDoor
open Go.RowKit

theorem p7_succ (i : Nat) : (2 : Int) ^ (7 * (i + 1)) = 2 ^ (7 * i) * 128 := by rw [show 7 * (i + 1) = 7 * i + 7 by omega, Int.pow_add]; rfl
theorem u8_of (c : Int) (h0 : 0 ≤ c) (h1 : c < 256) : ((UInt8.ofNat c.toNat).toNat : Int) = c := by simp; omega
/-- The bytes of a number, behind a reader of i bytes. -/
theorem vrun_bytes : ∀ (k : Nat) (m a : Int) (i : Nat) (behind : List UInt8), vsz m = k → 0 ≤ m → m ≤ 268435455 → i + k ≤ 4 → (i = 0 ∨ m ≠ 0) →
    vrun ⟨a, i, false, false⟩ (u8s (vbK k m) ++ behind) = (a + m * 2 ^ (7 * i), ((i + k : Nat) : Int), 0)
  | 0, m, a, i, behind, hk, h0, h1, h4, hz => by have := vsz_pos h0 h1; omega
  | 1, m, a, i, behind, hk, h0, h1, h4, hz => by
    have hs : m < 128 := by
      rcases Int.lt_or_le m 128 with h | h
      · exact h
      · have := vsz_step h h1; omega
    have e : u8s (vbK 1 m) ++ behind = UInt8.ofNat m.toNat :: behind := rfl
    rw [e, vrun, u8_of m h0 (by omega)]
    have hm : m % 128 = m := by omega
    have hc : ¬ (m = 0 ∧ 0 < i) := by omega
    simp only [verr, vdone, vpush, vstep, Bool.or_false, Bool.false_eq_true, if_false, if_neg (show ¬ 128 ≤ m by omega), if_neg hc, hm]
    simp
  | k + 2, m, a, i, behind, hk, h0, h1, h4, hz => by
    have hs : 128 ≤ m := by
      rcases Int.lt_or_le m 128 with h | h
      · rw [vsz_small h0 h] at hk; omega
      · exact h
    obtain ⟨h5, h6, h7, h8⟩ := vsz_step hs h1
    have e : u8s (vbK (k + 2) m) ++ behind = UInt8.ofNat (m % 128 + 128).toNat :: (u8s (vbK (k + 1) (m / 128)) ++ behind) := rfl
    rw [e, vrun, u8_of _ (by omega) (by omega)]
    have hm : (m % 128 + 128) % 128 = m % 128 := by omega
    simp only [verr, vdone, vpush, vstep, Bool.or_false, Bool.false_eq_true, if_false, if_pos (show 128 ≤ m % 128 + 128 by omega), hm, decide_eq_false (show ¬ i + 1 = 4 by omega)]
    rw [if_neg (by simp), vrun_bytes (k + 1) (m / 128) _ (i + 1) behind (by omega) (by omega) h8 (by omega) (by omega), p7_succ]
    have e2 : m = 128 * (m / 128) + m % 128 := by omega
    congr 1
    · generalize (2 : Int) ^ (7 * i) = P
      generalize m / 128 = x at *
      generalize m % 128 = y at *
      subst e2
      rw [Int.add_mul, Int.mul_comm P 128, ← Int.mul_assoc, Int.mul_comm x 128]
      omega
    · congr 1; omega
/-- P2.3: a number is read from its bytes, whatever follows. -/
theorem vread_vbytes (n : Int) (h0 : 0 ≤ n) (h1 : n ≤ 268435455) (behind : List UInt8) : vread (vbytes n ++ behind) = (n, (vsz n : Int), 0) := by
  have := vrun_bytes (vsz n) n 0 0 behind rfl h0 h1 (by have := (vsz_pos h0 h1).2; omega) (.inl rfl)
  unfold vread vbytes VSt.new
  rw [this]; simp

/-- What a reader of i bytes reads. -/
theorem vrun_inv : ∀ (l : List UInt8) (a : Int) (i : Nat), i ≤ 3 →
    (∃ m : Int, 0 ≤ m ∧ m < 2 ^ (7 * (4 - i)) ∧ (i = 0 ∨ 1 ≤ m) ∧ vrun ⟨a, i, false, false⟩ l = (a + m * 2 ^ (7 * i), ((i + vsz m : Nat) : Int), 0) ∧ vsz m ≤ l.length ∧ l.take (vsz m) = vbytes m) ∨
    (vrun ⟨a, i, false, false⟩ l = (0, 0, 3)) ∨ (vrun ⟨a, i, false, false⟩ l = (0, 0, 5))
  | [], a, i, hi => .inr (.inl rfl)
  | c :: r, a, i, hi => by
    have hc0 : (0 : Int) ≤ (c.toNat : Int) := by omega
    have hc1 : (c.toNat : Int) < 256 := by have := c.toNat_lt; omega
    rw [vrun]
    by_cases h128 : 128 ≤ (c.toNat : Int)
    · by_cases h4 : i + 1 = 4
      · right; right
        simp only [verr, vstep, Bool.or_false, Bool.false_eq_true, if_false, if_pos h128, h4]
        simp
      · simp only [verr, vdone, vpush, vstep, Bool.or_false, Bool.false_eq_true, if_false, if_pos h128, decide_eq_false h4]
        rw [if_neg (by simp)]
        rcases vrun_inv r (a + (c.toNat : Int) % 128 * 2 ^ (7 * i)) (i + 1) (by omega) with ⟨m, h0, h1, h2, h3, h5, h6⟩ | h | h
        · left
          have hp : (2 : Int) ^ (7 * (4 - i)) = 2 ^ (7 * (4 - (i + 1))) * 128 := by
            rw [show 4 - i = (4 - (i + 1)) + 1 by omega, p7_succ]
          have hmb : m ≤ 2097151 := by
            have : (2 : Int) ^ (7 * (4 - (i + 1))) ≤ 2 ^ 21 := by
              have hh : i = 0 ∨ i = 1 ∨ i = 2 := by omega
              rcases hh with rfl | rfl | rfl <;> decide
            omega
          have hd : (128 * m + ((c.toNat : Int) - 128)) / 128 = m := by omega
          have hmd : (128 * m + ((c.toNat : Int) - 128)) % 128 = (c.toNat : Int) - 128 := by omega
          have hge : 128 ≤ 128 * m + ((c.toNat : Int) - 128) := by omega
          have hle : 128 * m + ((c.toNat : Int) - 128) ≤ 268435455 := by omega
          obtain ⟨s1, s2, s3, s4⟩ := vsz_step hge hle
          have hvb := vbK_step hge hle
          rw [hd] at s1 hvb
          rw [hmd] at hvb
          refine ⟨128 * m + ((c.toNat : Int) - 128), by omega, by omega, .inr (by omega), ?_, ?_, ?_⟩
          · rw [h3, s1, p7_succ]
            have hcm : (c.toNat : Int) % 128 = (c.toNat : Int) - 128 := by omega
            rw [hcm]
            generalize (2 : Int) ^ (7 * i) = P
            generalize (c.toNat : Int) - 128 = y
            congr 1
            · rw [Int.add_mul, Int.mul_comm P 128, ← Int.mul_assoc, Int.mul_comm m 128]; omega
            · congr 1; omega
          · rw [s1]; simp; omega
          · rw [s1, List.take_succ_cons, h6]
            unfold vbytes
            rw [hvb]
            simp only [u8s, List.map_cons]
            congr 1
            rw [show (c.toNat : Int) - 128 + 128 = (c.toNat : Int) by omega]
            simp
        · exact .inr (.inl h)
        · exact .inr (.inr h)
    · by_cases hz : (c.toNat : Int) = 0 ∧ 0 < i
      · right; right
        simp only [verr, vstep, Bool.or_false, Bool.false_eq_true, if_false, if_neg h128, if_pos hz]
        simp
      · left
        have hsm := vsz_small hc0 (show (c.toNat : Int) < 128 by omega)
        refine ⟨(c.toNat : Int), hc0, ?_, by omega, ?_, by rw [hsm]; simp, ?_⟩
        · have hh : i = 0 ∨ i = 1 ∨ i = 2 ∨ i = 3 := by omega
          rcases hh with rfl | rfl | rfl | rfl <;> omega
        · simp only [verr, vdone, vpush, vstep, Bool.or_false, Bool.false_eq_true, if_false, if_neg h128, if_neg hz]
          rw [if_neg (by simp), if_pos trivial, hsm, show (c.toNat : Int) % 128 = c.toNat by omega]
        · rw [hsm]
          unfold vbytes
          rw [vbK_small hc0 (by omega)]
          simp [u8s]
/-- P2.1: what is read is written the same. -/
theorem vread_inv (l : List UInt8) : (∃ m : Int, 0 ≤ m ∧ m ≤ 268435455 ∧ vread l = (m, (vsz m : Int), 0) ∧ vsz m ≤ l.length ∧ l.take (vsz m) = vbytes m) ∨ vread l = (0, 0, 3) ∨ vread l = (0, 0, 5) := by
  rcases vrun_inv l 0 0 (by omega) with ⟨m, h0, h1, _, h3, h5, h6⟩ | h | h
  · refine .inl ⟨m, h0, by omega, ?_, h5, h6⟩
    unfold vread VSt.new; rw [h3]; simp
  · exact .inr (.inl h)
  · exact .inr (.inr h)
/-- Cut short, the bytes of a number are too few. -/
theorem vrun_cut : ∀ (k : Nat) (m a : Int) (i j : Nat), vsz m = k → 0 ≤ m → m ≤ 268435455 → i + k ≤ 4 → j < k → vrun ⟨a, i, false, false⟩ ((u8s (vbK k m)).take j) = (0, 0, 3)
  | 0, _, _, _, _, _, _, _, _, hj => by omega
  | 1, m, a, i, j, _, _, _, _, hj => by obtain rfl : j = 0 := by omega
                                        rfl
  | k + 2, m, a, i, j, hk, h0, h1, h4, hj => by
    match j, hj with
    | 0, _ => rfl
    | j + 1, hj =>
    have hs : 128 ≤ m := by
      rcases Int.lt_or_le m 128 with h | h
      · rw [vsz_small h0 h] at hk; omega
      · exact h
    obtain ⟨h5, h6, h7, h8⟩ := vsz_step hs h1
    have e : (u8s (vbK (k + 2) m)).take (j + 1) = UInt8.ofNat (m % 128 + 128).toNat :: (u8s (vbK (k + 1) (m / 128))).take j := rfl
    rw [e, vrun, u8_of _ (by omega) (by omega)]
    simp only [verr, vdone, vpush, vstep, Bool.or_false, Bool.false_eq_true, if_false, if_pos (show 128 ≤ m % 128 + 128 by omega), decide_eq_false (show ¬ i + 1 = 4 by omega)]
    rw [if_neg (by simp), vrun_cut (k + 1) (m / 128) _ (i + 1) j (by omega) (by omega) h8 (by omega) (by omega)]
theorem vread_cut (n : Int) (h0 : 0 ≤ n) (h1 : n ≤ 268435455) (j : Nat) (hj : j < vsz n) : vread ((vbytes n).take j) = (0, 0, 3) :=
  vrun_cut (vsz n) n 0 0 j rfl h0 h1 (by have := (vsz_pos h0 h1).2; omega) hj
/-- No number's bytes begin another's. -/
theorem vfront (n m : Int) (h0 : 0 ≤ n) (h1 : n ≤ 268435455) (h2 : 0 ≤ m) (h3 : m ≤ 268435455) (h : (vbytes m).take (vbytes n).length = vbytes n) : n = m := by
  have e1 := vread_vbytes n h0 h1 ((vbytes m).drop (vbytes n).length)
  have e2 := vread_vbytes m h2 h3 []
  rw [← h, List.length_take] at e1
  have e3 : (vbytes m).take (vbytes n).length ++ (vbytes m).drop (min (vbytes n).length (vbytes m).length) = vbytes m := by
    rcases Nat.le_total (vbytes n).length (vbytes m).length with hl | hl
    · rw [Nat.min_eq_left hl, List.take_append_drop]
    · rw [Nat.min_eq_right hl, List.take_of_length_le hl, List.drop_length, List.append_nil]
  rw [e3] at e1
  rw [List.append_nil, e1] at e2
  exact congrArg Prod.fst e2
/-- A push of the next byte of a number: m is what is still to come. -/
theorem vnext (m a : Int) (i : Nat) (h0 : 0 ≤ m) (h1 : m ≤ 268435455) (h4 : i + vsz m ≤ 4) (hz : i = 0 ∨ m ≠ 0) (c : UInt8) (r : List UInt8) (hc : vbytes m = c :: r) :
    verr ⟨a, i, false, false⟩ (c.toNat : Int) = 0 ∧ vdone ⟨a, i, false, false⟩ (c.toNat : Int) = decide (vsz m = 1) ∧
    (vsz m = 1 → vpush ⟨a, i, false, false⟩ (c.toNat : Int) = ⟨a + m * 2 ^ (7 * i), i + 1, true, false⟩) ∧
    (1 < vsz m → r = vbytes (m / 128) ∧ vsz m = vsz (m / 128) + 1 ∧ m / 128 ≠ 0 ∧ ∃ a', vpush ⟨a, i, false, false⟩ (c.toNat : Int) = ⟨a', i + 1, false, false⟩ ∧ a' + m / 128 * 2 ^ (7 * (i + 1)) = a + m * 2 ^ (7 * i)) := by
  rcases Int.lt_or_le m 128 with h | h
  · have hs := vsz_small h0 h
    have e : vbytes m = [UInt8.ofNat m.toNat] := by unfold vbytes; rw [vbK_small h0 h]; rfl
    rw [e] at hc
    obtain ⟨rfl, rfl⟩ := List.cons.inj hc
    rw [u8_of m h0 (by omega)]
    have hm : m % 128 = m := by omega
    have hcn : ¬ (m = 0 ∧ 0 < i) := by omega
    refine ⟨?_, ?_, fun _ => ?_, fun hh => by omega⟩
    · simp only [verr, vstep, Bool.or_false, Bool.false_eq_true, if_false, if_neg (show ¬ 128 ≤ m by omega), if_neg hcn]
    · simp only [vdone, vstep, Bool.or_false, Bool.false_eq_true, if_false, if_neg (show ¬ 128 ≤ m by omega), if_neg hcn, hs, decide_true]
    · simp only [vpush, vstep, Bool.or_false, Bool.false_eq_true, if_false, if_neg (show ¬ 128 ≤ m by omega), if_neg hcn, hm]
  · obtain ⟨h5, h6, h7, h8⟩ := vsz_step h h1
    have e : vbytes m = UInt8.ofNat (m % 128 + 128).toNat :: vbytes (m / 128) := by unfold vbytes; rw [vbK_step h h1]; rfl
    rw [e] at hc
    obtain ⟨rfl, rfl⟩ := List.cons.inj hc
    rw [u8_of _ (by omega) (by omega)]
    have hm : (m % 128 + 128) % 128 = m % 128 := by omega
    refine ⟨?_, ?_, fun hh => by omega, fun _ => ⟨rfl, h5, by omega, a + m % 128 * 2 ^ (7 * i), ?_, ?_⟩⟩
    · simp only [verr, vstep, Bool.or_false, Bool.false_eq_true, if_false, if_pos (show 128 ≤ m % 128 + 128 by omega), decide_eq_false (show ¬ i + 1 = 4 by omega)]
    · simp only [vdone, vstep, Bool.or_false, Bool.false_eq_true, if_false, if_pos (show 128 ≤ m % 128 + 128 by omega), decide_eq_false (show ¬ vsz m = 1 by omega)]
    · simp only [vpush, vstep, Bool.or_false, Bool.false_eq_true, if_false, if_pos (show 128 ≤ m % 128 + 128 by omega), hm, decide_eq_false (show ¬ i + 1 = 4 by omega)]
    · rw [p7_succ]
      have e2 : m = 128 * (m / 128) + m % 128 := by omega
      generalize (2 : Int) ^ (7 * i) = P
      generalize m / 128 = x at *
      generalize m % 128 = y at *
      subst e2
      rw [Int.add_mul, Int.mul_comm P 128, ← Int.mul_assoc, Int.mul_comm x 128]
      omega
end Go.Proofs.YtlfgkdiehmoohaaGreatDoor
