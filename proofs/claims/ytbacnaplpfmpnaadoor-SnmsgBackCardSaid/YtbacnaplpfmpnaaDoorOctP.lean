/- Plain laws on the bytes of numbers. -/
import Derived.Test.YtbacnaplpfmpnaaDoorOctA
import GoSem.Op.String
namespace Go.Proofs.YtbacnaplpfmpnaaDoor
open Go.RowKit

theorem putB_succ (n : Int) (k : Nat) : putB n (k + 1) = UInt8.ofNat (byteAt n k).toNat :: putB n k := by
  unfold putB
  rw [List.range_succ_eq_map, List.map_cons, List.map_map]
  congr 1
  apply List.map_congr_left
  intro p _
  simp only [Function.comp]
  rw [show k + 1 - 1 - (p + 1) = k - 1 - p by omega]
theorem getB_cons (c : UInt8) (l : List UInt8) : getB (c :: l) = c.toNat * 256 ^ l.length + getB l := by
  have key : ∀ (l : List UInt8) (a : Int), l.foldl (fun (n : Int) c => n * 256 + c.toNat) a = a * 256 ^ l.length + getB l := by
    intro l
    induction l with
    | nil => intro a; simp [getB]
    | cons c l ih =>
      intro a
      have h1 := ih (a * 256 + c.toNat)
      have h2 := ih (0 * 256 + c.toNat)
      simp only [getB, List.foldl_cons, List.length_cons] at *
      rw [h1, h2, Int.pow_succ, Int.add_mul, Int.add_mul, Int.mul_assoc, Int.mul_comm 256]
      simp; omega
  have := key l (0 * 256 + c.toNat)
  simp only [getB, List.foldl_cons] at *
  rw [this]; simp
theorem byteAt_eq (n : Int) (k : Nat) (hk : k < 8) : byteAt n k = n / 256 ^ k % 256 := by
  have e : (2 : Int) ^ (8 * k) = 256 ^ k := by rw [Int.pow_mul]; rfl
  unfold byteAt; rw [if_pos hk, e]
theorem byteAt_range (n : Int) (k : Nat) : 0 ≤ byteAt n k ∧ byteAt n k < 256 := by
  unfold byteAt; split
  · omega
  · decide
theorem byte_toNat (n : Int) (k : Nat) : ((UInt8.ofNat (byteAt n k).toNat).toNat : Int) = byteAt n k := by
  have := byteAt_range n k
  simp; omega
theorem getB_putB (n : Int) (k : Nat) (hk : k ≤ 8) : getB (putB n k) = n % 256 ^ k := by
  induction k with
  | zero => simp [putB, getB]
  | succ k ih =>
    rw [putB_succ, getB_cons, ih (by omega), byte_toNat, length_putB, byteAt_eq n k (by omega), Int.pow_succ]
    have h1 : (0 : Int) < 256 ^ k := Int.pow_pos (by decide)
    have h3 := Int.mul_ediv_add_emod n (256 ^ k)
    have h4 := Int.mul_ediv_add_emod (n / 256 ^ k) 256
    have h5 : n % (256 ^ k * 256) = 256 ^ k * (n / 256 ^ k % 256) + n % 256 ^ k := by
      have hq : n = (n / 256 ^ k / 256) * (256 ^ k * 256) + (256 ^ k * (n / 256 ^ k % 256) + n % 256 ^ k) := by
        generalize n / 256 ^ k = a at *
        generalize n % 256 ^ k = r at *
        generalize (256 : Int) ^ k = P at *
        generalize a / 256 = b at *
        generalize a % 256 = c at *
        subst h4
        rw [← h3, Int.mul_add]
        have : b * (P * 256) = P * (256 * b) := by rw [Int.mul_comm b, Int.mul_assoc]
        omega
      have hr0 := Int.emod_nonneg n (show (256 : Int) ^ k ≠ 0 by omega)
      have hr1 := Int.emod_lt_of_pos n h1
      have hc0 := Int.emod_nonneg (n / 256 ^ k) (show (256 : Int) ≠ 0 by decide)
      have hc1 := Int.emod_lt_of_pos (n / 256 ^ k) (show (0 : Int) < 256 by decide)
      have hlo : 0 ≤ 256 ^ k * (n / 256 ^ k % 256) := Int.mul_nonneg (by omega) hc0
      have hhi : 256 ^ k * (n / 256 ^ k % 256) ≤ 256 ^ k * 255 := Int.mul_le_mul_of_nonneg_left (by omega) (by omega)
      conv => lhs; rw [hq, Int.add_comm, Int.add_mul_emod_self_right]
      exact Int.emod_eq_of_lt (by omega) (by omega)
    rw [h5, Int.mul_comm]
theorem getB_inj : ∀ (a b : List UInt8), a.length = b.length → getB a = getB b → a = b
  | [], [], _, _ => rfl
  | [], _ :: _, h, _ => by simp at h
  | _ :: _, [], h, _ => by simp at h
  | c :: a, d :: b, h, e => by
    simp only [List.length_cons, Nat.add_right_cancel_iff] at h
    rw [getB_cons, getB_cons, h] at e
    have ha := getB_bound _ a rfl
    have hb := getB_bound _ b rfl
    rw [h] at ha
    have h1 : (0 : Int) < 256 ^ b.length := Int.pow_pos (by decide)
    have hcd : c.toNat = d.toNat := by
      rcases Nat.lt_trichotomy c.toNat d.toNat with hlt | heq | hgt
      · have : ((c.toNat : Int) + 1) * 256 ^ b.length ≤ d.toNat * 256 ^ b.length := Int.mul_le_mul_of_nonneg_right (by omega) (by omega)
        rw [Int.add_mul] at this; omega
      · exact heq
      · have : ((d.toNat : Int) + 1) * 256 ^ b.length ≤ c.toNat * 256 ^ b.length := Int.mul_le_mul_of_nonneg_right (by omega) (by omega)
        rw [Int.add_mul] at this; omega
    rw [hcd] at e
    rw [UInt8.toNat.inj hcd, getB_inj a b h (by omega)]
theorem less_getB : ∀ (a b : List UInt8), a.length = b.length → Op.bytesLess a b = decide (getB a < getB b)
  | [], [], _ => rfl
  | [], _ :: _, h => by simp at h
  | _ :: _, [], h => by simp at h
  | c :: a, d :: b, h => by
    simp only [List.length_cons, Nat.add_right_cancel_iff] at h
    rw [getB_cons, getB_cons, h]
    have ha := getB_bound _ a rfl
    have hb := getB_bound _ b rfl
    rw [h] at ha
    have ih := less_getB a b h
    have h1 : (0 : Int) < 256 ^ b.length := Int.pow_pos (by decide)
    rw [Op.bytesLess, ih]
    by_cases h2 : c < d
    · have hlt : c.toNat < d.toNat := UInt8.lt_iff_toNat_lt.1 h2
      have : ((c.toNat : Int) + 1) * 256 ^ b.length ≤ d.toNat * 256 ^ b.length := Int.mul_le_mul_of_nonneg_right (by omega) (by omega)
      rw [Int.add_mul] at this
      simp [h2]; omega
    · by_cases h3 : c = d
      · subst h3; simp
      · have hgt : d.toNat < c.toNat := by
          have h5 : ¬ c.toNat < d.toNat := fun e => h2 (UInt8.lt_iff_toNat_lt.2 e)
          have h4 : c.toNat ≠ d.toNat := fun e => h3 (UInt8.toNat.inj e)
          omega
        have : ((d.toNat : Int) + 1) * 256 ^ b.length ≤ c.toNat * 256 ^ b.length := Int.mul_le_mul_of_nonneg_right (by omega) (by omega)
        rw [Int.add_mul] at this
        have e1 : decide (c < d) = false := decide_eq_false h2
        have e2 : (c == d) = false := beq_eq_false_iff_ne.2 h3
        rw [e1, e2, Bool.false_or, Bool.false_and]
        exact (decide_eq_false (by omega)).symm
theorem putB_getB (l : List UInt8) (h : l.length ≤ 8) : putB (getB l) l.length = l := by
  apply getB_inj _ _ (length_putB _ _)
  rw [getB_putB _ _ h]
  exact Int.emod_eq_of_lt (getB_nonneg l) (getB_bound _ l rfl).2
end Go.Proofs.YtbacnaplpfmpnaaDoor
