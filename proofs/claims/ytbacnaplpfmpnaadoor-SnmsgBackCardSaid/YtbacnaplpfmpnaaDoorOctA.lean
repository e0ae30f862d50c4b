/- The bytes of numbers: the Lean functions that octet.Put and octet.Get compute, and their plain lemmas. -/
import Derived.Test.YtbacnaplpfmpnaaDoorBase
namespace Go.Proofs.YtbacnaplpfmpnaaDoor
open Go.RowKit

/-- The byte of weight 256^i of n. -/
def byteAt (n : Int) (i : Nat) : Int := if i < 8 then n / 2 ^ (8 * i) % 256 else 0
/-- The cells after i rounds. -/
def putTo (n : Int) (k i : Nat) : List Int := (List.range k).map fun p => if k - 1 - p < i then byteAt n (k - 1 - p) else 0
/-- The bytes that n is written in. -/
def putB (n : Int) (k : Nat) : List UInt8 := (List.range k).map fun p => UInt8.ofNat (byteAt n (k - 1 - p)).toNat
/-- The same, of any size. -/
def putL (n size : Int) : List UInt8 := putB n (min size 16).toNat
theorem putTo_zero (n : Int) (k : Nat) : putTo n k 0 = List.replicate k 0 := by
  apply List.ext_getElem <;> simp [putTo]
theorem putTo_succ (n : Int) (k i : Nat) (hi : i < k) : putTo n k (i + 1) = (putTo n k i).set (k - 1 - i) (byteAt n i) := by
  apply List.ext_getElem
  · simp [putTo]
  · intro p h1 h2
    simp [putTo] at h1
    simp [putTo, List.getElem_set]
    by_cases hp : p = k - 1 - i
    · subst hp
      rw [if_pos (by omega), if_pos rfl]
      congr 1; omega
    · rw [if_neg (by omega : ¬ k - 1 - i = p)]
      by_cases hq : k - 1 - p < i
      · rw [if_pos (by omega), if_pos hq]
      · rw [if_neg (by omega), if_neg hq]
theorem putTo_self (n : Int) (k i : Nat) (hi : i < k) (h8 : ¬ i < 8) : putTo n k (i + 1) = putTo n k i := by
  rw [putTo_succ n k i hi]
  apply List.ext_getElem
  · simp
  · intro p h1 h2
    simp [List.getElem_set]
    intro hp
    subst hp
    simp [putTo, byteAt, h8]
    omega
theorem putTo_all (n : Int) (k : Nat) : (putTo n k k).map (fun n => UInt8.ofNat n.toNat) = putB n k := by
  apply List.ext_getElem
  · simp [putTo, putB]
  · intro p h1 h2
    simp [putTo] at h1
    simp [putTo, putB]
    rw [if_pos (by omega)]
theorem length_putTo (n : Int) (k i : Nat) : (putTo n k i).length = k := by simp [putTo]
theorem length_putB (n : Int) (k : Nat) : (putB n k).length = k := by simp [putB]
theorem length_putL (n size : Int) : (putL n size).length = (min size 16).toNat := by simp [putL, length_putB]

/-- The number that bytes are. -/
def getB (l : List UInt8) : Int := l.foldl (fun n c => n * 256 + c.toNat) 0
/-- The number that the last eight bytes are. -/
def getL (l : List UInt8) : Int := getB (l.drop (l.length - 8))
theorem getB_snoc (l : List UInt8) (c : UInt8) : getB (l ++ [c]) = getB l * 256 + c.toNat := by simp [getB, List.foldl_append]
theorem getB_nil : getB [] = 0 := rfl
theorem getB_take (l : List UInt8) (i : Nat) (h : i < l.length) : getB (l.take (i + 1)) = getB (l.take i) * 256 + l[i].toNat := by
  rw [List.take_succ_eq_append_getElem h, getB_snoc]
theorem getB_bound : ∀ (n : Nat) (l : List UInt8), l.length = n → 0 ≤ getB l ∧ getB l < 256 ^ l.length
  | 0, l, h => by obtain rfl := List.length_eq_zero_iff.1 h; decide
  | n + 1, l, h => by
    have hne : l ≠ [] := by intro e; simp [e] at h
    have e := List.dropLast_concat_getLast hne
    have ih := getB_bound n l.dropLast (by simp [h])
    have hl : l.length = l.dropLast.length + 1 := by simp; omega
    rw [hl, ← e, getB_snoc]
    have hb : (l.getLast hne).toNat < 256 := (l.getLast hne).toNat_lt
    rw [e, Int.pow_succ]
    omega
theorem getB_nonneg (l : List UInt8) : 0 ≤ getB l := (getB_bound _ l rfl).1
theorem pow256_mono (a b : Nat) (h : a ≤ b) : (256 : Int) ^ a ≤ 256 ^ b := by
  obtain ⟨c, rfl⟩ := Nat.exists_eq_add_of_le h
  rw [Int.pow_add]
  have h1 : (0 : Int) < 256 ^ a := Int.pow_pos (by decide)
  have h2 : (0 : Int) < 256 ^ c := Int.pow_pos (by decide)
  have : (256 : Int) ^ a * 1 ≤ 256 ^ a * 256 ^ c := Int.mul_le_mul_of_nonneg_left (by omega) (by omega)
  omega
theorem getB_lt (l : List UInt8) (k : Nat) (h : l.length ≤ k) : getB l < 256 ^ k :=
  Int.lt_of_lt_of_le (getB_bound _ l rfl).2 (pow256_mono _ _ h)
end Go.Proofs.YtbacnaplpfmpnaaDoor
