/- varint: the Lean functions of sizes, bytes, and what is read. No Go in sight. -/
import Derived.Test.YtlfgkdiehmoohaaGreatDoorVarA
namespace Go.Proofs.YtlfgkdiehmoohaaGreatDoor
open Go.RowKit

def vmay (n : Int) : Bool := decide (0 ≤ n ∧ n ≤ 268435455)
/-- How many bytes a number has. -/
def vsz (n : Int) : Nat := if n < 0 ∨ 268435455 < n then 0 else if n < 128 then 1 else if n < 16384 then 2 else if n < 2097152 then 3 else 4
/-- Its bytes, k of them. -/
def vbK : Nat → Int → List Int
  | 0, _ => []
  | 1, n => [n]
  | k + 2, n => (n % 128 + 128) :: vbK (k + 1) (n / 128)
def u8s (l : List Int) : List UInt8 := l.map fun n => UInt8.ofNat n.toNat
def vbytes (n : Int) : List UInt8 := u8s (vbK (vsz n) n)
theorem vsz_step {n : Int} (h : 128 ≤ n) (h2 : n ≤ 268435455) : vsz n = vsz (n / 128) + 1 ∧ 1 ≤ vsz (n / 128) ∧ 1 ≤ n / 128 ∧ n / 128 ≤ 268435455 := by
  unfold vsz
  refine ⟨?_, ?_, by omega, by omega⟩
  · rw [if_neg (by omega), if_neg (by omega), if_neg (show ¬ (n / 128 < 0 ∨ 268435455 < n / 128) by omega)]
    by_cases h1 : n < 16384
    · rw [if_pos h1, if_pos (by omega)]
    · rw [if_neg h1, if_neg (show ¬ n / 128 < 128 by omega)]
      by_cases h3 : n < 2097152
      · rw [if_pos h3, if_pos (by omega)]
      · rw [if_neg h3, if_neg (show ¬ n / 128 < 16384 by omega), if_pos (by omega)]
  · rw [if_neg (by omega)]
    split
    · omega
    · split
      · omega
      · split <;> omega
theorem vsz_small {n : Int} (h0 : 0 ≤ n) (h : n < 128) : vsz n = 1 := by unfold vsz; rw [if_neg (by omega), if_pos h]
theorem vsz_pos {n : Int} (h0 : 0 ≤ n) (h : n ≤ 268435455) : 1 ≤ vsz n ∧ vsz n ≤ 4 := by
  unfold vsz; rw [if_neg (by omega)]
  split
  · omega
  · split
    · omega
    · split <;> omega
theorem length_vbK : ∀ (k : Nat) (n : Int), (vbK k n).length = k
  | 0, _ => rfl
  | 1, _ => rfl
  | k + 2, n => by simp [vbK, length_vbK (k + 1)]
theorem length_vbytes (n : Int) : (vbytes n).length = vsz n := by simp [vbytes, u8s, length_vbK]
theorem vbK_small {n : Int} (h0 : 0 ≤ n) (h : n < 128) : vbK (vsz n) n = [n] := by rw [vsz_small h0 h]; rfl
theorem vbK_step {n : Int} (h : 128 ≤ n) (h2 : n ≤ 268435455) : vbK (vsz n) n = (n % 128 + 128) :: vbK (vsz (n / 128)) (n / 128) := by
  obtain ⟨h3, h4, _, _⟩ := vsz_step h h2
  rw [h3]
  obtain ⟨k, hk⟩ := Nat.exists_eq_add_of_le h4
  rw [hk, show 1 + k + 1 = k + 2 by omega, show 1 + k = k + 1 by omega]
  rfl

/-- What Read returns: number, size, error. -/
def vrun : VSt → List UInt8 → Int × Int × Int
  | _, [] => (0, 0, 3)
  | s, c :: r => if verr s c.toNat ≠ 0 then (0, 0, verr s c.toNat) else if vdone s c.toNat then ((vpush s c.toNat).n, (vpush s c.toNat).size, 0) else vrun (vpush s c.toNat) r
def vread (l : List UInt8) : Int × Int × Int := vrun VSt.new l
theorem vrun_cons {s : VSt} {l : List UInt8} {j : Nat} (h : j < l.length) : vrun s (l.drop j) = if verr s (l[j].toNat : Int) ≠ 0 then ((0, 0, verr s (l[j].toNat : Int)) : Int × Int × Int) else if vdone s (l[j].toNat : Int) then ((vpush s (l[j].toNat : Int)).n, ((vpush s (l[j].toNat : Int)).size : Int), 0) else vrun (vpush s (l[j].toNat : Int)) (l.drop (j + 1)) := by
  rw [List.drop_eq_getElem_cons h, vrun]
/-- A push without an error that is not the last leaves a reader that is neither. -/
theorem vgoes {s : VSt} {c : Int} (h0 : verr s c = 0) (h1 : vdone s c = false) : (vpush s c).done = false ∧ (vpush s c).bad = false := by
  unfold verr at h0; unfold vdone at h1; unfold vpush
  split at h0
  · simp at h0
  · rename_i hh
    rw [if_neg hh] at h1 ⊢
    split at h0
    · simp at h0
    · rename_i hb
      exact ⟨h1, by simpa using hb⟩
end Go.Proofs.YtlfgkdiehmoohaaGreatDoor
