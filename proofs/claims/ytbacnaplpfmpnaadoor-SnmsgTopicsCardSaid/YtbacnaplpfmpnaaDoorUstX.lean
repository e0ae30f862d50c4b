/- ustring: the walks of Text, Binary, Read, ReadBinary; the law's examples. -/
import Derived.Test.YtbacnaplpfmpnaaDoorUstA
import Derived.Test.YtbacnaplpfmpnaaDoorOctA
namespace Go.Proofs.YtbacnaplpfmpnaaDoor
open Go.RowKit

/-- Bytes with their length ahead. -/
def frm (l : List UInt8) : List UInt8 := putL l.length 2 ++ l
theorem length_frm (l : List UInt8) : (frm l).length = l.length + 2 := by simp [frm, length_putL]; omega
/-- What ReadBinary returns: data, size, error. -/
def rdB (l : List UInt8) : List UInt8 × Nat × Int :=
  if l.length < 2 then ([], 0, 3) else if (l.length : Int) - 2 < getB (l.take 2) then ([], 0, 3) else ((l.drop 2).take (getB (l.take 2)).toNat, 2 + (getB (l.take 2)).toNat, 0)
/-- What Read returns. -/
def rdT (l : List UInt8) : List UInt8 × Nat × Int := if (rdB l).2.2 = 0 ∧ vld (rdB l).1 = false then ([], 0, 6) else rdB l

theorem getB_two (l : List UInt8) (h : l.length ≤ 2) : 0 ≤ getB l ∧ getB l ≤ 65535 := by
  have h1 := getB_nonneg l
  have h2 := getB_lt l 2 h
  exact ⟨h1, by omega⟩
theorem rdB_err (t : List UInt8) : (rdB t).2.2 = 0 ∨ (rdB t).2.2 = 3 ∧ (rdB t).1 = [] ∧ (rdB t).2.1 = 0 := by
  unfold rdB; split
  · exact .inr ⟨rfl, rfl, rfl⟩
  · split
    · exact .inr ⟨rfl, rfl, rfl⟩
    · exact .inl rfl
theorem rdB_len (t : List UInt8) : (rdB t).1.length ≤ t.length ∧ (rdB t).2.1 ≤ t.length := by
  unfold rdB; split
  · simp
  · split
    · simp
    · have := getB_nonneg (t.take 2); simp; omega
end Go.Proofs.YtbacnaplpfmpnaaDoor
