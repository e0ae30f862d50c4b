/- SnheadLengths. -/
import Derived.Test.YtbacnaplpfmpnaaDoorSnB
namespace Go.Proofs.YtbacnaplpfmpnaaDoor
open Go.RowKit

theorem known_range {k : Int} (h : knownK k = true) : 0 ≤ k ∧ k ≤ 254 := by
  unfold knownK at h
  split at h
  · cases h
  split at h
  · omega
  · simp at h; omega
theorem put_one (x : Int) (h0 : 0 ≤ x) (h : x ≤ 255) : ∃ a : UInt8, putL x 1 = [a] ∧ (a.toNat : Int) = x := by
  have h1 := getB_putB x 1 (by decide)
  have h2 := length_putB x 1
  have e : putL x 1 = putB x 1 := rfl
  match hp : putB x 1, h2 with
  | [a], _ =>
    rw [hp] at h1
    refine ⟨a, by rw [e, hp], ?_⟩
    have : getB [a] = (a.toNat : Int) := by simp [getB]
    rw [← this, h1]; omega
theorem put_two (x : Int) (h0 : 0 ≤ x) (h : x ≤ 65535) : ∃ a b : UInt8, putL x 2 = [a, b] ∧ getB [a, b] = x := by
  have h1 := getB_putB x 2 (by decide)
  have h2 := length_putB x 2
  have e : putL x 2 = putB x 2 := rfl
  match hp : putB x 2, h2 with
  | [a, b], _ =>
    rw [hp] at h1
    refine ⟨a, b, by rw [e, hp], ?_⟩
    rw [h1]; omega
/-- A head is short, or long. -/
theorem snS_short (kind rest : Int) (hk : knownK kind = true) (h0 : 0 ≤ rest) (h : rest ≤ 253) : ∃ a c : UInt8, snS kind rest = [a, c] ∧ (a.toNat : Int) = rest + 2 ∧ (c.toNat : Int) = kind := by
  have hr := known_range hk
  obtain ⟨a, ha, ha2⟩ := put_one (rest + 2) (by omega) (by omega)
  obtain ⟨c, hc, hc2⟩ := put_one kind (by omega) (by omega)
  exact ⟨a, c, by unfold snS; rw [if_pos h, ha, hc]; rfl, ha2, hc2⟩
theorem snS_long (kind rest : Int) (hk : knownK kind = true) (h0 : 253 < rest) (h : rest ≤ 65531) : ∃ a b c : UInt8, snS kind rest = [1, a, b, c] ∧ getB [a, b] = rest + 4 ∧ (c.toNat : Int) = kind := by
  have hr := known_range hk
  obtain ⟨a, b, ha, ha2⟩ := put_two (rest + 4) (by omega) (by omega)
  obtain ⟨c, hc, hc2⟩ := put_one kind (by omega) (by omega)
  have h1 : putL 1 1 = [1] := by decide
  exact ⟨a, b, c, by unfold snS; rw [if_neg (by omega), ha, hc, h1]; rfl, ha2, hc2⟩
theorem getB_one (a : UInt8) : getB [a] = (a.toNat : Int) := by simp [getB]
theorem snR_short (a c : UInt8) (more : List UInt8) (h : ¬ (a.toNat : Int) = 1) : snR (a :: c :: more) = snTail (c.toNat : Int) 2 (a.toNat : Int) := by
  have e0 : num (a :: c :: more) 0 1 = a.toNat := getB_one a
  have e1 : num (a :: c :: more) 1 1 = c.toNat := getB_one c
  unfold snR
  rw [e0, e1, if_neg (by simp), if_neg h, if_neg (by simp)]
theorem snR_long (a b c : UInt8) (more : List UInt8) : snR (1 :: a :: b :: c :: more) = snTail (c.toNat : Int) 4 (getB [a, b]) := by
  have e0 : num (1 :: a :: b :: c :: more) 0 1 = 1 := getB_one 1
  have e1 : num (1 :: a :: b :: c :: more) 1 2 = getB [a, b] := rfl
  have e2 : num (1 :: a :: b :: c :: more) 3 1 = c.toNat := getB_one c
  unfold snR
  rw [e0, e1, e2, if_neg (by simp), if_pos rfl, if_neg (by simp)]
theorem snR_snS (kind rest : Int) (hk : knownK kind = true) (h0 : 0 ≤ rest) (h : rest ≤ 65531) (more : List UInt8) :
    snR (snS kind rest ++ more) = (kind, ((snS kind rest).length : Int), rest + ((snS kind rest).length : Int), 0) := by
  rcases Int.lt_or_le 253 rest with h1 | h1
  · obtain ⟨a, b, c, e, e1, e2⟩ := snS_long kind rest hk h1 h
    rw [e, show [1, a, b, c] ++ more = 1 :: a :: b :: c :: more from rfl, snR_long, e1, e2]
    unfold snTail
    rw [if_neg (by omega), if_neg (by simp [hk])]
    rfl
  · obtain ⟨a, c, e, e1, e2⟩ := snS_short kind rest hk h0 h1
    rw [e, show [a, c] ++ more = a :: c :: more from rfl, snR_short _ _ _ (by omega), e1, e2]
    unfold snTail
    rw [if_neg (by omega), if_neg (by simp [hk])]
    rfl
theorem snS_len (kind rest : Int) : (rest ≤ 253 → (snS kind rest).length = 2) ∧ (253 < rest → (snS kind rest).length = 4) := by
  constructor
  · intro h; unfold snS; rw [if_pos h]; simp only [List.length_append, length_putL]; decide
  · intro h; unfold snS; rw [if_neg (by omega)]; simp only [List.length_append, length_putL]; decide
theorem snB_ok {kind rest : Int} (hk : knownK kind = true) (h0 : 0 ≤ rest) (h : rest ≤ 65531) : snB kind rest = (snS kind rest, 0) := by
  unfold snB; rw [if_neg (by simp [hk]), if_neg (by omega), if_neg (by omega)]

end Go.Proofs.YtbacnaplpfmpnaaDoor
