/- What is valid, code points: plain Lean. -/
import Derived.Test.YtbacnaplpfmpnaaDoorUstA
namespace Go.Proofs.YtbacnaplpfmpnaaDoor
open Go.RowKit

/-- No code point begins here, or U+0000 does. -/
def off (l : List UInt8) : Bool := (pt l).2 == 0 || (pt l).1 == 0
def bdK : Nat → List UInt8 → Option Nat
  | 0, _ => none
  | k + 1, l => if l.length = 0 then none else if off l then some 0 else (bdK k (l.drop (pt l).2)).map (· + (pt l).2)
/-- The first invalid position. -/
def bd (l : List UInt8) : Option Nat := bdK l.length l
def rnK : Nat → Nat → List UInt8 → List (Nat × Nat)
  | 0, _, _ => []
  | k + 1, at_, l => if l.length = 0 then [] else if off l then [] else (at_, (pt l).1) :: rnK k (at_ + (pt l).2) (l.drop (pt l).2)
/-- Places and code points, as far as they are valid. -/
def rn (at_ : Nat) (l : List UInt8) : List (Nat × Nat) := rnK l.length at_ l
def badI (l : List UInt8) : Int := match bd l with | none => -1 | some p => p
def vld (l : List UInt8) : Bool := decide (l.length ≤ 65535) && (bd l).isNone
def cnt (l : List UInt8) : Nat := if vld l then (rn 0 l).length else 0

theorem on_size {l : List UInt8} (h : off l = false) : 1 ≤ (pt l).2 ∧ (pt l).2 ≤ l.length ∧ (pt l).2 ≠ 0 ∧ (pt l).1 ≠ 0 := by
  unfold off at h
  simp at h
  have := (pt_size l).1
  exact ⟨by omega, this, h.1, h.2⟩
theorem bdK_more : ∀ (k m : Nat) (l : List UInt8), l.length ≤ k → l.length ≤ m → bdK k l = bdK m l
  | 0, 0, _, _, _ => rfl
  | 0, m + 1, l, h, _ => by
    obtain rfl : l = [] := List.length_eq_zero_iff.1 (by omega)
    rfl
  | k + 1, 0, l, _, h => by
    obtain rfl : l = [] := List.length_eq_zero_iff.1 (by omega)
    rfl
  | k + 1, m + 1, l, h1, h2 => by
    unfold bdK
    split
    · rfl
    split
    · rfl
    · rename_i h3
      have hs := on_size (l := l) (by simpa using h3)
      rw [bdK_more k m _ (by simp; omega) (by simp; omega)]
theorem rnK_more : ∀ (k m at_ : Nat) (l : List UInt8), l.length ≤ k → l.length ≤ m → rnK k at_ l = rnK m at_ l
  | 0, 0, _, _, _, _ => rfl
  | 0, m + 1, _, l, h, _ => by
    obtain rfl : l = [] := List.length_eq_zero_iff.1 (by omega)
    rfl
  | k + 1, 0, _, l, _, h => by
    obtain rfl : l = [] := List.length_eq_zero_iff.1 (by omega)
    rfl
  | k + 1, m + 1, at_, l, h1, h2 => by
    unfold rnK
    split
    · rfl
    split
    · rfl
    · rename_i h3
      have hs := on_size (l := l) (by simpa using h3)
      rw [rnK_more k m _ _ (by simp; omega) (by simp; omega)]
theorem bd_nil : bd [] = none := rfl
theorem rn_nil (at_ : Nat) : rn at_ [] = [] := rfl
theorem bd_off {l : List UInt8} (h0 : 0 < l.length) (h : off l = true) : bd l = some 0 := by
  unfold bd
  obtain ⟨k, hk⟩ : ∃ k, l.length = k + 1 := ⟨l.length - 1, by omega⟩
  rw [hk, bdK, if_neg (by omega), if_pos h]
theorem rn_off {l : List UInt8} (at_ : Nat) (h : off l = true) : rn at_ l = [] := by
  unfold rn
  cases hk : l.length with
  | zero => rfl
  | succ k => rw [rnK, if_neg (by omega), if_pos h]
theorem off_nil : off [] = true := rfl
theorem bd_on {l : List UInt8} (h : off l = false) : bd l = (bd (l.drop (pt l).2)).map (· + (pt l).2) := by
  have hs := on_size h
  unfold bd
  obtain ⟨k, hk⟩ : ∃ k, l.length = k + 1 := ⟨l.length - 1, by omega⟩
  rw [hk, bdK, if_neg (by omega), if_neg (by simp [h]), bdK_more k (l.drop (pt l).2).length _ (by simp; omega) (Nat.le_refl _)]
theorem rn_on {l : List UInt8} (at_ : Nat) (h : off l = false) : rn at_ l = (at_, (pt l).1) :: rn (at_ + (pt l).2) (l.drop (pt l).2) := by
  have hs := on_size h
  unfold rn
  obtain ⟨k, hk⟩ : ∃ k, l.length = k + 1 := ⟨l.length - 1, by omega⟩
  rw [hk, rnK, if_neg (by omega), if_neg (by simp [h]), rnK_more k (l.drop (pt l).2).length _ _ (by simp; omega) (Nat.le_refl _)]
/-- A strong induction along the code points. -/
theorem byPoints {P : List UInt8 → Prop} (h0 : P []) (h1 : ∀ l, 0 < l.length → off l = true → P l) (h2 : ∀ l, off l = false → P (l.drop (pt l).2) → P l) (l : List UInt8) : P l := by
  have key : ∀ n (l : List UInt8), l.length = n → P l := by
    intro n
    induction n using Nat.strongRecOn with
    | ind n ih =>
      intro l hl
      rcases Nat.eq_zero_or_pos l.length with h | h
      · rw [List.length_eq_zero_iff.1 h]; exact h0
      · cases ho : off l with
        | true => exact h1 l h ho
        | false =>
          have hs := on_size ho
          exact h2 l ho (ih (l.drop (pt l).2).length (by simp; omega) _ rfl)
  exact key _ l rfl
theorem bd_lt (l : List UInt8) : ∀ p, bd l = some p → p < l.length := by
  refine byPoints (P := fun l => ∀ p, bd l = some p → p < l.length) ?_ ?_ ?_ l
  · intro p h; cases h
  · intro l h0 ho p h; rw [bd_off h0 ho] at h; cases h; exact h0
  · intro l ho ih p h
    have hs := on_size ho
    rw [bd_on ho] at h
    cases hb : bd (l.drop (pt l).2) with
    | none => rw [hb] at h; cases h
    | some q =>
      rw [hb] at h
      have := ih q hb
      simp at this h
      omega
theorem off_front {l r : List UInt8} (h : off l = false) : off (l ++ r) = false ∧ pt (l ++ r) = pt l := by
  have hs := on_size h
  have e := pt_front l (l ++ r) hs.2.2.1 (by rw [List.take_append_of_le_length hs.2.1])
  unfold off at *
  rw [e]; exact ⟨h, rfl⟩
/-- A complete front: what comes behind it is looked at on its own. -/
theorem bd_append (l r : List UInt8) (h : bd l = none) : bd (l ++ r) = (bd r).map (· + l.length) := by
  revert h
  refine byPoints (P := fun l => bd l = none → bd (l ++ r) = (bd r).map (· + l.length)) ?_ ?_ ?_ l
  · intro _; simp
  · intro l h0 ho h; rw [bd_off h0 ho] at h; cases h
  · intro l ho ih h
    have hs := on_size ho
    obtain ⟨f1, f2⟩ := off_front (r := r) ho
    rw [bd_on ho] at h
    have h' : bd (l.drop (pt l).2) = none := by
      cases hb : bd (l.drop (pt l).2) with
      | none => rfl
      | some q => rw [hb] at h; cases h
    rw [bd_on f1, f2, List.drop_append_of_le_length hs.2.1, ih h', Option.map_map]
    congr 1
    funext x
    simp; omega
theorem rn_append (l r : List UInt8) (h : bd l = none) : ∀ at_, rn at_ (l ++ r) = rn at_ l ++ rn (at_ + l.length) r := by
  revert h
  refine byPoints (P := fun l => bd l = none → ∀ at_, rn at_ (l ++ r) = rn at_ l ++ rn (at_ + l.length) r) ?_ ?_ ?_ l
  · intro _ at_; simp [rn_nil]
  · intro l h0 ho h; rw [bd_off h0 ho] at h; cases h
  · intro l ho ih h at_
    have hs := on_size ho
    obtain ⟨f1, f2⟩ := off_front (r := r) ho
    rw [bd_on ho] at h
    have h' : bd (l.drop (pt l).2) = none := by
      cases hb : bd (l.drop (pt l).2) with
      | none => rfl
      | some q => rw [hb] at h; cases h
    rw [rn_on at_ f1, f2, List.drop_append_of_le_length hs.2.1, ih h', rn_on at_ ho]
    simp only [List.cons_append, List.length_drop]
    rw [show at_ + (pt l).2 + (l.length - (pt l).2) = at_ + l.length by omega]
theorem rn_length (l : List UInt8) : ∀ a b, (rn a l).length = (rn b l).length := by
  refine byPoints (P := fun l => ∀ a b, (rn a l).length = (rn b l).length) ?_ ?_ ?_ l
  · intro a b; rfl
  · intro l _ ho a b; rw [rn_off a ho, rn_off b ho]
  · intro l ho ih a b
    rw [rn_on a ho, rn_on b ho, List.length_cons, List.length_cons, ih (a + (pt l).2) (b + (pt l).2)]
end Go.Proofs.YtbacnaplpfmpnaaDoor
