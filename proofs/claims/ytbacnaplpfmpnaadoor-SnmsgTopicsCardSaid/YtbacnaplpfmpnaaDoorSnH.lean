/- SnheadFlags. -/
import Derived.Test.YtbacnaplpfmpnaaDoorSnG
namespace Go.Proofs.YtbacnaplpfmpnaaDoor
open Go.RowKit
set_option linter.unusedVariables false

theorem flag_rf (f : Fl) (h : flagOk f.q f.typ = true) : (flagV f).2 = 0 ∧ 0 ≤ (flagV f).1 ∧ (flagV f).1 ≤ 255 ∧ rfE (flagV f).1 = 0 ∧ rfF (flagV f).1 = f := by
  obtain ⟨dup, q, retain, will, clean, t⟩ := f
  have h' : -1 ≤ q ∧ q ≤ 2 ∧ 0 ≤ t ∧ t ≤ 2 := by simpa [flagOk] using h
  rcases (by omega : q = -1 ∨ q = 0 ∨ q = 1 ∨ q = 2) with rfl | rfl | rfl | rfl <;> rcases (by omega : t = 0 ∨ t = 1 ∨ t = 2) with rfl | rfl | rfl <;> cases dup <;> cases retain <;> cases will <;> cases clean <;> exact ⟨rfl, by decide, by decide, rfl, rfl⟩
instance : DecidableEq Fl := fun a b => by
  rcases a with ⟨a1, a2, a3, a4, a5, a6⟩
  rcases b with ⟨b1, b2, b3, b4, b5, b6⟩
  exact decidable_of_iff (a1 = b1 ∧ a2 = b2 ∧ a3 = b3 ∧ a4 = b4 ∧ a5 = b5 ∧ a6 = b6) (by simp)
theorem rf_flag_fin : ∀ m : Fin 256, rfOk ((m : Nat) : Int) = true → flagV (rfF ((m : Nat) : Int)) = (((m : Nat) : Int), 0) := by decide +kernel
theorem rf_flag (n : Int) (h : rfOk n = true) : flagV (rfF n) = (n, 0) := by
  have h' : 0 ≤ n ∧ n ≤ 255 ∧ n % 4 ≠ 3 := by simpa [rfOk] using h
  obtain ⟨m, rfl⟩ := Int.eq_ofNat_of_zero_le h'.1
  exact rf_flag_fin ⟨m, by omega⟩ h

theorem mayF_parts {k : Int} {f : Fl} (h : mayF k f = true) : flagOk f.q f.typ = true ∧ ((usesF k).dup || !f.dup) = true ∧ ((usesF k).q == 1 || f.q == 0) = true ∧ ((usesF k).retain || !f.retain) = true ∧ ((usesF k).will || !f.will) = true ∧ ((usesF k).clean || !f.clean) = true ∧ ((usesF k).typ == 1 || f.typ == 0) = true := by
  unfold mayF at h
  simp only [Bool.and_eq_true] at h
  obtain ⟨⟨⟨⟨⟨⟨⟨h1, h2⟩, h3⟩, h4⟩, h5⟩, h6⟩, h7⟩, h8⟩ := h
  exact ⟨h1, h2, h3, h4, h5, h6, h7⟩

theorem rf_cases (n : Int) : (rfOk n = true ∧ 0 ≤ n ∧ n < 256 ∧ (n % 4 != 3) = true) ∨ (rfOk n = false ∧ n < 0) ∨ (rfOk n = false ∧ 0 ≤ n ∧ 256 ≤ n) ∨ (rfOk n = false ∧ 0 ≤ n ∧ n < 256 ∧ (n % 4 != 3) = false) := by
  have e : rfOk n = decide (0 ≤ n ∧ n ≤ 255 ∧ n % 4 ≠ 3) := rfl
  have e2 : (n % 4 != 3) = decide (n % 4 ≠ 3) := by by_cases h : n % 4 = 3 <;> simp [h]
  rw [e, e2]
  simp only [decide_eq_true_eq, decide_eq_false_iff_not]
  omega


end Go.Proofs.YtbacnaplpfmpnaaDoor
