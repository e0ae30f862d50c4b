/- Topics, plain: a range over a text meets its '+' and '#' as code points. -/
import Derived.Test.YtbacnaplpfmpnaaDoorTopA
namespace Go.Proofs.YtbacnaplpfmpnaaDoor
set_option linter.unusedVariables false

theorem wild_high (l : List UInt8) (y : Nat) (h : ∀ k, k < y → 128 ≤ g l k) : hasWild (l.take y) = false := by
  cases hw : hasWild (l.take y) with
  | false => rfl
  | true =>
    exfalso
    simp only [hasWild, List.any_eq_true] at hw
    obtain ⟨x, hx, he⟩ := hw
    obtain ⟨k, hk, e⟩ := List.getElem_of_mem hx
    rw [List.length_take] at hk
    have hk1 : k < y := by omega
    have hkl : k < l.length := by omega
    have hk2 := h k hk1
    have e2 : g l k = x.toNat := by
      rw [List.getElem_take] at e
      simp [g, List.getD, List.getElem?_eq_getElem hkl, e]
    simp only [Bool.or_eq_true, beq_iff_eq] at he
    rcases he with rfl | rfl
    · rw [e2] at hk2; exact absurd hk2 (by decide)
    · rw [e2] at hk2; exact absurd hk2 (by decide)
theorem cb_high {l : List UInt8} {k : Nat} (h : cb l k = true) : 128 ≤ g l k := by have := (cb_lt h).2; omega
theorem range_wild (l : List UInt8) (hl : 0 < l.length) (m y : Nat) (h : (if (pt l).2 = 0 then (65533, 1) else pt l) = (m, y)) :
    1 ≤ y ∧ y ≤ l.length ∧ hasWild (l.take y) = (m == 43 || m == 35) ∧ (m < 128 ∨ 128 ≤ m) ∧ m ≤ 1114111 ∧ (m < 55296 ∨ 57343 < m) := by
  have big : ∀ y, 1 ≤ y → y ≤ l.length → 128 ≤ m → m ≤ 1114111 → (m < 55296 ∨ 57343 < m) → (∀ k, k < y → 128 ≤ g l k) → 1 ≤ y ∧ y ≤ l.length ∧ hasWild (l.take y) = (m == 43 || m == 35) ∧ (m < 128 ∨ 128 ≤ m) ∧ m ≤ 1114111 ∧ (m < 55296 ∨ 57343 < m) := by
    intro y h1 h2 h3 h4 h5 h6
    refine ⟨h1, h2, ?_, .inr h3, h4, h5⟩
    rw [wild_high l y h6]
    have e1 : (m == 43) = false := by simp; omega
    have e2 : (m == 35) = false := by simp; omega
    rw [e1, e2]; rfl
  by_cases h0 : g l 0 < 128
  · have e : pt l = (g l 0, 1) := by unfold pt; rw [if_neg (by omega), if_pos h0]
    rw [e] at h
    simp only [Nat.one_ne_zero, if_false, Prod.mk.injEq] at h
    obtain ⟨rfl, rfl⟩ := h
    refine ⟨Nat.le_refl _, hl, ?_, .inl h0, by omega, by omega⟩
    cases l with
    | nil => simp at hl
    | cons c r =>
      have hg : g (c :: r) 0 = c.toNat := rfl
      rw [hg]
      show hasWild [c] = _
      simp only [hasWild, List.any_cons, List.any_nil, Bool.or_false]
      congr 1
      · rw [Bool.eq_iff_iff]; simp [← UInt8.toNat_inj]
      · rw [Bool.eq_iff_iff]; simp [← UInt8.toNat_inj]
  · have b0 := g_lt l 0
    have h1 : 128 ≤ g l 0 := by omega
    by_cases hz : (pt l).2 = 0
    · rw [if_pos hz] at h
      simp only [Prod.mk.injEq] at h
      obtain ⟨rfl, rfl⟩ := h
      exact big 1 (Nat.le_refl _) hl (by decide) (by decide) (.inr (by decide)) (fun k hk => by obtain rfl : k = 0 := by omega
                                                                                                exact h1)
    · rw [if_neg hz] at h
      have hsz := (pt_size l).1
      unfold pt at h hz
      rw [if_neg (by omega), if_neg h0] at h hz
      split at h
      · rename_i q
        rw [if_pos q] at hz
        split at h
        · simp only [Prod.mk.injEq] at h
          obtain ⟨hm, rfl⟩ := h
          have := (cb_lt q.2).1
          refine big 2 (by omega) (by omega) (by omega) (by omega) (by omega) (fun k hk => ?_)
          rcases (by omega : k = 0 ∨ k = 1) with rfl | rfl
          · exact h1
          · exact cb_high q.2
        · rename_i q2; rw [if_neg q2] at hz; simp at hz
      rename_i q0
      rw [if_neg q0] at hz
      split at h
      · rename_i q
        rw [if_pos q] at hz
        split at h
        · rename_i q3
          simp only [Prod.mk.injEq] at h
          obtain ⟨hm, rfl⟩ := h
          have := (cb_lt q.2.2).1
          refine big 3 (by omega) (by omega) (by omega) (by omega) (by omega) (fun k hk => ?_)
          rcases (by omega : k = 0 ∨ k = 1 ∨ k = 2) with rfl | rfl | rfl
          · exact h1
          · exact cb_high q.2.1
          · exact cb_high q.2.2
        · rename_i q2; rw [if_neg q2] at hz; simp at hz
      rename_i q1
      rw [if_neg q1] at hz
      split at h
      · rename_i q
        rw [if_pos q] at hz
        split at h
        · rename_i q3
          simp only [Prod.mk.injEq] at h
          obtain ⟨hm, rfl⟩ := h
          have := (cb_lt q.2.2.2).1
          refine big 4 (by omega) (by omega) (by omega) (by omega) (by omega) (fun k hk => ?_)
          rcases (by omega : k = 0 ∨ k = 1 ∨ k = 2 ∨ k = 3) with rfl | rfl | rfl | rfl
          · exact h1
          · exact cb_high q.2.1
          · exact cb_high q.2.2.1
          · exact cb_high q.2.2.2
        · rename_i q2; rw [if_neg q2] at hz; simp at hz
      · rename_i q2; rw [if_neg q2] at hz; simp at hz
theorem wild_take_step (t : List UInt8) (p y : Nat) : hasWild (t.take (p + y)) = (hasWild (t.take p) || hasWild ((t.drop p).take y)) := by
  rw [List.take_add]; simp [hasWild]
end Go.Proofs.YtbacnaplpfmpnaaDoor
