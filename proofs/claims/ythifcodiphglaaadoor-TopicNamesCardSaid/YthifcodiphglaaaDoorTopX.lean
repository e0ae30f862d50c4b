/- topic: the walks of strings.HasPrefix, strings.CutPrefix, Dollar. -/
import Derived.Test.YthifcodiphglaaaDoorTopW
namespace Go.Proofs.YthifcodiphglaaaDoor
open Go.RowKit
set_option linter.unusedVariables false

theorem lhasPrefix_any (s p : List UInt8) (w : World) (hs : (s.length : Int) ≤ 9223372036854775807) (hp : (p.length : Int) ≤ 9223372036854775807) :
    Calls Tryd.prog 43 #[.string ⟨s.toArray⟩, .string ⟨p.toArray⟩] w fun e w' => e = .returned (.bool (Lib.hasPrefix s p)) ∧ w = w' := by
  have HK := Lib.hid (Lib.hasPrefix_of_take s p)
  by_cases hl : (p.length : Int) ≤ (s.length : Int)
  · have hx : (ByteArray.mk s.toArray).extract 0 p.length = ByteArray.mk (s.take p.length).toArray := by rw [ByteArray.extract_mk]; simp
    have hd : decide (p.length ≤ s.length) = true := by simpa using (by omega : p.length ≤ s.length)
    go_enter Tryd.func43, Tryd.ntmps43
    go_wp2
    go_ret
    exact ⟨by rw [← HK.out, hd]; rfl, rfl⟩
  · have hd : decide (p.length ≤ s.length) = false := by simpa using (by omega : s.length < p.length)
    go_enter Tryd.func43, Tryd.ntmps43
    go_wp2
    go_ret
    exact ⟨by rw [← HK.out, hd]; rfl, rfl⟩

theorem hasPrefix_any (s p : List UInt8) (w : World) (hs : (s.length : Int) ≤ 9223372036854775807) (hp : (p.length : Int) ≤ 9223372036854775807) :
    Calls Tryd.prog 31 #[.string ⟨s.toArray⟩, .string ⟨p.toArray⟩] w fun e w' => e = .returned (.bool (Lib.hasPrefix s p)) ∧ w = w' := by
  go_enter Tryd.func31, Tryd.ntmps31
  go_wp2_with fail
  refine (lhasPrefix_any s p _ hs hp).mono ?_
  rintro e w1 ⟨rfl, rfl⟩
  go_wp2
  go_ret
  exact ⟨rfl, rfl⟩

theorem dollar_prefix (s : List UInt8) : Lib.hasPrefix s [36] = dollarB s := by
  cases s with
  | nil => rfl
  | cons a r =>
    show (36 == a && [].isPrefixOf r) = (some a == some 36)
    by_cases h : a = 36
    · subst h; rfl
    · have h2 : ¬ 36 = a := fun e => h e.symm
      have e1 : ((36 : UInt8) == a) = false := by simpa using h2
      have e2 : ((some a : Option UInt8) == some 36) = false := by simpa using h
      rw [e1, e2]; rfl

theorem dollar_any (s : List UInt8) (w : World) (hs : (s.length : Int) ≤ 9223372036854775807) :
    Calls Tryd.prog 17 #[.string ⟨s.toArray⟩] w fun e w' => e = .returned (.bool (dollarB s)) ∧ w = w' := by
  go_enter Tryd.func17, Tryd.ntmps17
  go_wp2_with fail
  refine (hasPrefix_any s [36] _ hs (by simp)).mono ?_
  rintro e w1 ⟨rfl, rfl⟩
  go_wp2
  go_ret
  exact ⟨by rw [← dollar_prefix]; rfl, rfl⟩

theorem lcutPrefix_any (s p : List UInt8) (w : World) (hs : (s.length : Int) ≤ 9223372036854775807) (hp : (p.length : Int) ≤ 9223372036854775807) :
    Calls Tryd.prog 35 #[.string ⟨s.toArray⟩, .string ⟨p.toArray⟩] w fun e w' => e = .returned (.tuple #[.string ⟨(Lib.trimPrefix s p).toArray⟩, .bool (Lib.hasPrefix s p)]) ∧ w = w' := by
  by_cases h : Lib.hasPrefix s p = true
  · have ht : Lib.trimPrefix s p = s.drop p.length := by unfold Lib.trimPrefix; simp [h]
    have hl : p.length ≤ s.length := by
      rw [← Lib.hasPrefix_of_take] at h
      simp at h; exact h.1
    have hl' : (p.length : Int) ≤ (s.length : Int) := by omega
    rw [ht, h]
    have H := Lib.hid h
    clear h
    go_enter Tryd.func35, Tryd.ntmps35
    go_wp2_with fail
    refine (lhasPrefix_any s p _ hs hp).mono ?_
    rintro e w1 ⟨rfl, rfl⟩
    have hx : (ByteArray.mk s.toArray).extract p.length s.length = ByteArray.mk (s.drop p.length).toArray := by
      rw [ByteArray.extract_mk]
      have : List.take (s.length - p.length) (List.drop p.length s) = List.drop p.length s := List.take_of_length_le (by simp)
      simp [this]
    rw [H.out]
    go_wp2
    go_ret2
    exact ⟨rfl, rfl⟩
  · have hf : Lib.hasPrefix s p = false := by simpa using h
    have ht : Lib.trimPrefix s p = s := by unfold Lib.trimPrefix; simp [hf]
    rw [ht, hf]
    have H := Lib.hid hf
    clear h hf
    go_enter Tryd.func35, Tryd.ntmps35
    go_wp2_with fail
    refine (lhasPrefix_any s p _ hs hp).mono ?_
    rintro e w1 ⟨rfl, rfl⟩
    rw [H.out]
    go_wp2
    go_ret2
    exact ⟨rfl, rfl⟩

theorem cutPrefix_any (s p : List UInt8) (w : World) (hs : (s.length : Int) ≤ 9223372036854775807) (hp : (p.length : Int) ≤ 9223372036854775807) :
    Calls Tryd.prog 25 #[.string ⟨s.toArray⟩, .string ⟨p.toArray⟩] w fun e w' => e = .returned (.tuple #[.string ⟨(Lib.trimPrefix s p).toArray⟩, .bool (Lib.hasPrefix s p)]) ∧ w = w' := by
  go_enter Tryd.func25, Tryd.ntmps25
  go_wp2_with fail
  refine (lcutPrefix_any s p _ hs hp).mono ?_
  rintro e w1 ⟨rfl, rfl⟩
  go_wp2
  go_ret2
  exact ⟨rfl, rfl⟩
end Go.Proofs.YthifcodiphglaaaDoor
