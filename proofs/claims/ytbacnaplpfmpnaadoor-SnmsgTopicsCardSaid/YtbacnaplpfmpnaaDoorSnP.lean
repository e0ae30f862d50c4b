/- The reference of chapter 21: May, Bytes, Read. -/
import Derived.Test.YtbacnaplpfmpnaaDoorSnL
import Derived.Test.YtbacnaplpfmpnaaDoorSnB
import Derived.Deep.RegionHeld3
namespace Go.Proofs.YtbacnaplpfmpnaaDoor
open Go.RowKit
set_option linter.unusedVariables false

theorem num_at (t : List UInt8) (i : Nat) (h : i < t.length) : num t i 1 = ((t[i]).toNat : Int) := by
  unfold num
  rw [List.drop_eq_getElem_cons h, List.take_succ_cons, List.take_zero]
  simp [getB]
theorem ne_empty {t : List UInt8} (h : 0 < t.length) : t.isEmpty = false := by
  cases t with
  | nil => simp at h
  | cons => rfl
theorem snTail_bad {k h l : Int} (hb : l < h ∨ (h = 4 ∧ l < 258)) : snTail k h l = (0, 0, 0, 5) := by unfold snTail; rw [if_pos hb]
theorem snTail_no {k h l : Int} (hb : ¬ (l < h ∨ (h = 4 ∧ l < 258))) (hk : knownK k = false) : snTail k h l = (0, 0, 0, 8) := by unfold snTail; rw [if_neg hb, if_pos hk]
theorem snTail_ok {k h l : Int} (hb : ¬ (l < h ∨ (h = 4 ∧ l < 258))) (hk : knownK k = true) : snTail k h l = (k, h, l, 0) := by unfold snTail; rw [if_neg hb, if_neg (by simp [hk])]

set_option maxRecDepth 100000 in
set_option maxHeartbeats 800000 in
theorem rsnread_short (t : List UInt8) (w : World) (h : t.length < 1 ∨ (1 ≤ t.length ∧ num t 0 1 = 1 ∧ t.length < 4) ∨ (1 ≤ t.length ∧ num t 0 1 ≠ 1 ∧ t.length < 2)) : Calls Tryd.prog 13 #[.string ⟨t.toArray⟩] w fun e w' => e = .returned (.tuple #[.int .i64 (snR t).1, .int .i64 (snR t).2.1, .int .i64 (snR t).2.2.1, .int .i64 (snR t).2.2.2]) ∧ w = w' := by
  rcases h with h | ⟨h1, h2, h3⟩ | ⟨h1, h2, h3⟩
  · have hr : snR t = (0, 0, 0, 3) := by unfold snR; rw [if_pos h]
    rw [hr]
    obtain rfl : t = [] := List.length_eq_zero_iff.1 (by omega)
    clear h hr
    go_enter Tryd.func13, Tryd.ntmps13
    go_wp2
    ((try simp only [Exit.inBlock, Exit.then]); refine bodyPost_ret (results_four rfl _ _ _) rfl ?_)
    exact ⟨rfl, rfl⟩
  · have hr : snR t = (0, 0, 0, 3) := by unfold snR; rw [if_neg (by omega), if_pos h2, if_pos h3]
    rw [hr]
    have hc := num_at t 0 (by omega)
    rw [h2] at hc
    have hx : (ByteArray.mk t.toArray)[0]'(by show 0 < t.length; omega) = t[0] := rfl
    have d1 : ((t[0]).toNat : Int) = 1 := hc.symm
    have hz : t.isEmpty = false := ne_empty (by omega)
    clear hr h2 hc
    go_enter Tryd.func13, Tryd.ntmps13
    go_wp2
    ((try simp only [Exit.inBlock, Exit.then]); refine bodyPost_ret (results_four rfl _ _ _) rfl ?_)
    exact ⟨rfl, rfl⟩
  · have hr : snR t = (0, 0, 0, 3) := by unfold snR; rw [if_neg (by omega), if_neg h2, if_pos h3]
    rw [hr]
    have hc := num_at t 0 (by omega)
    rw [hc] at h2
    have b0 : ((t[0]).toNat : Int) < 256 := by have := (t[0]).toNat_lt; omega
    have hx : (ByteArray.mk t.toArray)[0]'(by show 0 < t.length; omega) = t[0] := rfl
    have d1 : (((t[0]).toNat : Int) == 1) = false := by simpa using h2
    have hz : t.isEmpty = false := ne_empty (by omega)
    clear hr h2 hc
    go_enter Tryd.func13, Tryd.ntmps13
    go_wp2
    ((try simp only [Exit.inBlock, Exit.then]); refine bodyPost_ret (results_four rfl _ _ _) rfl ?_)
    exact ⟨rfl, rfl⟩

set_option maxRecDepth 100000 in
set_option maxHeartbeats 1600000 in
theorem rsnread_two (t : List UInt8) (ht : (t.length : Int) ≤ 4611686018427380000) (w : World) (h1 : 2 ≤ t.length) (h2 : num t 0 1 ≠ 1) : Calls Tryd.prog 13 #[.string ⟨t.toArray⟩] w fun e w' => e = .returned (.tuple #[.int .i64 (snR t).1, .int .i64 (snR t).2.1, .int .i64 (snR t).2.2.1, .int .i64 (snR t).2.2.2]) ∧ w = w' := by
  have hr : snR t = snTail (num t 1 1) 2 (num t 0 1) := by unfold snR; rw [if_neg (by omega), if_neg h2, if_neg (by omega)]
  have hc := num_at t 0 (by omega)
  have hc1 := num_at t 1 (by omega)
  rw [hc] at h2 hr
  rw [hc1] at hr
  have hx : (ByteArray.mk t.toArray)[0]'(by show 0 < t.length; omega) = t[0] := rfl
  have hx1 : (ByteArray.mk t.toArray)[1]'(by show 1 < t.length; omega) = t[1] := rfl
  have d1 : (((t[0]).toNat : Int) == 1) = false := by simpa using h2
  have b0 : ((t[0]).toNat : Int) < 256 := by have := (t[0]).toNat_lt; omega
  have b1 : ((t[1]).toNat : Int) < 256 := by have := (t[1]).toNat_lt; omega
  have hz : t.isEmpty = false := ne_empty (by omega)
  rw [hr]
  have H2 := Lib.hid h2
  clear hr h2 hc hc1
  by_cases h3 : ((t[0]).toNat : Int) < 2
  · rw [snTail_bad (.inl h3)]
    go_enter Tryd.func13, Tryd.ntmps13
    go_wp2
    ((try simp only [Exit.inBlock, Exit.then]); refine bodyPost_ret (results_four rfl _ _ _) rfl ?_)
    exact ⟨rfl, rfl⟩
  · cases hk : knownK ((t[1]).toNat : Int) with
    | false =>
      rw [snTail_no (by omega) hk]
      have HK := Lib.hid hk
      clear hk
      go_enter Tryd.func13, Tryd.ntmps13
      go_wp2_with fail
      refine (rknown_any _ _).mono ?_
      rintro e w' ⟨rfl, rfl⟩
      rw [HK.out]
      go_wp2
      ((try simp only [Exit.inBlock, Exit.then]); refine bodyPost_ret (results_four rfl _ _ _) rfl ?_)
      exact ⟨rfl, rfl⟩
    | true =>
      rw [snTail_ok (by omega) hk]
      have HK := Lib.hid hk
      clear hk
      go_enter Tryd.func13, Tryd.ntmps13
      go_wp2_with fail
      refine (rknown_any _ _).mono ?_
      rintro e w' ⟨rfl, rfl⟩
      rw [HK.out]
      go_wp2
      ((try simp only [Exit.inBlock, Exit.then]); refine bodyPost_ret (results_four rfl _ _ _) rfl ?_)
      exact ⟨rfl, rfl⟩
set_option maxRecDepth 100000 in
set_option maxHeartbeats 1600000 in
theorem rsnread_four (t : List UInt8) (ht : (t.length : Int) ≤ 4611686018427380000) (w : World) (h1 : 4 ≤ t.length) (h2 : num t 0 1 = 1) : Calls Tryd.prog 13 #[.string ⟨t.toArray⟩] w fun e w' => e = .returned (.tuple #[.int .i64 (snR t).1, .int .i64 (snR t).2.1, .int .i64 (snR t).2.2.1, .int .i64 (snR t).2.2.2]) ∧ w = w' := by
  have hr : snR t = snTail (num t 3 1) 4 (num t 1 2) := by unfold snR; rw [if_neg (by omega), if_pos h2, if_neg (by omega)]
  have hc := num_at t 0 (by omega)
  have hc1 := num_at t 3 (by omega)
  rw [h2] at hc
  rw [hc1] at hr
  have hs := num_two t 1
  have hn : getB ((t.drop 1).take 2) = num t 1 2 := rfl
  obtain ⟨L, hL⟩ : ∃ L, L = num t 1 2 := ⟨_, rfl⟩
  rw [← hL] at hr hs hn
  have hll : ((t.drop 1).take 2).length ≤ 8 := by simp; omega
  have hex : (ByteArray.mk t.toArray).extract 1 3 = ByteArray.mk ((t.drop 1).take 2).toArray := by rw [ByteArray.extract_mk]
  have hx : (ByteArray.mk t.toArray)[0]'(by show 0 < t.length; omega) = t[0] := rfl
  have hx1 : (ByteArray.mk t.toArray)[3]'(by show 3 < t.length; omega) = t[3] := rfl
  have d1 : ((t[0]).toNat : Int) = 1 := hc.symm
  have b1 : ((t[3]).toNat : Int) < 256 := by have := (t[3]).toNat_lt; omega
  have hz : t.isEmpty = false := ne_empty (by omega)
  rw [hr]
  have HN := Lib.hid (And.intro hn (And.intro h2 hL))
  obtain ⟨s1, s2⟩ := hs
  have hdl : ((t.drop 1).take 2) = ((t.drop 1).take 2) := rfl
  obtain ⟨D, hD⟩ : ∃ D, D = (t.drop 1).take 2 := ⟨_, rfl⟩
  rw [← hD] at hex hll
  have HD := Lib.hid hD
  clear hr h2 hc hc1 hn hL hD hdl
  have hnum : ∀ w : World, Calls Tryd.prog 39 #[.string ⟨D.toArray⟩] w fun e w' => e = .returned (.int .u64 L) ∧ w = w' := fun w => by
    have := rnumber_any D hll w
    rw [HD.out, HN.out.1] at this
    rw [HD.out]; exact this
  have HNum := Lib.hid hnum
  clear hnum hll
  rcases (by omega : L < 4 ∨ (4 ≤ L ∧ L < 258) ∨ 258 ≤ L) with h3 | ⟨h3, h4⟩ | h3
  · rw [snTail_bad (.inl h3)]
    go_enter Tryd.func13, Tryd.ntmps13
    go_wp2_with fail
    refine (HNum.out _).mono ?_
    rintro e w' ⟨rfl, rfl⟩
    go_wp2
    ((try simp only [Exit.inBlock, Exit.then]); refine bodyPost_ret (results_four rfl _ _ _) rfl ?_)
    exact ⟨rfl, rfl⟩
  · rw [snTail_bad (.inr ⟨rfl, h4⟩)]
    go_enter Tryd.func13, Tryd.ntmps13
    go_wp2_with fail
    refine (HNum.out _).mono ?_
    rintro e w' ⟨rfl, rfl⟩
    go_wp2
    ((try simp only [Exit.inBlock, Exit.then]); refine bodyPost_ret (results_four rfl _ _ _) rfl ?_)
    exact ⟨rfl, rfl⟩
  · cases hk : knownK ((t[3]).toNat : Int) with
    | false =>
      rw [snTail_no (by omega) hk]
      have HK := Lib.hid hk
      clear hk
      go_enter Tryd.func13, Tryd.ntmps13
      go_wp2_with fail
      refine (HNum.out _).mono ?_
      rintro e w' ⟨rfl, rfl⟩
      go_wp2_with fail
      refine (rknown_any _ _).mono ?_
      rintro e w' ⟨rfl, rfl⟩
      rw [HK.out]
      go_wp2
      ((try simp only [Exit.inBlock, Exit.then]); refine bodyPost_ret (results_four rfl _ _ _) rfl ?_)
      exact ⟨rfl, rfl⟩
    | true =>
      rw [snTail_ok (by omega) hk]
      have HK := Lib.hid hk
      clear hk
      go_enter Tryd.func13, Tryd.ntmps13
      go_wp2_with fail
      refine (HNum.out _).mono ?_
      rintro e w' ⟨rfl, rfl⟩
      go_wp2_with fail
      refine (rknown_any _ _).mono ?_
      rintro e w' ⟨rfl, rfl⟩
      rw [HK.out]
      go_wp2
      ((try simp only [Exit.inBlock, Exit.then]); refine bodyPost_ret (results_four rfl _ _ _) rfl ?_)
      exact ⟨rfl, rfl⟩
/-- The reference's Read. -/
theorem rsnread_any (t : List UInt8) (ht : (t.length : Int) ≤ 4611686018427380000) (w : World) : Calls Tryd.prog 13 #[.string ⟨t.toArray⟩] w fun e w' => e = .returned (.tuple #[.int .i64 (snR t).1, .int .i64 (snR t).2.1, .int .i64 (snR t).2.2.1, .int .i64 (snR t).2.2.2]) ∧ w = w' := by
  by_cases h1 : t.length < 1
  · exact rsnread_short t w (.inl h1)
  by_cases h2 : num t 0 1 = 1
  · by_cases h3 : t.length < 4
    · exact rsnread_short t w (.inr (.inl ⟨by omega, h2, h3⟩))
    · exact rsnread_four t ht w (by omega) h2
  · by_cases h3 : t.length < 2
    · exact rsnread_short t w (.inr (.inr ⟨by omega, h2, h3⟩))
    · exact rsnread_two t ht w (by omega) h2
end Go.Proofs.YtbacnaplpfmpnaaDoor
