/- topic: the walk of strings.IndexRune at "+#", whatever the rune. -/
import Derived.Test.YtbacnaplpfmpnaaDoorTopX
import Derived.Test.YtbacnaplpfmpnaaDoorShelf
import Derived.Laws.Runes
import Derived.WalkMore
namespace Go.Proofs.YtbacnaplpfmpnaaDoor
open Go.RowKit
set_option linter.unusedVariables false

def pmI (r : Int) : Int := if r = 43 then 0 else if r = 35 then 1 else -1

theorem pm_ascii (r : Int) (h0 : 0 ≤ r) (h1 : r < 128) : Lib.indexByte [43, 35] r.toNat.toUInt8 = pmI r := by
  obtain ⟨n, rfl⟩ := Int.eq_ofNat_of_zero_le h0
  have hn : n < 128 := by omega
  have H : ∀ k : Nat, k < 128 → Lib.indexByte [43, 35] (Nat.toUInt8 k) = pmI (Int.ofNat k) := by decide
  exact H n (by omega)

theorem indexRune_ascii (r : Int) (h0 : 0 ≤ r) (h1 : r < 128) (w : World) :
    Calls Tryd.prog 100 #[.string ⟨#[43, 35]⟩, .int .i32 r] w fun e w' => e = .returned (.int .i64 (pmI r)) ∧ Below w.heap.size w w' :=
  (Go.Proofs.Tryd.strings_IndexRune_ascii ⟨#[43, 35]⟩ r w h0 h1).mono fun e w' ⟨h, hw⟩ => ⟨h.trans (by rw [← pm_ascii r h0 h1]), hw ▸ Below.refl _ _⟩

theorem utf8_valid_of {r : Int} (h : Lib.validRune r = true) : Utf8.valid r = true := by
  rw [validRune_eq]; exact h
theorem pmI_else {r : Int} (h : 128 ≤ r) : pmI r = -1 := by unfold pmI; rw [if_neg (by omega), if_neg (by omega)]

set_option maxRecDepth 100000 in
set_option maxHeartbeats 800000 in
theorem indexRune_high (r : Int) (h0 : 128 ≤ r) (h1 : r ≠ 65533) (hv : Lib.validRune r = true) (w : World) :
    Calls Tryd.prog 100 #[.string ⟨#[43, 35]⟩, .int .i32 r] w fun e w' => e = .returned (.int .i64 (-1)) ∧ Below w.heap.size w w' := by
  have q1 : decide (r < 128) = false := by simpa using h0
  have q2 : decide ((0 : Int) ≤ r) = true := by simp; omega
  have q3 : (r == 65533) = false := by simpa using h1
  have HV := Lib.hid hv
  clear hv
  go_enter Tryd.func100, Tryd.ntmps100
  go_wp2_with fail
  refine (Go.Proofs.Tryd.utf8_ValidRune r _).mono ?_
  rintro e w1 ⟨rfl, rfl⟩
  rw [HV.out]
  go_wp2
  obtain ⟨hs2, hs4, hlast⟩ := encode_facts r (utf8_valid_of HV.out) h0
  obtain ⟨b, hb⟩ : ∃ b, b = Utf8.encode r := ⟨_, rfl⟩
  rw [← hb] at hs2 hs4 hlast
  have hs2' : (2 : Int) ≤ (b.size : Int) := by omega
  have hs4' : (b.size : Int) ≤ 4 := by omega
  have HB := Lib.hid hlast
  clear hlast
  have hcv : (convert 21 9 (.int .i32 r)).run Tryd.prog w1 = .ok (.string b) w1 := by
    rw [hb]; exact run_convert_int_string w1 _ _ _ _ (by kernel_rfl) (by kernel_rfl)
  clear hb
  go_step3
  go_wp2
  go_loopw [9] (fun i wr => i = .int .i64 ((b.size : Int) - 1) ∧ wr = w1) (fun _ _ => 0)
  case atStart => exact ⟨rfl, rfl⟩
  case round =>
    obtain ⟨rfl, rfl⟩ := hrel
    by_cases h2 : b.size = 2
    · obtain ⟨⟨l⟩⟩ := b
      match l, h2, HB, hcv with
      | [x0, x1], h2, HB, hcv =>
      have hx : 128 ≤ x1.toNat := HB.out (by show 1 < 2; decide)
      have hne : ((35 : Int) != (x1.toNat : Int)) = true := by simp; omega
      have hne' : ((35 : UInt8) == x1) = false := by
        apply beq_eq_false_iff_ne.2; intro h; rw [← h] at hx; exact absurd hx (by decide)
      have e0 : (35 == (x1.toNat : Int)) = false := by simp; omega
      go_wp2
      go_step3
      go_wp2
      have hsz : (ByteArray.mk ⟨[x0, x1]⟩).size = 2 := rfl
      have hix : (ByteArray.mk ⟨[x0, x1]⟩)[1]'(by show 1 < 2; decide) = x1 := rfl
      have h21 : ((2 : Nat) : Int) - 1 = 1 := rfl
      simp only [hsz, h21]
      have h35 : (((ByteArray.mk #[43, 35])[1]'(by decide)).toNat : Int) != (x1.toNat : Int) := by
        show ((35 : Int) != (x1.toNat : Int)) = true
        exact hne
      go_region
      go_wp2
      have hdr : (ByteArray.mk #[43, 35]).extract 2 2 = ByteArray.mk #[] := by rfl
      have h22 : ((2 : Nat) : Int) = 2 := rfl
      try simp only [h22]
      go_region_with ((go_at_call 107; ((with_reducible refine (Go.Proofs.Tryd.strings_IndexByte _ _ _).mono ?_); (rintro e w' ⟨rfl, rfl⟩))))
      all_goals try (rename_i hx2; exfalso; apply hx2; decide)
      all_goals
        have e1 : Lib.indexByte [] x1 = -1 := rfl
        rw [e1]
        go_wp2
        rw [Exit.noGoto_ret]
        simp (zetaDelta := true) only [Exit.inBlock, Exit.then]
        (try rw [Exit.noGoto_ret])
        go_ret
        exact ⟨rfl, (Below.refl _ _).drew.drew⟩
    · have hlt : decide ((b.size : Int) - 1 < 2) = false := by simp; omega
      go_wp2
      rw [Exit.noGoto_ret]
      go_ret
      exact ⟨rfl, Below.refl _ _⟩
end Go.Proofs.YtbacnaplpfmpnaaDoor
