/- The reference's Point. -/
import Derived.Test.YtbacnaplpfmpnaaDoorUstD
namespace Go.Proofs.YtbacnaplpfmpnaaDoor
open Go.RowKit
set_option linter.unusedVariables false

theorem cb_drop (l : List UInt8) (k : Nat) : cb (l.drop k) 0 = cb l k := by
  unfold cb g
  congr 1
  · simp only [List.length_drop, decide_eq_decide]; omega
  · simp [List.getD]
theorem g_drop (l : List UInt8) (k : Nat) : g (l.drop k) 0 = g l k := by simp [g, List.getD]
theorem acc_step (l : List UInt8) (b k : Nat) : ((accN l b (k + 1) : Nat) : Int) = 64 * (accN l b k : Int) + ((g l (k + 1) % 64 : Nat) : Int) := by simp only [accN]; omega
theorem cb_more {l : List UInt8} {k : Nat} (h : ∀ j, 1 ≤ j → j < k + 1 → cb l j = true) (h1 : cb l (k + 1) = true) : ∀ j, 1 ≤ j → j < k + 1 + 1 → cb l j = true := by
  intro j j1 j2
  rcases Nat.lt_or_ge j (k + 1) with h2 | h2
  · exact h j j1 h2
  · obtain rfl : j = k + 1 := by omega
    exact h1


set_option maxRecDepth 100000 in
set_option maxHeartbeats 1600000 in
theorem rpoint_2 (t : List UInt8) (ht : (t.length : Int) ≤ 4611686018427380000) (p : Nat) (hp : p < t.length) (h1 : 192 ≤ (t[p]).toNat) (h2 : (t[p]).toNat < 224) (w : World) :
    Calls Tryd.prog 92 #[.string ⟨t.toArray⟩, .int .i64 p] w fun e w' => e = .returned (.tuple #[.int .i64 ((pt (t.drop p)).1 : Nat), .int .i64 ((pt (t.drop p)).2 : Nat)]) ∧ w = w' := by
  have e0 : g (t.drop p) 0 = (t[p]).toNat := g_at t p 0 hp
  have hq := pt_all (t.drop p) (by simp; omega) 2 192 128 (by omega)
  rw [e0] at hq
  have hb : (t[p]).toNat - 192 < 32 := by omega
  obtain ⟨b, hbb⟩ : ∃ b, b = (t[p]).toNat - 192 := ⟨_, rfl⟩
  have hcast : ((t[p]).toNat : Int) - 192 = (b : Int) := by omega
  rw [← hbb] at hq hb
  have hle := accN_le (t.drop p) b hb
  have HQ := Lib.hid (And.intro hq (And.intro hle hcast))
  have d1 : ((t[p]).toNat : Int) < 224 := by omega
  have d2 : (192 : Int) ≤ ((t[p]).toNat : Int) := by omega
  have hx : (ByteArray.mk t.toArray)[p]'hp = t[p] := rfl
  clear hq hle hbb e0 hcast h1 h2
  go_enter Tryd.func92, Tryd.ntmps92
  go_wp2
  rw [HQ.out.2.2]
  go_loop [6, 9] (fun n i => ∃ k : Nat, k + 1 ≤ 2 ∧ i = .int .i64 ((k : Int) + 1) ∧ n = .int .i64 (accN (t.drop p) b k : Nat) ∧ Hid (∀ j, 1 ≤ j → j < k + 1 → cb (t.drop p) j = true)) (fun _ i => 2 - (intOf i).toNat)
  case atStart => exact ⟨0, by omega, rfl, rfl, fun j j1 j2 => by omega⟩
  case round =>
    obtain ⟨k, hk, rfl, rfl, hall⟩ := hrel
    have hbd : accN (t.drop p) b k ≤ 8388608 := Nat.le_trans (HQ.out.2.1 k (by omega)) (by rcases (by omega : k = 0 ∨ k = 1 ∨ k = 2 ∨ k = 3) with rfl | rfl | rfl | rfl <;> decide)
    obtain ⟨n, hn⟩ : ∃ n, n = accN (t.drop p) b k := ⟨_, rfl⟩
    rw [← hn] at hbd ⊢
    have HN := Lib.hid hn
    clear hn
    by_cases hlt : k + 1 < 2
    · have hmo := rmore_any t (by omega) (p + (k + 1)) (by omega)
      rw [← List.drop_drop, cb_drop, g_drop] at hmo
      have HM := Lib.hid hmo
      clear hmo
      cases hc : cb (t.drop p) (k + 1) with
      | false =>
        have HZ := Lib.hid (And.intro hc (HQ.out.1.2 (k + 1) (by omega) hlt hc))
        clear hc
        go_wp2_with fail
        rw [show (p : Int) + ((k : Int) + 1) = ((p + (k + 1) : Nat) : Int) from by omega]
        refine (HM.out _).mono ?_
        rintro e w' ⟨rfl, rfl⟩
        rw [HZ.out.1]
        go_wp2
        go_ret2
        exact ⟨by rw [HZ.out.2]; rfl, rfl⟩
      | true =>
        have HA := Lib.hid (cb_more hall.out hc)
        have hl6 : ((g (t.drop p) (k + 1) % 64 : Nat) : Int) ≤ 63 ∧ (0 : Int) ≤ ((g (t.drop p) (k + 1) % 64 : Nat) : Int) := by omega
        have HS := Lib.hid (acc_step (t.drop p) b k)
        obtain ⟨low, hlow⟩ : ∃ low : Int, low = ((g (t.drop p) (k + 1) % 64 : Nat) : Int) := ⟨_, rfl⟩
        rw [← hlow] at hl6
        have HL := Lib.hid hlow
        obtain ⟨hl7, hl8⟩ := hl6
        have HZ := Lib.hid hc
        clear hc hlow
        go_wp2_with fail
        rw [show (p : Int) + ((k : Int) + 1) = ((p + (k + 1) : Nat) : Int) from by omega]
        refine (HM.out _).mono ?_
        rintro e w' ⟨rfl, rfl⟩
        rw [HZ.out, if_pos rfl, ← HL.out]
        go_wp2
        go_round
        case rel => exact ⟨k + 1, by omega, by go_num, by rw [HS.out, ← HL.out, ← HN.out], HA.out⟩
        case measure => simp [intOf]; omega
    · obtain rfl : k = 2 - 1 := by omega
      have hfin := HQ.out.1.1 (fun j j1 j2 => hall.out j j1 (by omega))
      rw [← HN.out] at hfin
      have HF := Lib.hid hfin
      clear hfin hall
      by_cases q1 : n < 128
      · have d : decide ((n : Int) < 128) = true := by simp; omega
        go_wp2
        go_ret2
        exact ⟨by rw [HF.out, if_pos (by simp [odd]; omega)]; rfl, rfl⟩
      by_cases q2 : 1114111 < n
      · have d : decide ((n : Int) < 128) = false := by simp; omega
        have d2 : decide (1114111 < (n : Int)) = true := by simp; omega
        go_wp2
        go_ret2
        exact ⟨by rw [HF.out, if_pos (by simp [odd]; omega)]; rfl, rfl⟩
      by_cases q3 : 55296 ≤ n
      · by_cases q4 : n ≤ 57343
        · have d : decide ((n : Int) < 128) = false := by simp; omega
          have d2 : decide (1114111 < (n : Int)) = false := by simp; omega
          have d3 : decide (55296 ≤ (n : Int)) = true := by simp; omega
          have d4 : decide ((n : Int) ≤ 57343) = true := by simp; omega
          go_wp2
          go_ret2
          exact ⟨by rw [HF.out, if_pos (by simp [odd]; omega)]; rfl, rfl⟩
        · have d : decide ((n : Int) < 128) = false := by simp; omega
          have d2 : decide (1114111 < (n : Int)) = false := by simp; omega
          have d3 : decide (55296 ≤ (n : Int)) = true := by simp; omega
          have d4 : decide ((n : Int) ≤ 57343) = false := by simp; omega
          go_wp2
          go_ret2
          exact ⟨by rw [HF.out, if_neg (by simp [odd]; omega)]; rfl, rfl⟩
      · have d : decide ((n : Int) < 128) = false := by simp; omega
        have d2 : decide (1114111 < (n : Int)) = false := by simp; omega
        have d3 : decide (55296 ≤ (n : Int)) = false := by simp; omega
        go_wp2
        go_ret2
        exact ⟨by rw [HF.out, if_neg (by simp [odd]; omega)]; rfl, rfl⟩

set_option maxRecDepth 100000 in
set_option maxHeartbeats 1600000 in
theorem rpoint_3 (t : List UInt8) (ht : (t.length : Int) ≤ 4611686018427380000) (p : Nat) (hp : p < t.length) (h1 : 224 ≤ (t[p]).toNat) (h2 : (t[p]).toNat < 240) (w : World) :
    Calls Tryd.prog 92 #[.string ⟨t.toArray⟩, .int .i64 p] w fun e w' => e = .returned (.tuple #[.int .i64 ((pt (t.drop p)).1 : Nat), .int .i64 ((pt (t.drop p)).2 : Nat)]) ∧ w = w' := by
  have e0 : g (t.drop p) 0 = (t[p]).toNat := g_at t p 0 hp
  have hq := pt_all (t.drop p) (by simp; omega) 3 224 2048 (by omega)
  rw [e0] at hq
  have hb : (t[p]).toNat - 224 < 32 := by omega
  obtain ⟨b, hbb⟩ : ∃ b, b = (t[p]).toNat - 224 := ⟨_, rfl⟩
  have hcast : ((t[p]).toNat : Int) - 224 = (b : Int) := by omega
  rw [← hbb] at hq hb
  have hle := accN_le (t.drop p) b hb
  have HQ := Lib.hid (And.intro hq (And.intro hle hcast))
  have d1 : ((t[p]).toNat : Int) < 240 := by omega
  have d2 : (224 : Int) ≤ ((t[p]).toNat : Int) := by omega
  have hx : (ByteArray.mk t.toArray)[p]'hp = t[p] := rfl
  clear hq hle hbb e0 hcast h1 h2
  go_enter Tryd.func92, Tryd.ntmps92
  go_wp2
  rw [HQ.out.2.2]
  go_loop [6, 9] (fun n i => ∃ k : Nat, k + 1 ≤ 3 ∧ i = .int .i64 ((k : Int) + 1) ∧ n = .int .i64 (accN (t.drop p) b k : Nat) ∧ Hid (∀ j, 1 ≤ j → j < k + 1 → cb (t.drop p) j = true)) (fun _ i => 3 - (intOf i).toNat)
  case atStart => exact ⟨0, by omega, rfl, rfl, fun j j1 j2 => by omega⟩
  case round =>
    obtain ⟨k, hk, rfl, rfl, hall⟩ := hrel
    have hbd : accN (t.drop p) b k ≤ 8388608 := Nat.le_trans (HQ.out.2.1 k (by omega)) (by rcases (by omega : k = 0 ∨ k = 1 ∨ k = 2 ∨ k = 3) with rfl | rfl | rfl | rfl <;> decide)
    obtain ⟨n, hn⟩ : ∃ n, n = accN (t.drop p) b k := ⟨_, rfl⟩
    rw [← hn] at hbd ⊢
    have HN := Lib.hid hn
    clear hn
    by_cases hlt : k + 1 < 3
    · have hmo := rmore_any t (by omega) (p + (k + 1)) (by omega)
      rw [← List.drop_drop, cb_drop, g_drop] at hmo
      have HM := Lib.hid hmo
      clear hmo
      cases hc : cb (t.drop p) (k + 1) with
      | false =>
        have HZ := Lib.hid (And.intro hc (HQ.out.1.2 (k + 1) (by omega) hlt hc))
        clear hc
        go_wp2_with fail
        rw [show (p : Int) + ((k : Int) + 1) = ((p + (k + 1) : Nat) : Int) from by omega]
        refine (HM.out _).mono ?_
        rintro e w' ⟨rfl, rfl⟩
        rw [HZ.out.1]
        go_wp2
        go_ret2
        exact ⟨by rw [HZ.out.2]; rfl, rfl⟩
      | true =>
        have HA := Lib.hid (cb_more hall.out hc)
        have hl6 : ((g (t.drop p) (k + 1) % 64 : Nat) : Int) ≤ 63 ∧ (0 : Int) ≤ ((g (t.drop p) (k + 1) % 64 : Nat) : Int) := by omega
        have HS := Lib.hid (acc_step (t.drop p) b k)
        obtain ⟨low, hlow⟩ : ∃ low : Int, low = ((g (t.drop p) (k + 1) % 64 : Nat) : Int) := ⟨_, rfl⟩
        rw [← hlow] at hl6
        have HL := Lib.hid hlow
        obtain ⟨hl7, hl8⟩ := hl6
        have HZ := Lib.hid hc
        clear hc hlow
        go_wp2_with fail
        rw [show (p : Int) + ((k : Int) + 1) = ((p + (k + 1) : Nat) : Int) from by omega]
        refine (HM.out _).mono ?_
        rintro e w' ⟨rfl, rfl⟩
        rw [HZ.out, if_pos rfl, ← HL.out]
        go_wp2
        go_round
        case rel => exact ⟨k + 1, by omega, by go_num, by rw [HS.out, ← HL.out, ← HN.out], HA.out⟩
        case measure => simp [intOf]; omega
    · obtain rfl : k = 3 - 1 := by omega
      have hfin := HQ.out.1.1 (fun j j1 j2 => hall.out j j1 (by omega))
      rw [← HN.out] at hfin
      have HF := Lib.hid hfin
      clear hfin hall
      by_cases q1 : n < 2048
      · have d : decide ((n : Int) < 2048) = true := by simp; omega
        go_wp2
        go_ret2
        exact ⟨by rw [HF.out, if_pos (by simp [odd]; omega)]; rfl, rfl⟩
      by_cases q2 : 1114111 < n
      · have d : decide ((n : Int) < 2048) = false := by simp; omega
        have d2 : decide (1114111 < (n : Int)) = true := by simp; omega
        go_wp2
        go_ret2
        exact ⟨by rw [HF.out, if_pos (by simp [odd]; omega)]; rfl, rfl⟩
      by_cases q3 : 55296 ≤ n
      · by_cases q4 : n ≤ 57343
        · have d : decide ((n : Int) < 2048) = false := by simp; omega
          have d2 : decide (1114111 < (n : Int)) = false := by simp; omega
          have d3 : decide (55296 ≤ (n : Int)) = true := by simp; omega
          have d4 : decide ((n : Int) ≤ 57343) = true := by simp; omega
          go_wp2
          go_ret2
          exact ⟨by rw [HF.out, if_pos (by simp [odd]; omega)]; rfl, rfl⟩
        · have d : decide ((n : Int) < 2048) = false := by simp; omega
          have d2 : decide (1114111 < (n : Int)) = false := by simp; omega
          have d3 : decide (55296 ≤ (n : Int)) = true := by simp; omega
          have d4 : decide ((n : Int) ≤ 57343) = false := by simp; omega
          go_wp2
          go_ret2
          exact ⟨by rw [HF.out, if_neg (by simp [odd]; omega)]; rfl, rfl⟩
      · have d : decide ((n : Int) < 2048) = false := by simp; omega
        have d2 : decide (1114111 < (n : Int)) = false := by simp; omega
        have d3 : decide (55296 ≤ (n : Int)) = false := by simp; omega
        go_wp2
        go_ret2
        exact ⟨by rw [HF.out, if_neg (by simp [odd]; omega)]; rfl, rfl⟩

set_option maxRecDepth 100000 in
set_option maxHeartbeats 1600000 in
theorem rpoint_4 (t : List UInt8) (ht : (t.length : Int) ≤ 4611686018427380000) (p : Nat) (hp : p < t.length) (h1 : 240 ≤ (t[p]).toNat) (h2 : (t[p]).toNat < 248) (w : World) :
    Calls Tryd.prog 92 #[.string ⟨t.toArray⟩, .int .i64 p] w fun e w' => e = .returned (.tuple #[.int .i64 ((pt (t.drop p)).1 : Nat), .int .i64 ((pt (t.drop p)).2 : Nat)]) ∧ w = w' := by
  have e0 : g (t.drop p) 0 = (t[p]).toNat := g_at t p 0 hp
  have hq := pt_all (t.drop p) (by simp; omega) 4 240 65536 (by omega)
  rw [e0] at hq
  have hb : (t[p]).toNat - 240 < 32 := by omega
  obtain ⟨b, hbb⟩ : ∃ b, b = (t[p]).toNat - 240 := ⟨_, rfl⟩
  have hcast : ((t[p]).toNat : Int) - 240 = (b : Int) := by omega
  rw [← hbb] at hq hb
  have hle := accN_le (t.drop p) b hb
  have HQ := Lib.hid (And.intro hq (And.intro hle hcast))
  have d1 : ((t[p]).toNat : Int) < 248 := by omega
  have d2 : (240 : Int) ≤ ((t[p]).toNat : Int) := by omega
  have hx : (ByteArray.mk t.toArray)[p]'hp = t[p] := rfl
  clear hq hle hbb e0 hcast h1 h2
  go_enter Tryd.func92, Tryd.ntmps92
  go_wp2
  rw [HQ.out.2.2]
  go_loop [6, 9] (fun n i => ∃ k : Nat, k + 1 ≤ 4 ∧ i = .int .i64 ((k : Int) + 1) ∧ n = .int .i64 (accN (t.drop p) b k : Nat) ∧ Hid (∀ j, 1 ≤ j → j < k + 1 → cb (t.drop p) j = true)) (fun _ i => 4 - (intOf i).toNat)
  case atStart => exact ⟨0, by omega, rfl, rfl, fun j j1 j2 => by omega⟩
  case round =>
    obtain ⟨k, hk, rfl, rfl, hall⟩ := hrel
    have hbd : accN (t.drop p) b k ≤ 8388608 := Nat.le_trans (HQ.out.2.1 k (by omega)) (by rcases (by omega : k = 0 ∨ k = 1 ∨ k = 2 ∨ k = 3) with rfl | rfl | rfl | rfl <;> decide)
    obtain ⟨n, hn⟩ : ∃ n, n = accN (t.drop p) b k := ⟨_, rfl⟩
    rw [← hn] at hbd ⊢
    have HN := Lib.hid hn
    clear hn
    by_cases hlt : k + 1 < 4
    · have hmo := rmore_any t (by omega) (p + (k + 1)) (by omega)
      rw [← List.drop_drop, cb_drop, g_drop] at hmo
      have HM := Lib.hid hmo
      clear hmo
      cases hc : cb (t.drop p) (k + 1) with
      | false =>
        have HZ := Lib.hid (And.intro hc (HQ.out.1.2 (k + 1) (by omega) hlt hc))
        clear hc
        go_wp2_with fail
        rw [show (p : Int) + ((k : Int) + 1) = ((p + (k + 1) : Nat) : Int) from by omega]
        refine (HM.out _).mono ?_
        rintro e w' ⟨rfl, rfl⟩
        rw [HZ.out.1]
        go_wp2
        go_ret2
        exact ⟨by rw [HZ.out.2]; rfl, rfl⟩
      | true =>
        have HA := Lib.hid (cb_more hall.out hc)
        have hl6 : ((g (t.drop p) (k + 1) % 64 : Nat) : Int) ≤ 63 ∧ (0 : Int) ≤ ((g (t.drop p) (k + 1) % 64 : Nat) : Int) := by omega
        have HS := Lib.hid (acc_step (t.drop p) b k)
        obtain ⟨low, hlow⟩ : ∃ low : Int, low = ((g (t.drop p) (k + 1) % 64 : Nat) : Int) := ⟨_, rfl⟩
        rw [← hlow] at hl6
        have HL := Lib.hid hlow
        obtain ⟨hl7, hl8⟩ := hl6
        have HZ := Lib.hid hc
        clear hc hlow
        go_wp2_with fail
        rw [show (p : Int) + ((k : Int) + 1) = ((p + (k + 1) : Nat) : Int) from by omega]
        refine (HM.out _).mono ?_
        rintro e w' ⟨rfl, rfl⟩
        rw [HZ.out, if_pos rfl, ← HL.out]
        go_wp2
        go_round
        case rel => exact ⟨k + 1, by omega, by go_num, by rw [HS.out, ← HL.out, ← HN.out], HA.out⟩
        case measure => simp [intOf]; omega
    · obtain rfl : k = 4 - 1 := by omega
      have hfin := HQ.out.1.1 (fun j j1 j2 => hall.out j j1 (by omega))
      rw [← HN.out] at hfin
      have HF := Lib.hid hfin
      clear hfin hall
      by_cases q1 : n < 65536
      · have d : decide ((n : Int) < 65536) = true := by simp; omega
        go_wp2
        go_ret2
        exact ⟨by rw [HF.out, if_pos (by simp [odd]; omega)]; rfl, rfl⟩
      by_cases q2 : 1114111 < n
      · have d : decide ((n : Int) < 65536) = false := by simp; omega
        have d2 : decide (1114111 < (n : Int)) = true := by simp; omega
        go_wp2
        go_ret2
        exact ⟨by rw [HF.out, if_pos (by simp [odd]; omega)]; rfl, rfl⟩
      by_cases q3 : 55296 ≤ n
      · by_cases q4 : n ≤ 57343
        · have d : decide ((n : Int) < 65536) = false := by simp; omega
          have d2 : decide (1114111 < (n : Int)) = false := by simp; omega
          have d3 : decide (55296 ≤ (n : Int)) = true := by simp; omega
          have d4 : decide ((n : Int) ≤ 57343) = true := by simp; omega
          go_wp2
          go_ret2
          exact ⟨by rw [HF.out, if_pos (by simp [odd]; omega)]; rfl, rfl⟩
        · have d : decide ((n : Int) < 65536) = false := by simp; omega
          have d2 : decide (1114111 < (n : Int)) = false := by simp; omega
          have d3 : decide (55296 ≤ (n : Int)) = true := by simp; omega
          have d4 : decide ((n : Int) ≤ 57343) = false := by simp; omega
          go_wp2
          go_ret2
          exact ⟨by rw [HF.out, if_neg (by simp [odd]; omega)]; rfl, rfl⟩
      · have d : decide ((n : Int) < 65536) = false := by simp; omega
        have d2 : decide (1114111 < (n : Int)) = false := by simp; omega
        have d3 : decide (55296 ≤ (n : Int)) = false := by simp; omega
        go_wp2
        go_ret2
        exact ⟨by rw [HF.out, if_neg (by simp [odd]; omega)]; rfl, rfl⟩

set_option maxRecDepth 100000 in
set_option maxHeartbeats 800000 in
theorem rpoint_0 (t : List UInt8) (_ht : (t.length : Int) ≤ 4611686018427380000) (p : Nat) (hp : p < t.length) (h1 : (t[p]).toNat < 192 ∨ 248 ≤ (t[p]).toNat) (w : World) :
    Calls Tryd.prog 92 #[.string ⟨t.toArray⟩, .int .i64 p] w fun e w' => e = .returned (.tuple #[.int .i64 ((pt (t.drop p)).1 : Nat), .int .i64 ((pt (t.drop p)).2 : Nat)]) ∧ w = w' := by
  have e0 : g (t.drop p) 0 = (t[p]).toNat := g_at t p 0 hp
  have d1 : ((t[p]).toNat : Int) < 256 := by have := (t[p]).toNat_lt; omega
  have hx : (ByteArray.mk t.toArray)[p]'hp = t[p] := rfl
  by_cases h : (t[p]).toNat < 128
  · have HQ := Lib.hid (pt_one (t.drop p) (by simp; omega) (by omega))
    rw [HQ.out, e0]
    clear e0 h1
    go_enter Tryd.func92, Tryd.ntmps92
    go_wp2
    go_ret2
    exact ⟨rfl, rfl⟩
  · have HQ := Lib.hid (pt_none (t.drop p) (by simp; omega) (by omega))
    rw [HQ.out]
    clear e0
    rcases h1 with h1 | h1
    · have d2 : decide (192 ≤ ((t[p]).toNat : Int)) = false := by simp; omega
      have d3 : decide (224 ≤ ((t[p]).toNat : Int)) = false := by simp; omega
      have d4 : decide (240 ≤ ((t[p]).toNat : Int)) = false := by simp; omega
      go_enter Tryd.func92, Tryd.ntmps92
      go_wp2
      go_ret2
      exact ⟨rfl, rfl⟩
    · have d2 : decide (((t[p]).toNat : Int) < 224) = false := by simp; omega
      have d3 : decide (((t[p]).toNat : Int) < 240) = false := by simp; omega
      have d4 : decide (((t[p]).toNat : Int) < 248) = false := by simp; omega
      go_enter Tryd.func92, Tryd.ntmps92
      go_wp2
      go_ret2
      exact ⟨rfl, rfl⟩
/-- The reference's Point. -/
theorem rpoint_any (t : List UInt8) (ht : (t.length : Int) ≤ 4611686018427380000) (p : Nat) (hp : p < t.length) (w : World) :
    Calls Tryd.prog 92 #[.string ⟨t.toArray⟩, .int .i64 p] w fun e w' => e = .returned (.tuple #[.int .i64 ((pt (t.drop p)).1 : Nat), .int .i64 ((pt (t.drop p)).2 : Nat)]) ∧ w = w' := by
  rcases (by omega : ((t[p]).toNat < 192 ∨ 248 ≤ (t[p]).toNat) ∨ (192 ≤ (t[p]).toNat ∧ (t[p]).toNat < 224) ∨ (224 ≤ (t[p]).toNat ∧ (t[p]).toNat < 240) ∨ (240 ≤ (t[p]).toNat ∧ (t[p]).toNat < 248)) with h | h | h | h
  · exact rpoint_0 t ht p hp h w
  · exact rpoint_2 t ht p hp h.1 h.2 w
  · exact rpoint_3 t ht p hp h.1 h.2 w
  · exact rpoint_4 t ht p hp h.1 h.2 w
end Go.Proofs.YtbacnaplpfmpnaaDoor
