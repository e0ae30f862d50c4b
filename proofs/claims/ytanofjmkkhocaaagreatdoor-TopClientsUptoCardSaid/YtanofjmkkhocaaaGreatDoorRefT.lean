/- ustring: the walks of Text, Binary, Read, ReadBinary; the law's examples. The reference's code points: more, Point; plain: what Point computes. The reference's Point. polyglotref03: Bad, Valid. polyglotref04: has, Name. -/
import Derived.Test.YtanofjmkkhocaaaGreatDoorUstA
import Derived.Test.YtanofjmkkhocaaaGreatDoorOctA
import Derived.Test.YtanofjmkkhocaaaGreatDoorTopA
set_option linter.unusedVariables false
set_option linter.unusedSimpArgs false
set_option maxRecDepth 100000
set_option maxHeartbeats 1600000
namespace Go.Proofs.YtanofjmkkhocaaaGreatDoor
open Go.RowKit
end Go.Proofs.YtanofjmkkhocaaaGreatDoor
namespace Go.Proofs.YtanofjmkkhocaaaGreatDoor
open Go.RowKit
def accN (l : List UInt8) (b : Nat) : Nat → Nat
 | 0 => b
 | k + 1 => 64 * accN l b k + g l (k + 1) % 64
def odd (least n : Nat) : Bool := decide (n < least) || (decide (1114111 < n) || (decide (55296 ≤ n) && decide (n ≤ 57343)))
theorem pt_one (l : List UInt8) (h : 0 < l.length) (h1 : g l 0 < 128) : pt l = (g l 0, 1) := by
 unfold pt; rw [if_neg (by omega), if_pos h1]
theorem pt_none (l : List UInt8) (h : 0 < l.length) (h1 : (128 ≤ g l 0 ∧ g l 0 < 192) ∨ 248 ≤ g l 0) : pt l = (0, 0) := by
 unfold pt
 rw [if_neg (by omega), if_neg (by omega), if_neg (by omega), if_neg (by omega), if_neg (by omega)]
theorem pt_two (l : List UInt8) (h : 0 < l.length) (h1 : 192 ≤ g l 0 ∧ g l 0 < 224) :
  (cb l 1 = true → pt l = if odd 128 (accN l (g l 0 - 192) 1) then (0, 0) else (accN l (g l 0 - 192) 1, 2)) ∧ (cb l 1 = false → pt l = (0, 0)) := by
 refine ⟨fun c1 => ?_, fun c1 => ?_⟩
 ·have e : accN l (g l 0 - 192) 1 = g l 0 % 32 * 64 + g l 1 % 64 := by
   show 64 * (g l 0 - 192) + g l 1 % 64 = _
   omega
  unfold pt
  rw [if_neg (by omega), if_neg (by omega), if_pos ⟨by omega, c1⟩, e]
  by_cases q : 128 ≤ g l 0 % 32 * 64 + g l 1 % 64
  ·rw [if_pos q, if_neg (by simp [odd]; omega)]
  ·rw [if_neg q, if_pos (by simp [odd]; omega)]
 ·unfold pt
  rw [if_neg (by omega), if_neg (by omega), if_neg (by simp [c1]), if_neg (by omega), if_neg (by omega)]
theorem pt_three (l : List UInt8) (h : 0 < l.length) (h1 : 224 ≤ g l 0 ∧ g l 0 < 240) :
  (cb l 1 = true → cb l 2 = true → pt l = if odd 2048 (accN l (g l 0 - 224) 2) then (0, 0) else (accN l (g l 0 - 224) 2, 3)) ∧ (cb l 1 = false → pt l = (0, 0)) ∧ (cb l 2 = false → pt l = (0, 0)) := by
 have no : ¬ (cb l 1 = true ∧ cb l 2 = true) → pt l = (0, 0) := by
  intro hn
  unfold pt
  rw [if_neg (by omega), if_neg (by omega), if_neg (by omega), if_neg (fun e => hn e.2), if_neg (by omega)]
 refine ⟨fun c1 c2 => ?_, fun c1 => no (by simp [c1]), fun c2 => no (by simp [c2])⟩
 have e : accN l (g l 0 - 224) 2 = g l 0 % 16 * 4096 + g l 1 % 64 * 64 + g l 2 % 64 := by
  show 64 * (64 * (g l 0 - 224) + g l 1 % 64) + g l 2 % 64 = _
  omega
 unfold pt
 rw [if_neg (by omega), if_neg (by omega), if_neg (by omega), if_pos ⟨by omega, c1, c2⟩, e]
 by_cases q : 2048 ≤ g l 0 % 16 * 4096 + g l 1 % 64 * 64 + g l 2 % 64 ∧ ¬ (55296 ≤ g l 0 % 16 * 4096 + g l 1 % 64 * 64 + g l 2 % 64 ∧ g l 0 % 16 * 4096 + g l 1 % 64 * 64 + g l 2 % 64 ≤ 57343)
 ·rw [if_pos q, if_neg (by simp [odd]; omega)]
 ·rw [if_neg q, if_pos (by simp [odd]; omega)]
theorem pt_four (l : List UInt8) (h : 0 < l.length) (h1 : 240 ≤ g l 0 ∧ g l 0 < 248) :
  (cb l 1 = true → cb l 2 = true → cb l 3 = true → pt l = if odd 65536 (accN l (g l 0 - 240) 3) then (0, 0) else (accN l (g l 0 - 240) 3, 4)) ∧ (cb l 1 = false → pt l = (0, 0)) ∧ (cb l 2 = false → pt l = (0, 0)) ∧ (cb l 3 = false → pt l = (0, 0)) := by
 have no : ¬ (cb l 1 = true ∧ cb l 2 = true ∧ cb l 3 = true) → pt l = (0, 0) := by
  intro hn
  unfold pt
  rw [if_neg (by omega), if_neg (by omega), if_neg (by omega), if_neg (by omega), if_neg (fun e => hn e.2)]
 refine ⟨fun c1 c2 c3 => ?_, fun c1 => no (by simp [c1]), fun c2 => no (by simp [c2]), fun c3 => no (by simp [c3])⟩
 have e : accN l (g l 0 - 240) 3 = g l 0 % 8 * 262144 + g l 1 % 64 * 4096 + g l 2 % 64 * 64 + g l 3 % 64 := by
  show 64 * (64 * (64 * (g l 0 - 240) + g l 1 % 64) + g l 2 % 64) + g l 3 % 64 = _
  omega
 unfold pt
 rw [if_neg (by omega), if_neg (by omega), if_neg (by omega), if_neg (by omega), if_pos ⟨by omega, c1, c2, c3⟩, e]
 by_cases q : 65536 ≤ g l 0 % 8 * 262144 + g l 1 % 64 * 4096 + g l 2 % 64 * 64 + g l 3 % 64 ∧ g l 0 % 8 * 262144 + g l 1 % 64 * 4096 + g l 2 % 64 * 64 + g l 3 % 64 ≤ 1114111
 ·rw [if_pos q, if_neg (by simp [odd]; omega)]
 ·rw [if_neg q, if_pos (by simp [odd]; omega)]
theorem pt_all (l : List UInt8) (h : 0 < l.length) (s base least : Nat) (h1 : (s = 2 ∧ base = 192 ∧ least = 128 ∧ 192 ≤ g l 0 ∧ g l 0 < 224) ∨ (s = 3 ∧ base = 224 ∧ least = 2048 ∧ 224 ≤ g l 0 ∧ g l 0 < 240) ∨ (s = 4 ∧ base = 240 ∧ least = 65536 ∧ 240 ≤ g l 0 ∧ g l 0 < 248)) :
  ((∀ k, 1 ≤ k → k < s → cb l k = true) → pt l = if odd least (accN l (g l 0 - base) (s - 1)) then (0, 0) else (accN l (g l 0 - base) (s - 1), s)) ∧ (∀ k, 1 ≤ k → k < s → cb l k = false → pt l = (0, 0)) := by
 rcases h1 with ⟨rfl, rfl, rfl, h1⟩ | ⟨rfl, rfl, rfl, h1⟩ | ⟨rfl, rfl, rfl, h1⟩
 ·have q := pt_two l h h1
  exact ⟨fun a => q.1 (a 1 (by omega) (by omega)), fun k k1 k2 => by obtain rfl : k = 1 := (by omega); exact q.2⟩
 ·have q := pt_three l h h1
  refine ⟨fun a => q.1 (a 1 (by omega) (by omega)) (a 2 (by omega) (by omega)), fun k k1 k2 => ?_⟩
  rcases (by omega : k = 1 ∨ k = 2) with rfl | rfl
  ·exact q.2.1
  ·exact q.2.2
 ·have q := pt_four l h h1
  refine ⟨fun a => q.1 (a 1 (by omega) (by omega)) (a 2 (by omega) (by omega)) (a 3 (by omega) (by omega)), fun k k1 k2 => ?_⟩
  rcases (by omega : k = 1 ∨ k = 2 ∨ k = 3) with rfl | rfl | rfl
  ·exact q.2.1
  ·exact q.2.2.1
  ·exact q.2.2.2
theorem accN_le (l : List UInt8) (b : Nat) (hb : b < 32) : ∀ k, k ≤ 3 → accN l b k ≤ 32 * 64 ^ k := by
 intro k hk
 have a1 : accN l b 1 = 64 * b + g l 1 % 64 := rfl
 have a2 : accN l b 2 = 64 * accN l b 1 + g l 2 % 64 := rfl
 have a3 : accN l b 3 = 64 * accN l b 2 + g l 3 % 64 := rfl
 rcases (by omega : k = 0 ∨ k = 1 ∨ k = 2 ∨ k = 3) with rfl | rfl | rfl | rfl
 ·simp only [accN]; omega
 ·omega
 ·omega
 ·omega
theorem g_at (t : List UInt8) (p k : Nat) (h : p + k < t.length) : g (t.drop p) k = (t[p + k]).toNat := by
 simp [g, List.getD, List.getElem?_drop, List.getElem?_eq_getElem h]
theorem cb_at (t : List UInt8) (p k : Nat) (h : p + k < t.length) : cb (t.drop p) k = decide (128 ≤ (t[p + k]).toNat ∧ (t[p + k]).toNat ≤ 191) := by
 unfold cb
 rw [g_at t p k h, show decide (k < (t.drop p).length) = true by simp; omega, Bool.true_and]
 rw [Bool.eq_iff_iff]; simp; omega
theorem cb_out (t : List UInt8) (p k : Nat) (h : ¬ p + k < t.length) : cb (t.drop p) k = false := by
 unfold cb
 rw [show decide (k < (t.drop p).length) = false by simp; omega, Bool.false_and]
theorem rmore_any (t : List UInt8) (ht : (t.length : Int) ≤ 9223372036854775807) (a : Nat) (ha : a ≤ 4611686018427387904) (w : World) :
  Calls Tryz.prog 107 #[.string ⟨t.toArray⟩, .int .i64 a] w fun e w' => e = .returned (.tuple #[.int .i64 (if cb (t.drop a) 0 then ((g (t.drop a) 0 % 64 : Nat) : Int) else 0), .bool (cb (t.drop a) 0)]) ∧ w = w' := by
 by_cases h : a < t.length
 ·have e := cb_at t a 0 h
  have e2 := g_at t a 0 h
  simp only [Nat.add_zero] at e e2
  have hlt := (t[a]).toNat_lt
  have hx : (ByteArray.mk t.toArray)[a]'h = t[a] := rfl
  by_cases h1 : (t[a]).toNat < 128
  ·have q : cb (t.drop a) 0 = false := by rw [e]; simp; omega
   rw [q]
   have Q := Lib.hid (And.intro q (And.intro e e2))
   have d1 : ((t[a]).toNat : Int) < 128 := by omega
   clear q e e2 hlt h1
   go_enter Tryz.func107, Tryz.ntmps107
   go_wp2
   go_ret2
   exact ⟨rfl, rfl⟩
  ·by_cases h2 : 191 < (t[a]).toNat
   ·have q : cb (t.drop a) 0 = false := by rw [e]; simp; omega
    rw [q]
    have Q := Lib.hid (And.intro q (And.intro e e2))
    have d1 : ¬ ((t[a]).toNat : Int) < 128 := by omega
    have d2 : 191 < ((t[a]).toNat : Int) := by omega
    clear q e e2 hlt h1 h2
    go_enter Tryz.func107, Tryz.ntmps107
    go_wp2
    go_ret2
    exact ⟨rfl, rfl⟩
   ·have q : cb (t.drop a) 0 = true := by rw [e]; simp; omega
    rw [q, e2]
    have Q := Lib.hid (And.intro q (And.intro e e2))
    have d1 : ¬ ((t[a]).toNat : Int) < 128 := by omega
    have d2 : ¬ 191 < ((t[a]).toNat : Int) := by omega
    have HH := Lib.hid (And.intro h1 h2)
    clear q e e2 hlt h1 h2
    go_enter Tryz.func107, Tryz.ntmps107
    go_wp2
    go_ret2
    refine ⟨congrArg (fun x => Ending.returned (.tuple #[.int .i64 x, .bool true])) ?_, rfl⟩
    have := HH.out
    omega
 ·have q := cb_out t a 0 (by omega)
  rw [q]
  have Q := Lib.hid q
  clear q
  go_enter Tryz.func107, Tryz.ntmps107
  go_wp2
  go_ret2
  exact ⟨rfl, rfl⟩
end Go.Proofs.YtanofjmkkhocaaaGreatDoor
namespace Go.Proofs.YtanofjmkkhocaaaGreatDoor
open Go.RowKit
theorem cb_drop (l : List UInt8) (k : Nat) : cb (l.drop k) 0 = cb l k := by
 unfold cb g
 congr 1
 ·simp only [List.length_drop, decide_eq_decide]; omega
 ·simp [List.getD]
theorem g_drop (l : List UInt8) (k : Nat) : g (l.drop k) 0 = g l k := by simp [g, List.getD]
theorem acc_step (l : List UInt8) (b k : Nat) : ((accN l b (k + 1) : Nat) : Int) = 64 * (accN l b k : Int) + ((g l (k + 1) % 64 : Nat) : Int) := by simp only [accN]; omega
theorem cb_more {l : List UInt8} {k : Nat} (h : ∀ j, 1 ≤ j → j < k + 1 → cb l j = true) (h1 : cb l (k + 1) = true) : ∀ j, 1 ≤ j → j < k + 1 + 1 → cb l j = true := by
 intro j j1 j2
 rcases Nat.lt_or_ge j (k + 1) with h2 | h2
 ·exact h j j1 h2
 ·obtain rfl : j = k + 1 := by omega
  exact h1
theorem rpoint_2 (t : List UInt8) (ht : (t.length : Int) ≤ 4611686018427380000) (p : Nat) (hp : p < t.length) (h1 : 192 ≤ (t[p]).toNat) (h2 : (t[p]).toNat < 224) (w : World) :
  Calls Tryz.prog 99 #[.string ⟨t.toArray⟩, .int .i64 p] w fun e w' => e = .returned (.tuple #[.int .i64 ((pt (t.drop p)).1 : Nat), .int .i64 ((pt (t.drop p)).2 : Nat)]) ∧ w = w' := by
 have e0 : g (t.drop p) 0 = (t[p]).toNat := g_at t p 0 hp
 have hq := pt_all (t.drop p) (by simp; omega) 2 192 128 (by omega)
 rw [e0] at hq
 have hb : (t[p]).toNat - 192 < 32 := by omega
 obtain ⟨b, hbb⟩ : ∃ b, b = (t[p]).toNat - 192 := ⟨_, rfl⟩
 have hcast : ((t[p]).toNat : Int) - 192 = (b : Int) := by omega
 rw [← hbb] at hq hb
 have hle := accN_le (t.drop p) b hb
 have HQ := Lib.hid (And.intro hq (And.intro hle hcast))
 have d1 : ((t[p]).toNat : Int) < 224 := by omega
 have d2 : (192 : Int) ≤ ((t[p]).toNat : Int) := by omega
 have hx : (ByteArray.mk t.toArray)[p]'hp = t[p] := rfl
 clear hq hle hbb e0 hcast h1 h2
 go_enter Tryz.func99, Tryz.ntmps99
 go_wp2
 rw [HQ.out.2.2]
 go_loop [6, 9] (fun n i => ∃ k : Nat, k + 1 ≤ 2 ∧ i = .int .i64 ((k : Int) + 1) ∧ n = .int .i64 (accN (t.drop p) b k : Nat) ∧ Hid (∀ j, 1 ≤ j → j < k + 1 → cb (t.drop p) j = true)) (fun _ i => 2 - (intOf i).toNat)
 case atStart => exact ⟨0, by omega, rfl, rfl, fun j j1 j2 => by omega⟩
 case round =>
  obtain ⟨k, hk, rfl, rfl, hall⟩ := hrel
  have hbd : accN (t.drop p) b k ≤ 8388608 := Nat.le_trans (HQ.out.2.1 k (by omega)) (by rcases (by omega : k = 0 ∨ k = 1 ∨ k = 2 ∨ k = 3) with rfl | rfl | rfl | rfl <;> decide)
  obtain ⟨n, hn⟩ : ∃ n, n = accN (t.drop p) b k := ⟨_, rfl⟩
  rw [← hn] at hbd ⊢
  have HN := Lib.hid hn
  clear hn
  by_cases hlt : k + 1 < 2
  ·have hmo := rmore_any t (by omega) (p + (k + 1)) (by omega)
   rw [← List.drop_drop, cb_drop, g_drop] at hmo
   have HM := Lib.hid hmo
   clear hmo
   cases hc : cb (t.drop p) (k + 1) with
   | false =>
    have HZ := Lib.hid (And.intro hc (HQ.out.1.2 (k + 1) (by omega) hlt hc))
    clear hc
    go_wp2_with fail
    rw [show (p : Int) + ((k : Int) + 1) = ((p + (k + 1) : Nat) : Int) from by omega]
    refine (HM.out _).mono ?_
    rintro e w' ⟨rfl, rfl⟩
    rw [HZ.out.1]
    go_wp2
    go_ret2
    exact ⟨by rw [HZ.out.2]; rfl, rfl⟩
   | true =>
    have HA := Lib.hid (cb_more hall.out hc)
    have hl6 : ((g (t.drop p) (k + 1) % 64 : Nat) : Int) ≤ 63 ∧ (0 : Int) ≤ ((g (t.drop p) (k + 1) % 64 : Nat) : Int) := by omega
    have HS := Lib.hid (acc_step (t.drop p) b k)
    obtain ⟨low, hlow⟩ : ∃ low : Int, low = ((g (t.drop p) (k + 1) % 64 : Nat) : Int) := ⟨_, rfl⟩
    rw [← hlow] at hl6
    have HL := Lib.hid hlow
    obtain ⟨hl7, hl8⟩ := hl6
    have HZ := Lib.hid hc
    clear hc hlow
    go_wp2_with fail
    rw [show (p : Int) + ((k : Int) + 1) = ((p + (k + 1) : Nat) : Int) from by omega]
    refine (HM.out _).mono ?_
    rintro e w' ⟨rfl, rfl⟩
    rw [HZ.out, if_pos rfl, ← HL.out]
    go_wp2
    go_round
    case rel => exact ⟨k + 1, by omega, by go_num, by rw [HS.out, ← HL.out, ← HN.out], HA.out⟩
    case measure => simp [intOf]; omega
  ·obtain rfl : k = 2 - 1 := by omega
   have hfin := HQ.out.1.1 (fun j j1 j2 => hall.out j j1 (by omega))
   rw [← HN.out] at hfin
   have HF := Lib.hid hfin
   clear hfin hall
   by_cases q1 : n < 128
   ·have d : decide ((n : Int) < 128) = true := by simp; omega
    go_wp2
    go_ret2
    exact ⟨by rw [HF.out, if_pos (by simp [odd]; omega)]; rfl, rfl⟩
   by_cases q2 : 1114111 < n
   ·have d : decide ((n : Int) < 128) = false := by simp; omega
    have d2 : decide (1114111 < (n : Int)) = true := by simp; omega
    go_wp2
    go_ret2
    exact ⟨by rw [HF.out, if_pos (by simp [odd]; omega)]; rfl, rfl⟩
   by_cases q3 : 55296 ≤ n
   ·by_cases q4 : n ≤ 57343
    ·have d : decide ((n : Int) < 128) = false := by simp; omega
     have d2 : decide (1114111 < (n : Int)) = false := by simp; omega
     have d3 : decide (55296 ≤ (n : Int)) = true := by simp; omega
     have d4 : decide ((n : Int) ≤ 57343) = true := by simp; omega
     go_wp2
     go_ret2
     exact ⟨by rw [HF.out, if_pos (by simp [odd]; omega)]; rfl, rfl⟩
    ·have d : decide ((n : Int) < 128) = false := by simp; omega
     have d2 : decide (1114111 < (n : Int)) = false := by simp; omega
     have d3 : decide (55296 ≤ (n : Int)) = true := by simp; omega
     have d4 : decide ((n : Int) ≤ 57343) = false := by simp; omega
     go_wp2
     go_ret2
     exact ⟨by rw [HF.out, if_neg (by simp [odd]; omega)]; rfl, rfl⟩
   ·have d : decide ((n : Int) < 128) = false := by simp; omega
    have d2 : decide (1114111 < (n : Int)) = false := by simp; omega
    have d3 : decide (55296 ≤ (n : Int)) = false := by simp; omega
    go_wp2
    go_ret2
    exact ⟨by rw [HF.out, if_neg (by simp [odd]; omega)]; rfl, rfl⟩
theorem rpoint_3 (t : List UInt8) (ht : (t.length : Int) ≤ 4611686018427380000) (p : Nat) (hp : p < t.length) (h1 : 224 ≤ (t[p]).toNat) (h2 : (t[p]).toNat < 240) (w : World) :
  Calls Tryz.prog 99 #[.string ⟨t.toArray⟩, .int .i64 p] w fun e w' => e = .returned (.tuple #[.int .i64 ((pt (t.drop p)).1 : Nat), .int .i64 ((pt (t.drop p)).2 : Nat)]) ∧ w = w' := by
 have e0 : g (t.drop p) 0 = (t[p]).toNat := g_at t p 0 hp
 have hq := pt_all (t.drop p) (by simp; omega) 3 224 2048 (by omega)
 rw [e0] at hq
 have hb : (t[p]).toNat - 224 < 32 := by omega
 obtain ⟨b, hbb⟩ : ∃ b, b = (t[p]).toNat - 224 := ⟨_, rfl⟩
 have hcast : ((t[p]).toNat : Int) - 224 = (b : Int) := by omega
 rw [← hbb] at hq hb
 have hle := accN_le (t.drop p) b hb
 have HQ := Lib.hid (And.intro hq (And.intro hle hcast))
 have d1 : ((t[p]).toNat : Int) < 240 := by omega
 have d2 : (224 : Int) ≤ ((t[p]).toNat : Int) := by omega
 have hx : (ByteArray.mk t.toArray)[p]'hp = t[p] := rfl
 clear hq hle hbb e0 hcast h1 h2
 go_enter Tryz.func99, Tryz.ntmps99
 go_wp2
 rw [HQ.out.2.2]
 go_loop [6, 9] (fun n i => ∃ k : Nat, k + 1 ≤ 3 ∧ i = .int .i64 ((k : Int) + 1) ∧ n = .int .i64 (accN (t.drop p) b k : Nat) ∧ Hid (∀ j, 1 ≤ j → j < k + 1 → cb (t.drop p) j = true)) (fun _ i => 3 - (intOf i).toNat)
 case atStart => exact ⟨0, by omega, rfl, rfl, fun j j1 j2 => by omega⟩
 case round =>
  obtain ⟨k, hk, rfl, rfl, hall⟩ := hrel
  have hbd : accN (t.drop p) b k ≤ 8388608 := Nat.le_trans (HQ.out.2.1 k (by omega)) (by rcases (by omega : k = 0 ∨ k = 1 ∨ k = 2 ∨ k = 3) with rfl | rfl | rfl | rfl <;> decide)
  obtain ⟨n, hn⟩ : ∃ n, n = accN (t.drop p) b k := ⟨_, rfl⟩
  rw [← hn] at hbd ⊢
  have HN := Lib.hid hn
  clear hn
  by_cases hlt : k + 1 < 3
  ·have hmo := rmore_any t (by omega) (p + (k + 1)) (by omega)
   rw [← List.drop_drop, cb_drop, g_drop] at hmo
   have HM := Lib.hid hmo
   clear hmo
   cases hc : cb (t.drop p) (k + 1) with
   | false =>
    have HZ := Lib.hid (And.intro hc (HQ.out.1.2 (k + 1) (by omega) hlt hc))
    clear hc
    go_wp2_with fail
    rw [show (p : Int) + ((k : Int) + 1) = ((p + (k + 1) : Nat) : Int) from by omega]
    refine (HM.out _).mono ?_
    rintro e w' ⟨rfl, rfl⟩
    rw [HZ.out.1]
    go_wp2
    go_ret2
    exact ⟨by rw [HZ.out.2]; rfl, rfl⟩
   | true =>
    have HA := Lib.hid (cb_more hall.out hc)
    have hl6 : ((g (t.drop p) (k + 1) % 64 : Nat) : Int) ≤ 63 ∧ (0 : Int) ≤ ((g (t.drop p) (k + 1) % 64 : Nat) : Int) := by omega
    have HS := Lib.hid (acc_step (t.drop p) b k)
    obtain ⟨low, hlow⟩ : ∃ low : Int, low = ((g (t.drop p) (k + 1) % 64 : Nat) : Int) := ⟨_, rfl⟩
    rw [← hlow] at hl6
    have HL := Lib.hid hlow
    obtain ⟨hl7, hl8⟩ := hl6
    have HZ := Lib.hid hc
    clear hc hlow
    go_wp2_with fail
    rw [show (p : Int) + ((k : Int) + 1) = ((p + (k + 1) : Nat) : Int) from by omega]
    refine (HM.out _).mono ?_
    rintro e w' ⟨rfl, rfl⟩
    rw [HZ.out, if_pos rfl, ← HL.out]
    go_wp2
    go_round
    case rel => exact ⟨k + 1, by omega, by go_num, by rw [HS.out, ← HL.out, ← HN.out], HA.out⟩
    case measure => simp [intOf]; omega
  ·obtain rfl : k = 3 - 1 := by omega
   have hfin := HQ.out.1.1 (fun j j1 j2 => hall.out j j1 (by omega))
   rw [← HN.out] at hfin
   have HF := Lib.hid hfin
   clear hfin hall
   by_cases q1 : n < 2048
   ·have d : decide ((n : Int) < 2048) = true := by simp; omega
    go_wp2
    go_ret2
    exact ⟨by rw [HF.out, if_pos (by simp [odd]; omega)]; rfl, rfl⟩
   by_cases q2 : 1114111 < n
   ·have d : decide ((n : Int) < 2048) = false := by simp; omega
    have d2 : decide (1114111 < (n : Int)) = true := by simp; omega
    go_wp2
    go_ret2
    exact ⟨by rw [HF.out, if_pos (by simp [odd]; omega)]; rfl, rfl⟩
   by_cases q3 : 55296 ≤ n
   ·by_cases q4 : n ≤ 57343
    ·have d : decide ((n : Int) < 2048) = false := by simp; omega
     have d2 : decide (1114111 < (n : Int)) = false := by simp; omega
     have d3 : decide (55296 ≤ (n : Int)) = true := by simp; omega
     have d4 : decide ((n : Int) ≤ 57343) = true := by simp; omega
     go_wp2
     go_ret2
     exact ⟨by rw [HF.out, if_pos (by simp [odd]; omega)]; rfl, rfl⟩
    ·have d : decide ((n : Int) < 2048) = false := by simp; omega
     have d2 : decide (1114111 < (n : Int)) = false := by simp; omega
     have d3 : decide (55296 ≤ (n : Int)) = true := by simp; omega
     have d4 : decide ((n : Int) ≤ 57343) = false := by simp; omega
     go_wp2
     go_ret2
     exact ⟨by rw [HF.out, if_neg (by simp [odd]; omega)]; rfl, rfl⟩
   ·have d : decide ((n : Int) < 2048) = false := by simp; omega
    have d2 : decide (1114111 < (n : Int)) = false := by simp; omega
    have d3 : decide (55296 ≤ (n : Int)) = false := by simp; omega
    go_wp2
    go_ret2
    exact ⟨by rw [HF.out, if_neg (by simp [odd]; omega)]; rfl, rfl⟩
theorem rpoint_4 (t : List UInt8) (ht : (t.length : Int) ≤ 4611686018427380000) (p : Nat) (hp : p < t.length) (h1 : 240 ≤ (t[p]).toNat) (h2 : (t[p]).toNat < 248) (w : World) :
  Calls Tryz.prog 99 #[.string ⟨t.toArray⟩, .int .i64 p] w fun e w' => e = .returned (.tuple #[.int .i64 ((pt (t.drop p)).1 : Nat), .int .i64 ((pt (t.drop p)).2 : Nat)]) ∧ w = w' := by
 have e0 : g (t.drop p) 0 = (t[p]).toNat := g_at t p 0 hp
 have hq := pt_all (t.drop p) (by simp; omega) 4 240 65536 (by omega)
 rw [e0] at hq
 have hb : (t[p]).toNat - 240 < 32 := by omega
 obtain ⟨b, hbb⟩ : ∃ b, b = (t[p]).toNat - 240 := ⟨_, rfl⟩
 have hcast : ((t[p]).toNat : Int) - 240 = (b : Int) := by omega
 rw [← hbb] at hq hb
 have hle := accN_le (t.drop p) b hb
 have HQ := Lib.hid (And.intro hq (And.intro hle hcast))
 have d1 : ((t[p]).toNat : Int) < 248 := by omega
 have d2 : (240 : Int) ≤ ((t[p]).toNat : Int) := by omega
 have hx : (ByteArray.mk t.toArray)[p]'hp = t[p] := rfl
 clear hq hle hbb e0 hcast h1 h2
 go_enter Tryz.func99, Tryz.ntmps99
 go_wp2
 rw [HQ.out.2.2]
 go_loop [6, 9] (fun n i => ∃ k : Nat, k + 1 ≤ 4 ∧ i = .int .i64 ((k : Int) + 1) ∧ n = .int .i64 (accN (t.drop p) b k : Nat) ∧ Hid (∀ j, 1 ≤ j → j < k + 1 → cb (t.drop p) j = true)) (fun _ i => 4 - (intOf i).toNat)
 case atStart => exact ⟨0, by omega, rfl, rfl, fun j j1 j2 => by omega⟩
 case round =>
  obtain ⟨k, hk, rfl, rfl, hall⟩ := hrel
  have hbd : accN (t.drop p) b k ≤ 8388608 := Nat.le_trans (HQ.out.2.1 k (by omega)) (by rcases (by omega : k = 0 ∨ k = 1 ∨ k = 2 ∨ k = 3) with rfl | rfl | rfl | rfl <;> decide)
  obtain ⟨n, hn⟩ : ∃ n, n = accN (t.drop p) b k := ⟨_, rfl⟩
  rw [← hn] at hbd ⊢
  have HN := Lib.hid hn
  clear hn
  by_cases hlt : k + 1 < 4
  ·have hmo := rmore_any t (by omega) (p + (k + 1)) (by omega)
   rw [← List.drop_drop, cb_drop, g_drop] at hmo
   have HM := Lib.hid hmo
   clear hmo
   cases hc : cb (t.drop p) (k + 1) with
   | false =>
    have HZ := Lib.hid (And.intro hc (HQ.out.1.2 (k + 1) (by omega) hlt hc))
    clear hc
    go_wp2_with fail
    rw [show (p : Int) + ((k : Int) + 1) = ((p + (k + 1) : Nat) : Int) from by omega]
    refine (HM.out _).mono ?_
    rintro e w' ⟨rfl, rfl⟩
    rw [HZ.out.1]
    go_wp2
    go_ret2
    exact ⟨by rw [HZ.out.2]; rfl, rfl⟩
   | true =>
    have HA := Lib.hid (cb_more hall.out hc)
    have hl6 : ((g (t.drop p) (k + 1) % 64 : Nat) : Int) ≤ 63 ∧ (0 : Int) ≤ ((g (t.drop p) (k + 1) % 64 : Nat) : Int) := by omega
    have HS := Lib.hid (acc_step (t.drop p) b k)
    obtain ⟨low, hlow⟩ : ∃ low : Int, low = ((g (t.drop p) (k + 1) % 64 : Nat) : Int) := ⟨_, rfl⟩
    rw [← hlow] at hl6
    have HL := Lib.hid hlow
    obtain ⟨hl7, hl8⟩ := hl6
    have HZ := Lib.hid hc
    clear hc hlow
    go_wp2_with fail
    rw [show (p : Int) + ((k : Int) + 1) = ((p + (k + 1) : Nat) : Int) from by omega]
    refine (HM.out _).mono ?_
    rintro e w' ⟨rfl, rfl⟩
    rw [HZ.out, if_pos rfl, ← HL.out]
    go_wp2
    go_round
    case rel => exact ⟨k + 1, by omega, by go_num, by rw [HS.out, ← HL.out, ← HN.out], HA.out⟩
    case measure => simp [intOf]; omega
  ·obtain rfl : k = 4 - 1 := by omega
   have hfin := HQ.out.1.1 (fun j j1 j2 => hall.out j j1 (by omega))
   rw [← HN.out] at hfin
   have HF := Lib.hid hfin
   clear hfin hall
   by_cases q1 : n < 65536
   ·have d : decide ((n : Int) < 65536) = true := by simp; omega
    go_wp2
    go_ret2
    exact ⟨by rw [HF.out, if_pos (by simp [odd]; omega)]; rfl, rfl⟩
   by_cases q2 : 1114111 < n
   ·have d : decide ((n : Int) < 65536) = false := by simp; omega
    have d2 : decide (1114111 < (n : Int)) = true := by simp; omega
    go_wp2
    go_ret2
    exact ⟨by rw [HF.out, if_pos (by simp [odd]; omega)]; rfl, rfl⟩
   by_cases q3 : 55296 ≤ n
   ·by_cases q4 : n ≤ 57343
    ·have d : decide ((n : Int) < 65536) = false := by simp; omega
     have d2 : decide (1114111 < (n : Int)) = false := by simp; omega
     have d3 : decide (55296 ≤ (n : Int)) = true := by simp; omega
     have d4 : decide ((n : Int) ≤ 57343) = true := by simp; omega
     go_wp2
     go_ret2
     exact ⟨by rw [HF.out, if_pos (by simp [odd]; omega)]; rfl, rfl⟩
    ·have d : decide ((n : Int) < 65536) = false := by simp; omega
     have d2 : decide (1114111 < (n : Int)) = false := by simp; omega
     have d3 : decide (55296 ≤ (n : Int)) = true := by simp; omega
     have d4 : decide ((n : Int) ≤ 57343) = false := by simp; omega
     go_wp2
     go_ret2
     exact ⟨by rw [HF.out, if_neg (by simp [odd]; omega)]; rfl, rfl⟩
   ·have d : decide ((n : Int) < 65536) = false := by simp; omega
    have d2 : decide (1114111 < (n : Int)) = false := by simp; omega
    have d3 : decide (55296 ≤ (n : Int)) = false := by simp; omega
    go_wp2
    go_ret2
    exact ⟨by rw [HF.out, if_neg (by simp [odd]; omega)]; rfl, rfl⟩
theorem rpoint_0 (t : List UInt8) (_ht : (t.length : Int) ≤ 4611686018427380000) (p : Nat) (hp : p < t.length) (h1 : (t[p]).toNat < 192 ∨ 248 ≤ (t[p]).toNat) (w : World) :
  Calls Tryz.prog 99 #[.string ⟨t.toArray⟩, .int .i64 p] w fun e w' => e = .returned (.tuple #[.int .i64 ((pt (t.drop p)).1 : Nat), .int .i64 ((pt (t.drop p)).2 : Nat)]) ∧ w = w' := by
 have e0 : g (t.drop p) 0 = (t[p]).toNat := g_at t p 0 hp
 have d1 : ((t[p]).toNat : Int) < 256 := by have := (t[p]).toNat_lt; omega
 have hx : (ByteArray.mk t.toArray)[p]'hp = t[p] := rfl
 by_cases h : (t[p]).toNat < 128
 ·have HQ := Lib.hid (pt_one (t.drop p) (by simp; omega) (by omega))
  rw [HQ.out, e0]
  clear e0 h1
  go_enter Tryz.func99, Tryz.ntmps99
  go_wp2
  go_ret2
  exact ⟨rfl, rfl⟩
 ·have HQ := Lib.hid (pt_none (t.drop p) (by simp; omega) (by omega))
  rw [HQ.out]
  clear e0
  rcases h1 with h1 | h1
  ·have d2 : decide (192 ≤ ((t[p]).toNat : Int)) = false := by simp; omega
   have d3 : decide (224 ≤ ((t[p]).toNat : Int)) = false := by simp; omega
   have d4 : decide (240 ≤ ((t[p]).toNat : Int)) = false := by simp; omega
   go_enter Tryz.func99, Tryz.ntmps99
   go_wp2
   go_ret2
   exact ⟨rfl, rfl⟩
  ·have d2 : decide (((t[p]).toNat : Int) < 224) = false := by simp; omega
   have d3 : decide (((t[p]).toNat : Int) < 240) = false := by simp; omega
   have d4 : decide (((t[p]).toNat : Int) < 248) = false := by simp; omega
   go_enter Tryz.func99, Tryz.ntmps99
   go_wp2
   go_ret2
   exact ⟨rfl, rfl⟩
theorem rpoint_any (t : List UInt8) (ht : (t.length : Int) ≤ 4611686018427380000) (p : Nat) (hp : p < t.length) (w : World) :
  Calls Tryz.prog 99 #[.string ⟨t.toArray⟩, .int .i64 p] w fun e w' => e = .returned (.tuple #[.int .i64 ((pt (t.drop p)).1 : Nat), .int .i64 ((pt (t.drop p)).2 : Nat)]) ∧ w = w' := by
 rcases (by omega : ((t[p]).toNat < 192 ∨ 248 ≤ (t[p]).toNat) ∨ (192 ≤ (t[p]).toNat ∧ (t[p]).toNat < 224) ∨ (224 ≤ (t[p]).toNat ∧ (t[p]).toNat < 240) ∨ (240 ≤ (t[p]).toNat ∧ (t[p]).toNat < 248)) with h | h | h | h
 ·exact rpoint_0 t ht p hp h w
 ·exact rpoint_2 t ht p hp h.1 h.2 w
 ·exact rpoint_3 t ht p hp h.1 h.2 w
 ·exact rpoint_4 t ht p hp h.1 h.2 w
end Go.Proofs.YtanofjmkkhocaaaGreatDoor
namespace Go.Proofs.YtanofjmkkhocaaaGreatDoor
open Go.RowKit
theorem rbad_any (t : List UInt8) (ht : (t.length : Int) ≤ 4611686018427380000) (w : World) :
  Calls Tryz.prog 87 #[.string ⟨t.toArray⟩] w fun e w' => e = .returned (.int .i64 (badI t)) ∧ w = w' := by
 go_enter Tryz.func87, Tryz.ntmps87
 go_wp2
 go_loop [3] (fun i => ∃ pos : Nat, pos ≤ t.length ∧ i = .int .i64 pos ∧ Hid (bd t = (bd (t.drop pos)).map (· + pos))) (fun i => t.length - (intOf i).toNat)
 case atStart => exact ⟨0, Nat.zero_le _, rfl, by show bd t = _; simp⟩
 case round =>
  obtain ⟨pos, hp, rfl, hbd⟩ := hrel
  by_cases hlt : pos < t.length
  ·obtain ⟨n, z, hpt⟩ : ∃ n z, pt (t.drop pos) = (n, z) := ⟨_, _, rfl⟩
   have hsz := (pt_size (t.drop pos)).2
   rw [hpt] at hsz
   simp only at hsz
   have HP := Lib.hid hpt
   clear hpt
   by_cases hz : z = 0
   ·have hoff : off (t.drop pos) = true := by unfold off; rw [HP.out]; simp [hz]
    have HO := Lib.hid (bd_at hoff hlt hbd.out)
    have hd : ((z : Int) == 0) = true := by simp [hz]
    clear hz hoff
    go_wp2_with fail
    refine (rpoint_any t (by omega) pos hlt _).mono ?_
    rintro e w' ⟨rfl, rfl⟩
    rw [HP.out]
    go_wp2
    go_ret
    exact ⟨ret_int HO.out.symm, rfl⟩
   ·have hdz : ((z : Int) == 0) = false := by simp [hz]
    by_cases hn : n = 0
    ·have hoff : off (t.drop pos) = true := by unfold off; rw [HP.out]; simp [hn]
     have HO := Lib.hid (bd_at hoff hlt hbd.out)
     have hd : ((n : Int) == 0) = true := by simp [hn]
     clear hz hoff hn
     go_wp2_with fail
     refine (rpoint_any t (by omega) pos hlt _).mono ?_
     rintro e w' ⟨rfl, rfl⟩
     rw [HP.out]
     go_wp2
     go_ret
     exact ⟨ret_int HO.out.symm, rfl⟩
    ·have hoff : off (t.drop pos) = false := by unfold off; rw [HP.out]; simp [hn, hz]
     have hgo := bd_go hoff hbd.out
     rw [HP.out] at hgo
     simp only at hgo
     have hle := hgo.1
     have HG := Lib.hid hgo.2
     have hd : ((n : Int) == 0) = false := by simp [hn]
     have HZ := Lib.hid hz
     clear hz hoff hn hgo
     go_wp2_with fail
     refine (rpoint_any t (by omega) pos hlt _).mono ?_
     rintro e w' ⟨rfl, rfl⟩
     rw [HP.out]
     go_wp2
     go_round
     case rel => exact ⟨pos + z, hle, by go_num, HG.out⟩
     case measure => have := HZ.out; simp [intOf]; omega
  ·have hbn : badI t = -1 := by unfold badI; rw [hbd.out, List.drop_of_length_le (by omega)]; rfl
   have HB := Lib.hid hbn
   clear hbn
   go_wp2
   go_ret
   exact ⟨ret_int HB.out.symm, rfl⟩
theorem rvalid_any (t : List UInt8) (ht : (t.length : Int) ≤ 4611686018427380000) (w : World) :
  Calls Tryz.prog 62 #[.string ⟨t.toArray⟩] w fun e w' => e = .returned (.bool (vld t)) ∧ w = w' := by
 by_cases hl : t.length ≤ 65535
 ·have hd : decide (t.length ≤ 65535) = true := by simpa using hl
  have hv : decide (badI t < 0) = vld t := by
   unfold badI vld
   rw [hd]
   cases bd t with
   | none => rfl
   | some p => simp
  have HV := Lib.hid hv
  clear hv hd
  go_enter Tryz.func62, Tryz.ntmps62
  go_wp2_with fail
  refine (rbad_any t ht _).mono ?_
  rintro e w1 ⟨rfl, rfl⟩
  go_wp2
  go_ret
  exact ⟨by rw [← HV.out]; rfl, rfl⟩
 ·have hv : vld t = false := by unfold vld; simp [hl]
  have HV := Lib.hid hv
  clear hv
  go_enter Tryz.func62, Tryz.ntmps62
  go_wp2
  go_ret
  exact ⟨ret_val (by rw [HV.out]; simp), rfl⟩
end Go.Proofs.YtanofjmkkhocaaaGreatDoor
namespace Go.Proofs.YtanofjmkkhocaaaGreatDoor
open Go.RowKit
def hasC (c : Nat) (l : List UInt8) : Bool := l.any fun b => b.toNat == c
theorem hasC_take (c : Nat) (l : List UInt8) (k : Nat) (h : k < l.length) : hasC c (l.take (k + 1)) = (hasC c (l.take k) || ((l[k]).toNat == c)) := by
 unfold hasC
 rw [List.take_succ_eq_append_getElem h, List.any_append]
 simp
theorem hasC_mono {c : Nat} {l : List UInt8} {k : Nat} (h : hasC c (l.take k) = true) : hasC c l = true := by
 unfold hasC at *
 rw [List.any_eq_true] at *
 obtain ⟨x, hx, h2⟩ := h
 exact ⟨x, List.mem_of_mem_take hx, h2⟩
theorem rhas_any (t : List UInt8) (ht : (t.length : Int) ≤ 4611686018427380000) (c : Nat) (hc : c < 256) (w : World) :
  Calls Tryz.prog 63 #[.string ⟨t.toArray⟩, .int .u8 (c : Int)] w fun e w' => e = .returned (.bool (hasC c t)) ∧ w = w' := by
 go_enter Tryz.func63, Tryz.ntmps63
 go_wp2
 go_loop [5] (fun i => ∃ k : Nat, k ≤ t.length ∧ i = .int .i64 k ∧ Hid (hasC c (t.take k) = false)) (fun i => t.length - (intOf i).toNat)
 case atStart => exact ⟨0, Nat.zero_le _, rfl, by show hasC c (t.take 0) = false; rfl⟩
 case round =>
  obtain ⟨k, hk, rfl, hf⟩ := hrel
  by_cases hlt : k < t.length
  ·have hx : (ByteArray.mk t.toArray)[k]'hlt = t[k] := rfl
   have hs := Lib.hid (hasC_take c t k hlt)
   by_cases he : (t[k]).toNat = c
   ·have HT := Lib.hid (hasC_mono (show hasC c (t.take (k + 1)) = true by rw [hs.out, he]; simp))
    have d1 : ((t[k]).toNat : Int) = c := by omega
    clear he
    go_wp2
    go_ret
    exact ⟨by rw [HT.out]; rfl, rfl⟩
   ·have HF := Lib.hid (show hasC c (t.take (k + 1)) = false by rw [hs.out, show hasC c (t.take k) = false from hf.out, beq_eq_false_iff_ne.2 he]; rfl)
    have d1 : ¬ ((t[k]).toNat : Int) = c := by omega
    have d2 : ¬ ((c : Nat) : Int) = (t[k]).toNat := by omega
    clear he
    go_wp2
    go_round
    case rel => exact ⟨k + 1, by omega, by go_num, HF⟩
    case measure => simp [intOf]; omega
  ·obtain rfl : k = t.length := by omega
   have hf2 : hasC c t = false := by have := hf.out; rw [List.take_length] at this; exact this
   have HF := Lib.hid hf2
   clear hf2 hf
   go_wp2
   go_ret
   exact ⟨by rw [HF.out]; rfl, rfl⟩
theorem hasC_wild : ∀ (t : List UInt8), (hasC 43 t || hasC 35 t) = hasWild t
 | [] => rfl
 | b :: r => by
  have e := hasC_wild r
  have e1 : ∀ n : Nat, n < 256 → (b.toNat == n) = (b == UInt8.ofNat n) := by
   intro n hn
   by_cases h : b = UInt8.ofNat n
   ·subst h; simp; omega
   ·rw [beq_eq_false_iff_ne.2 h]
    apply beq_eq_false_iff_ne.2
    intro h2
    exact h (by rw [← h2]; simp)
  unfold hasC hasWild at *
  simp only [List.any_cons]
  rw [← e, e1 43 (by decide), e1 35 (by decide)]
  show ((b == 43 || _) || (b == 35 || _)) = ((b == 43 || b == 35) || _)
  cases (b == 43) <;> cases (b == 35) <;> cases (List.any r fun b => b.toNat == 43) <;> simp
theorem rtname_any (t : List UInt8) (ht : (t.length : Int) ≤ 4611686018427380000) (w : World) :
  Calls Tryz.prog 41 #[.string ⟨t.toArray⟩] w fun e w' => e = .returned (.bool (nameB t)) ∧ w = w' := by
 have hw := hasC_wild t
 have HV := Lib.hid (fun w => rvalid_any t ht w)
 have HP := Lib.hid (fun w => rhas_any t ht 43 (by decide) w)
 have HH := Lib.hid (fun w => rhas_any t ht 35 (by decide) w)
 cases t with
 | nil =>
  go_enter Tryz.func41, Tryz.ntmps41
  go_wp2
  go_ret
  exact ⟨rfl, rfl⟩
 | cons a r =>
  obtain ⟨T, hT⟩ : ∃ T, T = a :: r := ⟨_, rfl⟩
  have hie : T.isEmpty = false := by rw [hT]; rfl
  rw [← hT] at HV HP HH hw ⊢
  have hnb : nameB T = (vld T && !hasC 43 T && !hasC 35 T) := by
   unfold nameB textB
   rw [← hw, hie]
   cases vld T <;> cases hasC 43 T <;> cases hasC 35 T <;> rfl
  rw [hnb]
  clear hT hnb hw
  cases hv : vld T
  ·rw [hv] at HV
   clear hv
   go_enter Tryz.func41, Tryz.ntmps41
   go_wp2_with fail
   refine (HV.out _).mono ?_
   rintro e w1 ⟨rfl, hw1⟩
   subst hw1
   go_wp2
   go_ret
   exact ⟨rfl, rfl⟩
  cases hp : hasC 43 T
  rotate_left
  ·rw [hv] at HV
   rw [hp] at HP
   clear hv hp
   go_enter Tryz.func41, Tryz.ntmps41
   go_wp2_with fail
   refine (HV.out _).mono ?_
   rintro e w1 ⟨rfl, hw1⟩
   subst hw1
   go_wp2_with fail
   refine (HP.out _).mono ?_
   rintro e w1 ⟨rfl, hw1⟩
   subst hw1
   go_wp2
   go_ret
   exact ⟨rfl, rfl⟩
  cases hh : hasC 35 T
  all_goals
   rw [hv] at HV
   rw [hp] at HP
   rw [hh] at HH
   clear hv hp hh
   go_enter Tryz.func41, Tryz.ntmps41
   go_wp2_with fail
   refine (HV.out _).mono ?_
   rintro e w1 ⟨rfl, hw1⟩
   subst hw1
   go_wp2_with fail
   refine (HP.out _).mono ?_
   rintro e w1 ⟨rfl, hw1⟩
   subst hw1
   go_wp2_with fail
   refine (HH.out _).mono ?_
   rintro e w1 ⟨rfl, hw1⟩
   subst hw1
   go_wp2
   go_ret
   exact ⟨rfl, rfl⟩
end Go.Proofs.YtanofjmkkhocaaaGreatDoor
