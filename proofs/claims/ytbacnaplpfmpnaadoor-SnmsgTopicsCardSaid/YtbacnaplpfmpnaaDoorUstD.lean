/- The reference's code points: more, Point; plain: what Point computes. -/
import Derived.Test.YtbacnaplpfmpnaaDoorUstX
namespace Go.Proofs.YtbacnaplpfmpnaaDoor
open Go.RowKit
set_option linter.unusedVariables false

/-- The number of the first k + 1 bytes of a code point. -/
def accN (l : List UInt8) (b : Nat) : Nat → Nat
  | 0 => b
  | k + 1 => 64 * accN l b k + g l (k + 1) % 64
def odd (least n : Nat) : Bool := decide (n < least) || (decide (1114111 < n) || (decide (55296 ≤ n) && decide (n ≤ 57343)))
theorem pt_one (l : List UInt8) (h : 0 < l.length) (h1 : g l 0 < 128) : pt l = (g l 0, 1) := by
  unfold pt; rw [if_neg (by omega), if_pos h1]
theorem pt_none (l : List UInt8) (h : 0 < l.length) (h1 : (128 ≤ g l 0 ∧ g l 0 < 192) ∨ 248 ≤ g l 0) : pt l = (0, 0) := by
  unfold pt
  rw [if_neg (by omega), if_neg (by omega), if_neg (by omega), if_neg (by omega), if_neg (by omega)]
theorem pt_two (l : List UInt8) (h : 0 < l.length) (h1 : 192 ≤ g l 0 ∧ g l 0 < 224) :
    (cb l 1 = true → pt l = if odd 128 (accN l (g l 0 - 192) 1) then (0, 0) else (accN l (g l 0 - 192) 1, 2)) ∧ (cb l 1 = false → pt l = (0, 0)) := by
  refine ⟨fun c1 => ?_, fun c1 => ?_⟩
  · have e : accN l (g l 0 - 192) 1 = g l 0 % 32 * 64 + g l 1 % 64 := by
      show 64 * (g l 0 - 192) + g l 1 % 64 = _
      omega
    unfold pt
    rw [if_neg (by omega), if_neg (by omega), if_pos ⟨by omega, c1⟩, e]
    by_cases q : 128 ≤ g l 0 % 32 * 64 + g l 1 % 64
    · rw [if_pos q, if_neg (by simp [odd]; omega)]
    · rw [if_neg q, if_pos (by simp [odd]; omega)]
  · unfold pt
    rw [if_neg (by omega), if_neg (by omega), if_neg (by simp [c1]), if_neg (by omega), if_neg (by omega)]
theorem pt_three (l : List UInt8) (h : 0 < l.length) (h1 : 224 ≤ g l 0 ∧ g l 0 < 240) :
    (cb l 1 = true → cb l 2 = true → pt l = if odd 2048 (accN l (g l 0 - 224) 2) then (0, 0) else (accN l (g l 0 - 224) 2, 3)) ∧ (cb l 1 = false → pt l = (0, 0)) ∧ (cb l 2 = false → pt l = (0, 0)) := by
  have no : ¬ (cb l 1 = true ∧ cb l 2 = true) → pt l = (0, 0) := by
    intro hn
    unfold pt
    rw [if_neg (by omega), if_neg (by omega), if_neg (by omega), if_neg (fun e => hn e.2), if_neg (by omega)]
  refine ⟨fun c1 c2 => ?_, fun c1 => no (by simp [c1]), fun c2 => no (by simp [c2])⟩
  have e : accN l (g l 0 - 224) 2 = g l 0 % 16 * 4096 + g l 1 % 64 * 64 + g l 2 % 64 := by
    show 64 * (64 * (g l 0 - 224) + g l 1 % 64) + g l 2 % 64 = _
    omega
  unfold pt
  rw [if_neg (by omega), if_neg (by omega), if_neg (by omega), if_pos ⟨by omega, c1, c2⟩, e]
  by_cases q : 2048 ≤ g l 0 % 16 * 4096 + g l 1 % 64 * 64 + g l 2 % 64 ∧ ¬ (55296 ≤ g l 0 % 16 * 4096 + g l 1 % 64 * 64 + g l 2 % 64 ∧ g l 0 % 16 * 4096 + g l 1 % 64 * 64 + g l 2 % 64 ≤ 57343)
  · rw [if_pos q, if_neg (by simp [odd]; omega)]
  · rw [if_neg q, if_pos (by simp [odd]; omega)]
theorem pt_four (l : List UInt8) (h : 0 < l.length) (h1 : 240 ≤ g l 0 ∧ g l 0 < 248) :
    (cb l 1 = true → cb l 2 = true → cb l 3 = true → pt l = if odd 65536 (accN l (g l 0 - 240) 3) then (0, 0) else (accN l (g l 0 - 240) 3, 4)) ∧ (cb l 1 = false → pt l = (0, 0)) ∧ (cb l 2 = false → pt l = (0, 0)) ∧ (cb l 3 = false → pt l = (0, 0)) := by
  have no : ¬ (cb l 1 = true ∧ cb l 2 = true ∧ cb l 3 = true) → pt l = (0, 0) := by
    intro hn
    unfold pt
    rw [if_neg (by omega), if_neg (by omega), if_neg (by omega), if_neg (by omega), if_neg (fun e => hn e.2)]
  refine ⟨fun c1 c2 c3 => ?_, fun c1 => no (by simp [c1]), fun c2 => no (by simp [c2]), fun c3 => no (by simp [c3])⟩
  have e : accN l (g l 0 - 240) 3 = g l 0 % 8 * 262144 + g l 1 % 64 * 4096 + g l 2 % 64 * 64 + g l 3 % 64 := by
    show 64 * (64 * (64 * (g l 0 - 240) + g l 1 % 64) + g l 2 % 64) + g l 3 % 64 = _
    omega
  unfold pt
  rw [if_neg (by omega), if_neg (by omega), if_neg (by omega), if_neg (by omega), if_pos ⟨by omega, c1, c2, c3⟩, e]
  by_cases q : 65536 ≤ g l 0 % 8 * 262144 + g l 1 % 64 * 4096 + g l 2 % 64 * 64 + g l 3 % 64 ∧ g l 0 % 8 * 262144 + g l 1 % 64 * 4096 + g l 2 % 64 * 64 + g l 3 % 64 ≤ 1114111
  · rw [if_pos q, if_neg (by simp [odd]; omega)]
  · rw [if_neg q, if_pos (by simp [odd]; omega)]
/-- All of a code point's bytes go on, or one does not. -/
theorem pt_all (l : List UInt8) (h : 0 < l.length) (s base least : Nat) (h1 : (s = 2 ∧ base = 192 ∧ least = 128 ∧ 192 ≤ g l 0 ∧ g l 0 < 224) ∨ (s = 3 ∧ base = 224 ∧ least = 2048 ∧ 224 ≤ g l 0 ∧ g l 0 < 240) ∨ (s = 4 ∧ base = 240 ∧ least = 65536 ∧ 240 ≤ g l 0 ∧ g l 0 < 248)) :
    ((∀ k, 1 ≤ k → k < s → cb l k = true) → pt l = if odd least (accN l (g l 0 - base) (s - 1)) then (0, 0) else (accN l (g l 0 - base) (s - 1), s)) ∧ (∀ k, 1 ≤ k → k < s → cb l k = false → pt l = (0, 0)) := by
  rcases h1 with ⟨rfl, rfl, rfl, h1⟩ | ⟨rfl, rfl, rfl, h1⟩ | ⟨rfl, rfl, rfl, h1⟩
  · have q := pt_two l h h1
    exact ⟨fun a => q.1 (a 1 (by omega) (by omega)), fun k k1 k2 => by obtain rfl : k = 1 := by omega
                                                                       exact q.2⟩
  · have q := pt_three l h h1
    refine ⟨fun a => q.1 (a 1 (by omega) (by omega)) (a 2 (by omega) (by omega)), fun k k1 k2 => ?_⟩
    rcases (by omega : k = 1 ∨ k = 2) with rfl | rfl
    · exact q.2.1
    · exact q.2.2
  · have q := pt_four l h h1
    refine ⟨fun a => q.1 (a 1 (by omega) (by omega)) (a 2 (by omega) (by omega)) (a 3 (by omega) (by omega)), fun k k1 k2 => ?_⟩
    rcases (by omega : k = 1 ∨ k = 2 ∨ k = 3) with rfl | rfl | rfl
    · exact q.2.1
    · exact q.2.2.1
    · exact q.2.2.2
theorem accN_le (l : List UInt8) (b : Nat) (hb : b < 32) : ∀ k, k ≤ 3 → accN l b k ≤ 32 * 64 ^ k := by
  intro k hk
  have a1 : accN l b 1 = 64 * b + g l 1 % 64 := rfl
  have a2 : accN l b 2 = 64 * accN l b 1 + g l 2 % 64 := rfl
  have a3 : accN l b 3 = 64 * accN l b 2 + g l 3 % 64 := rfl
  rcases (by omega : k = 0 ∨ k = 1 ∨ k = 2 ∨ k = 3) with rfl | rfl | rfl | rfl
  · simp only [accN]; omega
  · omega
  · omega
  · omega
theorem g_at (t : List UInt8) (p k : Nat) (h : p + k < t.length) : g (t.drop p) k = (t[p + k]).toNat := by
  simp [g, List.getD, List.getElem?_drop, List.getElem?_eq_getElem h]
theorem cb_at (t : List UInt8) (p k : Nat) (h : p + k < t.length) : cb (t.drop p) k = decide (128 ≤ (t[p + k]).toNat ∧ (t[p + k]).toNat ≤ 191) := by
  unfold cb
  rw [g_at t p k h, show decide (k < (t.drop p).length) = true by simp; omega, Bool.true_and]
  rw [Bool.eq_iff_iff]; simp; omega
theorem cb_out (t : List UInt8) (p k : Nat) (h : ¬ p + k < t.length) : cb (t.drop p) k = false := by
  unfold cb
  rw [show decide (k < (t.drop p).length) = false by simp; omega, Bool.false_and]

set_option maxRecDepth 100000 in
set_option maxHeartbeats 400000 in
theorem rmore_any (t : List UInt8) (ht : (t.length : Int) ≤ 9223372036854775807) (a : Nat) (ha : a ≤ 4611686018427387904) (w : World) :
    Calls Tryd.prog 104 #[.string ⟨t.toArray⟩, .int .i64 a] w fun e w' => e = .returned (.tuple #[.int .i64 (if cb (t.drop a) 0 then ((g (t.drop a) 0 % 64 : Nat) : Int) else 0), .bool (cb (t.drop a) 0)]) ∧ w = w' := by
  by_cases h : a < t.length
  · have e := cb_at t a 0 h
    have e2 := g_at t a 0 h
    simp only [Nat.add_zero] at e e2
    have hlt := (t[a]).toNat_lt
    have hx : (ByteArray.mk t.toArray)[a]'h = t[a] := rfl
    by_cases h1 : (t[a]).toNat < 128
    · have q : cb (t.drop a) 0 = false := by rw [e]; simp; omega
      rw [q]
      have Q := Lib.hid (And.intro q (And.intro e e2))
      have d1 : ((t[a]).toNat : Int) < 128 := by omega
      clear q e e2 hlt h1
      go_enter Tryd.func104, Tryd.ntmps104
      go_wp2
      go_ret2
      exact ⟨rfl, rfl⟩
    · by_cases h2 : 191 < (t[a]).toNat
      · have q : cb (t.drop a) 0 = false := by rw [e]; simp; omega
        rw [q]
        have Q := Lib.hid (And.intro q (And.intro e e2))
        have d1 : ¬ ((t[a]).toNat : Int) < 128 := by omega
        have d2 : 191 < ((t[a]).toNat : Int) := by omega
        clear q e e2 hlt h1 h2
        go_enter Tryd.func104, Tryd.ntmps104
        go_wp2
        go_ret2
        exact ⟨rfl, rfl⟩
      · have q : cb (t.drop a) 0 = true := by rw [e]; simp; omega
        rw [q, e2]
        have Q := Lib.hid (And.intro q (And.intro e e2))
        have d1 : ¬ ((t[a]).toNat : Int) < 128 := by omega
        have d2 : ¬ 191 < ((t[a]).toNat : Int) := by omega
        have HH := Lib.hid (And.intro h1 h2)
        clear q e e2 hlt h1 h2
        go_enter Tryd.func104, Tryd.ntmps104
        go_wp2
        go_ret2
        refine ⟨congrArg (fun x => Ending.returned (.tuple #[.int .i64 x, .bool true])) ?_, rfl⟩
        have := HH.out
        omega
  · have q := cb_out t a 0 (by omega)
    rw [q]
    have Q := Lib.hid q
    clear q
    go_enter Tryd.func104, Tryd.ntmps104
    go_wp2
    go_ret2
    exact ⟨rfl, rfl⟩
end Go.Proofs.YtbacnaplpfmpnaaDoor
