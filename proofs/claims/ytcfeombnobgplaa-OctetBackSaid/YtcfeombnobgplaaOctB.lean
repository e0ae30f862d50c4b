/- OctetBack: the walk. -/
import Derived.Test.YtcfeombnobgplaaOctL
import Derived.Test.YtcfeombnobgplaaOctP
namespace Go.Proofs.Ytcfeombnobgplaa
open Go.RowKit

theorem mask_and (n : Int) (k : Nat) (hk : k ≤ 8) (h0 : 0 ≤ n) (h1 : n < 2 ^ 64) (M : Int) (hM : M = 256 ^ k - 1) : bits .and .u64 n M = n % 256 ^ k := by
  subst hM
  have e : (256 : Int) ^ k = 2 ^ (8 * k) := by rw [Int.pow_mul]; rfl
  rw [e]
  exact bits_mask .u64 64 (by decide) wraps_u64 (8 * k) (by omega) n h0 h1

set_option maxRecDepth 100000 in
set_option maxHeartbeats 400000 in
theorem octetBack_walk (n m size : Int) (l : List UInt8) (hl : (l.length : Int) ≤ 9223372036854775807) (hn : 0 ≤ n ∧ n < 2 ^ 64) (hm : 0 ≤ m ∧ m < 2 ^ 64) (w : World) :
    Calls Try.prog 3 #[.int .u64 n, .int .u64 m, .int .i64 size, .string ⟨l.toArray⟩] w fun e w' => e = .returned (.bool true) ∧ Below w.heap.size w w' := by
  go_enter Try.func3, Try.ntmps3
  go_wp2_with fail
  refine (lives01 _).mono ?_
  rintro e w1 ⟨rfl, hb⟩
  go_wp2_with fail
  refine (pick_any _ 9 (by omega) (by omega) _).mono ?_
  rintro e w2 ⟨rfl, rfl⟩
  obtain ⟨k, hk⟩ : ∃ k : Nat, size % 9 = (k : Int) := ⟨(size % 9).toNat, by omega⟩
  have hk2 : k ≤ 8 := by omega
  rw [hk]
  have HK := Lib.hid hk
  clear hk
  obtain ⟨A, hA⟩ : ∃ A, A = putL n k := ⟨_, rfl⟩
  obtain ⟨B, hB⟩ : ∃ A, A = putL m k := ⟨_, rfl⟩
  have hlA : (A.length : Int) = k := by rw [hA, length_putL]; omega
  have hlB : (B.length : Int) = k := by rw [hB, length_putL]; omega
  have hpA : putL n k = putB n k := by unfold putL; congr 1; omega
  have hpB : putL m k = putB m k := by unfold putL; congr 1; omega
  have hgA : getL A = n % 256 ^ k := by rw [getL, show A.length - 8 = 0 by omega, List.drop_zero, hA, hpA, getB_putB _ _ hk2]
  have hgB : getL B = m % 256 ^ k := by rw [getL, show B.length - 8 = 0 by omega, List.drop_zero, hB, hpB, getB_putB _ _ hk2]
  have hlt : Op.bytesLess A B = decide (n % 256 ^ k < m % 256 ^ k) := by
    rw [less_getB A B (by omega), hA, hB, hpA, hpB, getB_putB _ _ hk2, getB_putB _ _ hk2]
  have heq : (A == B) = (n % 256 ^ k == m % 256 ^ k) := by
    rw [Bool.eq_iff_iff, beq_iff_eq, beq_iff_eq]
    constructor
    · intro e; rw [e, hgB] at hgA; exact hgA.symm
    · intro e
      refine getB_inj A B (by omega) ?_
      rw [hA, hB, hpA, hpB, getB_putB _ _ hk2, getB_putB _ _ hk2, e]
  have hs8 : l.length ≤ 8 → putL (getL l) l.length = l := fun h => by
    unfold putL getL
    rw [show (min (l.length : Int) 16).toNat = l.length by omega, show l.length - 8 = 0 by omega]
    exact putB_getB l h
  have HlA := Lib.hid hlA
  have HlB := Lib.hid hlB
  have hand : ∀ M : Int, M = 256 ^ k - 1 → bits .and .u64 n M = n % 256 ^ k ∧ bits .and .u64 m M = m % 256 ^ k := fun M hM => ⟨mask_and n k hk2 hn.1 hn.2 M hM, mask_and m k hk2 hm.1 hm.2 M hM⟩
  have HAll := Lib.hid (And.intro hA (And.intro hB (And.intro hgA (And.intro hlt (And.intro heq (And.intro hs8 hand))))))
  clear hlA hlB hA hB hpA hpB hgA hgB hlt heq hs8 hand
  have Hn := Lib.hid hn
  have Hm := Lib.hid hm
  clear hn hm
  obtain ⟨P, hP⟩ : ∃ P, P = n % 256 ^ k := ⟨_, rfl⟩
  obtain ⟨Q, hQ⟩ : ∃ P, P = m % 256 ^ k := ⟨_, rfl⟩
  have HP := Lib.hid hP
  have HQ := Lib.hid hQ
  clear hP hQ
  by_cases h8 : k < 8
  all_goals go_wp2_with fail
  all_goals refine (put_any _ _ _).mono ?_
  all_goals rintro e w2 ⟨rfl, hb2⟩
  all_goals go_wp2_with fail
  all_goals refine (put_any _ _ _).mono ?_
  all_goals rintro e w3 ⟨rfl, hb3⟩
  all_goals rw [← HAll.out.1, ← HAll.out.2.1]
  all_goals first
  | obtain ⟨M, hM⟩ : ∃ M, M = IntKind.u64.wrap (IntKind.u64.wrap (2 ^ (8 * k)) - 1) := ⟨_, rfl⟩
    rw [← hM]
    have hMv : M = 256 ^ k - 1 := by
      rw [hM]
      have e : (256 : Int) ^ k = 2 ^ (8 * k) := by rw [Int.pow_mul]; rfl
      have hp : (2 : Int) ^ (8 * k) ≤ 2 ^ 56 := by rw [← e]; exact pow256_mono k 7 (by omega)
      have hp0 : (0 : Int) < 2 ^ (8 * k) := Int.pow_pos (by decide)
      rw [e, wraps_u64 (2 ^ (8 * k)) (by omega) (by omega), wraps_u64 _ (by omega) (by omega)]
    clear hM
  | obtain ⟨M, hM⟩ : ∃ M : Int, M = 18446744073709551615 := ⟨_, rfl⟩
    rw [← hM]
    have hMv : M = 256 ^ k - 1 := by rw [hM, show k = 8 by omega]; rfl
    clear hM
  all_goals
    have h1 := HAll.out.2.2.1
    have h2 := HAll.out.2.2.2.1
    have h3 := HAll.out.2.2.2.2.1
    have h4 := (HAll.out.2.2.2.2.2.2 M hMv).1
    have h5 := (HAll.out.2.2.2.2.2.2 M hMv).2
    rw [← HP.out] at h1 h2 h3 h4
    rw [← HQ.out] at h2 h3 h5
    clear hMv
    have hlA := HlA.out
    go_wp2_with fail
    refine (get_any _ (by omega) _).mono ?_
    rintro e w4 ⟨rfl, rfl⟩
    by_cases hll : l.length ≤ 8
    · go_wp2_with fail
      refine (get_any l hl _).mono ?_
      rintro e w4 ⟨rfl, rfl⟩
      have h6 := HAll.out.2.2.2.2.2.1 hll
      go_wp2_with fail
      refine (put_any _ _ _).mono ?_
      rintro e w4 ⟨rfl, hb4⟩
      go_wp2
      go_ret
      exact ⟨rfl, ((hb.trans (hb2.mono hb.size)).trans (hb3.mono (Nat.le_trans hb.size hb2.size))).trans (hb4.mono (Nat.le_trans hb.size (Nat.le_trans hb2.size hb3.size)))⟩
    · go_wp2
      go_ret
      exact ⟨rfl, (hb.trans (hb2.mono hb.size)).trans (hb3.mono (Nat.le_trans hb.size hb2.size))⟩
end Go.Proofs.Ytcfeombnobgplaa
