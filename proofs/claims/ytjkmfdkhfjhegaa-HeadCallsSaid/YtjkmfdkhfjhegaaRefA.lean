/- The reference's Put. -/
import Derived.Test.YtjkmfdkhfjhegaaOctA
namespace Go.Proofs.Ytjkmfdkhfjhegaa
open Go.RowKit
set_option linter.unusedVariables false

def puts (n : Int) (K m : Nat) : List Int := (List.range m).map fun p => byteAt n (K - 1 - p)
theorem puts_succ (n : Int) (K m : Nat) : puts n K (m + 1) = puts n K m ++ [byteAt n (K - 1 - m)] := by
  unfold puts; rw [List.range_succ, List.map_append]; rfl
theorem length_puts (n : Int) (K m : Nat) : (puts n K m).length = m := by simp [puts]
theorem puts_all (n : Int) (K : Nat) : strOfNums (puts n K K) = ⟨(putB n K).toArray⟩ := by
  have : (puts n K K).map (fun x => UInt8.ofNat x.toNat) = putB n K := by unfold puts putB; rw [List.map_map]; rfl
  unfold strOfNums; rw [← this]

theorem owns_zero {W : World} {base : Nat} {e : TypeId} {size : Nat} {v : Value} {xs : List Value} (h : W.ownsRow base e size v 0 xs) : v = .slice none 0 0 ∨ ∃ g c, v = .slice (some ⟨g, 0, none⟩) 0 c := by
  rcases h.2 with ⟨h, _⟩ | ⟨g, c, _, h, _⟩
  · exact .inl h
  · exact .inr ⟨g, c, h⟩

set_option maxRecDepth 100000 in
set_option maxHeartbeats 1600000 in
/-- The reference's Put. -/
theorem rput_any (n size : Int) (w : World) :
    Calls Try.prog 41 #[.int .u64 n, .int .i64 size] w fun e w' => e = .returned (.string ⟨(putL n size).toArray⟩) ∧ Below w.heap.size w w' := by
  obtain ⟨i0, hi, hz0, hz1, hz2⟩ := info_parts Try.infoU8
  obtain ⟨K, hK⟩ : ∃ K, K = (min size 16).toNat := ⟨_, rfl⟩
  have hputL : putL n size = putB n K := by unfold putL; rw [hK]
  rw [hputL]
  have hc : (size ≤ 0 ∧ K = 0) ∨ (0 < size ∧ size ≤ 16 ∧ (K : Int) = size) ∨ (16 < size ∧ K = 16) := by omega
  have hK16 : K ≤ 16 := by omega
  have HK := Lib.hid (And.intro hputL hK)
  clear hputL hK
  rcases hc with ⟨hs, hk⟩ | ⟨hs, hs2, hk⟩ | ⟨hs, hk⟩
  all_goals have Hk := Lib.hid hk
  all_goals clear hk
  all_goals go_enter Try.func41, Try.ntmps41
  all_goals go_wp2
  all_goals
    go_loopw [5, 6, 7] (fun v i b wr => ∃ m : Nat, m ≤ K ∧ i = .int .i64 ((K : Int) - 1 - m) ∧ wr.ownsRow w.heap.size 5 1 v m ((puts n K m).map (Value.int .u8)) ∧ Below w.heap.size w wr) (fun _ i _ _ => (intOf i + 1).toNat)
    case atStart => exact ⟨0, Nat.zero_le _, congrArg (Value.int .i64) (by have := Hk.out; omega), World.ownsRow_nil _ _ _ _, Below.refl _ _⟩
    case round =>
      obtain ⟨m, hm, rfl, hown, hB⟩ := hrel
      by_cases hlt : m < K
      · obtain ⟨j, hj⟩ : ∃ j : Nat, K = m + j + 1 := ⟨K - m - 1, by omega⟩
        have e : ((K : Int) - 1 - (m : Int)) = (j : Int) := by omega
        have hj16 : j < 16 := by omega
        have Hj := Lib.hid (show K - 1 - m = j by omega)
        have Hs := Lib.hid (puts_succ n K m)
        rw [e]
        have E := Lib.hid e
        clear e hj
        by_cases h8 : j < 8
        · go_wp2_with (at_builtin; refine wpList_append_own _ rfl _ _ 84 rfl w.heap.size 5 i0 (.int .u8 0) 1 1 Try.underlying84 hi hz0 hz1 hz2 rfl (by decide) _ _ _ rfl (hown.alloc _) ⟨wr.heap.size, 0, none⟩ 1 1 [.int .u8 (n / 2 ^ (8 * j) % 256)] rfl rfl (cell_one_new _ _ _) (by simp [Value.oneCell']) (by unfold maxLen; omega) (by omega) (by have := hB.size; simp; omega) ?_; intro v' w1 hown1 hgrow _)
          have hB2 : Below w.heap.size w w1 := below_append hB hown hgrow
          go_roundw
          case rel => exact ⟨m + 1, by omega, congrArg (Value.int .i64) (by have := E.out; omega), by rw [Hs.out, Hj.out]; simpa [byteAt, h8] using hown1, hB2⟩
          case measure => simp [intOf]
        · go_wp2_with (at_builtin; refine wpList_append_own _ rfl _ _ 84 rfl w.heap.size 5 i0 (.int .u8 0) 1 1 Try.underlying84 hi hz0 hz1 hz2 rfl (by decide) _ _ _ rfl (hown.alloc _) ⟨wr.heap.size, 0, none⟩ 1 1 [.int .u8 0] rfl rfl (cell_one_new _ _ _) (by simp [Value.oneCell']) (by unfold maxLen; omega) (by omega) (by have := hB.size; simp; omega) ?_; intro v' w1 hown1 hgrow _)
          have hB2 : Below w.heap.size w w1 := below_append hB hown hgrow
          go_roundw
          case rel => exact ⟨m + 1, by omega, congrArg (Value.int .i64) (by have := E.out; omega), by rw [Hs.out, Hj.out]; simpa [byteAt, h8] using hown1, hB2⟩
          case measure => simp [intOf]
      · obtain rfl : m = K := by omega
        rw [show ((m : Int) - 1 - (m : Int)) = -1 from by omega]
        have HP := Lib.hid (puts_all n m)
        rcases Nat.eq_zero_or_pos m with h0 | h0
        · subst h0
          rcases owns_zero hown with rfl | ⟨g, c, rfl⟩
          · have hconv := run_convert_bytes_nil (P := Try.prog) wr 84 5 Try.underlying84 Try.underlying5 0 0 9 Try.underlying9
            go_wp2
            go_ret
            exact ⟨by rw [← HP.out]; rfl, hB⟩
          · have hconv := run_convert_bytes_arg (P := Try.prog) wr 84 5 Try.underlying84 Try.underlying5 g 0 0 c [] rfl (fun i hi => by omega) 9 Try.underlying9
            go_wp2
            go_ret
            exact ⟨by rw [← HP.out]; rfl, hB⟩
        · obtain ⟨k, hkk⟩ : ∃ k, m = k + 1 := ⟨m - 1, by omega⟩
          have hown2 := hown
          rw [hkk] at hown2
          obtain ⟨g', cap', rfl⟩ := owns_succ hown2
          rw [← hkk] at hown2
          have hconv := run_convert_bytes_arg (P := Try.prog) wr 84 5 Try.underlying84 Try.underlying5 g' 0 (k + 1) cap' (puts n m m) (by rw [length_puts, hkk]) (by rw [← hkk]; exact owns_ints (by rw [hkk]; rw [hkk] at hown; exact hown) (length_puts _ _ _)) 9 Try.underlying9
          have HK2 := Lib.hid hkk
          clear hkk
          go_wp2
          go_ret
          exact ⟨by rw [← HP.out]; rfl, hB⟩
end Go.Proofs.Ytjkmfdkhfjhegaa
