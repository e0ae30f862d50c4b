/- The reference of chapter 21: Known, Uses, ReadFlag; of chapter 16: Big, Number. -/
import Derived.Test.YtbacnaplpfmpnaaDoorSnG
namespace Go.Proofs.YtbacnaplpfmpnaaDoor
open Go.RowKit
set_option linter.unusedVariables false

set_option maxHeartbeats 400000 in
theorem rknown_any (k : Int) (w : World) : Calls Tryd.prog 20 #[.int .i64 k] w fun e w' => e = .returned (.bool (knownK k)) ∧ w = w' := by
  by_cases h1 : k = 3
  · subst h1
    go_enter Tryd.func20, Tryd.ntmps20
    go_wp2
    go_ret
    exact ⟨rfl, rfl⟩
  by_cases h2 : k = 17
  · subst h2
    go_enter Tryd.func20, Tryd.ntmps20
    go_wp2
    go_ret
    exact ⟨rfl, rfl⟩
  by_cases h3 : k = 25
  · subst h3
    go_enter Tryd.func20, Tryd.ntmps20
    go_wp2
    go_ret
    exact ⟨rfl, rfl⟩
  by_cases h4 : k = 254
  · subst h4
    go_enter Tryd.func20, Tryd.ntmps20
    go_wp2
    go_ret
    exact ⟨rfl, rfl⟩
  have q1 : (k == 3) = false := by simpa using h1
  have q2 : (k == 17) = false := by simpa using h2
  have q3 : (k == 25) = false := by simpa using h3
  have q4 : (k == 254) = false := by simpa using h4
  have hK : knownK k = decide (0 ≤ k ∧ k ≤ 29) := by unfold knownK; rw [if_neg (by omega), if_neg h4]
  by_cases h5 : 0 ≤ k
  · by_cases h6 : k ≤ 29
    · have HK := Lib.hid (show knownK k = true by rw [hK]; simp [h5, h6])
      clear hK h1 h2 h3 h4
      go_enter Tryd.func20, Tryd.ntmps20
      go_wp2
      go_ret
      exact ⟨by rw [HK.out]; rfl, rfl⟩
    · have HK := Lib.hid (show knownK k = false by rw [hK]; simp [h6])
      clear hK h1 h2 h3 h4
      go_enter Tryd.func20, Tryd.ntmps20
      go_wp2
      go_ret
      exact ⟨by rw [HK.out]; rfl, rfl⟩
  · have HK := Lib.hid (show knownK k = false by rw [hK]; simp [h5])
    clear hK h1 h2 h3 h4
    go_enter Tryd.func20, Tryd.ntmps20
    go_wp2
    go_ret
    exact ⟨by rw [HK.out]; rfl, rfl⟩

/-- string([]byte{..}) of a slice just built. -/
theorem conv_new (xs : List Int) (g : Nat) (w : World) (hg : g = w.heap.size) : ∀ dst, Tryd.prog.underlying dst = some .string →
    (convert 62 dst (.slice (some ⟨g, 0, none⟩) xs.length xs.length)).run Tryd.prog (w.alloc (.cells (xs.map (Value.int .u8)).toArray 5 (0, 0))) = .ok (.string (strOfNums xs)) (w.alloc (.cells (xs.map (Value.int .u8)).toArray 5 (0, 0))) := by
  subst hg
  refine run_convert_bytes_arg (P := Tryd.prog) _ 62 5 Tryd.underlying62 Tryd.underlying5 w.heap.size 0 xs.length xs.length xs rfl ?_
  intro i hi
  rw [(Obj?.new w _ 5).cells]
  simp [List.getElem?_eq_getElem hi, List.getD]
theorem conv_one (a : Int) (w : World) : ∀ dst, Tryd.prog.underlying dst = some .string →
    (convert 62 dst (.slice (some ⟨w.heap.size, 0, none⟩) 1 1)).run Tryd.prog (w.alloc (.cells #[.int .u8 a] 5 (0, 0))) = .ok (.string ⟨#[UInt8.ofNat a.toNat]⟩) (w.alloc (.cells #[.int .u8 a] 5 (0, 0))) :=
  conv_new [a] w.heap.size w rfl
theorem conv_two (a b : Int) (w : World) : ∀ dst, Tryd.prog.underlying dst = some .string →
    (convert 62 dst (.slice (some ⟨w.heap.size, 0, none⟩) 2 2)).run Tryd.prog (w.alloc (.cells #[.int .u8 a, .int .u8 b] 5 (0, 0))) = .ok (.string ⟨#[UInt8.ofNat a.toNat, UInt8.ofNat b.toNat]⟩) (w.alloc (.cells #[.int .u8 a, .int .u8 b] 5 (0, 0))) :=
  conv_new [a, b] w.heap.size w rfl
theorem conv_three (a b c : Int) (w : World) : ∀ dst, Tryd.prog.underlying dst = some .string →
    (convert 62 dst (.slice (some ⟨w.heap.size, 0, none⟩) 3 3)).run Tryd.prog (w.alloc (.cells #[.int .u8 a, .int .u8 b, .int .u8 c] 5 (0, 0))) = .ok (.string ⟨#[UInt8.ofNat a.toNat, UInt8.ofNat b.toNat, UInt8.ofNat c.toNat]⟩) (w.alloc (.cells #[.int .u8 a, .int .u8 b, .int .u8 c] 5 (0, 0))) :=
  conv_new [a, b, c] w.heap.size w rfl

theorem byteAt_div (n : Int) (j : Nat) (hj : j < 8) : byteAt n j = n / 256 ^ j % 256 := byteAt_eq n j hj
theorem putB_byte (n : Int) (k : Nat) (hk : k < 8) : putB n (k + 1) = UInt8.ofNat (n / 256 ^ k % 256).toNat :: putB n k := by rw [putB_succ, byteAt_eq n k hk]
theorem div_pow (n : Int) (k : Nat) : n / 256 ^ k / 256 = n / 256 ^ (k + 1) := by rw [Int.ediv_ediv_of_nonneg (Int.le_of_lt (Int.pow_pos (by decide))), Int.pow_succ]
theorem div_range (n : Int) (k : Nat) (h0 : 0 ≤ n) (h1 : n < 18446744073709551616) : 0 ≤ n / 256 ^ k ∧ n / 256 ^ k < 18446744073709551616 := by
  have hp : (0 : Int) < 256 ^ k := Int.pow_pos (by decide)
  refine ⟨Int.ediv_nonneg h0 (by omega), ?_⟩
  exact Int.lt_of_le_of_lt (Int.ediv_le_self _ h0) h1

set_option maxRecDepth 100000 in
set_option maxHeartbeats 800000 in
/-- The reference's Big. -/
theorem rbig_any (n : Int) (h0 : 0 ≤ n) (h1 : n < 18446744073709551616) (K : Nat) (hK : K ≤ 8) (w : World) :
    Calls Tryd.prog 45 #[.int .u64 n, .int .i64 K] w fun e w' => e = .returned (.string ⟨(putB n K).toArray⟩) ∧ Below w.heap.size w w' := by
  have hap : ∀ (a : UInt8) (b : List UInt8), (ByteArray.mk #[a]) ++ ByteArray.mk b.toArray = ByteArray.mk (a :: b).toArray := fun a b => ByteArray.mk_append_mk [a] b
  have HB := Lib.hid (And.intro h0 h1)
  clear h0 h1
  go_enter Tryd.func45, Tryd.ntmps45
  go_wp2
  go_loopw [0, 5, 6] (fun x o i wr => ∃ k : Nat, k ≤ K ∧ x = .int .u64 (n / 256 ^ k) ∧ i = .int .i64 k ∧ o = .string ⟨(putB n k).toArray⟩ ∧ Below w.heap.size w wr) (fun _ _ i _ => K - (intOf i).toNat)
  case atStart => exact ⟨0, Nat.zero_le _, by simp, rfl, rfl, Below.refl _ _⟩
  case round =>
    obtain ⟨k, hk, rfl, rfl, rfl, hB⟩ := hrel
    by_cases hlt : k < K
    · have hr := div_range n k HB.out.1 HB.out.2
      have Hd := Lib.hid (div_pow n k)
      have Hp := Lib.hid (putB_byte n k (by omega))
      obtain ⟨x, hx⟩ : ∃ x, x = n / 256 ^ k := ⟨_, rfl⟩
      rw [← hx] at hr ⊢
      obtain ⟨hr0, hr1⟩ := hr
      have Hx := Lib.hid hx
      clear hx
      have hcv := conv_one (x % 256) wr
      have hap2 := hap (UInt8.ofNat (x % 256).toNat) (putB n k)
      have hl := length_putB n k
      have hl2 : (putB n k).length ≤ 8 := by omega
      clear hl hap
      go_wp2
      go_roundw
      case rel => exact ⟨k + 1, by omega, by rw [← Hd.out, ← Hx.out], by go_num, by rw [Hp.out, ← Hx.out], below_al hB _⟩
      case measure => simp [intOf]; omega
    · obtain rfl : k = K := by omega
      go_wp2
      go_ret
      exact ⟨rfl, hB⟩
set_option maxRecDepth 100000 in
set_option maxHeartbeats 800000 in
/-- The reference's Number. -/
theorem rnumber_any (l : List UInt8) (h : l.length ≤ 8) (w : World) :
    Calls Tryd.prog 39 #[.string ⟨l.toArray⟩] w fun e w' => e = .returned (.int .u64 (getB l)) ∧ w = w' := by
  go_enter Tryd.func39, Tryd.ntmps39
  go_wp2
  go_loop [3, 4] (fun n i => ∃ j : Nat, j ≤ l.length ∧ i = .int .i64 j ∧ n = .int .u64 (getB (l.take j))) (fun _ i => l.length - (intOf i).toNat)
  case atStart => exact ⟨0, Nat.zero_le _, rfl, rfl⟩
  case round =>
    obtain ⟨j, hj, rfl, rfl⟩ := hrel
    by_cases hlt : j < l.length
    · have e := getB_take l j hlt
      have e2 := or_byte (getB (l.take j)) l[j].toNat (getB_nonneg _) (getB_lt _ 7 (by simp; omega)) l[j].toNat_lt
      rw [← e] at e2
      have E := Lib.hid e2; clear e e2
      go_wp2
      go_round
      case rel => exact ⟨j + 1, by omega, by go_num, congrArg _ E.out⟩
      case measure => simp [intOf]; omega
    · obtain rfl : j = l.length := by omega
      go_wp2
      go_ret
      exact ⟨rfl, rfl⟩
end Go.Proofs.YtbacnaplpfmpnaaDoor
