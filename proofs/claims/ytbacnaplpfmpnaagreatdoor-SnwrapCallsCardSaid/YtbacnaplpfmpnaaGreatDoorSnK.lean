/- SnheadFlags. The reference of chapter 21: Known, Uses, ReadFlag; of chapter 16: Big, Number. The reference of chapter 21: ReadFlag, Flag, May. The reference of chapter 21: May, Bytes, Read. The reference of chapter 21: Bytes. The reference of chapter 21: May. -/
import Derived.Test.YtbacnaplpfmpnaaGreatDoorSnA
import Derived.Deep.RegionHeld3
import Derived.Deep.Cut
namespace Go.Proofs.YtbacnaplpfmpnaaGreatDoor
open Go.RowKit
set_option linter.unusedVariables false

instance : DecidableEq Fl := fun a b => by
  rcases a with ⟨a1, a2, a3, a4, a5, a6⟩
  rcases b with ⟨b1, b2, b3, b4, b5, b6⟩
  exact decidable_of_iff (a1 = b1 ∧ a2 = b2 ∧ a3 = b3 ∧ a4 = b4 ∧ a5 = b5 ∧ a6 = b6) (by simp)
theorem rf_cases (n : Int) : (rfOk n = true ∧ 0 ≤ n ∧ n < 256 ∧ (n % 4 != 3) = true) ∨ (rfOk n = false ∧ n < 0) ∨ (rfOk n = false ∧ 0 ≤ n ∧ 256 ≤ n) ∨ (rfOk n = false ∧ 0 ≤ n ∧ n < 256 ∧ (n % 4 != 3) = false) := by
  have e : rfOk n = decide (0 ≤ n ∧ n ≤ 255 ∧ n % 4 ≠ 3) := rfl
  have e2 : (n % 4 != 3) = decide (n % 4 ≠ 3) := by by_cases h : n % 4 = 3 <;> simp [h]
  rw [e, e2]
  simp only [decide_eq_true_eq, decide_eq_false_iff_not]
  omega


end Go.Proofs.YtbacnaplpfmpnaaGreatDoor
namespace Go.Proofs.YtbacnaplpfmpnaaGreatDoor
open Go.RowKit
set_option linter.unusedVariables false

set_option maxHeartbeats 400000 in
theorem rknown_any (k : Int) (w : World) : Calls Tryz.prog 69 #[.int .i64 k] w fun e w' => e = .returned (.bool (knownK k)) ∧ w = w' := by
  by_cases h1 : k = 3
  · subst h1
    go_enter Tryz.func69, Tryz.ntmps69
    go_wp2
    go_ret
    exact ⟨rfl, rfl⟩
  by_cases h2 : k = 17
  · subst h2
    go_enter Tryz.func69, Tryz.ntmps69
    go_wp2
    go_ret
    exact ⟨rfl, rfl⟩
  by_cases h3 : k = 25
  · subst h3
    go_enter Tryz.func69, Tryz.ntmps69
    go_wp2
    go_ret
    exact ⟨rfl, rfl⟩
  by_cases h4 : k = 254
  · subst h4
    go_enter Tryz.func69, Tryz.ntmps69
    go_wp2
    go_ret
    exact ⟨rfl, rfl⟩
  have q1 : (k == 3) = false := by simpa using h1
  have q2 : (k == 17) = false := by simpa using h2
  have q3 : (k == 25) = false := by simpa using h3
  have q4 : (k == 254) = false := by simpa using h4
  have hK : knownK k = decide (0 ≤ k ∧ k ≤ 29) := by unfold knownK; rw [if_neg (by omega), if_neg h4]
  by_cases h5 : 0 ≤ k
  · by_cases h6 : k ≤ 29
    · have HK := Lib.hid (show knownK k = true by rw [hK]; simp [h5, h6])
      clear hK h1 h2 h3 h4
      go_enter Tryz.func69, Tryz.ntmps69
      go_wp2
      go_ret
      exact ⟨by rw [HK.out]; rfl, rfl⟩
    · have HK := Lib.hid (show knownK k = false by rw [hK]; simp [h6])
      clear hK h1 h2 h3 h4
      go_enter Tryz.func69, Tryz.ntmps69
      go_wp2
      go_ret
      exact ⟨by rw [HK.out]; rfl, rfl⟩
  · have HK := Lib.hid (show knownK k = false by rw [hK]; simp [h5])
    clear hK h1 h2 h3 h4
    go_enter Tryz.func69, Tryz.ntmps69
    go_wp2
    go_ret
    exact ⟨by rw [HK.out]; rfl, rfl⟩

set_option maxRecDepth 100000 in
set_option maxHeartbeats 800000 in
theorem ruses_any (k : Int) (w : World) : Calls Tryz.prog 103 #[.int .i64 k] w fun e w' =>
    e = .returned (.agg #[.bool (usesF k).dup, .int .i64 (usesF k).q, .bool (usesF k).retain, .bool (usesF k).will, .bool (usesF k).clean, .int .i64 (usesF k).typ]) ∧ Below w.heap.size w w' := by
  rcases kinds_split k with rfl | rfl | rfl | rfl | rfl | rfl | rfl | h
  rotate_right
  · have HU := Lib.hid (uses_else h)
    obtain ⟨q1, q2, q3, q4, q5, q6, q7⟩ := kindOf_bool h
    clear h
    go_enter Tryz.func103, Tryz.ntmps103
    go_wp2
    refine bodyPost_ret (results_row1 rfl _ _ _ _ _ _ rfl (Obj?.new _ _ _) Tryz.underlying23 rfl infoFl) rfl ?_
    exact ⟨by rw [HU.out]; rfl, (Below.refl _ _).alloc (Nat.le_refl _) _⟩
  all_goals
    go_enter Tryz.func103, Tryz.ntmps103
    go_wp2
    refine bodyPost_ret (results_row1 rfl _ _ _ _ _ _ rfl (Obj?.new _ _ _) Tryz.underlying23 rfl infoFl) rfl ?_
    exact ⟨rfl, (Below.refl _ _).alloc (Nat.le_refl _) _⟩


/-- string([]byte{..}) of a slice just built. -/
theorem conv_new (xs : List Int) (g : Nat) (w : World) (hg : g = w.heap.size) : ∀ dst, Tryz.prog.underlying dst = some .string →
    (convert 53 dst (.slice (some ⟨g, 0, none⟩) xs.length xs.length)).run Tryz.prog (w.alloc (.cells (xs.map (Value.int .u8)).toArray 5 (0, 0))) = .ok (.string (strOfNums xs)) (w.alloc (.cells (xs.map (Value.int .u8)).toArray 5 (0, 0))) := by
  subst hg
  refine run_convert_bytes_arg (P := Tryz.prog) _ 53 5 Tryz.underlying53 Tryz.underlying5 w.heap.size 0 xs.length xs.length xs rfl ?_
  intro i hi
  rw [(Obj?.new w _ 5).cells]
  simp [List.getElem?_eq_getElem hi, List.getD]
theorem conv_one (a : Int) (w : World) : ∀ dst, Tryz.prog.underlying dst = some .string →
    (convert 53 dst (.slice (some ⟨w.heap.size, 0, none⟩) 1 1)).run Tryz.prog (w.alloc (.cells #[.int .u8 a] 5 (0, 0))) = .ok (.string ⟨#[UInt8.ofNat a.toNat]⟩) (w.alloc (.cells #[.int .u8 a] 5 (0, 0))) :=
  conv_new [a] w.heap.size w rfl
theorem conv_two (a b : Int) (w : World) : ∀ dst, Tryz.prog.underlying dst = some .string →
    (convert 53 dst (.slice (some ⟨w.heap.size, 0, none⟩) 2 2)).run Tryz.prog (w.alloc (.cells #[.int .u8 a, .int .u8 b] 5 (0, 0))) = .ok (.string ⟨#[UInt8.ofNat a.toNat, UInt8.ofNat b.toNat]⟩) (w.alloc (.cells #[.int .u8 a, .int .u8 b] 5 (0, 0))) :=
  conv_new [a, b] w.heap.size w rfl
theorem conv_three (a b c : Int) (w : World) : ∀ dst, Tryz.prog.underlying dst = some .string →
    (convert 53 dst (.slice (some ⟨w.heap.size, 0, none⟩) 3 3)).run Tryz.prog (w.alloc (.cells #[.int .u8 a, .int .u8 b, .int .u8 c] 5 (0, 0))) = .ok (.string ⟨#[UInt8.ofNat a.toNat, UInt8.ofNat b.toNat, UInt8.ofNat c.toNat]⟩) (w.alloc (.cells #[.int .u8 a, .int .u8 b, .int .u8 c] 5 (0, 0))) :=
  conv_new [a, b, c] w.heap.size w rfl

theorem putB_byte (n : Int) (k : Nat) (hk : k < 8) : putB n (k + 1) = UInt8.ofNat (n / 256 ^ k % 256).toNat :: putB n k := by rw [putB_succ, byteAt_eq n k hk]
theorem div_pow (n : Int) (k : Nat) : n / 256 ^ k / 256 = n / 256 ^ (k + 1) := by rw [Int.ediv_ediv_of_nonneg (Int.le_of_lt (Int.pow_pos (by decide))), Int.pow_succ]
theorem div_range (n : Int) (k : Nat) (h0 : 0 ≤ n) (h1 : n < 18446744073709551616) : 0 ≤ n / 256 ^ k ∧ n / 256 ^ k < 18446744073709551616 := by
  have hp : (0 : Int) < 256 ^ k := Int.pow_pos (by decide)
  refine ⟨Int.ediv_nonneg h0 (by omega), ?_⟩
  exact Int.lt_of_le_of_lt (Int.ediv_le_self _ h0) h1

set_option maxRecDepth 100000 in
set_option maxHeartbeats 800000 in
/-- The reference's Big. -/
theorem rbig_any (n : Int) (h0 : 0 ≤ n) (h1 : n < 18446744073709551616) (K : Nat) (hK : K ≤ 8) (w : World) :
    Calls Tryz.prog 62 #[.int .u64 n, .int .i64 K] w fun e w' => e = .returned (.string ⟨(putB n K).toArray⟩) ∧ Below w.heap.size w w' := by
  have hap : ∀ (a : UInt8) (b : List UInt8), (ByteArray.mk #[a]) ++ ByteArray.mk b.toArray = ByteArray.mk (a :: b).toArray := fun a b => ByteArray.mk_append_mk [a] b
  have HB := Lib.hid (And.intro h0 h1)
  clear h0 h1
  go_enter Tryz.func62, Tryz.ntmps62
  go_wp2
  go_loopw [0, 5, 6] (fun x o i wr => ∃ k : Nat, k ≤ K ∧ x = .int .u64 (n / 256 ^ k) ∧ i = .int .i64 k ∧ o = .string ⟨(putB n k).toArray⟩ ∧ Below w.heap.size w wr) (fun _ _ i _ => K - (intOf i).toNat)
  case atStart => exact ⟨0, Nat.zero_le _, by simp, rfl, rfl, Below.refl _ _⟩
  case round =>
    obtain ⟨k, hk, rfl, rfl, rfl, hB⟩ := hrel
    by_cases hlt : k < K
    · have hr := div_range n k HB.out.1 HB.out.2
      have Hd := Lib.hid (div_pow n k)
      have Hp := Lib.hid (putB_byte n k (by omega))
      obtain ⟨x, hx⟩ : ∃ x, x = n / 256 ^ k := ⟨_, rfl⟩
      rw [← hx] at hr ⊢
      obtain ⟨hr0, hr1⟩ := hr
      have Hx := Lib.hid hx
      clear hx
      have hcv := conv_one (x % 256) wr
      have hap2 := hap (UInt8.ofNat (x % 256).toNat) (putB n k)
      have hl := length_putB n k
      have hl2 : (putB n k).length ≤ 8 := by omega
      clear hl hap
      go_wp2
      go_roundw
      case rel => exact ⟨k + 1, by omega, by rw [← Hd.out, ← Hx.out], by go_num, by rw [Hp.out, ← Hx.out], below_al hB _⟩
      case measure => simp [intOf]; omega
    · obtain rfl : k = K := by omega
      go_wp2
      go_ret
      exact ⟨rfl, hB⟩
set_option maxRecDepth 100000 in
set_option maxHeartbeats 800000 in
/-- The reference's Number. -/
theorem rnumber_any (l : List UInt8) (h : l.length ≤ 8) (w : World) :
    Calls Tryz.prog 60 #[.string ⟨l.toArray⟩] w fun e w' => e = .returned (.int .u64 (getB l)) ∧ w = w' := by
  go_enter Tryz.func60, Tryz.ntmps60
  go_wp2
  go_loop [3, 4] (fun n i => ∃ j : Nat, j ≤ l.length ∧ i = .int .i64 j ∧ n = .int .u64 (getB (l.take j))) (fun _ i => l.length - (intOf i).toNat)
  case atStart => exact ⟨0, Nat.zero_le _, rfl, rfl⟩
  case round =>
    obtain ⟨j, hj, rfl, rfl⟩ := hrel
    by_cases hlt : j < l.length
    · have e := getB_take l j hlt
      have e2 := or_byte (getB (l.take j)) l[j].toNat (getB_nonneg _) (getB_lt _ 7 (by simp; omega)) l[j].toNat_lt
      rw [← e] at e2
      have E := Lib.hid e2; clear e e2
      go_wp2
      go_round
      case rel => exact ⟨j + 1, by omega, by go_num, congrArg _ E.out⟩
      case measure => simp [intOf]; omega
    · obtain rfl : j = l.length := by omega
      go_wp2
      go_ret
      exact ⟨rfl, rfl⟩
theorem rbit_any (b : Bool) (n : Int) (w : World) : Calls Tryz.prog 109 #[.bool b, .int .i64 n] w fun e w' => e = .returned (.int .i64 (bitN b n)) ∧ w = w' := by
  cases b
  · go_enter Tryz.func109, Tryz.ntmps109
    go_wp2
    go_ret
    exact ⟨rfl, rfl⟩
  · go_enter Tryz.func109, Tryz.ntmps109
    go_wp2
    go_ret
    exact ⟨rfl, rfl⟩
end Go.Proofs.YtbacnaplpfmpnaaGreatDoor
namespace Go.Proofs.YtbacnaplpfmpnaaGreatDoor
open Go.RowKit
set_option linter.unusedVariables false

set_option maxRecDepth 100000 in
set_option maxHeartbeats 800000 in
theorem rreadflag_any (n : Int) (w : World) : Calls Tryz.prog 94 #[.int .i64 n] w fun e w' =>
    e = .returned (.tuple #[.agg #[.bool (rfF n).dup, .int .i64 (rfF n).q, .bool (rfF n).retain, .bool (rfF n).will, .bool (rfF n).clean, .int .i64 (rfF n).typ], .int .i64 (rfE n)]) ∧ Below w.heap.size w w' := by
  rcases rf_cases n with ⟨hk, h2, h3, h4⟩ | ⟨hk, h2⟩ | ⟨hk, h2, h3⟩ | ⟨hk, h2, h3, h4⟩
  · obtain ⟨m, rfl⟩ := Int.eq_ofNat_of_zero_le h2
    have HF := Lib.hid (show rfF m = ⟨decide ((m : Int) / 128 % 2 = 1), rfQ m, decide ((m : Int) / 16 % 2 = 1), decide ((m : Int) / 8 % 2 = 1), decide ((m : Int) / 4 % 2 = 1), (m : Int) % 4⟩ by unfold rfF; rw [hk]; rfl)
    have HE := Lib.hid (show rfE m = 0 by unfold rfE; rw [hk]; rfl)
    have hd : ((m : Int) % 4 == 3) = false := by simpa using h4
    rw [HF.out, HE.out, show decide ((m : Int) / 128 % 2 = 1) = decide (128 ≤ (m : Int)) by rw [decide_eq_decide]; omega]
    clear hk h4
    by_cases h5 : (m : Int) / 32 % 4 = 3
    · have HQ := Lib.hid (show rfQ m = -1 by unfold rfQ; rw [if_pos h5])
      have hd2 : ((m : Int) / 32 % 4 == 3) = true := by simpa using h5
      rw [HQ.out]
      clear h5
      go_enter Tryz.func94, Tryz.ntmps94
      go_wp2_with fail
      (try simp only [Exit.inBlock, Exit.then])
      refine bodyPost_ret (results_row_tmp rfl _ _ _ _ _ _ rfl (Obj?.new _ _ _) Tryz.underlying23 rfl infoFl) rfl ?_
      exact ⟨rfl, (Below.refl _ _).alloc (Nat.le_refl _) _⟩
    · have HQ := Lib.hid (show rfQ m = (m : Int) / 32 % 4 by unfold rfQ; rw [if_neg h5])
      have hd2 : ((m : Int) / 32 % 4 == 3) = false := by simpa using h5
      rw [HQ.out]
      clear h5
      go_enter Tryz.func94, Tryz.ntmps94
      go_wp2_with fail
      (try simp only [Exit.inBlock, Exit.then])
      refine bodyPost_ret (results_row_tmp rfl _ _ _ _ _ _ rfl (Obj?.new _ _ _) Tryz.underlying23 rfl infoFl) rfl ?_
      exact ⟨rfl, (Below.refl _ _).alloc (Nat.le_refl _) _⟩
  all_goals rw [show rfF n = fl0 by unfold rfF; rw [hk]; rfl, show rfE n = 7 by unfold rfE; rw [hk]; rfl]
  all_goals clear hk
  · go_enter Tryz.func94, Tryz.ntmps94
    go_wp2
    (try simp only [Exit.inBlock, Exit.then])
    refine bodyPost_ret (results_row_tmp rfl _ _ _ _ _ _ rfl (Obj?.new _ _ _) Tryz.underlying23 rfl infoFl) rfl ?_
    exact ⟨rfl, (Below.refl _ _).alloc (Nat.le_refl _) _⟩
  · go_enter Tryz.func94, Tryz.ntmps94
    go_wp2
    (try simp only [Exit.inBlock, Exit.then])
    refine bodyPost_ret (results_row_tmp rfl _ _ _ _ _ _ rfl (Obj?.new _ _ _) Tryz.underlying23 rfl infoFl) rfl ?_
    exact ⟨rfl, (Below.refl _ _).alloc (Nat.le_refl _) _⟩
  · have hd : (n % 4 == 3) = true := by simpa using h4
    clear h4
    go_enter Tryz.func94, Tryz.ntmps94
    go_wp2
    (try simp only [Exit.inBlock, Exit.then])
    refine bodyPost_ret (results_row_tmp rfl _ _ _ _ _ _ rfl (Obj?.new _ _ _) Tryz.underlying23 rfl infoFl) rfl ?_
    exact ⟨rfl, (Below.refl _ _).alloc (Nat.le_refl _) _⟩

theorem i64_ok (x : Int) (h : -9223372036854775808 ≤ x) (h2 : x ≤ 9223372036854775807) : IntKind.i64.wrap x = x := by rw [IntKind.wrap_i64]; omega
theorem bitN_range (b : Bool) (n : Int) (h : 0 ≤ n) : 0 ≤ bitN b n ∧ bitN b n ≤ n := by cases b <;> simp [bitN, h]
set_option maxRecDepth 100000 in
set_option maxHeartbeats 1600000 in
theorem rflag_fl (f : Fl) (w : World) : Calls Tryz.prog 89 #[.agg #[.bool f.dup, .int .i64 f.q, .bool f.retain, .bool f.will, .bool f.clean, .int .i64 f.typ]] w fun e w' =>
    e = .returned (.tuple #[.int .i64 (flagV f).1, .int .i64 (flagV f).2]) ∧ Below w.heap.size w w' := by
  obtain ⟨dup, q, retain, will, clean, t⟩ := f
  have hA : Below w.heap.size w (w.alloc (.cells #[.bool dup, .int .i64 q, .bool retain, .bool will, .bool clean, .int .i64 t] 23 (0, 0))) := (Below.refl _ _).alloc (Nat.le_refl _) _
  show Calls Tryz.prog 89 #[.agg #[.bool dup, .int .i64 q, .bool retain, .bool will, .bool clean, .int .i64 t]] w fun e w' =>
    e = .returned (.tuple #[.int .i64 (flagF dup q retain will clean t).1, .int .i64 (flagF dup q retain will clean t).2]) ∧ Below w.heap.size w w'
  cases hok : flagOk q t with
  | false =>
    rw [show flagF dup q retain will clean t = (0, 7) by unfold flagF; rw [hok]; rfl]
    have h' : ¬ (-1 ≤ q ∧ q ≤ 2 ∧ 0 ≤ t ∧ t ≤ 2) := by simpa [flagOk] using hok
    clear hok
    rcases (by omega : q < -1 ∨ (-1 ≤ q ∧ 2 < q) ∨ (-1 ≤ q ∧ q ≤ 2 ∧ t < 0) ∨ (-1 ≤ q ∧ q ≤ 2 ∧ 0 ≤ t ∧ 2 < t)) with h | ⟨h1, h⟩ | ⟨h1, h2, h⟩ | ⟨h1, h2, h3, h⟩
    all_goals clear h'
    all_goals go_enter Tryz.func89, Tryz.ntmps89
    all_goals go_wp2
    all_goals go_ret2
    all_goals exact ⟨rfl, hA⟩
  | true =>
    have h' : -1 ≤ q ∧ q ≤ 2 ∧ 0 ≤ t ∧ t ≤ 2 := by simpa [flagOk] using hok
    have HF := Lib.hid (show flagF dup q retain will clean t = (flagN dup q retain will clean t, 0) by unfold flagF; rw [hok]; rfl)
    rw [HF.out]
    obtain ⟨h1, h2, h3, h4⟩ := h'
    have r1 := bitN_range dup 128 (by decide)
    have r2 := bitN_range retain 16 (by decide)
    have r3 := bitN_range will 8 (by decide)
    have r4 := bitN_range clean 4 (by decide)
    obtain ⟨Q, hQ⟩ : ∃ Q, Q = q % 4 := ⟨_, rfl⟩
    have hN : flagN dup q retain will clean t = bitN dup 128 + 32 * Q + bitN retain 16 + bitN will 8 + bitN clean 4 + t := by unfold flagN; rw [hQ]
    have hq0 : 0 ≤ Q ∧ Q ≤ 3 := by omega
    have e1 := i64_ok (32 * Q) (by omega) (by omega)
    have e2 := i64_ok (bitN dup 128 + 32 * Q) (by omega) (by omega)
    have e3 := i64_ok (bitN dup 128 + 32 * Q + bitN retain 16) (by omega) (by omega)
    have e4 := i64_ok (bitN dup 128 + 32 * Q + bitN retain 16 + bitN will 8) (by omega) (by omega)
    have e5 := i64_ok (bitN dup 128 + 32 * Q + bitN retain 16 + bitN will 8 + bitN clean 4) (by omega) (by omega)
    have e6 := i64_ok (bitN dup 128 + 32 * Q + bitN retain 16 + bitN will 8 + bitN clean 4 + t) (by omega) (by omega)
    have HE := Lib.hid (And.intro e1 (And.intro e2 (And.intro e3 (And.intro e4 (And.intro e5 e6)))))
    have HN := Lib.hid hN
    clear e1 e2 e3 e4 e5 e6 hN hok
    by_cases h5 : q < 0
    · have hQ3 : Q = 3 := by omega
      subst hQ3
      clear hQ
      go_enter Tryz.func89, Tryz.ntmps89
      go_wp2
      obtain ⟨e1, e2, e3, e4, e5, e6⟩ := HE.out
      go_quiet ((go_at_call 109; exact quiet_left (rbit_any _ _ _)))
      clear e1 e2 e3 e4 e5 e6
      go_wp2
      go_ret2
      exact ⟨by rw [HN.out]; rfl, hA.trans ((below_grown (quiet_grown ⟨_, rfl⟩ none)).mono hA.size)⟩
    · have hQ3 : Q = q := by omega
      subst hQ3
      clear hQ
      go_enter Tryz.func89, Tryz.ntmps89
      go_wp2
      obtain ⟨e1, e2, e3, e4, e5, e6⟩ := HE.out
      go_quiet ((go_at_call 109; exact quiet_left (rbit_any _ _ _)))
      clear e1 e2 e3 e4 e5 e6
      go_wp2
      go_ret2
      exact ⟨by rw [HN.out]; rfl, hA.trans ((below_grown (quiet_grown ⟨_, rfl⟩ none)).mono hA.size)⟩
end Go.Proofs.YtbacnaplpfmpnaaGreatDoor
namespace Go.Proofs.YtbacnaplpfmpnaaGreatDoor
open Go.RowKit
set_option linter.unusedVariables false

theorem num_at (t : List UInt8) (i : Nat) (h : i < t.length) : num t i 1 = ((t[i]).toNat : Int) := by
  unfold num
  rw [List.drop_eq_getElem_cons h, List.take_succ_cons, List.take_zero]
  simp [getB]
theorem ne_empty {t : List UInt8} (h : 0 < t.length) : t.isEmpty = false := by
  cases t with
  | nil => simp at h
  | cons => rfl
theorem snTail_bad {k h l : Int} (hb : l < h ∨ (h = 4 ∧ l < 258)) : snTail k h l = (0, 0, 0, 5) := by unfold snTail; rw [if_pos hb]
theorem snTail_no {k h l : Int} (hb : ¬ (l < h ∨ (h = 4 ∧ l < 258))) (hk : knownK k = false) : snTail k h l = (0, 0, 0, 8) := by unfold snTail; rw [if_neg hb, if_pos hk]
theorem snTail_ok {k h l : Int} (hb : ¬ (l < h ∨ (h = 4 ∧ l < 258))) (hk : knownK k = true) : snTail k h l = (k, h, l, 0) := by unfold snTail; rw [if_neg hb, if_neg (by simp [hk])]

set_option maxRecDepth 100000 in
set_option maxHeartbeats 800000 in
theorem rsnread_short (t : List UInt8) (w : World) (h : t.length < 1 ∨ (1 ≤ t.length ∧ num t 0 1 = 1 ∧ t.length < 4) ∨ (1 ≤ t.length ∧ num t 0 1 ≠ 1 ∧ t.length < 2)) : Calls Tryz.prog 53 #[.string ⟨t.toArray⟩] w fun e w' => e = .returned (.tuple #[.int .i64 (snR t).1, .int .i64 (snR t).2.1, .int .i64 (snR t).2.2.1, .int .i64 (snR t).2.2.2]) ∧ w = w' := by
  rcases h with h | ⟨h1, h2, h3⟩ | ⟨h1, h2, h3⟩
  · have hr : snR t = (0, 0, 0, 3) := by unfold snR; rw [if_pos h]
    rw [hr]
    obtain rfl : t = [] := List.length_eq_zero_iff.1 (by omega)
    clear h hr
    go_enter Tryz.func53, Tryz.ntmps53
    go_wp2
    ((try simp only [Exit.inBlock, Exit.then]); refine bodyPost_ret (results_four rfl _ _ _) rfl ?_)
    exact ⟨rfl, rfl⟩
  · have hr : snR t = (0, 0, 0, 3) := by unfold snR; rw [if_neg (by omega), if_pos h2, if_pos h3]
    rw [hr]
    have hc := num_at t 0 (by omega)
    rw [h2] at hc
    have hx : (ByteArray.mk t.toArray)[0]'(by show 0 < t.length; omega) = t[0] := rfl
    have d1 : ((t[0]).toNat : Int) = 1 := hc.symm
    have hz : t.isEmpty = false := ne_empty (by omega)
    clear hr h2 hc
    go_enter Tryz.func53, Tryz.ntmps53
    go_wp2
    ((try simp only [Exit.inBlock, Exit.then]); refine bodyPost_ret (results_four rfl _ _ _) rfl ?_)
    exact ⟨rfl, rfl⟩
  · have hr : snR t = (0, 0, 0, 3) := by unfold snR; rw [if_neg (by omega), if_neg h2, if_pos h3]
    rw [hr]
    have hc := num_at t 0 (by omega)
    rw [hc] at h2
    have b0 : ((t[0]).toNat : Int) < 256 := by have := (t[0]).toNat_lt; omega
    have hx : (ByteArray.mk t.toArray)[0]'(by show 0 < t.length; omega) = t[0] := rfl
    have d1 : (((t[0]).toNat : Int) == 1) = false := by simpa using h2
    have hz : t.isEmpty = false := ne_empty (by omega)
    clear hr h2 hc
    go_enter Tryz.func53, Tryz.ntmps53
    go_wp2
    ((try simp only [Exit.inBlock, Exit.then]); refine bodyPost_ret (results_four rfl _ _ _) rfl ?_)
    exact ⟨rfl, rfl⟩

set_option maxRecDepth 100000 in
set_option maxHeartbeats 1600000 in
theorem rsnread_two (t : List UInt8) (ht : (t.length : Int) ≤ 4611686018427380000) (w : World) (h1 : 2 ≤ t.length) (h2 : num t 0 1 ≠ 1) : Calls Tryz.prog 53 #[.string ⟨t.toArray⟩] w fun e w' => e = .returned (.tuple #[.int .i64 (snR t).1, .int .i64 (snR t).2.1, .int .i64 (snR t).2.2.1, .int .i64 (snR t).2.2.2]) ∧ w = w' := by
  have hr : snR t = snTail (num t 1 1) 2 (num t 0 1) := by unfold snR; rw [if_neg (by omega), if_neg h2, if_neg (by omega)]
  have hc := num_at t 0 (by omega)
  have hc1 := num_at t 1 (by omega)
  rw [hc] at h2 hr
  rw [hc1] at hr
  have hx : (ByteArray.mk t.toArray)[0]'(by show 0 < t.length; omega) = t[0] := rfl
  have hx1 : (ByteArray.mk t.toArray)[1]'(by show 1 < t.length; omega) = t[1] := rfl
  have d1 : (((t[0]).toNat : Int) == 1) = false := by simpa using h2
  have b0 : ((t[0]).toNat : Int) < 256 := by have := (t[0]).toNat_lt; omega
  have b1 : ((t[1]).toNat : Int) < 256 := by have := (t[1]).toNat_lt; omega
  have hz : t.isEmpty = false := ne_empty (by omega)
  rw [hr]
  have H2 := Lib.hid h2
  clear hr h2 hc hc1
  by_cases h3 : ((t[0]).toNat : Int) < 2
  · rw [snTail_bad (.inl h3)]
    go_enter Tryz.func53, Tryz.ntmps53
    go_wp2
    ((try simp only [Exit.inBlock, Exit.then]); refine bodyPost_ret (results_four rfl _ _ _) rfl ?_)
    exact ⟨rfl, rfl⟩
  · cases hk : knownK ((t[1]).toNat : Int) with
    | false =>
      rw [snTail_no (by omega) hk]
      have HK := Lib.hid hk
      clear hk
      go_enter Tryz.func53, Tryz.ntmps53
      go_wp2_with fail
      refine (rknown_any _ _).mono ?_
      rintro e w' ⟨rfl, rfl⟩
      rw [HK.out]
      go_wp2
      ((try simp only [Exit.inBlock, Exit.then]); refine bodyPost_ret (results_four rfl _ _ _) rfl ?_)
      exact ⟨rfl, rfl⟩
    | true =>
      rw [snTail_ok (by omega) hk]
      have HK := Lib.hid hk
      clear hk
      go_enter Tryz.func53, Tryz.ntmps53
      go_wp2_with fail
      refine (rknown_any _ _).mono ?_
      rintro e w' ⟨rfl, rfl⟩
      rw [HK.out]
      go_wp2
      ((try simp only [Exit.inBlock, Exit.then]); refine bodyPost_ret (results_four rfl _ _ _) rfl ?_)
      exact ⟨rfl, rfl⟩
set_option maxRecDepth 100000 in
set_option maxHeartbeats 1600000 in
theorem rsnread_four (t : List UInt8) (ht : (t.length : Int) ≤ 4611686018427380000) (w : World) (h1 : 4 ≤ t.length) (h2 : num t 0 1 = 1) : Calls Tryz.prog 53 #[.string ⟨t.toArray⟩] w fun e w' => e = .returned (.tuple #[.int .i64 (snR t).1, .int .i64 (snR t).2.1, .int .i64 (snR t).2.2.1, .int .i64 (snR t).2.2.2]) ∧ w = w' := by
  have hr : snR t = snTail (num t 3 1) 4 (num t 1 2) := by unfold snR; rw [if_neg (by omega), if_pos h2, if_neg (by omega)]
  have hc := num_at t 0 (by omega)
  have hc1 := num_at t 3 (by omega)
  rw [h2] at hc
  rw [hc1] at hr
  have hs := num_two t 1
  have hn : getB ((t.drop 1).take 2) = num t 1 2 := rfl
  obtain ⟨L, hL⟩ : ∃ L, L = num t 1 2 := ⟨_, rfl⟩
  rw [← hL] at hr hs hn
  have hll : ((t.drop 1).take 2).length ≤ 8 := by simp; omega
  have hex : (ByteArray.mk t.toArray).extract 1 3 = ByteArray.mk ((t.drop 1).take 2).toArray := by rw [ByteArray.extract_mk]
  have hx : (ByteArray.mk t.toArray)[0]'(by show 0 < t.length; omega) = t[0] := rfl
  have hx1 : (ByteArray.mk t.toArray)[3]'(by show 3 < t.length; omega) = t[3] := rfl
  have d1 : ((t[0]).toNat : Int) = 1 := hc.symm
  have b1 : ((t[3]).toNat : Int) < 256 := by have := (t[3]).toNat_lt; omega
  have hz : t.isEmpty = false := ne_empty (by omega)
  rw [hr]
  have HN := Lib.hid (And.intro hn (And.intro h2 hL))
  obtain ⟨s1, s2⟩ := hs
  have hdl : ((t.drop 1).take 2) = ((t.drop 1).take 2) := rfl
  obtain ⟨D, hD⟩ : ∃ D, D = (t.drop 1).take 2 := ⟨_, rfl⟩
  rw [← hD] at hex hll
  have HD := Lib.hid hD
  clear hr h2 hc hc1 hn hL hD hdl
  have hnum : ∀ w : World, Calls Tryz.prog 60 #[.string ⟨D.toArray⟩] w fun e w' => e = .returned (.int .u64 L) ∧ w = w' := fun w => by
    have := rnumber_any D hll w
    rw [HD.out, HN.out.1] at this
    rw [HD.out]; exact this
  have HNum := Lib.hid hnum
  clear hnum hll
  rcases (by omega : L < 4 ∨ (4 ≤ L ∧ L < 258) ∨ 258 ≤ L) with h3 | ⟨h3, h4⟩ | h3
  · rw [snTail_bad (.inl h3)]
    go_enter Tryz.func53, Tryz.ntmps53
    go_wp2_with fail
    refine (HNum.out _).mono ?_
    rintro e w' ⟨rfl, rfl⟩
    go_wp2
    ((try simp only [Exit.inBlock, Exit.then]); refine bodyPost_ret (results_four rfl _ _ _) rfl ?_)
    exact ⟨rfl, rfl⟩
  · rw [snTail_bad (.inr ⟨rfl, h4⟩)]
    go_enter Tryz.func53, Tryz.ntmps53
    go_wp2_with fail
    refine (HNum.out _).mono ?_
    rintro e w' ⟨rfl, rfl⟩
    go_wp2
    ((try simp only [Exit.inBlock, Exit.then]); refine bodyPost_ret (results_four rfl _ _ _) rfl ?_)
    exact ⟨rfl, rfl⟩
  · cases hk : knownK ((t[3]).toNat : Int) with
    | false =>
      rw [snTail_no (by omega) hk]
      have HK := Lib.hid hk
      clear hk
      go_enter Tryz.func53, Tryz.ntmps53
      go_wp2_with fail
      refine (HNum.out _).mono ?_
      rintro e w' ⟨rfl, rfl⟩
      go_wp2_with fail
      refine (rknown_any _ _).mono ?_
      rintro e w' ⟨rfl, rfl⟩
      rw [HK.out]
      go_wp2
      ((try simp only [Exit.inBlock, Exit.then]); refine bodyPost_ret (results_four rfl _ _ _) rfl ?_)
      exact ⟨rfl, rfl⟩
    | true =>
      rw [snTail_ok (by omega) hk]
      have HK := Lib.hid hk
      clear hk
      go_enter Tryz.func53, Tryz.ntmps53
      go_wp2_with fail
      refine (HNum.out _).mono ?_
      rintro e w' ⟨rfl, rfl⟩
      go_wp2_with fail
      refine (rknown_any _ _).mono ?_
      rintro e w' ⟨rfl, rfl⟩
      rw [HK.out]
      go_wp2
      ((try simp only [Exit.inBlock, Exit.then]); refine bodyPost_ret (results_four rfl _ _ _) rfl ?_)
      exact ⟨rfl, rfl⟩
/-- The reference's Read. -/
theorem rsnread_any (t : List UInt8) (ht : (t.length : Int) ≤ 4611686018427380000) (w : World) : Calls Tryz.prog 53 #[.string ⟨t.toArray⟩] w fun e w' => e = .returned (.tuple #[.int .i64 (snR t).1, .int .i64 (snR t).2.1, .int .i64 (snR t).2.2.1, .int .i64 (snR t).2.2.2]) ∧ w = w' := by
  by_cases h1 : t.length < 1
  · exact rsnread_short t w (.inl h1)
  by_cases h2 : num t 0 1 = 1
  · by_cases h3 : t.length < 4
    · exact rsnread_short t w (.inr (.inl ⟨by omega, h2, h3⟩))
    · exact rsnread_four t ht w (by omega) h2
  · by_cases h3 : t.length < 2
    · exact rsnread_short t w (.inr (.inr ⟨by omega, h2, h3⟩))
    · exact rsnread_two t ht w (by omega) h2
end Go.Proofs.YtbacnaplpfmpnaaGreatDoor
namespace Go.Proofs.YtbacnaplpfmpnaaGreatDoor
open Go.RowKit
set_option linter.unusedVariables false

theorem putL_one (n : Int) (h0 : 0 ≤ n) (h1 : n < 256) : putL n 1 = [UInt8.ofNat n.toNat] := by
  unfold putL
  rw [show (min (1 : Int) 16).toNat = 0 + 1 by decide, putB_succ, byteAt_eq n 0 (by decide), show n / 256 ^ 0 % 256 = n by simp; omega]
  rfl
theorem conv_at {w' : World} {g : Nat} {a : Int} (O : Obj? w' g #[.int .u8 a] 5) : ∀ dst, Tryz.prog.underlying dst = some .string →
    (convert 53 dst (.slice (some ⟨g, 0, none⟩) 1 1)).run Tryz.prog w' = .ok (.string ⟨#[UInt8.ofNat a.toNat]⟩) w' := by
  refine run_convert_bytes_arg (P := Tryz.prog) _ 53 5 Tryz.underlying53 Tryz.underlying5 g 0 1 1 [a] rfl ?_
  intro i hi
  obtain rfl : i = 0 := by omega
  rw [O.cells]; rfl
theorem conv_keep {W w' : World} {g : Nat} {a : Int} (O0 : Obj? W g #[.int .u8 a] 5) (hb : Below W.heap.size W w') : ∀ dst, Tryz.prog.underlying dst = some .string →
    (convert 53 dst (.slice (some ⟨g, 0, none⟩) 1 1)).run Tryz.prog w' = .ok (.string ⟨#[UInt8.ofNat a.toNat]⟩) w' := by
  have O := O0.below hb O0.lt
  refine run_convert_bytes_arg (P := Tryz.prog) _ 53 5 Tryz.underlying53 Tryz.underlying5 g 0 1 1 [a] rfl ?_
  intro i hi
  obtain rfl : i = 0 := by omega
  rw [O.cells]; rfl
theorem Obj?.drew {w : World} {b : Nat} {cs : Array Value} {t : TypeId} (h : Obj? w b cs t) : Obj? w.drew b cs t := h
theorem below_drew {w W : World} (h : Below w.heap.size w W) : Below w.heap.size w W.drew := h.trans ((below_grown (quiet_grown ⟨1, rfl⟩ none)).mono h.size)
theorem below_step {w W w' : World} (h : Below w.heap.size w W) (hb : Below W.heap.size W w') : Below w.heap.size w w' := h.trans (hb.mono h.size)
theorem rbig_two (n : Int) (h0 : 0 ≤ n) (h1 : n < 18446744073709551616) (w : World) :
    Calls Tryz.prog 62 #[.int .u64 n, .int .i64 2] w fun e w' => e = .returned (.string ⟨(putB n 2).toArray⟩) ∧ Below w.heap.size w w' := rbig_any n h0 h1 2 (by decide) w
set_option maxRecDepth 100000 in
set_option maxHeartbeats 1600000 in
theorem rsnbytes_any (kind rest : Int) (hr : rest ≤ 9223372036854775807) (w : World) : Calls Tryz.prog 46 #[.int .i64 kind, .int .i64 rest] w fun e w' => e = .returned (.tuple #[.string ⟨(snB kind rest).1.toArray⟩, .int .i64 (snB kind rest).2]) ∧ Below w.heap.size w w' := by
  cases hk : knownK kind with
  | false =>
    have e : snB kind rest = ([], 8) := by unfold snB; rw [if_pos hk]
    rw [e]
    have HK := Lib.hid hk
    clear hk e
    go_enter Tryz.func46, Tryz.ntmps46
    go_wp2_with fail
    refine (rknown_any kind _).mono ?_
    rintro r w' ⟨rfl, rfl⟩
    rw [HK.out]
    go_wp2
    go_ret2
    exact ⟨rfl, Below.refl _ _⟩
  | true =>
  have hkr : 0 ≤ kind ∧ kind ≤ 254 := by
    unfold knownK at hk
    split at hk
    · cases hk
    split at hk
    · omega
    · simp at hk; omega
  obtain ⟨hk0, hk1⟩ := hkr
  have HK := Lib.hid hk
  by_cases h1 : rest < 0
  · have e : snB kind rest = ([], 2) := by unfold snB; rw [if_neg (by simp [hk]), if_pos h1]
    rw [e]
    clear hk e
    go_enter Tryz.func46, Tryz.ntmps46
    go_wp2_with fail
    refine (rknown_any kind _).mono ?_
    rintro r w' ⟨rfl, rfl⟩
    rw [HK.out]
    go_wp2
    go_ret2
    exact ⟨rfl, Below.refl _ _⟩
  by_cases h2 : 65531 < rest
  · have e : snB kind rest = ([], 4) := by unfold snB; rw [if_neg (by simp [hk]), if_neg h1, if_pos h2]
    rw [e]
    clear hk e
    go_enter Tryz.func46, Tryz.ntmps46
    go_wp2_with fail
    refine (rknown_any kind _).mono ?_
    rintro r w' ⟨rfl, rfl⟩
    rw [HK.out]
    go_wp2
    go_ret2
    exact ⟨rfl, Below.refl _ _⟩
  have e : snB kind rest = (snS kind rest, 0) := by unfold snB; rw [if_neg (by simp [hk]), if_neg h1, if_neg h2]
  rw [e]
  by_cases h3 : rest ≤ 253
  · have e2 : snS kind rest = [UInt8.ofNat (rest + 2).toNat, UInt8.ofNat kind.toNat] := by unfold snS; rw [if_pos h3, putL_one _ (by omega) (by omega), putL_one _ hk0 (by omega)]; rfl
    have HE := Lib.hid e2
    have hcv := conv_two (rest + 2) kind w
    clear hk e e2
    go_enter Tryz.func46, Tryz.ntmps46
    go_wp2_with fail
    refine (rknown_any kind _).mono ?_
    rintro r w' ⟨rfl, rfl⟩
    rw [HK.out]
    go_wp2
    go_ret2
    exact ⟨by rw [HE.out]; rfl, below_al (Below.refl _ _) _⟩
  · obtain ⟨X, hX⟩ : ∃ X, X = putB (rest + 4) 2 := ⟨_, rfl⟩
    obtain ⟨Y, hY⟩ : ∃ Y, Y = [1] ++ X := ⟨_, rfl⟩
    obtain ⟨Z, hZ⟩ : ∃ Z, Z = Y ++ [UInt8.ofNat kind.toNat] := ⟨_, rfl⟩
    have e2 : snS kind rest = Z := by unfold snS; rw [if_neg h3, putL_one 1 (by omega) (by omega), putL_one _ hk0 (by omega), hZ, hY, hX]; rfl
    have hap1 : ByteArray.mk #[1] ++ ByteArray.mk X.toArray = ByteArray.mk Y.toArray := by rw [hY]; exact ByteArray.mk_append_mk [1] _
    have hap2 : ByteArray.mk Y.toArray ++ ByteArray.mk #[UInt8.ofNat kind.toNat] = ByteArray.mk Z.toArray := by rw [hZ]; exact ByteArray.mk_append_mk _ [UInt8.ofNat kind.toNat]
    have hl1 : X.length ≤ 2 := by rw [hX, length_putB]; exact Nat.le_refl _
    have hl2 : Y.length ≤ 3 := by rw [hY]; simp; omega
    have hs1 : ¬ 9223372036854775807 < 1 + X.length := by omega
    have hs2 : ¬ 9223372036854775807 < Y.length + 1 := by omega
    have e4 : IntKind.i64.wrap (rest + 4) = rest + 4 := i64_ok _ (by omega) (by omega)
    have u2 : IntKind.u64.wrap (rest + 4) = rest + 4 := wraps_u64 _ (by omega) (by omega)
    have hbig : ∀ w, Calls Tryz.prog 62 #[.int .u64 (rest + 4), .int .i64 2] w fun e w' => e = .returned (.string ⟨X.toArray⟩) ∧ Below w.heap.size w w' := by rw [hX]; exact rbig_two _ (by omega) (by omega)
    rw [e2]
    have HE := Lib.hid (And.intro hap1 hap2)
    have HBig := Lib.hid hbig
    have HX := Lib.hid (And.intro hX (And.intro hY (And.intro hZ e2)))
    have u3 : IntKind.u8.wrap kind = kind := by rw [IntKind.wrap_u8]; omega
    have HW := Lib.hid (And.intro e4 (And.intro u2 u3))
    have hcv := conv_one kind
    have Hcv := Lib.hid hcv
    clear hk e e2 hap1 hap2 hX hY hZ hbig e4 u2 u3 hcv
    go_enter Tryz.func46, Tryz.ntmps46
    go_wp2_with fail
    refine (rknown_any kind _).mono ?_
    rintro r w' ⟨rfl, rfl⟩
    rw [HK.out]
    go_wp2_with fail
    obtain ⟨e4, u2, u3⟩ := HW.out
    have hS : Below w.heap.size w w.drew := below_grown (quiet_grown ⟨1, rfl⟩ none)
    obtain ⟨hap1, hap2⟩ := HE.out
    have hcv := Hcv.out
    have hcv3 := conv_at (w' := (w.alloc (.cells #[.int .u8 kind] 5 (0, 0))).drew) (g := w.heap.size) (a := kind) (Obj?.new w _ _)
    go_region_with ((go_at_call 62; ((with_reducible refine (HBig.out _).mono ?_); (rintro e w' ⟨rfl, hb⟩; (try have hcv2 := conv_keep (g := w.heap.size) (a := kind) (Obj?.drew (Obj?.new w _ _)) hb)))))
    all_goals clear hcv hcv3 hap1 hap2 e4 u2 u3
    all_goals go_wp2
    all_goals go_ret2
    all_goals exact ⟨rfl, by first | exact below_al (below_step hS hb) _ | exact below_step (below_drew (below_al (Below.refl _ _) _)) hb⟩
end Go.Proofs.YtbacnaplpfmpnaaGreatDoor
namespace Go.Proofs.YtbacnaplpfmpnaaGreatDoor
open Go.RowKit
set_option linter.unusedVariables false

set_option maxRecDepth 100000 in
set_option maxHeartbeats 400000 in
theorem rmay_no (k : Int) (f : Fl) (h : flagOk f.q f.typ = false) (w : World) : Calls Tryz.prog 70 #[.int .i64 k, .agg #[.bool f.dup, .int .i64 f.q, .bool f.retain, .bool f.will, .bool f.clean, .int .i64 f.typ]] w fun e w' =>
    e = .returned (.bool (mayF k f)) ∧ Below w.heap.size w w' := by
  have HM := Lib.hid (And.intro (show (flagV f).2 = 7 by unfold flagV flagF; rw [h]; rfl) (show mayF k f = false by unfold mayF; rw [h]; rfl))
  have hA : Below w.heap.size w (w.alloc (.cells #[.bool f.dup, .int .i64 f.q, .bool f.retain, .bool f.will, .bool f.clean, .int .i64 f.typ] 23 (0, 0))) := (Below.refl _ _).alloc (Nat.le_refl _) _
  have HO := Lib.hid (Obj?.new w #[.bool f.dup, .int .i64 f.q, .bool f.retain, .bool f.will, .bool f.clean, .int .i64 f.typ] 23)
  rw [HM.out.2]
  clear h
  go_enter Tryz.func70, Tryz.ntmps70
  go_wp2_with fail
  refine (ruses_any k _).mono ?_
  rintro e w1 ⟨rfl, hb⟩
  have hB1 := hA.trans (hb.mono hA.size)
  have O := HO.out.below hb HO.out.lt
  have kc := O.cells
  have hz := O.lt
  clear hb O
  go_wp2_with fail
  refine (rflag_fl f _).mono ?_
  rintro e w2 ⟨rfl, hb⟩
  rw [HM.out.1]
  have hB2 := below_al hB1 (.cells #[.bool (usesF k).dup, .int .i64 (usesF k).q, .bool (usesF k).retain, .bool (usesF k).will, .bool (usesF k).clean, .int .i64 (usesF k).typ] 23 (0, 0))
  have hB3 := hB2.trans (hb.mono hB2.size)
  clear hb kc hz HM HO
  go_upto_region 3 with fail
  dsimp only [List.append]
  go_wp2_with fail
  go_ret
  exact ⟨rfl, hB3⟩

set_option maxRecDepth 100000 in
set_option maxHeartbeats 3200000 in
theorem rmay_go (k : Int) (f : Fl) (h : flagOk f.q f.typ = true) (u : Fl) (hu : usesF k = u) (hu' : u = ⟨false, 0, false, true, true, 0⟩ ∨ u = ⟨false, 1, true, false, false, 0⟩ ∨ u = ⟨false, 1, false, false, false, 0⟩ ∨ u = ⟨true, 1, true, false, false, 1⟩ ∨
    u = ⟨true, 1, false, false, false, 1⟩ ∨ u = ⟨false, 0, false, false, false, 1⟩ ∨ u = fl0) (w : World) : Calls Tryz.prog 70 #[.int .i64 k, .agg #[.bool f.dup, .int .i64 f.q, .bool f.retain, .bool f.will, .bool f.clean, .int .i64 f.typ]] w fun e w' =>
    e = .returned (.bool (mayF k f)) ∧ Below w.heap.size w w' := by
  have HM := Lib.hid (And.intro (show (flagV f).2 = 0 by unfold flagV flagF; rw [h]; rfl) (show mayF k f = ((u.dup || !f.dup) && (u.q == 1 || f.q == 0) && (u.retain || !f.retain) && (u.will || !f.will) && (u.clean || !f.clean) && (u.typ == 1 || f.typ == 0) && (decide (0 ≤ f.q) || k == 12)) by unfold mayF; rw [h, hu]; rfl))
  have HU := Lib.hid hu
  have hA : Below w.heap.size w (w.alloc (.cells #[.bool f.dup, .int .i64 f.q, .bool f.retain, .bool f.will, .bool f.clean, .int .i64 f.typ] 23 (0, 0))) := (Below.refl _ _).alloc (Nat.le_refl _) _
  have HO := Lib.hid (Obj?.new w #[.bool f.dup, .int .i64 f.q, .bool f.retain, .bool f.will, .bool f.clean, .int .i64 f.typ] 23)
  have hm := HM.out.2
  rw [hm]
  clear h hu hm
  go_enter Tryz.func70, Tryz.ntmps70
  go_wp2_with fail
  refine (ruses_any k _).mono ?_
  rintro e w1 ⟨rfl, hb⟩
  rw [HU.out]
  have hB1 := hA.trans (hb.mono hA.size)
  have O := HO.out.below hb HO.out.lt
  have kc := O.cells
  have hz := O.lt
  have HO1 := Lib.hid O
  clear hb O
  go_wp2_with fail
  refine (rflag_fl f _).mono ?_
  rintro e w2 ⟨rfl, hb⟩
  rw [HM.out.1]
  have hB2 := below_al hB1 (.cells #[.bool u.dup, .int .i64 u.q, .bool u.retain, .bool u.will, .bool u.clean, .int .i64 u.typ] 23 (0, 0))
  have hB3 := hB2.trans (hb.mono hB2.size)
  have O2 := (HO1.out.alloc (.cells #[.bool u.dup, .int .i64 u.q, .bool u.retain, .bool u.will, .bool u.clean, .int .i64 u.typ] 23 (0, 0))).below hb (by simp; omega)
  have U2 := (Obj?.new w1 #[.bool u.dup, .int .i64 u.q, .bool u.retain, .bool u.will, .bool u.clean, .int .i64 u.typ] 23).below hb (by simp)
  clear hb kc hz HM HO HO1 HU
  have kc := O2.cells
  have ku := U2.cells
  clear O2 U2
  rcases hu' with rfl | rfl | rfl | rfl | rfl | rfl | rfl
  all_goals go_upto_region 3 with fail
  all_goals dsimp only [List.append]
  all_goals go_wp2_with fail
  all_goals go_ret
  all_goals refine ⟨?_, hB3⟩
  all_goals simp_all
/-- The reference's May. -/
theorem rmay_any (k : Int) (f : Fl) (w : World) : Calls Tryz.prog 70 #[.int .i64 k, .agg #[.bool f.dup, .int .i64 f.q, .bool f.retain, .bool f.will, .bool f.clean, .int .i64 f.typ]] w fun e w' =>
    e = .returned (.bool (mayF k f)) ∧ Below w.heap.size w w' := by
  cases h : flagOk f.q f.typ with
  | false => exact rmay_no k f h w
  | true => exact rmay_go k f h _ rfl (uses_cls k) w
end Go.Proofs.YtbacnaplpfmpnaaGreatDoor
