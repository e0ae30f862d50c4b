/- The walks of octet.Put and octet.Get. -/
import Derived.Test.YtbacnaplpfmpnaaDoorChecked
import Derived.Test.YtbacnaplpfmpnaaDoorOctA
namespace Go.Proofs.YtbacnaplpfmpnaaDoor
open Go.RowKit

theorem Tryd.infoU8 : (Tryd.prog.info? 5).map (fun i => (i.zero, i.size, i.bytes)) = some (some (.int .u8 0), 1, 1) := by kernel_rfl

set_option maxRecDepth 100000 in
set_option maxHeartbeats 400000 in
theorem put_pos (n : Int) (k : Nat) (hk : 1 ≤ k) (hk2 : k ≤ 16) (size : Int) (hs1 : 1 ≤ size) (hs2 : (if 16 < size then 16 else size) = k) (w : World) :
    Calls Tryd.prog 44 #[.int .u64 n, .int .i64 size] w fun e w' => e = .returned (.string ⟨(putB n k).toArray⟩) ∧ Below w.heap.size w w' := by
  obtain ⟨i0, hi, hz0, hz1, hz2⟩ := info_parts Tryd.infoU8
  go_enter Tryd.func44, Tryd.ntmps44
  go_wp2_with (at_make; refine wpList_make_full _ rfl _ _ 62 rfl w.heap.size 5 i0 (.int .u8 0) 1 Tryd.underlying62 hi hz0 hz1 .i64 .i64 _ _ k rfl rfl rfl rfl (by rw [hz2]; omega) (by unfold maxLen; omega) (Nat.le_refl _) ?_; intro w1 hown hgrow)
  go_loopw [14] (fun i wr => ∃ j : Nat, j ≤ k ∧ i = .int .i64 j ∧ wr.ownsRow w.heap.size 5 1 (.slice (some ⟨w.heap.size, 0, none⟩) k k) k ((putTo n k j).map (Value.int .u8)) ∧ Below w.heap.size w wr) (fun i _ => k - (intOf i).toNat)
  case atStart =>
    refine ⟨0, Nat.zero_le _, rfl, ?_, (Below.refl _ _).grown hgrow (Nat.le_refl _) (by simp)⟩
    have e : (madeCells #[Value.int IntKind.u8 0] k).toList = (putTo n k 0).map (Value.int .u8) := by rw [toList_madeCells_one, putTo_zero]; simp
    rw [← e]; simpa [Value.cells] using hown
  case round =>
    obtain ⟨j, hj, rfl, ho, hb⟩ := hrel
    by_cases hlt : j < k
    · by_cases h8 : j < 8
      · have hc := ho.cellAt (k - 1 - j) (by omega)
        rw [List.getElem?_eq_getElem (by simp [putTo]; omega)] at hc
        have hf := ho.frozenAt (k - 1 - j)
        have hs := (ho.stored (k - 1 - j) (.int .u8 (n / 2 ^ (8 * j) % 256))).1
        rw [← List.map_set, show n / 2 ^ (8 * j) % 256 = byteAt n j by simp [byteAt, h8], ← putTo_succ n k j hlt] at hs
        have Hs := Lib.hid hs; clear hs
        go_wp2
        go_roundw
        case rel => exact ⟨j + 1, by omega, by go_num, by have := Hs.out; simpa [byteAt, h8] using this, hb.setCell (by simp) _⟩
        case measure => simp [intOf]; omega
      · have hs := ho
        rw [← putTo_self n k j hlt h8] at hs
        have Hs := Lib.hid hs; clear hs
        go_wp2
        go_roundw
        case rel => exact ⟨j + 1, by omega, by go_num, Hs.out, hb⟩
        case measure => simp [intOf]; omega
    · obtain rfl : j = k := by omega
      have hconv := run_convert_bytes_arg (P := Tryd.prog) wr 62 5 Tryd.underlying62 Tryd.underlying5 w.heap.size 0 j j (putTo n j j) (length_putTo _ _ _) (fun i hi => by
        have hc := ho.cellAt i (by omega)
        rw [List.getElem?_eq_getElem (by simp [putTo]; omega)] at hc
        simp [hc, List.getD, List.getElem?_eq_getElem (show i < (putTo n j j).length by simp [putTo]; omega)]) 9 Tryd.underlying9
      go_wp2
      go_ret
      exact ⟨congrArg Ending.returned (show Value.string (strOfNums (putTo n j j)) = _ by rw [strOfNums, putTo_all]), hb⟩

/-- octet.Put. -/
theorem put_any (n size : Int) (w : World) :
    Calls Tryd.prog 44 #[.int .u64 n, .int .i64 size] w fun e w' => e = .returned (.string ⟨(putL n size).toArray⟩) ∧ Below w.heap.size w w' := by
  by_cases h : size ≤ 0
  · have e : putL n size = [] := by unfold putL; rw [show (min size 16).toNat = 0 by omega]; rfl
    rw [e]
    go_enter Tryd.func44, Tryd.ntmps44
    go_wp2
    go_ret
    exact ⟨rfl, Below.refl _ _⟩
  · exact put_pos n (min size 16).toNat (by omega) (by omega) size (by omega) (by omega) w

theorem wraps_u64 (n : Int) (h₀ : 0 ≤ n) (h₁ : n < 2 ^ 64) : IntKind.u64.wrap n = n := by rw [IntKind.wrap_u64]; omega
theorem or_byte (g : Int) (c : Nat) (h0 : 0 ≤ g) (h : g < 256 ^ 7) (hc : c < 256) : bits .or .u64 (IntKind.u64.wrap (g * 256)) (IntKind.u64.wrap (c : Int)) = g * 256 + c := by
  rw [wraps_u64 _ (by omega) (by omega), wraps_u64 _ (by omega) (by omega)]
  exact bits_join .u64 64 (by decide) wraps_u64 8 (g * 256) (c : Int) (by omega) (by omega) (by omega) (by omega) (by omega) (by omega)

set_option maxRecDepth 100000 in
set_option maxHeartbeats 400000 in
/-- octet.Get of at most eight bytes. -/
theorem get_low (l : List UInt8) (h : l.length ≤ 8) (w : World) :
    Calls Tryd.prog 41 #[.string ⟨l.toArray⟩] w fun e w' => e = .returned (.int .u64 (getB l)) ∧ w = w' := by
  go_enter Tryd.func41, Tryd.ntmps41
  go_wp2
  go_loop [3, 15] (fun n i => ∃ j : Nat, j ≤ l.length ∧ i = .int .i64 j ∧ n = .int .u64 (getB (l.take j))) (fun _ i => l.length - (intOf i).toNat)
  case atStart => exact ⟨0, Nat.zero_le _, rfl, rfl⟩
  case round =>
    obtain ⟨j, hj, rfl, rfl⟩ := hrel
    by_cases hlt : j < l.length
    · have e := getB_take l j hlt
      have e2 := or_byte (getB (l.take j)) l[j].toNat (getB_nonneg _) (getB_lt _ 7 (by simp; omega)) l[j].toNat_lt
      rw [← e] at e2
      have E := Lib.hid e2; clear e e2
      go_wp2
      go_round
      case rel => exact ⟨j + 1, by omega, by go_num, congrArg _ E.out⟩
      case measure => simp [intOf]; omega
    · obtain rfl : j = l.length := by omega
      go_wp2
      go_ret
      exact ⟨rfl, rfl⟩

set_option maxHeartbeats 400000 in
/-- octet.Get. -/
theorem get_any (l : List UInt8) (hl : (l.length : Int) ≤ 9223372036854775807) (w : World) :
    Calls Tryd.prog 41 #[.string ⟨l.toArray⟩] w fun e w' => e = .returned (.int .u64 (getL l)) ∧ w = w' := by
  by_cases h : l.length ≤ 8
  · rw [getL, show l.length - 8 = 0 by omega]
    exact get_low l h w
  · go_enter Tryd.func41, Tryd.ntmps41
    go_wp2
    have hx : (ByteArray.mk l.toArray).extract (l.length - 8) l.length = ByteArray.mk (l.drop (l.length - 8)).toArray := by
      rw [ByteArray.extract_mk]; congr 2; exact List.take_of_length_le (by simp)
    have hy : ((l.length - (l.length - 8) : Nat) : Int) = ((l.drop (l.length - 8)).length : Int) := by simp
    have hm : (l.drop (l.length - 8)).length ≤ 8 := by simp; omega
    rw [hx, hy]
    obtain ⟨m, hm0⟩ : ∃ m, m = l.drop (l.length - 8) := ⟨_, rfl⟩
    rw [← hm0] at hm ⊢
    have Hm := Lib.hid hm0
    clear hx hy hm0
    go_loop [3, 15] (fun n i => ∃ j : Nat, j ≤ m.length ∧ i = .int .i64 j ∧ n = .int .u64 (getB (m.take j))) (fun _ i => m.length - (intOf i).toNat)
    case atStart => exact ⟨0, Nat.zero_le _, rfl, rfl⟩
    case round =>
      obtain ⟨j, hj, rfl, rfl⟩ := hrel
      by_cases hlt : j < m.length
      · have e := getB_take m j hlt
        have e2 := or_byte (getB (m.take j)) m[j].toNat (getB_nonneg _) (getB_lt _ 7 (by simp; omega)) m[j].toNat_lt
        rw [← e] at e2
        have E := Lib.hid e2; clear e e2
        go_wp2
        go_round
        case rel => exact ⟨j + 1, by omega, by go_num, congrArg _ E.out⟩
        case measure => simp [intOf]; omega
      · obtain rfl : j = m.length := by omega
        go_wp2
        go_ret
        exact ⟨congrArg (fun x => Ending.returned (Value.int .u64 x)) (by rw [getL, ← Hm.out]), rfl⟩
end Go.Proofs.YtbacnaplpfmpnaaDoor
