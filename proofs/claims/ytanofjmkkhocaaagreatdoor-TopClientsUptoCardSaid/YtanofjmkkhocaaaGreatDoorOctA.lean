/- The bytes of numbers: the Lean functions that octet.Put and octet.Get compute, and their plain lemmas. The walks of octet.Put and octet.Get. The walks of octet.Cursor's methods. Plain laws on the bytes of numbers. polyglotlaw01.lives, polyglotkit.Pick. -/
import Derived.Test.YtanofjmkkhocaaaGreatDoorBase
import Derived.Test.YtanofjmkkhocaaaGreatDoorChecked
import GoSem.Op.String
import Derived.Deep.QuietTactic
set_option maxRecDepth 100000
set_option maxHeartbeats 400000
namespace Go.Proofs.YtanofjmkkhocaaaGreatDoor
open Go.RowKit
def byteAt (n : Int) (i : Nat) : Int := if i < 8 then n / 2 ^ (8 * i) % 256 else 0
def putTo (n : Int) (k i : Nat) : List Int := (List.range k).map fun p => if k - 1 - p < i then byteAt n (k - 1 - p) else 0
def putB (n : Int) (k : Nat) : List UInt8 := (List.range k).map fun p => UInt8.ofNat (byteAt n (k - 1 - p)).toNat
def putL (n size : Int) : List UInt8 := putB n (min size 16).toNat
theorem putTo_zero (n : Int) (k : Nat) : putTo n k 0 = List.replicate k 0 := by
 apply List.ext_getElem <;> simp [putTo]
theorem putTo_succ (n : Int) (k i : Nat) (hi : i < k) : putTo n k (i + 1) = (putTo n k i).set (k - 1 - i) (byteAt n i) := by
 apply List.ext_getElem
 ·simp [putTo]
 ·intro p h1 h2
  simp [putTo] at h1
  simp [putTo, List.getElem_set]
  by_cases hp : p = k - 1 - i
  ·subst hp
   rw [if_pos (by omega), if_pos rfl]
   congr 1; omega
  ·rw [if_neg (by omega : ¬ k - 1 - i = p)]
   by_cases hq : k - 1 - p < i
   ·rw [if_pos (by omega), if_pos hq]
   ·rw [if_neg (by omega), if_neg hq]
theorem putTo_self (n : Int) (k i : Nat) (hi : i < k) (h8 : ¬ i < 8) : putTo n k (i + 1) = putTo n k i := by
 rw [putTo_succ n k i hi]
 apply List.ext_getElem
 ·simp
 ·intro p h1 h2
  simp [List.getElem_set]
  intro hp
  subst hp
  simp [putTo, byteAt, h8]
  omega
theorem putTo_all (n : Int) (k : Nat) : (putTo n k k).map (fun n => UInt8.ofNat n.toNat) = putB n k := by
 apply List.ext_getElem
 ·simp [putTo, putB]
 ·intro p h1 h2
  simp [putTo] at h1
  simp [putTo, putB]
  rw [if_pos (by omega)]
theorem length_putTo (n : Int) (k i : Nat) : (putTo n k i).length = k := by simp [putTo]
theorem length_putB (n : Int) (k : Nat) : (putB n k).length = k := by simp [putB]
theorem length_putL (n size : Int) : (putL n size).length = (min size 16).toNat := by simp [putL, length_putB]
def getB (l : List UInt8) : Int := l.foldl (fun n c => n * 256 + c.toNat) 0
def getL (l : List UInt8) : Int := getB (l.drop (l.length - 8))
theorem getB_snoc (l : List UInt8) (c : UInt8) : getB (l ++ [c]) = getB l * 256 + c.toNat := by simp [getB, List.foldl_append]
theorem getB_take (l : List UInt8) (i : Nat) (h : i < l.length) : getB (l.take (i + 1)) = getB (l.take i) * 256 + l[i].toNat := by
 rw [List.take_succ_eq_append_getElem h, getB_snoc]
theorem getB_bound : ∀ (n : Nat) (l : List UInt8), l.length = n → 0 ≤ getB l ∧ getB l < 256 ^ l.length
 | 0, l, h => by obtain rfl := List.length_eq_zero_iff.1 h; decide
 | n + 1, l, h => by
  have hne : l ≠ [] := by intro e; simp [e] at h
  have e := List.dropLast_concat_getLast hne
  have ih := getB_bound n l.dropLast (by simp [h])
  have hl : l.length = l.dropLast.length + 1 := by simp; omega
  rw [hl, ← e, getB_snoc]
  have hb : (l.getLast hne).toNat < 256 := (l.getLast hne).toNat_lt
  rw [e, Int.pow_succ]
  omega
theorem getB_nonneg (l : List UInt8) : 0 ≤ getB l := (getB_bound _ l rfl).1
theorem pow256_mono (a b : Nat) (h : a ≤ b) : (256 : Int) ^ a ≤ 256 ^ b := by
 obtain ⟨c, rfl⟩ := Nat.exists_eq_add_of_le h
 rw [Int.pow_add]
 have h1 : (0 : Int) < 256 ^ a := Int.pow_pos (by decide)
 have h2 : (0 : Int) < 256 ^ c := Int.pow_pos (by decide)
 have : (256 : Int) ^ a * 1 ≤ 256 ^ a * 256 ^ c := Int.mul_le_mul_of_nonneg_left (by omega) (by omega)
 omega
theorem getB_lt (l : List UInt8) (k : Nat) (h : l.length ≤ k) : getB l < 256 ^ k :=
 Int.lt_of_lt_of_le (getB_bound _ l rfl).2 (pow256_mono _ _ h)
end Go.Proofs.YtanofjmkkhocaaaGreatDoor
namespace Go.Proofs.YtanofjmkkhocaaaGreatDoor
open Go.RowKit
theorem Tryz.infoU8 : (Tryz.prog.info? 5).map (fun i => (i.zero, i.size, i.bytes)) = some (some (.int .u8 0), 1, 1) := by kernel_rfl
theorem put_pos (n : Int) (k : Nat) (hk : 1 ≤ k) (hk2 : k ≤ 16) (size : Int) (hs1 : 1 ≤ size) (hs2 : (if 16 < size then 16 else size) = k) (w : World) :
  Calls Tryz.prog 235 #[.int .u64 n, .int .i64 size] w fun e w' => e = .returned (.string ⟨(putB n k).toArray⟩) ∧ Below w.heap.size w w' := by
 obtain ⟨i0, hi, hz0, hz1, hz2⟩ := info_parts Tryz.infoU8
 go_enter Tryz.func235, Tryz.ntmps235
 go_wp2_with (at_make; refine wpList_make_full _ rfl _ _ 133 rfl w.heap.size 5 i0 (.int .u8 0) 1 Tryz.underlying133 hi hz0 hz1 .i64 .i64 _ _ k rfl rfl rfl rfl (by rw [hz2]; omega) (by unfold maxLen; omega) (Nat.le_refl _) ?_; intro w1 hown hgrow)
 go_loopw [14] (fun i wr => ∃ j : Nat, j ≤ k ∧ i = .int .i64 j ∧ wr.ownsRow w.heap.size 5 1 (.slice (some ⟨w.heap.size, 0, none⟩) k k) k ((putTo n k j).map (Value.int .u8)) ∧ Below w.heap.size w wr) (fun i _ => k - (intOf i).toNat)
 case atStart =>
  refine ⟨0, Nat.zero_le _, rfl, ?_, (Below.refl _ _).grown hgrow (Nat.le_refl _) (by simp)⟩
  have e : (madeCells #[Value.int IntKind.u8 0] k).toList = (putTo n k 0).map (Value.int .u8) := by rw [toList_madeCells_one, putTo_zero]; simp
  rw [← e]; simpa [Value.cells] using hown
 case round =>
  obtain ⟨j, hj, rfl, ho, hb⟩ := hrel
  by_cases hlt : j < k
  ·by_cases h8 : j < 8
   ·have hc := ho.cellAt (k - 1 - j) (by omega)
    rw [List.getElem?_eq_getElem (by simp [putTo]; omega)] at hc
    have hf := ho.frozenAt (k - 1 - j)
    have hs := (ho.stored (k - 1 - j) (.int .u8 (n / 2 ^ (8 * j) % 256))).1
    rw [← List.map_set, show n / 2 ^ (8 * j) % 256 = byteAt n j by simp [byteAt, h8], ← putTo_succ n k j hlt] at hs
    have Hs := Lib.hid hs; clear hs
    go_wp2
    go_roundw
    case rel => exact ⟨j + 1, by omega, by go_num, by have := Hs.out; simpa [byteAt, h8] using this, hb.setCell (by simp) _⟩
    case measure => simp [intOf]; omega
   ·have hs := ho
    rw [← putTo_self n k j hlt h8] at hs
    have Hs := Lib.hid hs; clear hs
    go_wp2
    go_roundw
    case rel => exact ⟨j + 1, by omega, by go_num, Hs.out, hb⟩
    case measure => simp [intOf]; omega
  ·obtain rfl : j = k := by omega
   have hconv := run_convert_bytes_arg (P := Tryz.prog) wr 133 5 Tryz.underlying133 Tryz.underlying5 w.heap.size 0 j j (putTo n j j) (length_putTo _ _ _) (fun i hi => by
    have hc := ho.cellAt i (by omega)
    rw [List.getElem?_eq_getElem (by simp [putTo]; omega)] at hc
    simp [hc, List.getD, List.getElem?_eq_getElem (show i < (putTo n j j).length by simp [putTo]; omega)]) 9 Tryz.underlying9
   go_wp2
   go_ret
   exact ⟨congrArg Ending.returned (show Value.string (strOfNums (putTo n j j)) = _ by rw [strOfNums, putTo_all]), hb⟩
theorem put_any (n size : Int) (w : World) :
  Calls Tryz.prog 235 #[.int .u64 n, .int .i64 size] w fun e w' => e = .returned (.string ⟨(putL n size).toArray⟩) ∧ Below w.heap.size w w' := by
 by_cases h : size ≤ 0
 ·have e : putL n size = [] := by unfold putL; rw [show (min size 16).toNat = 0 by omega]; rfl
  rw [e]
  go_enter Tryz.func235, Tryz.ntmps235
  go_wp2
  go_ret
  exact ⟨rfl, Below.refl _ _⟩
 ·exact put_pos n (min size 16).toNat (by omega) (by omega) size (by omega) (by omega) w
theorem wraps_u64 (n : Int) (h₀ : 0 ≤ n) (h₁ : n < 2 ^ 64) : IntKind.u64.wrap n = n := by rw [IntKind.wrap_u64]; omega
theorem or_byte (g : Int) (c : Nat) (h0 : 0 ≤ g) (h : g < 256 ^ 7) (hc : c < 256) : bits .or .u64 (IntKind.u64.wrap (g * 256)) (IntKind.u64.wrap (c : Int)) = g * 256 + c := by
 rw [wraps_u64 _ (by omega) (by omega), wraps_u64 _ (by omega) (by omega)]
 exact bits_join .u64 64 (by decide) wraps_u64 8 (g * 256) (c : Int) (by omega) (by omega) (by omega) (by omega) (by omega) (by omega)
theorem get_low (l : List UInt8) (h : l.length ≤ 8) (w : World) :
  Calls Tryz.prog 65 #[.string ⟨l.toArray⟩] w fun e w' => e = .returned (.int .u64 (getB l)) ∧ w = w' := by
 go_enter Tryz.func65, Tryz.ntmps65
 go_wp2
 go_loop [3, 15] (fun n i => ∃ j : Nat, j ≤ l.length ∧ i = .int .i64 j ∧ n = .int .u64 (getB (l.take j))) (fun _ i => l.length - (intOf i).toNat)
 case atStart => exact ⟨0, Nat.zero_le _, rfl, rfl⟩
 case round =>
  obtain ⟨j, hj, rfl, rfl⟩ := hrel
  by_cases hlt : j < l.length
  ·have e := getB_take l j hlt
   have e2 := or_byte (getB (l.take j)) l[j].toNat (getB_nonneg _) (getB_lt _ 7 (by simp; omega)) l[j].toNat_lt
   rw [← e] at e2
   have E := Lib.hid e2; clear e e2
   go_wp2
   go_round
   case rel => exact ⟨j + 1, by omega, by go_num, congrArg _ E.out⟩
   case measure => simp [intOf]; omega
  ·obtain rfl : j = l.length := by omega
   go_wp2
   go_ret
   exact ⟨rfl, rfl⟩
theorem get_any (l : List UInt8) (hl : (l.length : Int) ≤ 9223372036854775807) (w : World) :
  Calls Tryz.prog 65 #[.string ⟨l.toArray⟩] w fun e w' => e = .returned (.int .u64 (getL l)) ∧ w = w' := by
 by_cases h : l.length ≤ 8
 ·rw [getL, show l.length - 8 = 0 by omega]
  exact get_low l h w
 ·go_enter Tryz.func65, Tryz.ntmps65
  go_wp2
  have hx : (ByteArray.mk l.toArray).extract (l.length - 8) l.length = ByteArray.mk (l.drop (l.length - 8)).toArray := by
   rw [ByteArray.extract_mk]; congr 2; exact List.take_of_length_le (by simp)
  have hy : ((l.length - (l.length - 8) : Nat) : Int) = ((l.drop (l.length - 8)).length : Int) := by simp
  have hm : (l.drop (l.length - 8)).length ≤ 8 := by simp; omega
  rw [hx, hy]
  obtain ⟨m, hm0⟩ : ∃ m, m = l.drop (l.length - 8) := ⟨_, rfl⟩
  rw [← hm0] at hm ⊢
  have Hm := Lib.hid hm0
  clear hx hy hm0
  go_loop [3, 15] (fun n i => ∃ j : Nat, j ≤ m.length ∧ i = .int .i64 j ∧ n = .int .u64 (getB (m.take j))) (fun _ i => m.length - (intOf i).toNat)
  case atStart => exact ⟨0, Nat.zero_le _, rfl, rfl⟩
  case round =>
   obtain ⟨j, hj, rfl, rfl⟩ := hrel
   by_cases hlt : j < m.length
   ·have e := getB_take m j hlt
    have e2 := or_byte (getB (m.take j)) m[j].toNat (getB_nonneg _) (getB_lt _ 7 (by simp; omega)) m[j].toNat_lt
    rw [← e] at e2
    have E := Lib.hid e2; clear e e2
    go_wp2
    go_round
    case rel => exact ⟨j + 1, by omega, by go_num, congrArg _ E.out⟩
    case measure => simp [intOf]; omega
   ·obtain rfl : j = m.length := by omega
    go_wp2
    go_ret
    exact ⟨congrArg (fun x => Ending.returned (Value.int .u64 x)) (by rw [getL, ← Hm.out]), rfl⟩
end Go.Proofs.YtanofjmkkhocaaaGreatDoor
namespace Go.Proofs.YtanofjmkkhocaaaGreatDoor
open Go.RowKit
def Cur (w : World) (b : Nat) (t : List UInt8) (i : Nat) (e : Int) : Prop := Obj? w b #[.string ⟨t.toArray⟩, .int .i64 i, .int .i64 e] 242
theorem Cur.cells {w : World} {b : Nat} {t : List UInt8} {i : Nat} {e : Int} (h : Cur w b t i e) :
  w.cell? ⟨b, 0, none⟩ = some (.string ⟨t.toArray⟩) ∧ w.cell? ⟨b, 1, none⟩ = some (.int .i64 i) ∧ w.cell? ⟨b, 2, none⟩ = some (.int .i64 e) ∧
  w.frozen? ⟨b, 1, none⟩ = false ∧ w.frozen? ⟨b, 2, none⟩ = false :=
 ⟨Obj?.cell h 0 _ rfl, Obj?.cell h 1 _ rfl, Obj?.cell h 2 _ rfl, Obj?.frozen h 1, Obj?.frozen h 2⟩
theorem Cur.kept {w w' : World} {row : Option Nat} {b : Nat} {t : List UInt8} {i : Nat} {e : Int} (h : Cur w b t i e) (hg : w.grownBy w' row) (hne : row ≠ some b) : Cur w' b t i e := Obj?.kept h hg hne
theorem Cur.below {w w' : World} {b : Nat} {t : List UInt8} {i : Nat} {e : Int} (h : Cur w b t i e) (hb : Below w.heap.size w w') : Cur w' b t i e := Obj?.below h hb (Obj?.lt h)
theorem new_any (t : List UInt8) (w : World) : Calls Tryz.prog 119 #[.string ⟨t.toArray⟩] w fun e w' =>
  ∃ b, e = .returned (.pointer (some ⟨b, 0, none⟩)) ∧ w.heap.size ≤ b ∧ Cur w' b t 0 0 ∧ w.grownBy w' none := by
 go_enter Tryz.func119, Tryz.ntmps119
 go_wp2
 go_ret
 exact ⟨_, rfl, Nat.le_refl _, Obj?.new _ _ _, World.grownBy_alloc _ _ _⟩
theorem ready_yes {b : Nat} {t : List UInt8} {i : Nat} {w : World} (h : Cur w b t i 0) :
  Calls Tryz.prog 133 #[.pointer (some ⟨b, 0, none⟩)] w fun e w' => e = .returned (.bool true) ∧ w = w' := by
 obtain ⟨c0, c1, c2, f1, f2⟩ := h.cells
 have H := Lib.hid h; clear h
 go_enter Tryz.func133, Tryz.ntmps133
 go_wp2
 go_ret
 exact ⟨rfl, rfl⟩
theorem ready_no {b : Nat} {t : List UInt8} {i : Nat} {e : Int} {w : World} (h : Cur w b t i e) (he : e ≠ 0) :
  Calls Tryz.prog 133 #[.pointer (some ⟨b, 0, none⟩)] w fun e w' => e = .returned (.bool false) ∧ w = w' := by
 obtain ⟨c0, c1, c2, f1, f2⟩ := h.cells
 have H := Lib.hid h; clear h
 go_enter Tryz.func133, Tryz.ntmps133
 go_wp2
 go_ret
 exact ⟨ret_val (congrArg Value.bool (beq_eq_false_iff_ne.2 he)), rfl⟩
def hasB (t : List UInt8) (i : Nat) (n : Int) : Bool := decide (0 ≤ n ∧ n ≤ (t.length : Int) - i)
theorem has_any {b : Nat} {t : List UInt8} {i : Nat} {e : Int} {w : World} (h : Cur w b t i e) (n : Int) (hi : i ≤ t.length) (ht : (t.length : Int) ≤ 9223372036854775807) :
  Calls Tryz.prog 134 #[.pointer (some ⟨b, 0, none⟩), .int .i64 n] w fun e w' => e = .returned (.bool (hasB t i n)) ∧ ∃ k, w' = w.drewN k := by
 obtain ⟨c0, c1, c2, f1, f2⟩ := h.cells
 have H := Lib.hid h; clear h
 by_cases hn : 0 ≤ n
 ·go_enter Tryz.func134, Tryz.ntmps134
  go_wp2
  go_quiet (fail)
  go_wp2
  go_ret
  exact ⟨ret_val (by simp [hasB, hn]), _, rfl⟩
 ·have hd : decide (0 ≤ n) = false := by simpa using hn
  go_enter Tryz.func134, Tryz.ntmps134
  go_wp2
  go_quiet (fail)
  go_wp2
  go_ret
  exact ⟨ret_val (by simp [hasB]; omega), _, rfl⟩
theorem take_yes {b : Nat} {t : List UInt8} {i : Nat} {w : World} (h : Cur w b t i 0) (n : Nat) (hi : i ≤ t.length) (ht : (t.length : Int) ≤ 9223372036854775807) (hn : i + n ≤ t.length) :
  Calls Tryz.prog 122 #[.pointer (some ⟨b, 0, none⟩), .int .i64 n] w fun e w' => e = .returned (.string ⟨((t.drop i).take n).toArray⟩) ∧ Cur w' b t (i + n) 0 ∧ w.grownBy w' (some b) := by
 have hh : hasB t i n = true := by simp [hasB]; omega
 go_enter Tryz.func122, Tryz.ntmps122
 go_wp2_with fail
 refine (ready_yes h).mono ?_
 rintro e w' ⟨rfl, rfl⟩
 go_wp2_with fail
 refine (has_any h n hi ht).mono ?_
 rintro e w' ⟨rfl, k, rfl⟩
 rw [hh]
 obtain ⟨c0, c1, c2, f1, f2⟩ := h.cells
 have H := Lib.hid h; clear h
 go_wp2
 go_quiet (fail)
 go_wp2
 go_ret
 exact ⟨ret_val (by rw [ByteArray.extract_mk]; simp), Obj?.set (w := w.drewN k) H.out 1 _, grown_drewN (grown_set (grown_drewN (World.grownBy.refl _ _) _) rfl _) _⟩
theorem take_short {b : Nat} {t : List UInt8} {i : Nat} {w : World} (h : Cur w b t i 0) (n : Int) (hi : i ≤ t.length) (ht : (t.length : Int) ≤ 9223372036854775807) (hn : hasB t i n = false) :
  Calls Tryz.prog 122 #[.pointer (some ⟨b, 0, none⟩), .int .i64 n] w fun e w' => e = .returned (.string ⟨#[]⟩) ∧ Cur w' b t i 3 ∧ w.grownBy w' (some b) := by
 go_enter Tryz.func122, Tryz.ntmps122
 go_wp2_with fail
 refine (ready_yes h).mono ?_
 rintro e w' ⟨rfl, rfl⟩
 go_wp2_with fail
 refine (has_any h n hi ht).mono ?_
 rintro e w' ⟨rfl, k, rfl⟩
 rw [hn]
 obtain ⟨c0, c1, c2, f1, f2⟩ := h.cells
 have H := Lib.hid h; clear h
 go_wp2
 go_ret
 exact ⟨rfl, Obj?.set (w := w.drewN k) H.out 2 _, grown_set (grown_drewN (World.grownBy.refl _ _) _) rfl _⟩
theorem take_err {b : Nat} {t : List UInt8} {i : Nat} {e : Int} {w : World} (h : Cur w b t i e) (n : Int) (he : e ≠ 0) :
  Calls Tryz.prog 122 #[.pointer (some ⟨b, 0, none⟩), .int .i64 n] w fun e w' => e = .returned (.string ⟨#[]⟩) ∧ w = w' := by
 go_enter Tryz.func122, Tryz.ntmps122
 go_wp2_with fail
 refine (ready_no h he).mono ?_
 rintro e w' ⟨rfl, rfl⟩
 go_wp2
 go_ret
 exact ⟨rfl, rfl⟩
def takeS (t : List UInt8) (i : Nat) (e n : Int) : List UInt8 := if e = 0 ∧ hasB t i n = true then (t.drop i).take n.toNat else []
def takeI (t : List UInt8) (i : Nat) (e n : Int) : Nat := if e = 0 ∧ hasB t i n = true then i + n.toNat else i
def takeE (t : List UInt8) (i : Nat) (e n : Int) : Int := if e = 0 ∧ hasB t i n = false then 3 else e
theorem takeI_le {t : List UInt8} {i : Nat} {e n : Int} (hi : i ≤ t.length) : takeI t i e n ≤ t.length := by
 unfold takeI; split
 ·rename_i h; have := h.2; simp [hasB] at this; omega
 ·exact hi
theorem take_any {b : Nat} {t : List UInt8} {i : Nat} {e : Int} {w : World} (h : Cur w b t i e) (n : Int) (hi : i ≤ t.length) (ht : (t.length : Int) ≤ 9223372036854775807) :
  Calls Tryz.prog 122 #[.pointer (some ⟨b, 0, none⟩), .int .i64 n] w fun r w' => r = .returned (.string ⟨(takeS t i e n).toArray⟩) ∧ Cur w' b t (takeI t i e n) (takeE t i e n) ∧ w.grownBy w' (some b) := by
 by_cases he : e = 0
 ·subst he
  cases hh : hasB t i n with
  | false =>
   simp only [takeS, takeI, takeE, hh]
   exact take_short h n hi ht hh
  | true =>
   simp only [takeS, takeI, takeE, hh]
   have h2 := hh
   simp [hasB] at h2
   obtain ⟨m, rfl⟩ := Int.eq_ofNat_of_zero_le h2.1
   exact take_yes h m hi ht (by omega)
 ·simp only [takeS, takeI, takeE, he]
  exact (take_err h n he).mono fun _ _ ⟨a, b⟩ => ⟨a, b ▸ h, b ▸ World.grownBy.refl _ _⟩
theorem number_any {b : Nat} {t : List UInt8} {i : Nat} {e : Int} {w : World} (h : Cur w b t i e) (n : Int) (hi : i ≤ t.length) (ht : (t.length : Int) ≤ 9223372036854775807) :
  Calls Tryz.prog 120 #[.pointer (some ⟨b, 0, none⟩), .int .i64 n] w fun r w' => r = .returned (.int .u64 (getL (takeS t i e n))) ∧ Cur w' b t (takeI t i e n) (takeE t i e n) ∧ w.grownBy w' (some b) := by
 have hl : ((takeS t i e n).length : Int) ≤ 9223372036854775807 := by unfold takeS; split <;> simp; omega
 go_enter Tryz.func120, Tryz.ntmps120
 go_wp2_with fail
 refine (take_any h n hi ht).mono ?_
 rintro r w' ⟨rfl, h', hg⟩
 have H := Lib.hid h'
 clear h h'
 go_wp2_with fail
 refine (get_any _ hl _).mono ?_
 rintro r w'' ⟨rfl, rfl⟩
 go_wp2
 go_ret
 exact ⟨rfl, H.out, hg⟩
def failE (e e' : Int) : Int := if e = 0 then e' else e
theorem fail_any {b : Nat} {t : List UInt8} {i : Nat} {e : Int} {w : World} (h : Cur w b t i e) (e' : Int) :
  Calls Tryz.prog 247 #[.pointer (some ⟨b, 0, none⟩), .int .i64 e'] w fun r w' => r = .returned (.tuple #[]) ∧ Cur w' b t i (failE e e') ∧ w.grownBy w' (some b) := by
 by_cases he : e = 0
 ·subst he
  go_enter Tryz.func247, Tryz.ntmps247
  go_wp2_with fail
  refine (ready_yes h).mono ?_
  rintro e w' ⟨rfl, rfl⟩
  obtain ⟨c0, c1, c2, f1, f2⟩ := h.cells
  have H := Lib.hid h; clear h
  go_wp2
  go_end0
  exact ⟨rfl, Obj?.set (w := w) H.out 2 _, grown_set (World.grownBy.refl _ _) rfl _⟩
 ·have h2 : failE e e' = e := by simp [failE, he]
  rw [h2]
  go_enter Tryz.func247, Tryz.ntmps247
  go_wp2_with fail
  refine (ready_no h he).mono ?_
  rintro e w' ⟨rfl, rfl⟩
  have H := Lib.hid h; clear h h2
  go_wp2
  go_end0
  exact ⟨rfl, H.out, World.grownBy.refl _ _⟩
theorem err_any {b : Nat} {t : List UInt8} {i : Nat} {e : Int} {w : World} (h : Cur w b t i e) :
  Calls Tryz.prog 124 #[.pointer (some ⟨b, 0, none⟩)] w fun r w' => r = .returned (.int .i64 e) ∧ w = w' := by
 obtain ⟨c0, c1, c2, f1, f2⟩ := h.cells
 clear h
 go_enter Tryz.func124, Tryz.ntmps124
 go_wp2
 go_ret
 exact ⟨rfl, rfl⟩
theorem rest_any {b : Nat} {t : List UInt8} {i : Nat} {e : Int} {w : World} (h : Cur w b t i e) (hi : i ≤ t.length) (_ht : (t.length : Int) ≤ 9223372036854775807) :
  Calls Tryz.prog 132 #[.pointer (some ⟨b, 0, none⟩)] w fun r w' => r = .returned (.string ⟨(t.drop i).toArray⟩) ∧ ∃ k, w' = w.drewN k := by
 obtain ⟨c0, c1, c2, f1, f2⟩ := h.cells
 clear h
 go_enter Tryz.func132, Tryz.ntmps132
 go_wp2
 go_quiet (fail)
 go_wp2
 go_ret
 exact ⟨ret_val (by rw [ByteArray.extract_mk]; simp [List.take_of_length_le]), _, rfl⟩
theorem left_any {b : Nat} {t : List UInt8} {i : Nat} {e : Int} {w : World} (h : Cur w b t i e) (hi : i ≤ t.length) (ht : (t.length : Int) ≤ 9223372036854775807) :
  Calls Tryz.prog 121 #[.pointer (some ⟨b, 0, none⟩)] w fun r w' => r = .returned (.int .i64 ((t.length - i : Nat) : Int)) ∧ ∃ k, w' = w.drewN k := by
 go_enter Tryz.func121, Tryz.ntmps121
 go_wp2_with fail
 refine (rest_any h hi ht).mono ?_
 rintro r w' ⟨rfl, k, rfl⟩
 go_wp2
 go_ret
 exact ⟨ret_int (by simp), _, rfl⟩
end Go.Proofs.YtanofjmkkhocaaaGreatDoor
namespace Go.Proofs.YtanofjmkkhocaaaGreatDoor
open Go.RowKit
theorem putB_succ (n : Int) (k : Nat) : putB n (k + 1) = UInt8.ofNat (byteAt n k).toNat :: putB n k := by
 unfold putB
 rw [List.range_succ_eq_map, List.map_cons, List.map_map]
 congr 1
 apply List.map_congr_left
 intro p _
 simp only [Function.comp]
 rw [show k + 1 - 1 - (p + 1) = k - 1 - p by omega]
theorem getB_cons (c : UInt8) (l : List UInt8) : getB (c :: l) = c.toNat * 256 ^ l.length + getB l := by
 have key : ∀ (l : List UInt8) (a : Int), l.foldl (fun (n : Int) c => n * 256 + c.toNat) a = a * 256 ^ l.length + getB l := by
  intro l
  induction l with
  | nil => intro a; simp [getB]
  | cons c l ih =>
   intro a
   have h1 := ih (a * 256 + c.toNat)
   have h2 := ih (0 * 256 + c.toNat)
   simp only [getB, List.foldl_cons, List.length_cons] at *
   rw [h1, h2, Int.pow_succ, Int.add_mul, Int.add_mul, Int.mul_assoc, Int.mul_comm 256]
   simp; omega
 have := key l (0 * 256 + c.toNat)
 simp only [getB, List.foldl_cons] at *
 rw [this]; simp
theorem byteAt_eq (n : Int) (k : Nat) (hk : k < 8) : byteAt n k = n / 256 ^ k % 256 := by
 have e : (2 : Int) ^ (8 * k) = 256 ^ k := by rw [Int.pow_mul]; rfl
 unfold byteAt; rw [if_pos hk, e]
theorem byteAt_range (n : Int) (k : Nat) : 0 ≤ byteAt n k ∧ byteAt n k < 256 := by
 unfold byteAt; split
 ·omega
 ·decide
theorem byte_toNat (n : Int) (k : Nat) : ((UInt8.ofNat (byteAt n k).toNat).toNat : Int) = byteAt n k := by
 have := byteAt_range n k
 simp; omega
theorem getB_putB (n : Int) (k : Nat) (hk : k ≤ 8) : getB (putB n k) = n % 256 ^ k := by
 induction k with
 | zero => simp [putB, getB]
 | succ k ih =>
  rw [putB_succ, getB_cons, ih (by omega), byte_toNat, length_putB, byteAt_eq n k (by omega), Int.pow_succ]
  have h1 : (0 : Int) < 256 ^ k := Int.pow_pos (by decide)
  have h3 := Int.mul_ediv_add_emod n (256 ^ k)
  have h4 := Int.mul_ediv_add_emod (n / 256 ^ k) 256
  have h5 : n % (256 ^ k * 256) = 256 ^ k * (n / 256 ^ k % 256) + n % 256 ^ k := by
   have hq : n = (n / 256 ^ k / 256) * (256 ^ k * 256) + (256 ^ k * (n / 256 ^ k % 256) + n % 256 ^ k) := by
    generalize n / 256 ^ k = a at *
    generalize n % 256 ^ k = r at *
    generalize (256 : Int) ^ k = P at *
    generalize a / 256 = b at *
    generalize a % 256 = c at *
    subst h4
    rw [← h3, Int.mul_add]
    have : b * (P * 256) = P * (256 * b) := by rw [Int.mul_comm b, Int.mul_assoc]
    omega
   have hr0 := Int.emod_nonneg n (show (256 : Int) ^ k ≠ 0 by omega)
   have hr1 := Int.emod_lt_of_pos n h1
   have hc0 := Int.emod_nonneg (n / 256 ^ k) (show (256 : Int) ≠ 0 by decide)
   have hc1 := Int.emod_lt_of_pos (n / 256 ^ k) (show (0 : Int) < 256 by decide)
   have hlo : 0 ≤ 256 ^ k * (n / 256 ^ k % 256) := Int.mul_nonneg (by omega) hc0
   have hhi : 256 ^ k * (n / 256 ^ k % 256) ≤ 256 ^ k * 255 := Int.mul_le_mul_of_nonneg_left (by omega) (by omega)
   conv => lhs; rw [hq, Int.add_comm, Int.add_mul_emod_self_right]
   exact Int.emod_eq_of_lt (by omega) (by omega)
  rw [h5, Int.mul_comm]
theorem getB_inj : ∀ (a b : List UInt8), a.length = b.length → getB a = getB b → a = b
 | [], [], _, _ => rfl
 | [], _ :: _, h, _ => by simp at h
 | _ :: _, [], h, _ => by simp at h
 | c :: a, d :: b, h, e => by
  simp only [List.length_cons, Nat.add_right_cancel_iff] at h
  rw [getB_cons, getB_cons, h] at e
  have ha := getB_bound _ a rfl
  have hb := getB_bound _ b rfl
  rw [h] at ha
  have h1 : (0 : Int) < 256 ^ b.length := Int.pow_pos (by decide)
  have hcd : c.toNat = d.toNat := by
   rcases Nat.lt_trichotomy c.toNat d.toNat with hlt | heq | hgt
   ·have : ((c.toNat : Int) + 1) * 256 ^ b.length ≤ d.toNat * 256 ^ b.length := Int.mul_le_mul_of_nonneg_right (by omega) (by omega)
    rw [Int.add_mul] at this; omega
   ·exact heq
   ·have : ((d.toNat : Int) + 1) * 256 ^ b.length ≤ c.toNat * 256 ^ b.length := Int.mul_le_mul_of_nonneg_right (by omega) (by omega)
    rw [Int.add_mul] at this; omega
  rw [hcd] at e
  rw [UInt8.toNat.inj hcd, getB_inj a b h (by omega)]
theorem putB_getB (l : List UInt8) (h : l.length ≤ 8) : putB (getB l) l.length = l := by
 apply getB_inj _ _ (length_putB _ _)
 rw [getB_putB _ _ h]
 exact Int.emod_eq_of_lt (getB_nonneg l) (getB_bound _ l rfl).2
end Go.Proofs.YtanofjmkkhocaaaGreatDoor
namespace Go.Proofs.YtanofjmkkhocaaaGreatDoor
open Go.RowKit
end Go.Proofs.YtanofjmkkhocaaaGreatDoor
