/- varint's reader: the Lean functions, and the walks of its methods. varint: the Lean functions of sizes, bytes, and what is read. No Go in sight. varint: the walks. varint: plain laws on bytes and what is read. head: known, kinds, fixed, flagged, Check, Flags. head.Flags, head.Bytes; polyglotlaw07.lives. head.Read. -/
import Derived.Test.YtanofjmkkhocaaaGreatDoorChecked
import Derived.Test.YtanofjmkkhocaaaGreatDoorBase
import Derived.StillTailTactics
import Derived.Test.YtanofjmkkhocaaaGreatDoorOctA
import Derived.Laws.ResultCell
import Derived.Laws.Rows
import Derived.RegionTactic
import Derived.ChangeAlike
set_option linter.unusedVariables false
set_option linter.unusedSimpArgs false
set_option maxRecDepth 100000
set_option maxHeartbeats 1600000
namespace Go.Proofs.YtanofjmkkhocaaaGreatDoor
open Go.RowKit
theorem u8_and127 (c : Int) (h0 : 0 ≤ c) (h1 : c < 256) : bits .and .u8 c 127 = c % 128 := bits_mask .u8 8 (by decide) wraps_u8 7 (by decide) c h0 h1
theorem u8_and128 (c : Int) (h0 : 0 ≤ c) (h1 : c < 256) : bits .and .u8 c 128 = if c < 128 then 0 else 128 := by
 obtain ⟨m, rfl⟩ := Int.eq_ofNat_of_zero_le h0
 have := u8_and_nat m 128 (by omega) (by decide)
 rw [show ((128 : Nat) : Int) = 128 from rfl] at this
 rw [this]
 have key : ∀ m : Fin 256, (((m.val &&& 128 : Nat)) : Int) = if (m.val : Int) < 128 then 0 else 128 := by decide +kernel
 exact key ⟨m, by omega⟩
theorem u8_or128' (c : Int) (h0 : 0 ≤ c) (h1 : c < 128) : bits .or .u8 c 128 = c + 128 := by
 obtain ⟨m, rfl⟩ := Int.eq_ofNat_of_zero_le h0
 have := u8_or_nat m 128 (by omega) (by decide)
 rw [show ((128 : Nat) : Int) = 128 from rfl] at this
 rw [this]
 have key : ∀ m : Fin 128, (((m.val ||| 128 : Nat)) : Int) = (m.val : Int) + 128 := by decide +kernel
 exact key ⟨m, by omega⟩
structure VSt where
 n : Int
 size : Nat
 done : Bool
 bad : Bool
def vstep (n : Int) (size : Nat) (c : Int) : VSt :=
 if 128 ≤ c then ⟨n + c % 128 * 2 ^ (7 * size), size + 1, false, decide (size + 1 = 4)⟩
 else if c = 0 ∧ 0 < size then ⟨n + c % 128 * 2 ^ (7 * size), size + 1, false, true⟩
 else ⟨n + c % 128 * 2 ^ (7 * size), size + 1, true, false⟩
def vpush (s : VSt) (c : Int) : VSt := if s.done || s.bad then s else vstep s.n s.size c
def vdone (s : VSt) (c : Int) : Bool := if s.done || s.bad then false else (vstep s.n s.size c).done
def verr (s : VSt) (c : Int) : Int := if s.done || s.bad then 13 else if (vstep s.n s.size c).bad then 5 else 0
def VOk (s : VSt) : Prop := 0 ≤ s.n ∧ s.n < 2 ^ (7 * s.size) ∧ s.size ≤ 4 ∧ (s.done = false → s.bad = false → s.size ≤ 3)
theorem pow7 (size : Nat) (h : size ≤ 3) (c : Int) : 0 ≤ c % 128 * 2 ^ (7 * size) ∧ c % 128 * 2 ^ (7 * size) ≤ 127 * 2 ^ (7 * size) ∧ (2 : Int) ^ (7 * size) ≤ 2097152 := by
 have hs : size = 0 ∨ size = 1 ∨ size = 2 ∨ size = 3 := by omega
 rcases hs with rfl | rfl | rfl | rfl <;> omega
theorem vstep_ok {n : Int} {size : Nat} {c : Int} (hn : 0 ≤ n) (hn2 : n < 2 ^ (7 * size)) (h : size ≤ 3) : VOk (vstep n size c) := by
 have e : (2 : Int) ^ (7 * (size + 1)) = 2 ^ (7 * size) * 128 := by rw [show 7 * (size + 1) = 7 * size + 7 by omega, Int.pow_add]; rfl
 obtain ⟨p1, p2, p3⟩ := pow7 size h c
 unfold vstep VOk
 split
 ·refine ⟨by show 0 ≤ n + _; omega, by show n + _ < 2 ^ (7 * (size + 1)); omega, by show size + 1 ≤ 4; omega, fun _ hb => ?_⟩
  have hb2 : ¬ size + 1 = 4 := by simpa using hb
  show size + 1 ≤ 3; omega
 ·split
  ·exact ⟨by show 0 ≤ n + _; omega, by show n + _ < 2 ^ (7 * (size + 1)); omega, by show size + 1 ≤ 4; omega, fun _ hb => by simp at hb⟩
  ·exact ⟨by show 0 ≤ n + _; omega, by show n + _ < 2 ^ (7 * (size + 1)); omega, by show size + 1 ≤ 4; omega, fun hb _ => by simp at hb⟩
theorem vpush_ok {s : VSt} {c : Int} (h : VOk s) : VOk (vpush s c) := by
 unfold vpush
 split
 ·exact h
 ·rename_i hh
  simp at hh
  exact vstep_ok h.1 h.2.1 (h.2.2.2 hh.1 hh.2)
theorem i64_in (x : Int) (h : -9223372036854775808 ≤ x) (h2 : x ≤ 9223372036854775807) : IntKind.i64.wrap x = x := by rw [IntKind.wrap_i64]; omega
theorem u64_in (x : Int) (h : 0 ≤ x) (h2 : x ≤ 18446744073709551615) : IntKind.u64.wrap x = x := by rw [IntKind.wrap_u64]; omega
theorem exp7 (size : Nat) (hsz : size ≤ 3) : min (IntKind.u64.wrap (IntKind.i64.wrap (7 * (size : Int)))).toNat 64 = 7 * size := by
 rw [i64_in _ (by omega) (by omega), u64_in _ (by omega) (by omega)]
 omega
theorem vshift (n c P : Int) (h1 : 0 ≤ n) (h2 : n ≤ 2097152) (p1 : 0 ≤ c % 128 * P) (p2 : c % 128 * P ≤ 266338304) :
  IntKind.i64.wrap (n + IntKind.i64.wrap (IntKind.i64.wrap (c % 128) * P)) = n + c % 128 * P := by
 rw [i64_in (c % 128) (by omega) (by omega), i64_in (c % 128 * P) (by omega) (by omega), i64_in _ (by omega) (by omega)]
def Rdr (w : World) (b : Nat) (s : VSt) : Prop := Obj? w b #[.int .i64 s.n, .int .i64 s.size, .bool s.done, .bool s.bad] 321
theorem Rdr.cells {w : World} {b : Nat} {s : VSt} (h : Rdr w b s) :
  w.cell? ⟨b, 0, none⟩ = some (.int .i64 s.n) ∧ w.cell? ⟨b, 1, none⟩ = some (.int .i64 s.size) ∧ w.cell? ⟨b, 2, none⟩ = some (.bool s.done) ∧ w.cell? ⟨b, 3, none⟩ = some (.bool s.bad) ∧
  w.frozen? ⟨b, 0, none⟩ = false ∧ w.frozen? ⟨b, 1, none⟩ = false ∧ w.frozen? ⟨b, 2, none⟩ = false ∧ w.frozen? ⟨b, 3, none⟩ = false :=
 ⟨Obj?.cell h 0 _ rfl, Obj?.cell h 1 _ rfl, Obj?.cell h 2 _ rfl, Obj?.cell h 3 _ rfl, Obj?.frozen h 0, Obj?.frozen h 1, Obj?.frozen h 2, Obj?.frozen h 3⟩
theorem Rdr.kept {w w' : World} {row : Option Nat} {b : Nat} {s : VSt} (h : Rdr w b s) (hg : w.grownBy w' row) (hne : row ≠ some b) : Rdr w' b s := Obj?.kept h hg hne
theorem Rdr.below {w w' : World} {b : Nat} {s : VSt} (h : Rdr w b s) (hb : Below w.heap.size w w') : Rdr w' b s := Obj?.below h hb (Obj?.lt h)
def VSt.new : VSt := ⟨0, 0, false, false⟩
theorem VSt.new_ok : VOk VSt.new := ⟨by decide, by decide, by decide, fun _ _ => by decide⟩
theorem vnew_any (w : World) : Calls Tryz.prog 218 #[] w fun e w' => ∃ b, e = .returned (.pointer (some ⟨b, 0, none⟩)) ∧ w.heap.size ≤ b ∧ Rdr w' b VSt.new ∧ w.grownBy w' none := by
 go_enter Tryz.func218, Tryz.ntmps218
 go_wp2
 go_ret
 exact ⟨_, rfl, Nat.le_refl _, Obj?.new _ _ _, World.grownBy_alloc _ _ _⟩
theorem vpush_any {w : World} {b : Nat} {s : VSt} (h : Rdr w b s) (hs : VOk s) (c : Int) (hc : 0 ≤ c) (hc2 : c < 256) :
  Calls Tryz.prog 219 #[.pointer (some ⟨b, 0, none⟩), .int .u8 c] w fun e w' => e = .returned (.tuple #[.bool (vdone s c), .int .i64 (verr s c)]) ∧ Rdr w' b (vpush s c) ∧ w.grownBy w' (some b) := by
 obtain ⟨n, size, done, bad⟩ := s
 obtain ⟨c0, c1, c2, c3, f0, f1, f2, f3⟩ := h.cells
 have H := Lib.hid h
 clear h
 cases done with
 | true =>
  go_enter Tryz.func219, Tryz.ntmps219
  go_wp2
  go_ret2
  exact ⟨rfl, H.out, World.grownBy.refl _ _⟩
 | false =>
 cases bad with
 | true =>
  go_enter Tryz.func219, Tryz.ntmps219
  go_wp2
  go_ret2
  exact ⟨rfl, H.out, World.grownBy.refl _ _⟩
 | false =>
 obtain ⟨h1, h2, _, h3⟩ := hs
 have hsz : size ≤ 3 := h3 rfl rfl
 obtain ⟨p1, p2, p3⟩ := pow7 size hsz c
 simp only at h1 h2
 have a1 := u8_and127 c hc hc2
 have a2 := u8_and128 c hc hc2
 clear h3
 have hexp : min (IntKind.u64.wrap (IntKind.i64.wrap (7 * (size : Int)))).toNat 64 = 7 * size := exp7 size hsz
 have hV : IntKind.i64.wrap (n + IntKind.i64.wrap (IntKind.i64.wrap (c % 128) * 2 ^ min (IntKind.u64.wrap (IntKind.i64.wrap (7 * (size : Int)))).toNat 64)) = n + c % 128 * 2 ^ (7 * size) := by
  rw [hexp]
  exact vshift n c _ h1 (by omega) p1 (by omega)
 have HV := Lib.hid hV
 obtain ⟨m, hm⟩ : ∃ m, m = n + c % 128 * 2 ^ (7 * size) := ⟨_, rfl⟩
 rw [← hm] at HV
 have HM := Lib.hid hm
 clear hV hexp p1 p2 p3 h2 h1 hm
 by_cases h128 : 128 ≤ c
 ·rw [if_neg (by omega)] at a2
  by_cases h4 : size = 3
  ·have HS := Lib.hid h4
   have hd : ((size : Int) + 1 == 4) = true := by simp; omega
   clear h4
   go_enter Tryz.func219, Tryz.ntmps219
   go_wp2
   go_still_tail 17, (by kernel_rfl)
   change wpList _ _ _ _ _ w.drew
   rw [HV.out]
   go_wp2
   go_ret2
   have e1 : vpush ⟨n, size, false, false⟩ c = ⟨m, size + 1, false, true⟩ := by simp only [vpush, vstep, Bool.or_false, Bool.false_eq_true, if_false]; rw [HM.out]; simp [h128, HS.out]
   have e2 : vdone ⟨n, size, false, false⟩ c = false := by simp only [vdone, vstep, Bool.or_false, Bool.false_eq_true, if_false]; simp [h128, HS.out]
   have e3 : verr ⟨n, size, false, false⟩ c = 5 := by simp only [verr, vstep, Bool.or_false, Bool.false_eq_true, if_false]; simp [h128, HS.out]
   rw [e1, e2, e3]
   exact ⟨rfl, Obj?.set (Obj?.set (Obj?.set H.out 0 _) 1 _) 3 _, grown_drew (grown_set (g := b) (p := ⟨b, 3, none⟩) (grown_set (g := b) (p := ⟨b, 1, none⟩) (grown_set (g := b) (p := ⟨b, 0, none⟩) (World.grownBy.refl _ _) rfl _) rfl _) rfl _)⟩
  ·have hd : ((size : Int) + 1 == 4) = false := by simp; omega
   go_enter Tryz.func219, Tryz.ntmps219
   go_wp2
   go_still_tail 17, (by kernel_rfl)
   change wpList _ _ _ _ _ w.drew
   rw [HV.out]
   go_wp2
   go_ret2
   have e1 : vpush ⟨n, size, false, false⟩ c = ⟨m, size + 1, false, false⟩ := by simp only [vpush, vstep, Bool.or_false, Bool.false_eq_true, if_false]; rw [HM.out]; simp [h128]; try omega
   have e2 : vdone ⟨n, size, false, false⟩ c = false := by simp only [vdone, vstep, Bool.or_false, Bool.false_eq_true, if_false]; simp [h128]; try omega
   have e3 : verr ⟨n, size, false, false⟩ c = 0 := by simp only [verr, vstep, Bool.or_false, Bool.false_eq_true, if_false]; simp [h128]; try omega
   rw [e1, e2, e3]
   exact ⟨rfl, Obj?.set (Obj?.set (Obj?.set H.out 0 _) 1 _) 3 _, grown_drew (grown_set (g := b) (p := ⟨b, 3, none⟩) (grown_set (g := b) (p := ⟨b, 1, none⟩) (grown_set (g := b) (p := ⟨b, 0, none⟩) (World.grownBy.refl _ _) rfl _) rfl _) rfl _)⟩
 ·rw [if_pos (by omega)] at a2
  by_cases h0 : c = 0
  ·by_cases hz : size = 0
   ·have HC := Lib.hid (And.intro h0 hz)
    have hd : (c == 0) = true := by simp [h0]
    have hd2 : ¬ (1 : Int) < (size : Int) + 1 := by omega
    clear h0 hz
    go_enter Tryz.func219, Tryz.ntmps219
    go_wp2
    go_still_tail 17, (by kernel_rfl)
    change wpList _ _ _ _ _ w.drew
    rw [HV.out]
    go_wp2
    go_ret2
    have e1 : vpush ⟨n, size, false, false⟩ c = ⟨m, size + 1, true, false⟩ := by simp only [vpush, vstep, Bool.or_false, Bool.false_eq_true, if_false]; rw [HM.out]; simp [HC.out.1, HC.out.2]
    have e2 : vdone ⟨n, size, false, false⟩ c = true := by simp only [vdone, vstep, Bool.or_false, Bool.false_eq_true, if_false]; simp [HC.out.1, HC.out.2]
    have e3 : verr ⟨n, size, false, false⟩ c = 0 := by simp only [verr, vstep, Bool.or_false, Bool.false_eq_true, if_false]; simp [HC.out.1, HC.out.2]
    rw [e1, e2, e3]
    exact ⟨rfl, Obj?.set (Obj?.set (Obj?.set H.out 0 _) 1 _) 2 _, grown_drew (grown_set (g := b) (p := ⟨b, 2, none⟩) (grown_set (g := b) (p := ⟨b, 1, none⟩) (grown_set (g := b) (p := ⟨b, 0, none⟩) (World.grownBy.refl _ _) rfl _) rfl _) rfl _)⟩
   ·have HC := Lib.hid h0
    have hd : (c == 0) = true := by simp [h0]
    have hd2 : (1 : Int) < (size : Int) + 1 := by omega
    clear h0
    go_enter Tryz.func219, Tryz.ntmps219
    go_wp2
    go_still_tail 17, (by kernel_rfl)
    change wpList _ _ _ _ _ w.drew
    rw [HV.out]
    go_wp2
    go_ret2
    have e1 : vpush ⟨n, size, false, false⟩ c = ⟨m, size + 1, false, true⟩ := by simp only [vpush, vstep, Bool.or_false, Bool.false_eq_true, if_false]; rw [HM.out]; simp [HC.out, show 0 < size by omega]
    have e2 : vdone ⟨n, size, false, false⟩ c = false := by simp only [vdone, vstep, Bool.or_false, Bool.false_eq_true, if_false]; simp [HC.out, show 0 < size by omega]
    have e3 : verr ⟨n, size, false, false⟩ c = 5 := by simp only [verr, vstep, Bool.or_false, Bool.false_eq_true, if_false]; simp [HC.out, show 0 < size by omega]
    rw [e1, e2, e3]
    exact ⟨rfl, Obj?.set (Obj?.set (Obj?.set H.out 0 _) 1 _) 3 _, grown_drew (grown_set (g := b) (p := ⟨b, 3, none⟩) (grown_set (g := b) (p := ⟨b, 1, none⟩) (grown_set (g := b) (p := ⟨b, 0, none⟩) (World.grownBy.refl _ _) rfl _) rfl _) rfl _)⟩
  ·have hd : (c == 0) = false := by simp [h0]
   go_enter Tryz.func219, Tryz.ntmps219
   go_wp2
   go_still_tail 17, (by kernel_rfl)
   change wpList _ _ _ _ _ w.drew
   rw [HV.out]
   go_wp2
   go_ret2
   have e1 : vpush ⟨n, size, false, false⟩ c = ⟨m, size + 1, true, false⟩ := by simp only [vpush, vstep, Bool.or_false, Bool.false_eq_true, if_false]; rw [HM.out]; simp [show ¬ 128 ≤ c by omega, h0]
   have e2 : vdone ⟨n, size, false, false⟩ c = true := by simp only [vdone, vstep, Bool.or_false, Bool.false_eq_true, if_false]; simp [show ¬ 128 ≤ c by omega, h0]
   have e3 : verr ⟨n, size, false, false⟩ c = 0 := by simp only [verr, vstep, Bool.or_false, Bool.false_eq_true, if_false]; simp [show ¬ 128 ≤ c by omega, h0]
   rw [e1, e2, e3]
   exact ⟨rfl, Obj?.set (Obj?.set (Obj?.set H.out 0 _) 1 _) 2 _, grown_drew (grown_set (g := b) (p := ⟨b, 2, none⟩) (grown_set (g := b) (p := ⟨b, 1, none⟩) (grown_set (g := b) (p := ⟨b, 0, none⟩) (World.grownBy.refl _ _) rfl _) rfl _) rfl _)⟩
end Go.Proofs.YtanofjmkkhocaaaGreatDoor
namespace Go.Proofs.YtanofjmkkhocaaaGreatDoor
open Go.RowKit
def vmay (n : Int) : Bool := decide (0 ≤ n ∧ n ≤ 268435455)
def vsz (n : Int) : Nat := if n < 0 ∨ 268435455 < n then 0 else if n < 128 then 1 else if n < 16384 then 2 else if n < 2097152 then 3 else 4
def vbK : Nat → Int → List Int
 | 0, _ => []
 | 1, n => [n]
 | k + 2, n => (n % 128 + 128) :: vbK (k + 1) (n / 128)
def u8s (l : List Int) : List UInt8 := l.map fun n => UInt8.ofNat n.toNat
def vbytes (n : Int) : List UInt8 := u8s (vbK (vsz n) n)
theorem vsz_step {n : Int} (h : 128 ≤ n) (h2 : n ≤ 268435455) : vsz n = vsz (n / 128) + 1 ∧ 1 ≤ vsz (n / 128) ∧ 1 ≤ n / 128 ∧ n / 128 ≤ 268435455 := by
 unfold vsz
 refine ⟨?_, ?_, by omega, by omega⟩
 ·rw [if_neg (by omega), if_neg (by omega), if_neg (show ¬ (n / 128 < 0 ∨ 268435455 < n / 128) by omega)]
  by_cases h1 : n < 16384
  ·rw [if_pos h1, if_pos (by omega)]
  ·rw [if_neg h1, if_neg (show ¬ n / 128 < 128 by omega)]
   by_cases h3 : n < 2097152
   ·rw [if_pos h3, if_pos (by omega)]
   ·rw [if_neg h3, if_neg (show ¬ n / 128 < 16384 by omega), if_pos (by omega)]
 ·rw [if_neg (by omega)]
  split
  ·omega
  ·split
   ·omega
   ·split <;> omega
theorem vsz_small {n : Int} (h0 : 0 ≤ n) (h : n < 128) : vsz n = 1 := by unfold vsz; rw [if_neg (by omega), if_pos h]
theorem vsz_pos {n : Int} (h0 : 0 ≤ n) (h : n ≤ 268435455) : 1 ≤ vsz n ∧ vsz n ≤ 4 := by
 unfold vsz; rw [if_neg (by omega)]
 split
 ·omega
 ·split
  ·omega
  ·split <;> omega
theorem length_vbK : ∀ (k : Nat) (n : Int), (vbK k n).length = k
 | 0, _ => rfl
 | 1, _ => rfl
 | k + 2, n => by simp [vbK, length_vbK (k + 1)]
theorem vbK_small {n : Int} (h0 : 0 ≤ n) (h : n < 128) : vbK (vsz n) n = [n] := by rw [vsz_small h0 h]; rfl
theorem vbK_step {n : Int} (h : 128 ≤ n) (h2 : n ≤ 268435455) : vbK (vsz n) n = (n % 128 + 128) :: vbK (vsz (n / 128)) (n / 128) := by
 obtain ⟨h3, h4, _, _⟩ := vsz_step h h2
 rw [h3]
 obtain ⟨k, hk⟩ := Nat.exists_eq_add_of_le h4
 rw [hk, show 1 + k + 1 = k + 2 by omega, show 1 + k = k + 1 by omega]
 rfl
def vrun : VSt → List UInt8 → Int × Int × Int
 | _, [] => (0, 0, 3)
 | s, c :: r => if verr s c.toNat ≠ 0 then (0, 0, verr s c.toNat) else if vdone s c.toNat then ((vpush s c.toNat).n, (vpush s c.toNat).size, 0) else vrun (vpush s c.toNat) r
def vread (l : List UInt8) : Int × Int × Int := vrun VSt.new l
theorem vrun_cons {s : VSt} {l : List UInt8} {j : Nat} (h : j < l.length) : vrun s (l.drop j) = if verr s (l[j].toNat : Int) ≠ 0 then ((0, 0, verr s (l[j].toNat : Int)) : Int × Int × Int) else if vdone s (l[j].toNat : Int) then ((vpush s (l[j].toNat : Int)).n, ((vpush s (l[j].toNat : Int)).size : Int), 0) else vrun (vpush s (l[j].toNat : Int)) (l.drop (j + 1)) := by
 rw [List.drop_eq_getElem_cons h, vrun]
theorem vgoes {s : VSt} {c : Int} (h0 : verr s c = 0) (h1 : vdone s c = false) : (vpush s c).done = false ∧ (vpush s c).bad = false := by
 unfold verr at h0; unfold vdone at h1; unfold vpush
 split at h0
 ·simp at h0
 ·rename_i hh
  rw [if_neg hh] at h1 ⊢
  split at h0
  ·simp at h0
  ·rename_i hb
   exact ⟨h1, by simpa using hb⟩
end Go.Proofs.YtanofjmkkhocaaaGreatDoor
namespace Go.Proofs.YtanofjmkkhocaaaGreatDoor
open Go.RowKit
theorem may_any (n : Int) (w : World) : Calls Tryz.prog 231 #[.int .i64 n] w fun e w' => e = .returned (.bool (vmay n)) ∧ w = w' := by
 by_cases h : 0 ≤ n
 ·have hd : decide (0 ≤ n) = true := by simpa using h
  go_enter Tryz.func231, Tryz.ntmps231
  go_wp2
  go_ret
  exact ⟨ret_val (by simp [vmay, h]), rfl⟩
 ·have hd : decide (0 ≤ n) = false := by simpa using h
  go_enter Tryz.func231, Tryz.ntmps231
  go_wp2
  go_ret
  exact ⟨ret_val (by simp [vmay]; omega), rfl⟩
theorem vsz_any (n : Int) (w : World) : Calls Tryz.prog 217 #[.int .i64 n] w fun e w' => e = .returned (.int .i64 (vsz n)) ∧ w = w' := by
 cases hm : vmay n with
 | false =>
  go_enter Tryz.func217, Tryz.ntmps217
  go_wp2_with fail
  refine (may_any n _).mono ?_
  rintro e w' ⟨rfl, rfl⟩
  rw [hm]
  have hz : vsz n = 0 := by simp [vmay] at hm; unfold vsz; rw [if_pos (by omega)]
  have HZ := Lib.hid (And.intro hz hm)
  clear hz hm
  go_wp2
  go_ret
  exact ⟨ret_int (by rw [HZ.out.1]; rfl), rfl⟩
 | true =>
  have hb : 0 ≤ n ∧ n ≤ 268435455 := by simpa [vmay] using hm
  go_enter Tryz.func217, Tryz.ntmps217
  go_wp2_with fail
  refine (may_any n _).mono ?_
  rintro e w' ⟨rfl, rfl⟩
  rw [hm]
  clear hm
  go_wp2
  go_loop [0, 3] (fun x s => ∃ (m : Int) (k : Nat), 0 ≤ m ∧ m ≤ 268435455 ∧ x = .int .i64 m ∧ s = .int .i64 k ∧ vsz n = vsz m + k - 1 ∧ 1 ≤ k ∧ k ≤ 4) (fun x _ => (intOf x).toNat)
  case atStart => exact ⟨n, 1, hb.1, hb.2, rfl, rfl, by omega, by omega, by omega⟩
  case round =>
   obtain ⟨m, k, h0, h1, rfl, rfl, hk, hk1, hk4⟩ := hrel
   have HK := Lib.hid hk
   by_cases h : 128 ≤ m
   ·obtain ⟨e1, e2, e3, e4⟩ := vsz_step h h1
    have h5 : k ≤ 3 := by have := (vsz_pos hb.1 hb.2).2; omega
    have HE := Lib.hid e1
    clear hk e1
    go_wp2
    go_round
    case rel => exact ⟨m / 128, k + 1, by omega, by omega, rfl, by go_num, by have a := HK.out; have b := HE.out; omega, by omega, by omega⟩
    case measure => simp [intOf]; omega
   ·clear hk
    go_wp2
    go_ret
    exact ⟨ret_int (by have a := HK.out; rw [vsz_small h0 (by omega)] at a; omega), rfl⟩
theorem vbytes_any (n : Int) (h0 : 0 ≤ n) (h1 : n ≤ 268435455) (w : World) :
  Calls Tryz.prog 278 #[.int .i64 n] w fun e w' => e = .returned (.tuple #[.string ⟨(vbytes n).toArray⟩, .int .i64 0]) ∧ Below w.heap.size w w' := by
 obtain ⟨i0, hi, hz0, hz1, hz2⟩ := info_parts Tryz.infoU8
 have hm : vmay n = true := by simp [vmay]; omega
 go_enter Tryz.func278, Tryz.ntmps278
 go_wp2_with fail
 refine (may_any n _).mono ?_
 rintro e w' ⟨rfl, rfl⟩
 rw [hm]
 clear hm
 go_wp2_with fail
 go_loopw [0, 4] (fun x v wr => ∃ (m : Int) (l : List Int), 0 ≤ m ∧ m ≤ 268435455 ∧ x = .int .i64 m ∧ wr.ownsRow w.heap.size 5 1 v l.length (l.map (Value.int .u8)) ∧ Below w.heap.size w wr ∧ vbK (vsz n) n = l ++ vbK (vsz m) m ∧ l.length ≤ 4) (fun x _ _ => (intOf x).toNat)
 case atStart => exact ⟨n, [], h0, h1, rfl, World.ownsRow_nil _ _ _ _, Below.refl _ _, rfl, by simp⟩
 case round =>
  obtain ⟨m, l, hm0, hm1, rfl, hown, hB, hk, hl4⟩ := hrel
  have HK := Lib.hid hk
  clear hk
  by_cases h : 128 ≤ m
  ·have hor := u8_or128' (m % 128) (by omega) (by omega)
   have hst := vbK_step h hm1
   have HS := Lib.hid hst
   clear hst
   go_wp2_with (at_builtin; refine wpList_append_own _ rfl _ _ 133 rfl w.heap.size 5 i0 (.int .u8 0) 1 1 Tryz.underlying133 hi hz0 hz1 hz2 rfl (by decide) _ _ _ rfl (hown.alloc _) ⟨wr.heap.size, 0, none⟩ 1 1 [.int .u8 (m % 128 + 128)] rfl rfl (cell_one_new _ _ _) (by simp [Value.oneCell']) (by unfold maxLen; omega) (by omega) (by have := hB.size; simp; omega) ?_; intro v' w1 hown1 hgrow _)
   have hB2 : Below w.heap.size w w1 := below_append hB hown hgrow
   go_roundw
   case rel =>
    refine ⟨m / 128, l ++ [m % 128 + 128], by omega, by omega, rfl, by simpa using hown1, hB2, by rw [HK.out, HS.out]; simp, ?_⟩
    have a := congrArg List.length HK.out
    have b := congrArg List.length HS.out
    have c := vsz_pos h0 h1
    have d := vsz_step h hm1
    simp [length_vbK] at a b
    simp; omega
   case measure => simp [intOf]; omega
  ·have HS := vbK_small hm0 (by omega)
   have Hs := Lib.hid HS
   clear HS
   go_wp2_with (at_builtin; refine wpList_append_own _ rfl _ _ 133 rfl w.heap.size 5 i0 (.int .u8 0) 1 1 Tryz.underlying133 hi hz0 hz1 hz2 rfl (by decide) _ _ _ rfl (hown.alloc _) ⟨wr.heap.size, 0, none⟩ 1 1 [.int .u8 m] rfl rfl (cell_one_new _ _ _) (by simp [Value.oneCell']) (by unfold maxLen; omega) (by omega) (by have := hB.size; simp; omega) ?_; intro v' w1 hown1 hgrow _; obtain ⟨g', cap', rfl⟩ := owns_succ hown1; have hconv := run_convert_bytes_arg (P := Tryz.prog) w1 133 5 Tryz.underlying133 Tryz.underlying5 g' 0 (l.length + 1) cap' (l ++ [m]) (by simp) (owns_ints (by simpa using hown1) (by simp)) 9 Tryz.underlying9)
   go_ret2
   refine ⟨?_, below_append hB hown hgrow⟩
   have e1 : strOfNums (l ++ [m]) = ⟨(vbytes n).toArray⟩ := by unfold vbytes u8s; rw [HK.out, Hs.out]; rfl
   rw [← e1]
   rfl
theorem vread_any (l : List UInt8) (hl : (l.length : Int) ≤ 9223372036854775807) (w : World) :
  Calls Tryz.prog 204 #[.string ⟨l.toArray⟩] w fun e w' => e = .returned (.tuple #[.int .i64 (vread l).1, .int .i64 (vread l).2.1, .int .i64 (vread l).2.2]) ∧ Below w.heap.size w w' := by
 obtain ⟨V, hV⟩ : ∃ V, V = vread l := ⟨_, rfl⟩
 rw [← hV]
 go_enter Tryz.func204, Tryz.ntmps204
 go_wp2_with fail
 refine (vnew_any _).mono ?_
 rintro e w1 ⟨b, rfl, hb, R, hg⟩
 have hB1 := below_grown hg
 clear hg
 have HV := Lib.hid hV
 clear hV
 go_wp2_with fail
 go_loopw [12] (fun x wr => ∃ (j : Nat) (s : VSt), j ≤ l.length ∧ x = .int .i64 j ∧ Rdr wr b s ∧ VOk s ∧ s.done = false ∧ s.bad = false ∧ vread l = vrun s (l.drop j) ∧ Below w.heap.size w wr) (fun x _ => l.length - (intOf x).toNat)
 case atStart => exact ⟨0, VSt.new, Nat.zero_le _, rfl, R, VSt.new_ok, rfl, rfl, rfl, hB1⟩
 case round =>
  clear R hB1
  obtain ⟨j, s, hj, rfl, R, hs, hd, hbad, hrun, hB⟩ := hrel
  by_cases hlt : j < l.length
  ·rw [vrun_cons hlt] at hrun
   have hR := Lib.hid (And.intro hs (And.intro hd (And.intro hbad hrun)))
   clear hd hbad hrun
   have hc0 : (0 : Int) ≤ (l[j].toNat : Int) := by omega
   have hc1 : (l[j].toNat : Int) < 256 := by have := l[j].toNat_lt; omega
   have hok := vpush_ok (c := (l[j].toNat : Int)) hs
   go_wp2_with fail
   refine (vpush_any R hs _ hc0 hc1).mono ?_
   rintro e w2 ⟨rfl, R2, hg⟩
   have hB2 := hB.grown hg hB.size (fun k e => by cases e; exact hb)
   clear hg
   have hrun := hR.out.2.2.2
   by_cases he : verr s l[j].toNat = 0
   ·rw [if_neg (by simpa using he)] at hrun
    cases hdn : vdone s l[j].toNat with
    | true =>
     rw [hdn, if_pos rfl] at hrun
     have HH := Lib.hid hrun
     have HD := Lib.hid hdn
     obtain ⟨c0, c1, c2, c3, _⟩ := R2.cells
     rw [he]
     have HE := Lib.hid he
     clear hrun hdn he R R2 hok
     go_wp2
     go_quiet (fail)
     go_wp2
     go_ret3
     refine ⟨?_, below_drewN hB2 _⟩
     rw [HV.out, HH.out]
     rfl
    | false =>
     rw [hdn, if_neg (by simp)] at hrun
     have HH := Lib.hid (And.intro hrun (vgoes he hdn))
     rw [he]
     clear hrun hdn he R
     go_wp2
     go_roundw
     case rel => exact ⟨j + 1, _, by omega, by go_num, R2, hok, HH.out.2.1, HH.out.2.2, HH.out.1, hB2⟩
     case measure => simp [intOf]; omega
   ·rw [if_pos he] at hrun
    have HH := Lib.hid hrun
    have he1 : (verr s l[j].toNat != 0) = true := by simp [he]
    clear hrun R R2 hok
    go_wp2
    go_ret3
    refine ⟨?_, hB2⟩
    rw [HV.out, HH.out]
    rfl
  ·have HH := Lib.hid hrun
   clear hd hbad hrun
   go_wp2
   go_ret3
   refine ⟨?_, hB⟩
   rw [HV.out, HH.out, List.drop_of_length_le (by omega)]
   rfl
end Go.Proofs.YtanofjmkkhocaaaGreatDoor
namespace Go.Proofs.YtanofjmkkhocaaaGreatDoor
open Go.RowKit
theorem p7_succ (i : Nat) : (2 : Int) ^ (7 * (i + 1)) = 2 ^ (7 * i) * 128 := by rw [show 7 * (i + 1) = 7 * i + 7 by omega, Int.pow_add]; rfl
theorem vrun_inv : ∀ (l : List UInt8) (a : Int) (i : Nat), i ≤ 3 →
  (∃ m : Int, 0 ≤ m ∧ m < 2 ^ (7 * (4 - i)) ∧ (i = 0 ∨ 1 ≤ m) ∧ vrun ⟨a, i, false, false⟩ l = (a + m * 2 ^ (7 * i), ((i + vsz m : Nat) : Int), 0) ∧ vsz m ≤ l.length ∧ l.take (vsz m) = vbytes m) ∨
  (vrun ⟨a, i, false, false⟩ l = (0, 0, 3)) ∨ (vrun ⟨a, i, false, false⟩ l = (0, 0, 5))
 | [], a, i, hi => .inr (.inl rfl)
 | c :: r, a, i, hi => by
  have hc0 : (0 : Int) ≤ (c.toNat : Int) := by omega
  have hc1 : (c.toNat : Int) < 256 := by have := c.toNat_lt; omega
  rw [vrun]
  by_cases h128 : 128 ≤ (c.toNat : Int)
  ·by_cases h4 : i + 1 = 4
   ·right; right
    simp only [verr, vstep, Bool.or_false, Bool.false_eq_true, if_false, if_pos h128, h4]
    simp
   ·simp only [verr, vdone, vpush, vstep, Bool.or_false, Bool.false_eq_true, if_false, if_pos h128, decide_eq_false h4]
    rw [if_neg (by simp)]
    rcases vrun_inv r (a + (c.toNat : Int) % 128 * 2 ^ (7 * i)) (i + 1) (by omega) with ⟨m, h0, h1, h2, h3, h5, h6⟩ | h | h
    ·left
     have hp : (2 : Int) ^ (7 * (4 - i)) = 2 ^ (7 * (4 - (i + 1))) * 128 := by
      rw [show 4 - i = (4 - (i + 1)) + 1 by omega, p7_succ]
     have hmb : m ≤ 2097151 := by
      have : (2 : Int) ^ (7 * (4 - (i + 1))) ≤ 2 ^ 21 := by
       have hh : i = 0 ∨ i = 1 ∨ i = 2 := by omega
       rcases hh with rfl | rfl | rfl <;> decide
      omega
     have hd : (128 * m + ((c.toNat : Int) - 128)) / 128 = m := by omega
     have hmd : (128 * m + ((c.toNat : Int) - 128)) % 128 = (c.toNat : Int) - 128 := by omega
     have hge : 128 ≤ 128 * m + ((c.toNat : Int) - 128) := by omega
     have hle : 128 * m + ((c.toNat : Int) - 128) ≤ 268435455 := by omega
     obtain ⟨s1, s2, s3, s4⟩ := vsz_step hge hle
     have hvb := vbK_step hge hle
     rw [hd] at s1 hvb
     rw [hmd] at hvb
     refine ⟨128 * m + ((c.toNat : Int) - 128), by omega, by omega, .inr (by omega), ?_, ?_, ?_⟩
     ·rw [h3, s1, p7_succ]
      have hcm : (c.toNat : Int) % 128 = (c.toNat : Int) - 128 := by omega
      rw [hcm]
      generalize (2 : Int) ^ (7 * i) = P
      generalize (c.toNat : Int) - 128 = y
      congr 1
      ·rw [Int.add_mul, Int.mul_comm P 128, ← Int.mul_assoc, Int.mul_comm m 128]; omega
      ·congr 1; omega
     ·rw [s1]; simp; omega
     ·rw [s1, List.take_succ_cons, h6]
      unfold vbytes
      rw [hvb]
      simp only [u8s, List.map_cons]
      congr 1
      rw [show (c.toNat : Int) - 128 + 128 = (c.toNat : Int) by omega]
      simp
    ·exact .inr (.inl h)
    ·exact .inr (.inr h)
  ·by_cases hz : (c.toNat : Int) = 0 ∧ 0 < i
   ·right; right
    simp only [verr, vstep, Bool.or_false, Bool.false_eq_true, if_false, if_neg h128, if_pos hz]
    simp
   ·left
    have hsm := vsz_small hc0 (show (c.toNat : Int) < 128 by omega)
    refine ⟨(c.toNat : Int), hc0, ?_, by omega, ?_, by rw [hsm]; simp, ?_⟩
    ·have hh : i = 0 ∨ i = 1 ∨ i = 2 ∨ i = 3 := by omega
     rcases hh with rfl | rfl | rfl | rfl <;> omega
    ·simp only [verr, vdone, vpush, vstep, Bool.or_false, Bool.false_eq_true, if_false, if_neg h128, if_neg hz]
     rw [if_neg (by simp), if_pos trivial, hsm, show (c.toNat : Int) % 128 = c.toNat by omega]
    ·rw [hsm]
     unfold vbytes
     rw [vbK_small hc0 (by omega)]
     simp [u8s]
theorem vread_inv (l : List UInt8) : (∃ m : Int, 0 ≤ m ∧ m ≤ 268435455 ∧ vread l = (m, (vsz m : Int), 0) ∧ vsz m ≤ l.length ∧ l.take (vsz m) = vbytes m) ∨ vread l = (0, 0, 3) ∨ vread l = (0, 0, 5) := by
 rcases vrun_inv l 0 0 (by omega) with ⟨m, h0, h1, _, h3, h5, h6⟩ | h | h
 ·refine .inl ⟨m, h0, by omega, ?_, h5, h6⟩
  unfold vread VSt.new; rw [h3]; simp
 ·exact .inr (.inl h)
 ·exact .inr (.inr h)
end Go.Proofs.YtanofjmkkhocaaaGreatDoor
namespace Go.Proofs.YtanofjmkkhocaaaGreatDoor
open Go.RowKit
def knownV (v : Int) : Bool := decide (v = 4 ∨ v = 5)
def kindsV (v k : Int) : Bool := decide (1 ≤ k ∧ (k ≤ 14 ∨ k = 15 ∧ v = 5))
def fixedF (k : Int) : Int := if k = 6 ∨ k = 8 ∨ k = 10 then 2 else 0
def flaggedF (k f : Int) : Bool := if k = 3 then decide (0 ≤ f ∧ f ≤ 15 ∧ f / 2 % 4 ≠ 3 ∧ (f / 2 % 4 ≠ 0 ∨ f < 8)) else decide (f = fixedF k)
def checkF (v k f l : Int) : Int := if knownV v = false then 2 else if kindsV v k = false then 8 else if flaggedF k f = false then 7 else if vmay l = false then 2 else 0
theorem known_v (v : Int) (w : World) : Calls Tryz.prog 202 #[.int .i64 v] w fun e w' => e = .returned (.bool (knownV v)) ∧ w = w' := by
 by_cases h1 : v = 4
 ·subst h1
  go_enter Tryz.func202, Tryz.ntmps202
  go_wp2
  go_ret
  exact ⟨rfl, rfl⟩
 by_cases h2 : v = 5
 ·subst h2
  go_enter Tryz.func202, Tryz.ntmps202
  go_wp2
  go_ret
  exact ⟨rfl, rfl⟩
 have HK := Lib.hid (show knownV v = false by unfold knownV; simp [h1, h2])
 have q1 : (v == 4) = false := by simpa using h1
 have q2 : (v == 5) = false := by simpa using h2
 clear h1 h2
 go_enter Tryz.func202, Tryz.ntmps202
 go_wp2
 go_ret
 exact ⟨by rw [HK.out]; rfl, rfl⟩
theorem kinds_v (v k : Int) (w : World) : Calls Tryz.prog 215 #[.int .i64 v, .int .i64 k] w fun e w' => e = .returned (.bool (kindsV v k)) ∧ w = w' := by
 by_cases h1 : v = 5
 ·subst h1
  have e : kindsV 5 k = decide (1 ≤ k ∧ k ≤ 15) := by unfold kindsV; apply decide_eq_decide.2; omega
  rw [e]
  by_cases h2 : 1 ≤ k
  ·by_cases h3 : k ≤ 15
   ·rw [show decide (1 ≤ k ∧ k ≤ 15) = true by simp [h2, h3]]
    go_enter Tryz.func215, Tryz.ntmps215
    go_wp2
    go_ret
    exact ⟨rfl, rfl⟩
   ·rw [show decide (1 ≤ k ∧ k ≤ 15) = false by simp [h3]]
    go_enter Tryz.func215, Tryz.ntmps215
    go_wp2
    go_ret
    exact ⟨rfl, rfl⟩
  ·rw [show decide (1 ≤ k ∧ k ≤ 15) = false by simp [h2]]
   go_enter Tryz.func215, Tryz.ntmps215
   go_wp2
   go_ret
   exact ⟨rfl, rfl⟩
 ·have e : kindsV v k = decide (1 ≤ k ∧ k ≤ 14) := by unfold kindsV; apply decide_eq_decide.2; omega
  rw [e]
  have q1 : (v == 5) = false := by simpa using h1
  clear h1
  by_cases h2 : 1 ≤ k
  ·by_cases h3 : k ≤ 14
   ·rw [show decide (1 ≤ k ∧ k ≤ 14) = true by simp [h2, h3]]
    go_enter Tryz.func215, Tryz.ntmps215
    go_wp2
    go_ret
    exact ⟨rfl, rfl⟩
   ·rw [show decide (1 ≤ k ∧ k ≤ 14) = false by simp [h3]]
    go_enter Tryz.func215, Tryz.ntmps215
    go_wp2
    go_ret
    exact ⟨rfl, rfl⟩
  ·rw [show decide (1 ≤ k ∧ k ≤ 14) = false by simp [h2]]
   go_enter Tryz.func215, Tryz.ntmps215
   go_wp2
   go_ret
   exact ⟨rfl, rfl⟩
theorem fixed_f (k : Int) (w : World) : Calls Tryz.prog 230 #[.int .i64 k] w fun e w' => e = .returned (.int .i64 (fixedF k)) ∧ w = w' := by
 by_cases h1 : k = 6
 ·subst h1
  go_enter Tryz.func230, Tryz.ntmps230
  go_wp2
  go_ret
  exact ⟨rfl, rfl⟩
 by_cases h2 : k = 8
 ·subst h2
  go_enter Tryz.func230, Tryz.ntmps230
  go_wp2
  go_ret
  exact ⟨rfl, rfl⟩
 by_cases h3 : k = 10
 ·subst h3
  go_enter Tryz.func230, Tryz.ntmps230
  go_wp2
  go_ret
  exact ⟨rfl, rfl⟩
 have HK := Lib.hid (show fixedF k = 0 by unfold fixedF; rw [if_neg (by omega)])
 have q1 : (k == 6) = false := by simpa using h1
 have q2 : (k == 8) = false := by simpa using h2
 have q3 : (k == 10) = false := by simpa using h3
 clear h1 h2 h3
 go_enter Tryz.func230, Tryz.ntmps230
 go_wp2
 go_ret
 exact ⟨by rw [HK.out]; rfl, rfl⟩
theorem flagged_f (k f : Int) (w : World) : Calls Tryz.prog 216 #[.int .i64 k, .int .i64 f] w fun e w' => e = .returned (.bool (flaggedF k f)) ∧ w = w' := by
 by_cases h1 : k = 3
 ·subst h1
  by_cases h2 : 0 ≤ f
  ·by_cases h3 : f ≤ 15
   ·rcases (by omega : f = 0 ∨ f = 1 ∨ f = 2 ∨ f = 3 ∨ f = 4 ∨ f = 5 ∨ f = 6 ∨ f = 7 ∨ f = 8 ∨ f = 9 ∨ f = 10 ∨ f = 11 ∨ f = 12 ∨ f = 13 ∨ f = 14 ∨ f = 15) with rfl | rfl | rfl | rfl | rfl | rfl | rfl | rfl | rfl | rfl | rfl | rfl | rfl | rfl | rfl | rfl
    all_goals (clear h2 h3; go_enter Tryz.func216, Tryz.ntmps216)
    all_goals go_wp2
    all_goals go_ret
    all_goals exact ⟨rfl, rfl⟩
   ·have HK := Lib.hid (show flaggedF 3 f = false by unfold flaggedF; simp; omega)
    go_enter Tryz.func216, Tryz.ntmps216
    go_wp2
    go_ret
    exact ⟨by rw [HK.out]; rfl, rfl⟩
  ·have HK := Lib.hid (show flaggedF 3 f = false by unfold flaggedF; simp; omega)
   go_enter Tryz.func216, Tryz.ntmps216
   go_wp2
   go_ret
   exact ⟨by rw [HK.out]; rfl, rfl⟩
 ·have HK := Lib.hid (show flaggedF k f = (f == fixedF k) by unfold flaggedF; rw [if_neg h1]; rfl)
  have q1 : (k == 3) = false := by simpa using h1
  have q2 : (k != 3) = true := by simp [h1]
  clear h1
  go_enter Tryz.func216, Tryz.ntmps216
  go_wp2_with fail
  refine (fixed_f k _).mono ?_
  rintro r w' ⟨rfl, rfl⟩
  go_wp2
  go_ret
  exact ⟨by rw [HK.out]; rfl, rfl⟩
theorem check_any (v k f l : Int) (w : World) : Calls Tryz.prog 203 #[.int .i64 v, .agg #[.int .i64 k, .int .i64 f, .int .i64 l]] w fun e w' => e = .returned (.int .i64 (checkF v k f l)) ∧ Below w.heap.size w w' := by
 have hA : Below w.heap.size w (w.alloc (.cells #[.int .i64 k, .int .i64 f, .int .i64 l] 294 (0, 0))) := (Below.refl _ _).alloc (Nat.le_refl _) _
 cases h1 : knownV v with
 | false =>
  rw [show checkF v k f l = 2 by unfold checkF; rw [if_pos h1]]
  have H1 := Lib.hid h1
  clear h1
  go_enter Tryz.func203, Tryz.ntmps203
  go_wp2_with fail
  refine (known_v v _).mono ?_
  rintro r w' ⟨rfl, rfl⟩
  rw [H1.out]
  go_wp2
  go_ret
  exact ⟨rfl, hA⟩
 | true =>
 cases h2 : kindsV v k with
 | false =>
  rw [show checkF v k f l = 8 by unfold checkF; rw [if_neg (by simp [h1]), if_pos h2]]
  have H1 := Lib.hid h1
  have H2 := Lib.hid h2
  clear h1 h2
  go_enter Tryz.func203, Tryz.ntmps203
  go_wp2_with fail
  refine (known_v v _).mono ?_
  rintro r w' ⟨rfl, rfl⟩
  rw [H1.out]
  go_wp2_with fail
  refine (kinds_v v k _).mono ?_
  rintro r w' ⟨rfl, rfl⟩
  rw [H2.out]
  go_wp2
  go_ret
  exact ⟨rfl, hA⟩
 | true =>
 cases h3 : flaggedF k f with
 | false =>
  rw [show checkF v k f l = 7 by unfold checkF; rw [if_neg (by simp [h1]), if_neg (by simp [h2]), if_pos h3]]
  have H1 := Lib.hid h1
  have H2 := Lib.hid h2
  have H3 := Lib.hid h3
  clear h1 h2 h3
  go_enter Tryz.func203, Tryz.ntmps203
  go_wp2_with fail
  refine (known_v v _).mono ?_
  rintro r w' ⟨rfl, rfl⟩
  rw [H1.out]
  go_wp2_with fail
  refine (kinds_v v k _).mono ?_
  rintro r w' ⟨rfl, rfl⟩
  rw [H2.out]
  go_wp2_with fail
  refine (flagged_f k f _).mono ?_
  rintro r w' ⟨rfl, rfl⟩
  rw [H3.out]
  go_wp2
  go_ret
  exact ⟨rfl, hA⟩
 | true =>
 have hz : (vsz l = 0 ∧ checkF v k f l = 2) ∨ (¬ vsz l = 0 ∧ checkF v k f l = 0) := by
  have e : checkF v k f l = if vmay l = false then 2 else 0 := by unfold checkF; rw [if_neg (by simp [h1]), if_neg (by simp [h2]), if_neg (by simp [h3])]
  rw [e]
  cases hm : vmay l with
  | false => exact .inl ⟨by unfold vsz; rw [if_pos (by simp [vmay] at hm; omega)], rfl⟩
  | true => exact .inr ⟨by simp [vmay] at hm; have := (vsz_pos hm.1 hm.2).1; omega, rfl⟩
 have H1 := Lib.hid h1
 have H2 := Lib.hid h2
 have H3 := Lib.hid h3
 clear h1 h2 h3
 rcases hz with ⟨hv, hc⟩ | ⟨hv, hc⟩
 ·have HV := Lib.hid hv
  rw [hc]
  clear hv hc
  go_enter Tryz.func203, Tryz.ntmps203
  go_wp2_with fail
  refine (known_v v _).mono ?_
  rintro r w' ⟨rfl, rfl⟩
  rw [H1.out]
  go_wp2_with fail
  refine (kinds_v v k _).mono ?_
  rintro r w' ⟨rfl, rfl⟩
  rw [H2.out]
  go_wp2_with fail
  refine (flagged_f k f _).mono ?_
  rintro r w' ⟨rfl, rfl⟩
  rw [H3.out]
  go_wp2_with fail
  refine (vsz_any l _).mono ?_
  rintro r w' ⟨rfl, rfl⟩
  rw [HV.out]
  go_wp2
  go_ret
  exact ⟨rfl, hA⟩
 ·have HV : (vsz l == 0) = false := by simpa using hv
  rw [hc]
  clear hv hc
  go_enter Tryz.func203, Tryz.ntmps203
  go_wp2_with fail
  refine (known_v v _).mono ?_
  rintro r w' ⟨rfl, rfl⟩
  rw [H1.out]
  go_wp2_with fail
  refine (kinds_v v k _).mono ?_
  rintro r w' ⟨rfl, rfl⟩
  rw [H2.out]
  go_wp2_with fail
  refine (flagged_f k f _).mono ?_
  rintro r w' ⟨rfl, rfl⟩
  rw [H3.out]
  go_wp2_with fail
  refine (vsz_any l _).mono ?_
  rintro r w' ⟨rfl, rfl⟩
  go_wp2
  go_ret
  exact ⟨rfl, hA⟩
end Go.Proofs.YtanofjmkkhocaaaGreatDoor
namespace Go.Proofs.YtanofjmkkhocaaaGreatDoor
open Go.RowKit
end Go.Proofs.YtanofjmkkhocaaaGreatDoor
namespace Go.Proofs.YtanofjmkkhocaaaGreatDoor
open Go.RowKit
theorem Obj?.drew {w : World} {b : Nat} {cs : Array Value} {t : TypeId} (h : Obj? w b cs t) : Obj? w.drew b cs t := h
theorem below_drew {w W : World} (h : Below w.heap.size w W) : Below w.heap.size w W.drew := h.trans ((below_grown (quiet_grown ⟨1, rfl⟩ none)).mono h.size)
theorem infoHd : (Tryz.prog.info? 294).map (·.size) = some 3 := by kernel_rfl
def rdH (v : Int) (t : List UInt8) : Int × Int × Int × Int × Int :=
 if knownV v = false then (0, 0, 0, 0, 2) else
 match t with
 | [] => (0, 0, 0, 0, 3)
 | c :: r =>
  if checkF v ((c.toNat / 16 : Nat) : Int) ((c.toNat % 16 : Nat) : Int) 0 ≠ 0 then (0, 0, 0, 0, checkF v ((c.toNat / 16 : Nat) : Int) ((c.toNat % 16 : Nat) : Int) 0)
  else if (vread r).2.2 ≠ 0 then (0, 0, 0, 0, (vread r).2.2)
  else (((c.toNat / 16 : Nat) : Int), ((c.toNat % 16 : Nat) : Int), (vread r).1, (vread r).2.1 + 1, 0)
theorem hdread_early (v : Int) (t : List UInt8) (h : knownV v = false ∨ (knownV v = true ∧ t = [])) (w : World) : Calls Tryz.prog 198 #[.int .i64 v, .string ⟨t.toArray⟩] w fun e w' =>
  e = .returned (.tuple #[.agg #[.int .i64 (rdH v t).1, .int .i64 (rdH v t).2.1, .int .i64 (rdH v t).2.2.1], .int .i64 (rdH v t).2.2.2.1, .int .i64 (rdH v t).2.2.2.2]) ∧ Below w.heap.size w w' := by
 rcases h with h | ⟨h, rfl⟩
 ·have HH := Lib.hid (And.intro h (show rdH v t = (0, 0, 0, 0, 2) by unfold rdH; rw [if_pos h]))
  rw [HH.out.2]
  clear h
  go_enter Tryz.func198, Tryz.ntmps198
  go_wp2_with fail
  refine (known_v v _).mono ?_
  rintro r w' ⟨rfl, rfl⟩
  rw [HH.out.1]
  go_wp2
  (try simp only [Exit.inBlock, Exit.then])
  refine bodyPost_ret (results_row_tmp2 rfl _ _ _ _ _ _ rfl (Obj?.new _ _ _) Tryz.underlying294 rfl infoHd) rfl ?_
  exact ⟨rfl, below_al (Below.refl _ _) _⟩
 ·have HH := Lib.hid (And.intro h (show rdH v [] = (0, 0, 0, 0, 3) by unfold rdH; rw [if_neg (by simp [h])]))
  rw [HH.out.2]
  clear h
  go_enter Tryz.func198, Tryz.ntmps198
  go_wp2_with fail
  refine (known_v v _).mono ?_
  rintro r w' ⟨rfl, rfl⟩
  rw [HH.out.1]
  go_wp2
  (try simp only [Exit.inBlock, Exit.then])
  refine bodyPost_ret (results_row_tmp2 rfl _ _ _ _ _ _ rfl (Obj?.new _ _ _) Tryz.underlying294 rfl infoHd) rfl ?_
  exact ⟨rfl, below_al (Below.refl _ _) _⟩
theorem vread_range (l : List UInt8) : 0 ≤ (vread l).2.1 ∧ (vread l).2.1 ≤ 4 := by
 rcases vread_inv l with ⟨m, h0, h1, e, h2, _⟩ | e | e
 ·rw [e]; have := vsz_pos h0 h1; simp only; omega
 ·rw [e]; decide
 ·rw [e]; decide
theorem u8_shift : ∀ c : Fin 256, (((c : Nat) : Int) / 16 = (((c : Nat) / 16 : Nat) : Int)) ∧ bits .and .u8 ((c : Nat) : Int) 15 = (((c : Nat) % 16 : Nat) : Int) := by decide +kernel
theorem hdread_kind (v : Int) (c : UInt8) (r : List UInt8) (hr : (r.length : Int) ≤ 4611686018427380000) (h : knownV v = true) (hc : checkF v ((c.toNat / 16 : Nat) : Int) ((c.toNat % 16 : Nat) : Int) 0 ≠ 0) (w : World) : Calls Tryz.prog 198 #[.int .i64 v, .string ⟨(c :: r).toArray⟩] w fun e w' =>
  e = .returned (.tuple #[.agg #[.int .i64 (rdH v (c :: r)).1, .int .i64 (rdH v (c :: r)).2.1, .int .i64 (rdH v (c :: r)).2.2.1], .int .i64 (rdH v (c :: r)).2.2.2.1, .int .i64 (rdH v (c :: r)).2.2.2.2]) ∧ Below w.heap.size w w' := by
 have hR : rdH v (c :: r) = (0, 0, 0, 0, checkF v ((c.toNat / 16 : Nat) : Int) ((c.toNat % 16 : Nat) : Int) 0) := by unfold rdH; rw [if_neg (by simp [h])]; simp only; rw [if_pos hc]
 obtain ⟨k, hk⟩ : ∃ k : Nat, k = c.toNat / 16 := ⟨_, rfl⟩
 obtain ⟨f, hf⟩ : ∃ f : Nat, f = c.toNat % 16 := ⟨_, rfl⟩
 rw [← hk, ← hf] at hc
 try rw [← hk, ← hf] at hR
 obtain ⟨u1, u2⟩ := u8_shift ⟨c.toNat, c.toNat_lt⟩
 simp only [← hk, ← hf] at u1 u2
 have hx : (ByteArray.mk (c :: r).toArray)[0]'(Nat.succ_pos _) = c := rfl
 have HH := Lib.hid (And.intro h (And.intro hR (And.intro hk hf)))
 have q1 : (checkF v k f 0 == 0) = false := by simpa using hc
 have q2 : (checkF v k f 0 != 0) = true := by simp [hc]
 rw [HH.out.2.1]
 have hb16 : k < 16 ∧ f < 16 := by have := c.toNat_lt; omega
 obtain ⟨hb1, hb2⟩ := hb16
 clear h hc hR hk hf
 have HU := Lib.hid (And.intro u1 u2)
 clear u1 u2
 go_enter Tryz.func198, Tryz.ntmps198
 go_wp2_with fail
 refine (known_v v _).mono ?_
 rintro e0 w' ⟨rfl, rfl⟩
 rw [HH.out.1]
 go_wp2
 obtain ⟨u1, u2⟩ := HU.out
 go_region
 clear u1 u2
 go_wp2_with fail
 refine (check_any v k f 0 _).mono ?_
 rintro e1 w1 ⟨rfl, hb⟩
 have hB0 : Below w.heap.size w (w.alloc (.cells #[.int .i64 k, .int .i64 f, .int .i64 0] 294 (0, 0))).drew := below_drew (below_al (Below.refl _ _) _)
 have hB1 := hB0.trans (hb.mono hB0.size)
 have O1 := Obj?.below (Obj?.drew (Obj?.new w #[.int .i64 k, .int .i64 f, .int .i64 0] 294)) hb (by simp)
 clear hb
 have kc := O1.cells
 have kf := O1.froz
 have HO := Lib.hid O1
 clear O1
 go_wp2_with fail
 (try simp only [Exit.inBlock, Exit.then])
 refine bodyPost_ret (results_row_tmp2 rfl _ _ _ _ _ _ rfl (((HO.out.set 0 _).set 1 _).set 2 _) Tryz.underlying294 rfl infoHd) rfl ?_
 exact ⟨rfl, ((hB1.setCell (by simp) _).setCell (by simp) _).setCell (by simp) _⟩
theorem hdread_var (v : Int) (c : UInt8) (r : List UInt8) (hr : (r.length : Int) ≤ 4611686018427380000) (h : knownV v = true) (hc : checkF v ((c.toNat / 16 : Nat) : Int) ((c.toNat % 16 : Nat) : Int) 0 = 0) (hv : (vread r).2.2 ≠ 0) (w : World) : Calls Tryz.prog 198 #[.int .i64 v, .string ⟨(c :: r).toArray⟩] w fun e w' =>
  e = .returned (.tuple #[.agg #[.int .i64 (rdH v (c :: r)).1, .int .i64 (rdH v (c :: r)).2.1, .int .i64 (rdH v (c :: r)).2.2.1], .int .i64 (rdH v (c :: r)).2.2.2.1, .int .i64 (rdH v (c :: r)).2.2.2.2]) ∧ Below w.heap.size w w' := by
 have hR : rdH v (c :: r) = (0, 0, 0, 0, (vread r).2.2) := by unfold rdH; rw [if_neg (by simp [h])]; simp only; rw [if_neg (fun q => q hc), if_pos hv]
 obtain ⟨k, hk⟩ : ∃ k : Nat, k = c.toNat / 16 := ⟨_, rfl⟩
 obtain ⟨f, hf⟩ : ∃ f : Nat, f = c.toNat % 16 := ⟨_, rfl⟩
 rw [← hk, ← hf] at hc
 try rw [← hk, ← hf] at hR
 obtain ⟨u1, u2⟩ := u8_shift ⟨c.toNat, c.toNat_lt⟩
 simp only [← hk, ← hf] at u1 u2
 have hx : (ByteArray.mk (c :: r).toArray)[0]'(Nat.succ_pos _) = c := rfl
 have HH := Lib.hid (And.intro h (And.intro hR (And.intro hk (And.intro hf hc))))
 have q1 : ((vread r).2.2 == 0) = false := by simpa using hv
 have q2 : ((vread r).2.2 != 0) = true := by simp [hv]
 have hex : (ByteArray.mk (c :: r).toArray).extract 1 (r.length + 1) = ByteArray.mk r.toArray := by rw [ByteArray.extract_mk]; simp
 clear hv
 rw [HH.out.2.1]
 have hb16 : k < 16 ∧ f < 16 := by have := c.toNat_lt; omega
 obtain ⟨hb1, hb2⟩ := hb16
 clear h hc hR hk hf
 have HU := Lib.hid (And.intro u1 u2)
 clear u1 u2
 go_enter Tryz.func198, Tryz.ntmps198
 go_wp2_with fail
 refine (known_v v _).mono ?_
 rintro e0 w' ⟨rfl, rfl⟩
 rw [HH.out.1]
 go_wp2
 obtain ⟨u1, u2⟩ := HU.out
 go_region
 clear u1 u2
 go_wp2_with fail
 refine (check_any v k f 0 _).mono ?_
 rintro e1 w1 ⟨rfl, hb⟩
 have hB0 : Below w.heap.size w (w.alloc (.cells #[.int .i64 k, .int .i64 f, .int .i64 0] 294 (0, 0))).drew := below_drew (below_al (Below.refl _ _) _)
 have hB1 := hB0.trans (hb.mono hB0.size)
 have O1 := Obj?.below (Obj?.drew (Obj?.new w #[.int .i64 k, .int .i64 f, .int .i64 0] 294)) hb (by simp)
 clear hb
 rw [HH.out.2.2.2.2]
 have HO := Lib.hid O1
 clear O1
 go_wp2_with fail
 refine (vread_any r (by omega) _).mono ?_
 rintro e2 w2 ⟨rfl, hb⟩
 have hB2 := hB1.trans (hb.mono hB1.size)
 have O2 := HO.out.below hb HO.out.lt
 have kc := O2.cells
 have kf := O2.froz
 have HO2 := Lib.hid O2
 clear O2 hb
 go_wp2_with fail
 (try simp only [Exit.inBlock, Exit.then])
 refine bodyPost_ret (results_row_tmp2 rfl _ _ _ _ _ _ rfl ((((HO2.out.set 2 _).set 0 _).set 1 _).set 2 _) Tryz.underlying294 rfl infoHd) rfl ?_
 exact ⟨rfl, (((hB2.setCell (by simp) _).setCell (by simp) _).setCell (by simp) _).setCell (by simp) _⟩
theorem hdread_ok (v : Int) (c : UInt8) (r : List UInt8) (hr : (r.length : Int) ≤ 4611686018427380000) (h : knownV v = true) (hc : checkF v ((c.toNat / 16 : Nat) : Int) ((c.toNat % 16 : Nat) : Int) 0 = 0) (hv : (vread r).2.2 = 0) (w : World) : Calls Tryz.prog 198 #[.int .i64 v, .string ⟨(c :: r).toArray⟩] w fun e w' =>
  e = .returned (.tuple #[.agg #[.int .i64 (rdH v (c :: r)).1, .int .i64 (rdH v (c :: r)).2.1, .int .i64 (rdH v (c :: r)).2.2.1], .int .i64 (rdH v (c :: r)).2.2.2.1, .int .i64 (rdH v (c :: r)).2.2.2.2]) ∧ Below w.heap.size w w' := by
 have hR : rdH v (c :: r) = (((c.toNat / 16 : Nat) : Int), ((c.toNat % 16 : Nat) : Int), (vread r).1, (vread r).2.1 + 1, 0) := by unfold rdH; rw [if_neg (by simp [h])]; simp only; rw [if_neg (fun q => q hc), if_neg (fun q => q hv)]
 obtain ⟨k, hk⟩ : ∃ k : Nat, k = c.toNat / 16 := ⟨_, rfl⟩
 obtain ⟨f, hf⟩ : ∃ f : Nat, f = c.toNat % 16 := ⟨_, rfl⟩
 rw [← hk, ← hf] at hc
 try rw [← hk, ← hf] at hR
 obtain ⟨u1, u2⟩ := u8_shift ⟨c.toNat, c.toNat_lt⟩
 simp only [← hk, ← hf] at u1 u2
 have hx : (ByteArray.mk (c :: r).toArray)[0]'(Nat.succ_pos _) = c := rfl
 have hvr := vread_range r
 have HH := Lib.hid (And.intro h (And.intro hR (And.intro hk (And.intro hf (And.intro hc hv)))))
 have hex : (ByteArray.mk (c :: r).toArray).extract 1 (r.length + 1) = ByteArray.mk r.toArray := by rw [ByteArray.extract_mk]; simp
 clear hv
 rw [HH.out.2.1]
 have hb16 : k < 16 ∧ f < 16 := by have := c.toNat_lt; omega
 obtain ⟨hb1, hb2⟩ := hb16
 clear h hc hR hk hf
 have HU := Lib.hid (And.intro u1 u2)
 clear u1 u2
 go_enter Tryz.func198, Tryz.ntmps198
 go_wp2_with fail
 refine (known_v v _).mono ?_
 rintro e0 w' ⟨rfl, rfl⟩
 rw [HH.out.1]
 go_wp2
 obtain ⟨u1, u2⟩ := HU.out
 go_region
 clear u1 u2
 go_wp2_with fail
 refine (check_any v k f 0 _).mono ?_
 rintro e1 w1 ⟨rfl, hb⟩
 have hB0 : Below w.heap.size w (w.alloc (.cells #[.int .i64 k, .int .i64 f, .int .i64 0] 294 (0, 0))).drew := below_drew (below_al (Below.refl _ _) _)
 have hB1 := hB0.trans (hb.mono hB0.size)
 have O1 := Obj?.below (Obj?.drew (Obj?.new w #[.int .i64 k, .int .i64 f, .int .i64 0] 294)) hb (by simp)
 clear hb
 rw [HH.out.2.2.2.2.1]
 have HO := Lib.hid O1
 clear O1
 go_wp2_with fail
 refine (vread_any r (by omega) _).mono ?_
 rintro e2 w2 ⟨rfl, hb⟩
 rw [HH.out.2.2.2.2.2]
 have hB2 := hB1.trans (hb.mono hB1.size)
 have O2 := HO.out.below hb HO.out.lt
 have kc := O2.cells
 have kf := O2.froz
 have HO2 := Lib.hid O2
 obtain ⟨hv1, hv2⟩ := hvr
 clear O2 hb
 go_wp2_with fail
 (try simp only [Exit.inBlock, Exit.then])
 refine bodyPost_ret (results_row_tmp2 rfl _ _ _ _ _ _ rfl ((((HO2.out.set 2 _).set 0 _).set 1 _).set 2 _) Tryz.underlying294 rfl infoHd) rfl ?_
 exact ⟨rfl, (((hB2.setCell (by simp) _).setCell (by simp) _).setCell (by simp) _).setCell (by simp) _⟩
theorem hdread_any (v : Int) (t : List UInt8) (ht : (t.length : Int) ≤ 4611686018427380000) (w : World) : Calls Tryz.prog 198 #[.int .i64 v, .string ⟨t.toArray⟩] w fun e w' =>
  e = .returned (.tuple #[.agg #[.int .i64 (rdH v t).1, .int .i64 (rdH v t).2.1, .int .i64 (rdH v t).2.2.1], .int .i64 (rdH v t).2.2.2.1, .int .i64 (rdH v t).2.2.2.2]) ∧ Below w.heap.size w w' := by
 cases h : knownV v with
 | false => exact hdread_early v t (.inl h) w
 | true =>
  cases t with
  | nil => exact hdread_early v [] (.inr ⟨h, rfl⟩) w
  | cons c r =>
   have hr : (r.length : Int) ≤ 4611686018427380000 := by rw [List.length_cons] at ht; omega
   by_cases hc : checkF v ((c.toNat / 16 : Nat) : Int) ((c.toNat % 16 : Nat) : Int) 0 = 0
   ·by_cases hv : (vread r).2.2 = 0
    ·exact hdread_ok v c r hr h hc hv w
    ·exact hdread_var v c r hr h hc hv w
   ·exact hdread_kind v c r hr h hc w
end Go.Proofs.YtanofjmkkhocaaaGreatDoor
