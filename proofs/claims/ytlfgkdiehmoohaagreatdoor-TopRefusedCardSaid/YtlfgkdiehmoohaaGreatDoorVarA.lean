/- varint's reader: the Lean functions, and the walks of its methods. -/
import Derived.Test.YtlfgkdiehmoohaaGreatDoorChecked
import Derived.Test.YtlfgkdiehmoohaaGreatDoorBase
import Derived.StillTailTactics
namespace Go.Proofs.YtlfgkdiehmoohaaGreatDoor
open Go.RowKit

theorem u8_and127 (c : Int) (h0 : 0 ≤ c) (h1 : c < 256) : bits .and .u8 c 127 = c % 128 := bits_mask .u8 8 (by decide) wraps_u8 7 (by decide) c h0 h1
theorem u8_and128 (c : Int) (h0 : 0 ≤ c) (h1 : c < 256) : bits .and .u8 c 128 = if c < 128 then 0 else 128 := by
  obtain ⟨m, rfl⟩ := Int.eq_ofNat_of_zero_le h0
  have := u8_and_nat m 128 (by omega) (by decide)
  rw [show ((128 : Nat) : Int) = 128 from rfl] at this
  rw [this]
  have key : ∀ m : Fin 256, (((m.val &&& 128 : Nat)) : Int) = if (m.val : Int) < 128 then 0 else 128 := by decide +kernel
  exact key ⟨m, by omega⟩
theorem u8_or128' (c : Int) (h0 : 0 ≤ c) (h1 : c < 128) : bits .or .u8 c 128 = c + 128 := by
  obtain ⟨m, rfl⟩ := Int.eq_ofNat_of_zero_le h0
  have := u8_or_nat m 128 (by omega) (by decide)
  rw [show ((128 : Nat) : Int) = 128 from rfl] at this
  rw [this]
  have key : ∀ m : Fin 128, (((m.val ||| 128 : Nat)) : Int) = (m.val : Int) + 128 := by decide +kernel
  exact key ⟨m, by omega⟩

/-- A reader: the number so far, how many bytes it has, whether it is whole, whether it is bad. -/
structure VSt where
  n : Int
  size : Nat
  done : Bool
  bad : Bool
/-- A byte more, of a reader that is neither. -/
def vstep (n : Int) (size : Nat) (c : Int) : VSt :=
  if 128 ≤ c then ⟨n + c % 128 * 2 ^ (7 * size), size + 1, false, decide (size + 1 = 4)⟩
  else if c = 0 ∧ 0 < size then ⟨n + c % 128 * 2 ^ (7 * size), size + 1, false, true⟩
  else ⟨n + c % 128 * 2 ^ (7 * size), size + 1, true, false⟩
def vpush (s : VSt) (c : Int) : VSt := if s.done || s.bad then s else vstep s.n s.size c
/-- What Push returns. -/
def vdone (s : VSt) (c : Int) : Bool := if s.done || s.bad then false else (vstep s.n s.size c).done
def verr (s : VSt) (c : Int) : Int := if s.done || s.bad then 13 else if (vstep s.n s.size c).bad then 5 else 0
/-- A reader that is neither has at most three bytes, and the number is below 2^(7*size). -/
def VOk (s : VSt) : Prop := 0 ≤ s.n ∧ s.n < 2 ^ (7 * s.size) ∧ s.size ≤ 4 ∧ (s.done = false → s.bad = false → s.size ≤ 3)

theorem pow7 (size : Nat) (h : size ≤ 3) (c : Int) : 0 ≤ c % 128 * 2 ^ (7 * size) ∧ c % 128 * 2 ^ (7 * size) ≤ 127 * 2 ^ (7 * size) ∧ (2 : Int) ^ (7 * size) ≤ 2097152 := by
  have hs : size = 0 ∨ size = 1 ∨ size = 2 ∨ size = 3 := by omega
  rcases hs with rfl | rfl | rfl | rfl <;> omega
theorem vstep_ok {n : Int} {size : Nat} {c : Int} (hn : 0 ≤ n) (hn2 : n < 2 ^ (7 * size)) (h : size ≤ 3) : VOk (vstep n size c) := by
  have e : (2 : Int) ^ (7 * (size + 1)) = 2 ^ (7 * size) * 128 := by rw [show 7 * (size + 1) = 7 * size + 7 by omega, Int.pow_add]; rfl
  obtain ⟨p1, p2, p3⟩ := pow7 size h c
  unfold vstep VOk
  split
  · refine ⟨by show 0 ≤ n + _; omega, by show n + _ < 2 ^ (7 * (size + 1)); omega, by show size + 1 ≤ 4; omega, fun _ hb => ?_⟩
    have hb2 : ¬ size + 1 = 4 := by simpa using hb
    show size + 1 ≤ 3; omega
  · split
    · exact ⟨by show 0 ≤ n + _; omega, by show n + _ < 2 ^ (7 * (size + 1)); omega, by show size + 1 ≤ 4; omega, fun _ hb => by simp at hb⟩
    · exact ⟨by show 0 ≤ n + _; omega, by show n + _ < 2 ^ (7 * (size + 1)); omega, by show size + 1 ≤ 4; omega, fun hb _ => by simp at hb⟩
theorem vpush_ok {s : VSt} {c : Int} (h : VOk s) : VOk (vpush s c) := by
  unfold vpush
  split
  · exact h
  · rename_i hh
    simp at hh
    exact vstep_ok h.1 h.2.1 (h.2.2.2 hh.1 hh.2)

theorem i64_in (x : Int) (h : -9223372036854775808 ≤ x) (h2 : x ≤ 9223372036854775807) : IntKind.i64.wrap x = x := by rw [IntKind.wrap_i64]; omega
theorem u64_in (x : Int) (h : 0 ≤ x) (h2 : x ≤ 18446744073709551615) : IntKind.u64.wrap x = x := by rw [IntKind.wrap_u64]; omega
theorem exp7 (size : Nat) (hsz : size ≤ 3) : min (IntKind.u64.wrap (IntKind.i64.wrap (7 * (size : Int)))).toNat 64 = 7 * size := by
  rw [i64_in _ (by omega) (by omega), u64_in _ (by omega) (by omega)]
  omega
theorem vshift (n c P : Int) (h1 : 0 ≤ n) (h2 : n ≤ 2097152) (p1 : 0 ≤ c % 128 * P) (p2 : c % 128 * P ≤ 266338304) :
    IntKind.i64.wrap (n + IntKind.i64.wrap (IntKind.i64.wrap (c % 128) * P)) = n + c % 128 * P := by
  rw [i64_in (c % 128) (by omega) (by omega), i64_in (c % 128 * P) (by omega) (by omega), i64_in _ (by omega) (by omega)]

/-- Block b is a reader. -/
def Rdr (w : World) (b : Nat) (s : VSt) : Prop := Obj? w b #[.int .i64 s.n, .int .i64 s.size, .bool s.done, .bool s.bad] 129
theorem Rdr.cells {w : World} {b : Nat} {s : VSt} (h : Rdr w b s) :
    w.cell? ⟨b, 0, none⟩ = some (.int .i64 s.n) ∧ w.cell? ⟨b, 1, none⟩ = some (.int .i64 s.size) ∧ w.cell? ⟨b, 2, none⟩ = some (.bool s.done) ∧ w.cell? ⟨b, 3, none⟩ = some (.bool s.bad) ∧
    w.frozen? ⟨b, 0, none⟩ = false ∧ w.frozen? ⟨b, 1, none⟩ = false ∧ w.frozen? ⟨b, 2, none⟩ = false ∧ w.frozen? ⟨b, 3, none⟩ = false :=
  ⟨Obj?.cell h 0 _ rfl, Obj?.cell h 1 _ rfl, Obj?.cell h 2 _ rfl, Obj?.cell h 3 _ rfl, Obj?.frozen h 0, Obj?.frozen h 1, Obj?.frozen h 2, Obj?.frozen h 3⟩
theorem Rdr.kept {w w' : World} {row : Option Nat} {b : Nat} {s : VSt} (h : Rdr w b s) (hg : w.grownBy w' row) (hne : row ≠ some b) : Rdr w' b s := Obj?.kept h hg hne
theorem Rdr.below {w w' : World} {b : Nat} {s : VSt} (h : Rdr w b s) (hb : Below w.heap.size w w') : Rdr w' b s := Obj?.below h hb (Obj?.lt h)
def VSt.new : VSt := ⟨0, 0, false, false⟩
theorem VSt.new_ok : VOk VSt.new := ⟨by decide, by decide, by decide, fun _ _ => by decide⟩

theorem vnew_any (w : World) : Calls Tryz.prog 54 #[] w fun e w' => ∃ b, e = .returned (.pointer (some ⟨b, 0, none⟩)) ∧ w.heap.size ≤ b ∧ Rdr w' b VSt.new ∧ w.grownBy w' none := by
  go_enter Tryz.func54, Tryz.ntmps54
  go_wp2
  go_ret
  exact ⟨_, rfl, Nat.le_refl _, Obj?.new _ _ _, World.grownBy_alloc _ _ _⟩
set_option maxRecDepth 100000 in
set_option maxHeartbeats 1600000 in
theorem vpush_any {w : World} {b : Nat} {s : VSt} (h : Rdr w b s) (hs : VOk s) (c : Int) (hc : 0 ≤ c) (hc2 : c < 256) :
    Calls Tryz.prog 55 #[.pointer (some ⟨b, 0, none⟩), .int .u8 c] w fun e w' => e = .returned (.tuple #[.bool (vdone s c), .int .i64 (verr s c)]) ∧ Rdr w' b (vpush s c) ∧ w.grownBy w' (some b) := by
  obtain ⟨n, size, done, bad⟩ := s
  obtain ⟨c0, c1, c2, c3, f0, f1, f2, f3⟩ := h.cells
  have H := Lib.hid h
  clear h
  cases done with
  | true =>
    go_enter Tryz.func55, Tryz.ntmps55
    go_wp2
    go_ret2
    exact ⟨rfl, H.out, World.grownBy.refl _ _⟩
  | false =>
  cases bad with
  | true =>
    go_enter Tryz.func55, Tryz.ntmps55
    go_wp2
    go_ret2
    exact ⟨rfl, H.out, World.grownBy.refl _ _⟩
  | false =>
  obtain ⟨h1, h2, _, h3⟩ := hs
  have hsz : size ≤ 3 := h3 rfl rfl
  obtain ⟨p1, p2, p3⟩ := pow7 size hsz c
  simp only at h1 h2
  have a1 := u8_and127 c hc hc2
  have a2 := u8_and128 c hc hc2
  clear h3
  have hexp : min (IntKind.u64.wrap (IntKind.i64.wrap (7 * (size : Int)))).toNat 64 = 7 * size := exp7 size hsz
  have hV : IntKind.i64.wrap (n + IntKind.i64.wrap (IntKind.i64.wrap (c % 128) * 2 ^ min (IntKind.u64.wrap (IntKind.i64.wrap (7 * (size : Int)))).toNat 64)) = n + c % 128 * 2 ^ (7 * size) := by
    rw [hexp]
    exact vshift n c _ h1 (by omega) p1 (by omega)
  have HV := Lib.hid hV
  obtain ⟨m, hm⟩ : ∃ m, m = n + c % 128 * 2 ^ (7 * size) := ⟨_, rfl⟩
  rw [← hm] at HV
  have HM := Lib.hid hm
  clear hV hexp p1 p2 p3 h2 h1 hm
  by_cases h128 : 128 ≤ c
  · rw [if_neg (by omega)] at a2
    by_cases h4 : size = 3
    · have HS := Lib.hid h4
      have hd : ((size : Int) + 1 == 4) = true := by simp; omega
      clear h4
      go_enter Tryz.func55, Tryz.ntmps55
      go_wp2
      go_still_tail 17, (by kernel_rfl)
      change wpList _ _ _ _ _ w.drew
      rw [HV.out]
      go_wp2
      go_ret2
      have e1 : vpush ⟨n, size, false, false⟩ c = ⟨m, size + 1, false, true⟩ := by simp only [vpush, vstep, Bool.or_false, Bool.false_eq_true, if_false]; rw [HM.out]; simp [h128, HS.out]
      have e2 : vdone ⟨n, size, false, false⟩ c = false := by simp only [vdone, vstep, Bool.or_false, Bool.false_eq_true, if_false]; simp [h128, HS.out]
      have e3 : verr ⟨n, size, false, false⟩ c = 5 := by simp only [verr, vstep, Bool.or_false, Bool.false_eq_true, if_false]; simp [h128, HS.out]
      rw [e1, e2, e3]
      exact ⟨rfl, Obj?.set (Obj?.set (Obj?.set H.out 0 _) 1 _) 3 _, grown_drew (grown_set (g := b) (p := ⟨b, 3, none⟩) (grown_set (g := b) (p := ⟨b, 1, none⟩) (grown_set (g := b) (p := ⟨b, 0, none⟩) (World.grownBy.refl _ _) rfl _) rfl _) rfl _)⟩
    · have hd : ((size : Int) + 1 == 4) = false := by simp; omega
      go_enter Tryz.func55, Tryz.ntmps55
      go_wp2
      go_still_tail 17, (by kernel_rfl)
      change wpList _ _ _ _ _ w.drew
      rw [HV.out]
      go_wp2
      go_ret2
      have e1 : vpush ⟨n, size, false, false⟩ c = ⟨m, size + 1, false, false⟩ := by simp only [vpush, vstep, Bool.or_false, Bool.false_eq_true, if_false]; rw [HM.out]; simp [h128]; try omega
      have e2 : vdone ⟨n, size, false, false⟩ c = false := by simp only [vdone, vstep, Bool.or_false, Bool.false_eq_true, if_false]; simp [h128]; try omega
      have e3 : verr ⟨n, size, false, false⟩ c = 0 := by simp only [verr, vstep, Bool.or_false, Bool.false_eq_true, if_false]; simp [h128]; try omega
      rw [e1, e2, e3]
      exact ⟨rfl, Obj?.set (Obj?.set (Obj?.set H.out 0 _) 1 _) 3 _, grown_drew (grown_set (g := b) (p := ⟨b, 3, none⟩) (grown_set (g := b) (p := ⟨b, 1, none⟩) (grown_set (g := b) (p := ⟨b, 0, none⟩) (World.grownBy.refl _ _) rfl _) rfl _) rfl _)⟩
  · rw [if_pos (by omega)] at a2
    by_cases h0 : c = 0
    · by_cases hz : size = 0
      · have HC := Lib.hid (And.intro h0 hz)
        have hd : (c == 0) = true := by simp [h0]
        have hd2 : ¬ (1 : Int) < (size : Int) + 1 := by omega
        clear h0 hz
        go_enter Tryz.func55, Tryz.ntmps55
        go_wp2
        go_still_tail 17, (by kernel_rfl)
        change wpList _ _ _ _ _ w.drew
        rw [HV.out]
        go_wp2
        go_ret2
        have e1 : vpush ⟨n, size, false, false⟩ c = ⟨m, size + 1, true, false⟩ := by simp only [vpush, vstep, Bool.or_false, Bool.false_eq_true, if_false]; rw [HM.out]; simp [HC.out.1, HC.out.2]
        have e2 : vdone ⟨n, size, false, false⟩ c = true := by simp only [vdone, vstep, Bool.or_false, Bool.false_eq_true, if_false]; simp [HC.out.1, HC.out.2]
        have e3 : verr ⟨n, size, false, false⟩ c = 0 := by simp only [verr, vstep, Bool.or_false, Bool.false_eq_true, if_false]; simp [HC.out.1, HC.out.2]
        rw [e1, e2, e3]
        exact ⟨rfl, Obj?.set (Obj?.set (Obj?.set H.out 0 _) 1 _) 2 _, grown_drew (grown_set (g := b) (p := ⟨b, 2, none⟩) (grown_set (g := b) (p := ⟨b, 1, none⟩) (grown_set (g := b) (p := ⟨b, 0, none⟩) (World.grownBy.refl _ _) rfl _) rfl _) rfl _)⟩
      · have HC := Lib.hid h0
        have hd : (c == 0) = true := by simp [h0]
        have hd2 : (1 : Int) < (size : Int) + 1 := by omega
        clear h0
        go_enter Tryz.func55, Tryz.ntmps55
        go_wp2
        go_still_tail 17, (by kernel_rfl)
        change wpList _ _ _ _ _ w.drew
        rw [HV.out]
        go_wp2
        go_ret2
        have e1 : vpush ⟨n, size, false, false⟩ c = ⟨m, size + 1, false, true⟩ := by simp only [vpush, vstep, Bool.or_false, Bool.false_eq_true, if_false]; rw [HM.out]; simp [HC.out, show 0 < size by omega]
        have e2 : vdone ⟨n, size, false, false⟩ c = false := by simp only [vdone, vstep, Bool.or_false, Bool.false_eq_true, if_false]; simp [HC.out, show 0 < size by omega]
        have e3 : verr ⟨n, size, false, false⟩ c = 5 := by simp only [verr, vstep, Bool.or_false, Bool.false_eq_true, if_false]; simp [HC.out, show 0 < size by omega]
        rw [e1, e2, e3]
        exact ⟨rfl, Obj?.set (Obj?.set (Obj?.set H.out 0 _) 1 _) 3 _, grown_drew (grown_set (g := b) (p := ⟨b, 3, none⟩) (grown_set (g := b) (p := ⟨b, 1, none⟩) (grown_set (g := b) (p := ⟨b, 0, none⟩) (World.grownBy.refl _ _) rfl _) rfl _) rfl _)⟩
    · have hd : (c == 0) = false := by simp [h0]
      go_enter Tryz.func55, Tryz.ntmps55
      go_wp2
      go_still_tail 17, (by kernel_rfl)
      change wpList _ _ _ _ _ w.drew
      rw [HV.out]
      go_wp2
      go_ret2
      have e1 : vpush ⟨n, size, false, false⟩ c = ⟨m, size + 1, true, false⟩ := by simp only [vpush, vstep, Bool.or_false, Bool.false_eq_true, if_false]; rw [HM.out]; simp [show ¬ 128 ≤ c by omega, h0]
      have e2 : vdone ⟨n, size, false, false⟩ c = true := by simp only [vdone, vstep, Bool.or_false, Bool.false_eq_true, if_false]; simp [show ¬ 128 ≤ c by omega, h0]
      have e3 : verr ⟨n, size, false, false⟩ c = 0 := by simp only [verr, vstep, Bool.or_false, Bool.false_eq_true, if_false]; simp [show ¬ 128 ≤ c by omega, h0]
      rw [e1, e2, e3]
      exact ⟨rfl, Obj?.set (Obj?.set (Obj?.set H.out 0 _) 1 _) 2 _, grown_drew (grown_set (g := b) (p := ⟨b, 2, none⟩) (grown_set (g := b) (p := ⟨b, 1, none⟩) (grown_set (g := b) (p := ⟨b, 0, none⟩) (World.grownBy.refl _ _) rfl _) rfl _) rfl _)⟩
end Go.Proofs.YtlfgkdiehmoohaaGreatDoor
