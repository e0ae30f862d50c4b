/- snhead.Flag, ReadFlag, Uses, May. -/
import Derived.Test.YtbacnaplpfmpnaaDoorSnC
import Derived.Laws.ResultCell
import Derived.Laws.Rows
namespace Go.Proofs.YtbacnaplpfmpnaaDoor
open Go.RowKit
set_option linter.unusedVariables false

def orIf (is : Bool) (n bit : Int) : Int := if is then bits .or .i64 n bit else n
set_option maxHeartbeats 400000 in
theorem flag1_any {b : Nat} {n : Int} {w : World} (C : Obj? w b #[.int .i64 n] 3) (is : Bool) (bit : Int) : Calls Tryd.prog 74 #[.bool is, .int .i64 bit, .pointer (some ⟨b, 0, none⟩)] w fun e w' =>
    e = .returned (.tuple #[]) ∧ Obj? w' b #[.int .i64 (orIf is n bit)] 3 ∧ w.grownBy w' (some b) := by
  have h := C.cell 0 _ rfl
  have hf := C.frozen 0
  cases is
  · go_enter Tryd.func74, Tryd.ntmps74
    go_wp2
    go_end0
    exact ⟨rfl, C, World.grownBy.refl _ _⟩
  · have C2 := C.set 0 (.int .i64 (bits .or .i64 n bit))
    go_enter Tryd.func74, Tryd.ntmps74
    go_wp2
    go_end0
    exact ⟨rfl, C2, grown_set (World.grownBy.refl _ _) rfl _⟩

def bitN (b : Bool) (n : Int) : Int := if b then n else 0
def flagN (dup : Bool) (q : Int) (retain will clean : Bool) (t : Int) : Int := bitN dup 128 + 32 * (q % 4) + bitN retain 16 + bitN will 8 + bitN clean 4 + t
def flagOk (q t : Int) : Bool := decide (-1 ≤ q ∧ q ≤ 2 ∧ 0 ≤ t ∧ t ≤ 2)
def flagF (dup : Bool) (q : Int) (retain will clean : Bool) (t : Int) : Int × Int := if flagOk q t then (flagN dup q retain will clean t, 0) else (0, 7)
theorem flag_bits (dup retain will clean : Bool) (q t : Int) (h : flagOk q t = true) :
    bits .or .i64 (orIf dup (orIf retain (orIf will (orIf clean t 4) 8) 16) 128) (bits .and .i64 q 3 * 32) = flagN dup q retain will clean t := by
  have h' : -1 ≤ q ∧ q ≤ 2 ∧ 0 ≤ t ∧ t ≤ 2 := by simpa [flagOk] using h
  rcases (by omega : q = -1 ∨ q = 0 ∨ q = 1 ∨ q = 2) with rfl | rfl | rfl | rfl <;> rcases (by omega : t = 0 ∨ t = 1 ∨ t = 2) with rfl | rfl | rfl <;> cases dup <;> cases retain <;> cases will <;> cases clean <;> rfl

theorem results_row_tmp {P : Program} {fn : Func} {p u : Tmp} {ty : TypeId} (h : fn.results = #[.cell p ty, .tmp u]) (tmps : Array Value) (w : World) (g : Nat) (t : TypeId) (cs : Array Value) (d : TypeDesc)
    (hp : tmps.getD p undef = .pointer (some ⟨g, 0, none⟩)) (hg : Obj? w g cs t)
    (hu : P.underlying ty = some d) (hd : (match d with | .struct _ | .array _ _ => true | _ => false) = true) (hi : (P.info? ty).map (·.size) = some cs.size) :
    (results fn tmps).run P w = .ok (.tuple #[.agg cs, tmps.getD u undef]) w := by
  rw [results_cell_tmp h, hp]
  simp [asAddr, Result.andThen, run_loadVar_row w g t ty cs (0, 0) d hg hu hd hi]
theorem infoFl : (Tryd.prog.info? 23).map (·.size) = some 6 := by kernel_rfl

set_option maxHeartbeats 800000 in
theorem flag_any (dup : Bool) (q : Int) (retain will clean : Bool) (t : Int) (w : World) : Calls Tryd.prog 61 #[.agg #[.bool dup, .int .i64 q, .bool retain, .bool will, .bool clean, .int .i64 t]] w fun e w' =>
    e = .returned (.tuple #[.int .i64 (flagF dup q retain will clean t).1, .int .i64 (flagF dup q retain will clean t).2]) ∧ Below w.heap.size w w' := by
  have hA : Below w.heap.size w (w.alloc (.cells #[.bool dup, .int .i64 q, .bool retain, .bool will, .bool clean, .int .i64 t] 23 (0, 0))) := (Below.refl _ _).alloc (Nat.le_refl _) _
  by_cases h1 : q < -1
  · rw [show flagF dup q retain will clean t = (0, 7) by unfold flagF; rw [if_neg (by simp [flagOk]; omega)]]
    go_enter Tryd.func61, Tryd.ntmps61
    go_wp2
    go_ret2
    exact ⟨rfl, hA⟩
  by_cases h2 : 2 < q
  · rw [show flagF dup q retain will clean t = (0, 7) by unfold flagF; rw [if_neg (by simp [flagOk]; omega)]]
    go_enter Tryd.func61, Tryd.ntmps61
    go_wp2
    go_ret2
    exact ⟨rfl, hA⟩
  by_cases h3 : t < 0
  · rw [show flagF dup q retain will clean t = (0, 7) by unfold flagF; rw [if_neg (by simp [flagOk]; omega)]]
    go_enter Tryd.func61, Tryd.ntmps61
    go_wp2
    go_ret2
    exact ⟨rfl, hA⟩
  by_cases h4 : 2 < t
  · rw [show flagF dup q retain will clean t = (0, 7) by unfold flagF; rw [if_neg (by simp [flagOk]; omega)]]
    go_enter Tryd.func61, Tryd.ntmps61
    go_wp2
    go_ret2
    exact ⟨rfl, hA⟩
  have hok : flagOk q t = true := by simp [flagOk]; omega
  rw [show flagF dup q retain will clean t = (flagN dup q retain will clean t, 0) by unfold flagF; rw [if_pos hok]]
  have HB := Lib.hid (flag_bits dup retain will clean q t hok)
  have hrange : 0 ≤ bits .and .i64 q 3 * 32 ∧ bits .and .i64 q 3 * 32 ≤ 96 := by
    rcases (by omega : q = -1 ∨ q = 0 ∨ q = 1 ∨ q = 2) with rfl | rfl | rfl | rfl <;> decide
  have hw : wrap64 (bits .and .i64 q 3 * 32) = bits .and .i64 q 3 * 32 := by rw [wrap64]; omega
  have F0 := Obj?.new w #[.bool dup, .int .i64 q, .bool retain, .bool will, .bool clean, .int .i64 t] 23
  have F1 := F0.alloc (.cells #[.int .i64 t] 3 (0, 0))
  have C0 := Obj?.new (w.alloc (.cells #[.bool dup, .int .i64 q, .bool retain, .bool will, .bool clean, .int .i64 t] 23 (0, 0))) #[.int .i64 t] 3
  have hsz : (w.alloc (.cells #[.bool dup, .int .i64 q, .bool retain, .bool will, .bool clean, .int .i64 t] 23 (0, 0))).heap.size = w.heap.size + 1 := by simp
  rw [hsz] at C0
  have hB0 := hA.alloc hA.size (.cells #[.int .i64 t] 3 (0, 0))
  have HH := Lib.hid (And.intro hok (And.intro hrange hw))
  have HF := Lib.hid F1
  have HC := Lib.hid C0
  clear hok hrange hw F0 F1 C0 hA hsz
  go_enter Tryd.func61, Tryd.ntmps61
  go_wp2_with fail
  refine (flag1_any HC.out _ _).mono ?_
  rintro r w1 ⟨rfl, C1, g1⟩
  have F1 := HF.out.kept g1 (by simp)
  have hB1 := hB0.grown g1 hB0.size (fun j e => by cases e; omega)
  have k3 := F1.cell 3 _ rfl
  have HC1 := Lib.hid C1
  have HF1 := Lib.hid F1
  clear C1 F1 g1 hB0
  go_wp2_with fail
  refine (flag1_any HC1.out _ _).mono ?_
  rintro r w2 ⟨rfl, C2, g2⟩
  have F2 := HF1.out.kept g2 (by simp)
  have hB2 := hB1.grown g2 hB1.size (fun j e => by cases e; omega)
  clear k3 HC1 HF1
  have k3 := F2.cell 2 _ rfl
  have HC2 := Lib.hid C2
  have HF2 := Lib.hid F2
  clear C2 F2 g2 hB1
  go_wp2_with fail
  refine (flag1_any HC2.out _ _).mono ?_
  rintro r w3 ⟨rfl, C3, g3⟩
  have F3 := HF2.out.kept g3 (by simp)
  have hB3 := hB2.grown g3 hB2.size (fun j e => by cases e; omega)
  clear k3 HC2 HF2
  have k3 := F3.cell 0 _ rfl
  have HC3 := Lib.hid C3
  have HF3 := Lib.hid F3
  clear C3 F3 g3 hB2
  go_wp2_with fail
  refine (flag1_any HC3.out _ _).mono ?_
  rintro r w4 ⟨rfl, C4, g4⟩
  have F4 := HF3.out.kept g4 (by simp)
  have hB4 := hB3.grown g4 hB3.size (fun j e => by cases e; omega)
  clear k3 HC3 HF3
  have k0 := C4.cell 0 _ rfl
  have k1 := F4.cell 1 _ rfl
  clear C4 F4 g4 hB3
  go_wp2_with fail
  go_ret2
  refine ⟨?_, hB4⟩
  show Ending.returned (.tuple #[.int .i64 (bits .or .i64 (orIf dup (orIf retain (orIf will (orIf clean t 4) 8) 16) 128) (wrap64 (bits .and .i64 q 3 * 32))), .int .i64 0]) = _
  rw [show wrap64 (bits .and .i64 q 3 * 32) = bits .and .i64 q 3 * 32 from HH.out.2.2, HB.out]

/-- Flags. -/
structure Fl where
  dup : Bool
  q : Int
  retain : Bool
  will : Bool
  clean : Bool
  typ : Int
def Fl.cs (f : Fl) : Array Value := #[.bool f.dup, .int .i64 f.q, .bool f.retain, .bool f.will, .bool f.clean, .int .i64 f.typ]
def fl0 : Fl := ⟨false, 0, false, false, false, 0⟩
def flagV (f : Fl) : Int × Int := flagF f.dup f.q f.retain f.will f.clean f.typ
theorem flag_fl (f : Fl) (w : World) : Calls Tryd.prog 61 #[.agg #[.bool f.dup, .int .i64 f.q, .bool f.retain, .bool f.will, .bool f.clean, .int .i64 f.typ]] w fun e w' =>
    e = .returned (.tuple #[.int .i64 (flagV f).1, .int .i64 (flagV f).2]) ∧ Below w.heap.size w w' := flag_any _ _ _ _ _ _ w
def rfOk (n : Int) : Bool := decide (0 ≤ n ∧ n ≤ 255 ∧ n % 4 ≠ 3)
def rfQ (n : Int) : Int := if n / 32 % 4 = 3 then -1 else n / 32 % 4
def rfF (n : Int) : Fl := if rfOk n then ⟨decide (n / 128 % 2 = 1), rfQ n, decide (n / 16 % 2 = 1), decide (n / 8 % 2 = 1), decide (n / 4 % 2 = 1), n % 4⟩ else fl0
def rfE (n : Int) : Int := if rfOk n then 0 else 7
theorem bit_of : ∀ m : Fin 256, ((bits .and .i64 ((m : Nat) : Int) 128 != 0) = decide (((m : Nat) : Int) / 128 % 2 = 1)) ∧ ((bits .and .i64 ((m : Nat) : Int) 16 != 0) = decide (((m : Nat) : Int) / 16 % 2 = 1)) ∧
    ((bits .and .i64 ((m : Nat) : Int) 8 != 0) = decide (((m : Nat) : Int) / 8 % 2 = 1)) ∧ ((bits .and .i64 ((m : Nat) : Int) 4 != 0) = decide (((m : Nat) : Int) / 4 % 2 = 1)) ∧
    (bits .and .i64 ((m : Nat) : Int) 3 = ((m : Nat) : Int) % 4) ∧ (bits .and .i64 (((m : Nat) : Int) / 32) 3 = ((m : Nat) : Int) / 32 % 4) := by decide +kernel
set_option maxRecDepth 100000 in
set_option maxHeartbeats 800000 in
theorem readflag_any (n : Int) (w : World) : Calls Tryd.prog 96 #[.int .i64 n] w fun e w' =>
    e = .returned (.tuple #[.agg #[.bool (rfF n).dup, .int .i64 (rfF n).q, .bool (rfF n).retain, .bool (rfF n).will, .bool (rfF n).clean, .int .i64 (rfF n).typ], .int .i64 (rfE n)]) ∧ Below w.heap.size w w' := by
  by_cases h1 : n < 0
  · have hk : rfOk n = false := by simp [rfOk]; omega
    rw [show rfF n = fl0 by unfold rfF; rw [hk]; rfl, show rfE n = 7 by unfold rfE; rw [hk]; rfl]
    clear hk
    go_enter Tryd.func96, Tryd.ntmps96
    go_wp2
    (try simp only [Exit.inBlock, Exit.then])
    refine bodyPost_ret (results_row_tmp rfl _ _ _ _ _ _ rfl (Obj?.new _ _ _) Tryd.underlying23 rfl infoFl) rfl ?_
    exact ⟨rfl, (Below.refl _ _).alloc (Nat.le_refl _) _⟩
  by_cases h2 : 255 < n
  · have hk : rfOk n = false := by simp [rfOk]; omega
    rw [show rfF n = fl0 by unfold rfF; rw [hk]; rfl, show rfE n = 7 by unfold rfE; rw [hk]; rfl]
    clear hk
    go_enter Tryd.func96, Tryd.ntmps96
    go_wp2
    (try simp only [Exit.inBlock, Exit.then])
    refine bodyPost_ret (results_row_tmp rfl _ _ _ _ _ _ rfl (Obj?.new _ _ _) Tryd.underlying23 rfl infoFl) rfl ?_
    exact ⟨rfl, (Below.refl _ _).alloc (Nat.le_refl _) _⟩
  obtain ⟨m, rfl⟩ := Int.eq_ofNat_of_zero_le (show 0 ≤ n by omega)
  obtain ⟨b1, b2, b3, b4, b5, b6⟩ := bit_of ⟨m, by omega⟩
  simp only at b1 b2 b3 b4 b5 b6
  by_cases h3 : (m : Int) % 4 = 3
  · have hk : rfOk m = false := by simp [rfOk]; omega
    rw [show rfF m = fl0 by unfold rfF; rw [hk]; rfl, show rfE m = 7 by unfold rfE; rw [hk]; rfl]
    have hd : (bits .and .i64 (m : Int) 3 == 3) = true := by rw [b5, h3]; rfl
    clear b1 b2 b3 b4 b5 b6 hk h3
    go_enter Tryd.func96, Tryd.ntmps96
    go_wp2
    (try simp only [Exit.inBlock, Exit.then])
    refine bodyPost_ret (results_row_tmp rfl _ _ _ _ _ _ rfl (Obj?.new _ _ _) Tryd.underlying23 rfl infoFl) rfl ?_
    exact ⟨rfl, (Below.refl _ _).alloc (Nat.le_refl _) _⟩
  · have hk : rfOk m = true := by simp [rfOk]; omega
    have HF := Lib.hid (show rfF m = ⟨decide ((m : Int) / 128 % 2 = 1), rfQ m, decide ((m : Int) / 16 % 2 = 1), decide ((m : Int) / 8 % 2 = 1), decide ((m : Int) / 4 % 2 = 1), (m : Int) % 4⟩ by unfold rfF; rw [hk]; rfl)
    have HE := Lib.hid (show rfE m = 0 by unfold rfE; rw [hk]; rfl)
    rw [HF.out, HE.out]
    have hd : ((m : Int) % 4 == 3) = false := by simpa using h3
    clear hk h3
    by_cases h4 : (m : Int) / 32 % 4 = 3
    · have HQ := Lib.hid (show rfQ m = -1 by unfold rfQ; rw [if_pos h4])
      have hd2 : ((m : Int) / 32 % 4 == 3) = true := by simpa using h4
      rw [HQ.out]
      clear h4
      go_enter Tryd.func96, Tryd.ntmps96
      go_wp2_with fail
      (try simp only [Exit.inBlock, Exit.then])
      refine bodyPost_ret (results_row_tmp rfl _ _ _ _ _ _ rfl (Obj?.new _ _ _) Tryd.underlying23 rfl infoFl) rfl ?_
      exact ⟨rfl, (Below.refl _ _).alloc (Nat.le_refl _) _⟩
    · have HQ := Lib.hid (show rfQ m = (m : Int) / 32 % 4 by unfold rfQ; rw [if_neg h4])
      have hd2 : ((m : Int) / 32 % 4 == 3) = false := by simpa using h4
      rw [HQ.out]
      clear h4
      go_enter Tryd.func96, Tryd.ntmps96
      go_wp2_with fail
      (try simp only [Exit.inBlock, Exit.then])
      refine bodyPost_ret (results_row_tmp rfl _ _ _ _ _ _ rfl (Obj?.new _ _ _) Tryd.underlying23 rfl infoFl) rfl ?_
      exact ⟨rfl, (Below.refl _ _).alloc (Nat.le_refl _) _⟩

def usesF (k : Int) : Fl :=
  if k = 4 then ⟨false, 0, false, true, true, 0⟩ else if k = 7 ∨ k = 26 then ⟨false, 1, true, false, false, 0⟩ else if k = 19 then ⟨false, 1, false, false, false, 0⟩
  else if k = 12 then ⟨true, 1, true, false, false, 1⟩ else if k = 18 then ⟨true, 1, false, false, false, 1⟩ else if k = 20 then ⟨false, 0, false, false, false, 1⟩ else fl0
end Go.Proofs.YtbacnaplpfmpnaaDoor
