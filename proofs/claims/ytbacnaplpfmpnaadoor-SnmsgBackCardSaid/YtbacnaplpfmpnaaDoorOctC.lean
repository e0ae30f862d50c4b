/- The walks of octet.Cursor's methods. -/
import Derived.Test.YtbacnaplpfmpnaaDoorOctW
namespace Go.Proofs.YtbacnaplpfmpnaaDoor
open Go.RowKit

/-- Block b is a cursor over the text t, at place i, with error e. -/
def Cur (w : World) (b : Nat) (t : List UInt8) (i : Nat) (e : Int) : Prop := Obj? w b #[.string ⟨t.toArray⟩, .int .i64 i, .int .i64 e] 102
theorem Cur.cells {w : World} {b : Nat} {t : List UInt8} {i : Nat} {e : Int} (h : Cur w b t i e) :
    w.cell? ⟨b, 0, none⟩ = some (.string ⟨t.toArray⟩) ∧ w.cell? ⟨b, 1, none⟩ = some (.int .i64 i) ∧ w.cell? ⟨b, 2, none⟩ = some (.int .i64 e) ∧
    w.frozen? ⟨b, 1, none⟩ = false ∧ w.frozen? ⟨b, 2, none⟩ = false :=
  ⟨Obj?.cell h 0 _ rfl, Obj?.cell h 1 _ rfl, Obj?.cell h 2 _ rfl, Obj?.frozen h 1, Obj?.frozen h 2⟩
theorem Cur.setErr {w : World} {b : Nat} {t : List UInt8} {i : Nat} {e : Int} (h : Cur w b t i e) (e' : Int) : Cur (w.setCell ⟨b, 2, none⟩ (.int .i64 e')) b t i e' := Obj?.set h 2 _
theorem Cur.setAt {w : World} {b : Nat} {t : List UInt8} {i : Nat} {e : Int} (h : Cur w b t i e) (i' : Nat) : Cur (w.setCell ⟨b, 1, none⟩ (.int .i64 i')) b t i' e := Obj?.set h 1 _

theorem Cur.kept {w w' : World} {row : Option Nat} {b : Nat} {t : List UInt8} {i : Nat} {e : Int} (h : Cur w b t i e) (hg : w.grownBy w' row) (hne : row ≠ some b) : Cur w' b t i e := Obj?.kept h hg hne
theorem Cur.below {w w' : World} {b : Nat} {t : List UInt8} {i : Nat} {e : Int} (h : Cur w b t i e) (hb : Below w.heap.size w w') : Cur w' b t i e := Obj?.below h hb (Obj?.lt h)

theorem new_any (t : List UInt8) (w : World) : Calls Tryd.prog 47 #[.string ⟨t.toArray⟩] w fun e w' =>
    ∃ b, e = .returned (.pointer (some ⟨b, 0, none⟩)) ∧ w.heap.size ≤ b ∧ Cur w' b t 0 0 ∧ w.grownBy w' none := by
  go_enter Tryd.func47, Tryd.ntmps47
  go_wp2
  go_ret
  exact ⟨_, rfl, Nat.le_refl _, Obj?.new _ _ _, World.grownBy_alloc _ _ _⟩

set_option maxHeartbeats 400000 in
theorem ready_yes {b : Nat} {t : List UInt8} {i : Nat} {w : World} (h : Cur w b t i 0) :
    Calls Tryd.prog 71 #[.pointer (some ⟨b, 0, none⟩)] w fun e w' => e = .returned (.bool true) ∧ w = w' := by
  obtain ⟨c0, c1, c2, f1, f2⟩ := h.cells
  have H := Lib.hid h; clear h
  go_enter Tryd.func71, Tryd.ntmps71
  go_wp2
  go_ret
  exact ⟨rfl, rfl⟩
set_option maxHeartbeats 400000 in
theorem ready_no {b : Nat} {t : List UInt8} {i : Nat} {e : Int} {w : World} (h : Cur w b t i e) (he : e ≠ 0) :
    Calls Tryd.prog 71 #[.pointer (some ⟨b, 0, none⟩)] w fun e w' => e = .returned (.bool false) ∧ w = w' := by
  obtain ⟨c0, c1, c2, f1, f2⟩ := h.cells
  have H := Lib.hid h; clear h
  go_enter Tryd.func71, Tryd.ntmps71
  go_wp2
  go_ret
  exact ⟨ret_val (congrArg Value.bool (beq_eq_false_iff_ne.2 he)), rfl⟩
theorem ready_nil (w : World) : Calls Tryd.prog 71 #[.pointer none] w fun e w' => e = .returned (.bool false) ∧ w = w' := by
  go_enter Tryd.func71, Tryd.ntmps71
  go_wp2
  go_ret
  exact ⟨rfl, rfl⟩

/-- Whether n more bytes are there. -/
def hasB (t : List UInt8) (i : Nat) (n : Int) : Bool := decide (0 ≤ n ∧ n ≤ (t.length : Int) - i)
set_option maxHeartbeats 400000 in
theorem has_any {b : Nat} {t : List UInt8} {i : Nat} {e : Int} {w : World} (h : Cur w b t i e) (n : Int) (hi : i ≤ t.length) (ht : (t.length : Int) ≤ 9223372036854775807) :
    Calls Tryd.prog 105 #[.pointer (some ⟨b, 0, none⟩), .int .i64 n] w fun e w' => e = .returned (.bool (hasB t i n)) ∧ ∃ k, w' = w.drewN k := by
  obtain ⟨c0, c1, c2, f1, f2⟩ := h.cells
  have H := Lib.hid h; clear h
  by_cases hn : 0 ≤ n
  · go_enter Tryd.func105, Tryd.ntmps105
    go_wp2
    go_quiet (fail)
    go_wp2
    go_ret
    exact ⟨ret_val (by simp [hasB, hn]), _, rfl⟩
  · have hd : decide (0 ≤ n) = false := by simpa using hn
    go_enter Tryd.func105, Tryd.ntmps105
    go_wp2
    go_quiet (fail)
    go_wp2
    go_ret
    exact ⟨ret_val (by simp [hasB]; omega), _, rfl⟩

set_option maxHeartbeats 400000 in
/-- Take: the bytes are there. -/
theorem take_yes {b : Nat} {t : List UInt8} {i : Nat} {w : World} (h : Cur w b t i 0) (n : Nat) (hi : i ≤ t.length) (ht : (t.length : Int) ≤ 9223372036854775807) (hn : i + n ≤ t.length) :
    Calls Tryd.prog 93 #[.pointer (some ⟨b, 0, none⟩), .int .i64 n] w fun e w' => e = .returned (.string ⟨((t.drop i).take n).toArray⟩) ∧ Cur w' b t (i + n) 0 ∧ w.grownBy w' (some b) := by
  have hh : hasB t i n = true := by simp [hasB]; omega
  go_enter Tryd.func93, Tryd.ntmps93
  go_wp2_with fail
  refine (ready_yes h).mono ?_
  rintro e w' ⟨rfl, rfl⟩
  go_wp2_with fail
  refine (has_any h n hi ht).mono ?_
  rintro e w' ⟨rfl, k, rfl⟩
  rw [hh]
  obtain ⟨c0, c1, c2, f1, f2⟩ := h.cells
  have H := Lib.hid h; clear h
  go_wp2
  go_quiet (fail)
  go_wp2
  go_ret
  exact ⟨ret_val (by rw [ByteArray.extract_mk]; simp), Obj?.set (w := w.drewN k) H.out 1 _, grown_drewN (grown_set (grown_drewN (World.grownBy.refl _ _) _) rfl _) _⟩
set_option maxHeartbeats 400000 in
/-- Take: they are not. -/
theorem take_short {b : Nat} {t : List UInt8} {i : Nat} {w : World} (h : Cur w b t i 0) (n : Int) (hi : i ≤ t.length) (ht : (t.length : Int) ≤ 9223372036854775807) (hn : hasB t i n = false) :
    Calls Tryd.prog 93 #[.pointer (some ⟨b, 0, none⟩), .int .i64 n] w fun e w' => e = .returned (.string ⟨#[]⟩) ∧ Cur w' b t i 3 ∧ w.grownBy w' (some b) := by
  go_enter Tryd.func93, Tryd.ntmps93
  go_wp2_with fail
  refine (ready_yes h).mono ?_
  rintro e w' ⟨rfl, rfl⟩
  go_wp2_with fail
  refine (has_any h n hi ht).mono ?_
  rintro e w' ⟨rfl, k, rfl⟩
  rw [hn]
  obtain ⟨c0, c1, c2, f1, f2⟩ := h.cells
  have H := Lib.hid h; clear h
  go_wp2
  go_ret
  exact ⟨rfl, Obj?.set (w := w.drewN k) H.out 2 _, grown_set (grown_drewN (World.grownBy.refl _ _) _) rfl _⟩
set_option maxHeartbeats 400000 in
/-- Take behind an error. -/
theorem take_err {b : Nat} {t : List UInt8} {i : Nat} {e : Int} {w : World} (h : Cur w b t i e) (n : Int) (he : e ≠ 0) :
    Calls Tryd.prog 93 #[.pointer (some ⟨b, 0, none⟩), .int .i64 n] w fun e w' => e = .returned (.string ⟨#[]⟩) ∧ w = w' := by
  go_enter Tryd.func93, Tryd.ntmps93
  go_wp2_with fail
  refine (ready_no h he).mono ?_
  rintro e w' ⟨rfl, rfl⟩
  go_wp2
  go_ret
  exact ⟨rfl, rfl⟩
theorem take_nil (n : Int) (w : World) :
    Calls Tryd.prog 93 #[.pointer none, .int .i64 n] w fun e w' => e = .returned (.string ⟨#[]⟩) ∧ w = w' := by
  go_enter Tryd.func93, Tryd.ntmps93
  go_wp2_with fail
  refine (ready_nil _).mono ?_
  rintro e w' ⟨rfl, rfl⟩
  go_wp2
  go_ret
  exact ⟨rfl, rfl⟩

/-- What a cursor takes, where it is then, and its error. -/
def takeS (t : List UInt8) (i : Nat) (e n : Int) : List UInt8 := if e = 0 ∧ hasB t i n = true then (t.drop i).take n.toNat else []
def takeI (t : List UInt8) (i : Nat) (e n : Int) : Nat := if e = 0 ∧ hasB t i n = true then i + n.toNat else i
def takeE (t : List UInt8) (i : Nat) (e n : Int) : Int := if e = 0 ∧ hasB t i n = false then 3 else e
theorem takeI_le {t : List UInt8} {i : Nat} {e n : Int} (hi : i ≤ t.length) : takeI t i e n ≤ t.length := by
  unfold takeI; split
  · rename_i h; have := h.2; simp [hasB] at this; omega
  · exact hi
/-- Take. -/
theorem take_any {b : Nat} {t : List UInt8} {i : Nat} {e : Int} {w : World} (h : Cur w b t i e) (n : Int) (hi : i ≤ t.length) (ht : (t.length : Int) ≤ 9223372036854775807) :
    Calls Tryd.prog 93 #[.pointer (some ⟨b, 0, none⟩), .int .i64 n] w fun r w' => r = .returned (.string ⟨(takeS t i e n).toArray⟩) ∧ Cur w' b t (takeI t i e n) (takeE t i e n) ∧ w.grownBy w' (some b) := by
  by_cases he : e = 0
  · subst he
    cases hh : hasB t i n with
    | false =>
      simp only [takeS, takeI, takeE, hh]
      exact take_short h n hi ht hh
    | true =>
      simp only [takeS, takeI, takeE, hh]
      have h2 := hh
      simp [hasB] at h2
      obtain ⟨m, rfl⟩ := Int.eq_ofNat_of_zero_le h2.1
      exact take_yes h m hi ht (by omega)
  · simp only [takeS, takeI, takeE, he]
    exact (take_err h n he).mono fun _ _ ⟨a, b⟩ => ⟨a, b ▸ h, b ▸ World.grownBy.refl _ _⟩

set_option maxHeartbeats 400000 in
/-- Number. -/
theorem number_any {b : Nat} {t : List UInt8} {i : Nat} {e : Int} {w : World} (h : Cur w b t i e) (n : Int) (hi : i ≤ t.length) (ht : (t.length : Int) ≤ 9223372036854775807) :
    Calls Tryd.prog 69 #[.pointer (some ⟨b, 0, none⟩), .int .i64 n] w fun r w' => r = .returned (.int .u64 (getL (takeS t i e n))) ∧ Cur w' b t (takeI t i e n) (takeE t i e n) ∧ w.grownBy w' (some b) := by
  have hl : ((takeS t i e n).length : Int) ≤ 9223372036854775807 := by unfold takeS; split <;> simp; omega
  go_enter Tryd.func69, Tryd.ntmps69
  go_wp2_with fail
  refine (take_any h n hi ht).mono ?_
  rintro r w' ⟨rfl, h', hg⟩
  have H := Lib.hid h'
  clear h h'
  go_wp2_with fail
  refine (get_any _ hl _).mono ?_
  rintro r w'' ⟨rfl, rfl⟩
  go_wp2
  go_ret
  exact ⟨rfl, H.out, hg⟩
theorem number_nil (n : Int) (w : World) :
    Calls Tryd.prog 69 #[.pointer none, .int .i64 n] w fun e w' => e = .returned (.int .u64 0) ∧ w = w' := by
  go_enter Tryd.func69, Tryd.ntmps69
  go_wp2_with fail
  refine (take_nil _ _).mono ?_
  rintro r w' ⟨rfl, rfl⟩
  go_wp2_with fail
  refine (get_any [] (by decide) _).mono ?_
  rintro r w' ⟨rfl, rfl⟩
  go_wp2
  go_ret
  exact ⟨rfl, rfl⟩

/-- What the first error is behind one more. -/
def failE (e e' : Int) : Int := if e = 0 then e' else e
set_option maxHeartbeats 400000 in
/-- Fail. -/
theorem fail_any {b : Nat} {t : List UInt8} {i : Nat} {e : Int} {w : World} (h : Cur w b t i e) (e' : Int) :
    Calls Tryd.prog 50 #[.pointer (some ⟨b, 0, none⟩), .int .i64 e'] w fun r w' => r = .returned (.tuple #[]) ∧ Cur w' b t i (failE e e') ∧ w.grownBy w' (some b) := by
  by_cases he : e = 0
  · subst he
    go_enter Tryd.func50, Tryd.ntmps50
    go_wp2_with fail
    refine (ready_yes h).mono ?_
    rintro e w' ⟨rfl, rfl⟩
    obtain ⟨c0, c1, c2, f1, f2⟩ := h.cells
    have H := Lib.hid h; clear h
    go_wp2
    go_end0
    exact ⟨rfl, Obj?.set (w := w) H.out 2 _, grown_set (World.grownBy.refl _ _) rfl _⟩
  · have h2 : failE e e' = e := by simp [failE, he]
    rw [h2]
    go_enter Tryd.func50, Tryd.ntmps50
    go_wp2_with fail
    refine (ready_no h he).mono ?_
    rintro e w' ⟨rfl, rfl⟩
    have H := Lib.hid h; clear h h2
    go_wp2
    go_end0
    exact ⟨rfl, H.out, World.grownBy.refl _ _⟩
theorem fail_nil (e : Int) (w : World) :
    Calls Tryd.prog 50 #[.pointer none, .int .i64 e] w fun r w' => r = .returned (.tuple #[]) ∧ w = w' := by
  go_enter Tryd.func50, Tryd.ntmps50
  go_wp2_with fail
  refine (ready_nil _).mono ?_
  rintro e w' ⟨rfl, rfl⟩
  go_wp2
  go_end0
  exact ⟨rfl, rfl⟩

theorem err_any {b : Nat} {t : List UInt8} {i : Nat} {e : Int} {w : World} (h : Cur w b t i e) :
    Calls Tryd.prog 48 #[.pointer (some ⟨b, 0, none⟩)] w fun r w' => r = .returned (.int .i64 e) ∧ w = w' := by
  obtain ⟨c0, c1, c2, f1, f2⟩ := h.cells
  clear h
  go_enter Tryd.func48, Tryd.ntmps48
  go_wp2
  go_ret
  exact ⟨rfl, rfl⟩
theorem err_nil (w : World) : Calls Tryd.prog 48 #[.pointer none] w fun r w' => r = .returned (.int .i64 1) ∧ w = w' := by
  go_enter Tryd.func48, Tryd.ntmps48
  go_wp2
  go_ret
  exact ⟨rfl, rfl⟩
theorem rest_any {b : Nat} {t : List UInt8} {i : Nat} {e : Int} {w : World} (h : Cur w b t i e) (hi : i ≤ t.length) (_ht : (t.length : Int) ≤ 9223372036854775807) :
    Calls Tryd.prog 70 #[.pointer (some ⟨b, 0, none⟩)] w fun r w' => r = .returned (.string ⟨(t.drop i).toArray⟩) ∧ ∃ k, w' = w.drewN k := by
  obtain ⟨c0, c1, c2, f1, f2⟩ := h.cells
  clear h
  go_enter Tryd.func70, Tryd.ntmps70
  go_wp2
  go_quiet (fail)
  go_wp2
  go_ret
  exact ⟨ret_val (by rw [ByteArray.extract_mk]; simp [List.take_of_length_le]), _, rfl⟩
theorem rest_nil (w : World) : Calls Tryd.prog 70 #[.pointer none] w fun r w' => r = .returned (.string ⟨#[]⟩) ∧ w = w' := by
  go_enter Tryd.func70, Tryd.ntmps70
  go_wp2
  go_ret
  exact ⟨rfl, rfl⟩
theorem left_any {b : Nat} {t : List UInt8} {i : Nat} {e : Int} {w : World} (h : Cur w b t i e) (hi : i ≤ t.length) (ht : (t.length : Int) ≤ 9223372036854775807) :
    Calls Tryd.prog 49 #[.pointer (some ⟨b, 0, none⟩)] w fun r w' => r = .returned (.int .i64 ((t.length - i : Nat) : Int)) ∧ ∃ k, w' = w.drewN k := by
  go_enter Tryd.func49, Tryd.ntmps49
  go_wp2_with fail
  refine (rest_any h hi ht).mono ?_
  rintro r w' ⟨rfl, k, rfl⟩
  go_wp2
  go_ret
  exact ⟨ret_int (by simp), _, rfl⟩
theorem left_nil (w : World) : Calls Tryd.prog 49 #[.pointer none] w fun r w' => r = .returned (.int .i64 0) ∧ w = w' := by
  go_enter Tryd.func49, Tryd.ntmps49
  go_wp2_with fail
  refine (rest_nil _).mono ?_
  rintro r w' ⟨rfl, rfl⟩
  go_wp2
  go_ret
  exact ⟨rfl, rfl⟩
end Go.Proofs.YtbacnaplpfmpnaaDoor
