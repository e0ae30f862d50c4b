/- snmsg: Read, all ways together; Codes. polyglotlaw22.lives; MaxLen at a row's first world. snmsg, plain: what is written is read, truncated it is too short, what is read is written the same (P22.1 to P22.3). No program. -/
import Derived.Test.YtbacnaplpfmpnaaGreatDoorMsW
import Derived.Shelf.Vars
namespace Go.Proofs.YtbacnaplpfmpnaaGreatDoor
open Go.RowKit
set_option linter.unusedVariables false
set_option linter.unusedSimpArgs false

theorem snTail_err (k h l : Int) (he : (snTail k h l).2.2.2 ≠ 0) : snTail k h l = (0, 0, 0, (snTail k h l).2.2.2) := by
  unfold snTail at *
  split
  · rfl
  · split
    · rfl
    · rename_i h1 h2
      rw [if_neg h1, if_neg h2] at he
      exact (he rfl).elim
theorem snR_err (t : List UInt8) (he : (snR t).2.2.2 ≠ 0) : snR t = (0, 0, 0, (snR t).2.2.2) := by
  unfold snR at *
  split
  · rfl
  rename_i h1
  rw [if_neg h1] at he
  split
  · rename_i h2
    rw [if_pos h2] at he
    split
    · rfl
    · rename_i h3
      rw [if_neg h3] at he
      exact snTail_err _ _ _ he
  · rename_i h2
    rw [if_neg h2] at he
    split
    · rfl
    · rename_i h3
      rw [if_neg h3] at he
      exact snTail_err _ _ _ he
theorem known_kindM {k : Int} (h : knownK k = true) (h2 : k ≠ 254) : kindM k = true := by
  rw [← msgB_kindM]
  unfold msgB
  rw [h]; simpa using h2
theorem readP_i (p : Pt) (t : List UInt8) (s : Rd) (hi : s.i ≤ t.length) : (readP p t s).i ≤ t.length := by
  have h1 := fun n => takeI_le (t := t) (i := s.i) (e := s.e) (n := n) hi
  cases p
  case will =>
    simp only [readP]
    split
    · exact hi
    · have h2 : (rdFlags t s).i ≤ t.length := by unfold rdFlags; split <;> exact h1 1
      unfold rdName rdFail
      simp only
      split <;> split <;> first | exact Nat.le_refl _ | exact h2
  case topic =>
    simp only [readP]
    split
    · unfold rdName; simp only; split
      · exact Nat.le_refl _
      · exact hi
    · exact h1 2
  case protocol => simp only [readP]; split <;> exact h1 1
  case duration => simp only [readP]; split <;> first | exact hi | exact h1 2
  case flags => simp only [readP]; unfold rdFlags; split <;> exact h1 1
  case name => simp only [readP]; unfold rdName; simp only; split <;> first | exact Nat.le_refl _ | exact hi
  case data => simp only [readP]; split <;> first | exact Nat.le_refl _ | exact hi
  case gateway => exact h1 1
  case radius => exact h1 1
  case code => exact h1 1
  case time => exact h1 2
  case id => exact h1 2
  case msg => exact h1 2
theorem readAll_i (k : Int) (t : List UInt8) (s : Rd) (hi : s.i ≤ t.length) : (readAll k t s).i ≤ t.length := by
  unfold readAll
  generalize layoutF k = ps
  induction ps generalizing s with
  | nil => exact hi
  | cons p r ih => exact ih (readP p t s) (readP_i p t s hi)
/-- What Read answers of a message that is there whole. -/
theorem readM_go {t : List UInt8} {k : Int} {h l : Nat} (hs : snR t = (k, (h : Int), (l : Int), 0)) (hk : k ≠ 254) (hl : l ≤ t.length) :
    readM t = if readE (readAll k (bodyL t h l) (rd0 k)) (bodyL t h l).length = 0 then ((readAll k (bodyL t h l) (rd0 k)).m, (l : Int), 0) else (ms0, 0, readE (readAll k (bodyL t h l) (rd0 k)) (bodyL t h l).length) := by
  unfold readM
  rw [hs]
  simp only
  rw [if_neg (by simp), if_neg hk, if_neg (by omega)]
  simp only [Int.toNat_natCast]
theorem msread_any (t : List UInt8) (ht : (t.length : Int) ≤ 4611686018427380000) : ReadIs t (readM t).1 (readM t).2.1 (readM t).2.2 := by
  rcases snR_cases t with he | ⟨k, h, l, hs, hkn, hhl, hl65, hht, -⟩
  · have e1 := snR_err t he
    have e2 : readM t = (ms0, 0, (snR t).2.2.2) := by unfold readM; rw [if_pos he]
    rw [e2]
    exact msread_err t ht _ e1 he
  by_cases hk : k = 254
  · subst hk
    have e2 : readM t = (ms0, 0, 8) := by unfold readM; rw [hs]; rfl
    rw [e2]
    exact msread_enc t ht h l hs
  by_cases hl : t.length < l
  · have e2 : readM t = (ms0, 0, 3) := by unfold readM; rw [hs]; simp only; rw [if_neg (by simp), if_neg hk, if_pos (by omega)]
    rw [e2]
    exact msread_short t ht k h l hs hk hl
  have hl' : l ≤ t.length := by omega
  have hkm := known_kindM hkn hk
  rw [readM_go hs hk hl']
  have hxi := readAll_i k (bodyL t h l) (rd0 k) (Nat.zero_le _)
  obtain ⟨X, hX⟩ : ∃ X, X = readAll k (bodyL t h l) (rd0 k) := ⟨_, rfl⟩
  rw [← hX] at hxi ⊢
  unfold readE
  by_cases h0 : X.e = 0
  · rw [if_pos h0]
    by_cases h1 : X.i < (bodyL t h l).length
    · rw [if_pos h1, if_neg (by decide)]
      exact msread_left t ht k h l hs hkm hhl hl65 hl' X hX h0 h1
    · rw [if_neg h1]
      have h2 : X.i = (bodyL t h l).length := by omega
      by_cases h3 : checkM X.m = 0
      · rw [if_pos h3]
        exact msread_ok t ht k h l hs hkm hhl hl65 hl' X hX h0 h2 h3
      · rw [if_neg h3]
        exact msread_chk t ht k h l hs hkm hhl hl65 hl' X hX h0 h2 h3
  · rw [if_neg h0]
    by_cases h3 : X.e = 3
    · rw [if_pos h3, if_neg (by decide)]
      exact msread_bad3 t ht k h l hs hkm hhl hl65 hl' X hX h3
    · rw [if_neg h3, if_neg h0]
      exact msread_bade t ht k h l hs hkm hhl hl65 hl' X hX h0 h3

end Go.Proofs.YtbacnaplpfmpnaaGreatDoor
namespace Go.Proofs.YtbacnaplpfmpnaaGreatDoor
open Go.RowKit
set_option linter.unusedVariables false
set_option linter.unusedSimpArgs false
attribute [local go_sem ↓] load_Msg store_Msg

theorem mx_of_shaped {w : World} (h : w.ShapedOpen Tryz.prog) : Mx w := by
  obtain ⟨m, hm⟩ := cell_of_shapedOpen_int (g := 0) (t := 3) (k := .i64) (zero := #[.int .i64 0]) h (of_decide_eq_true (by kernel_rfl)) (by kernel_rfl) rfl (by kernel_rfl) (by kernel_rfl) (by kernel_rfl)
  refine ⟨?_, m, hm⟩
  rcases Nat.eq_zero_or_pos w.heap.size with h0 | h0
  · simp [World.cell?, Array.size_eq_zero_iff.1 h0] at hm
  · exact h0
end Go.Proofs.YtbacnaplpfmpnaaGreatDoor
namespace Go.Proofs.YtbacnaplpfmpnaaGreatDoor
open Go.RowKit
set_option linter.unusedVariables false
set_option linter.unusedSimpArgs false

theorem bytesM_ok {m : Ms} (h : checkM m = 0) : bytesM m = (snS m.ty (restL m).length ++ restL m, 0) := by unfold bytesM; rw [if_pos h]
theorem bytesM_no {m : Ms} (h : checkM m ≠ 0) : bytesM m = ([], checkM m) := by unfold bytesM; rw [if_neg h]
theorem bytesM_e (m : Ms) : (bytesM m).2 = checkM m := by
  by_cases h : checkM m = 0
  · rw [bytesM_ok h, h]
  · rw [bytesM_no h]
theorem bytesM_len (m : Ms) : (bytesM m).1.length ≤ 65535 := by
  by_cases h : checkM m = 0
  · have hg := (check_iff m).1 h
    obtain ⟨z1, z2, z3, z4⟩ := snB_zero hg.head
    rw [bytesM_ok h]
    simp only [List.length_append]
    have := snS_len_le m.ty (restL m).length
    omega
  · rw [bytesM_no h]; exact Nat.zero_le _
theorem putL_getL (l : List UInt8) (n : Int) (hn : (n = 1 ∧ l.length = 1) ∨ (n = 2 ∧ l.length = 2)) : putL (getL l) n = l := by
  have h1 := putB_getB l (by omega)
  have e : getL l = getB l := by unfold getL; rw [show l.length - 8 = 0 by omega]; rfl
  rw [e]
  rcases hn with ⟨rfl, h⟩ | ⟨rfl, h⟩
  · rw [h] at h1; exact h1
  · rw [h] at h1; exact h1
theorem readM_small {s : List UInt8} {X : Ms} {n E : Int} (h : readM s = (X, n, E)) : (X.name.length : Int) ≤ 100000 ∧ (X.data.length : Int) ≤ 100000 := by
  rcases snR_cases s with hs | ⟨k, i, l, hs, hkn, hhl, hl65, hht, hx⟩
  · unfold readM at h; rw [if_pos hs] at h; obtain ⟨rfl, -⟩ := Prod.mk.inj h; decide
  by_cases hk : k = 254
  · unfold readM at h; rw [hs] at h; simp only at h; rw [if_neg (by simp), if_pos hk] at h; obtain ⟨rfl, -⟩ := Prod.mk.inj h; decide
  by_cases hl : s.length < l
  · unfold readM at h; rw [hs] at h; simp only at h; rw [if_neg (by simp), if_neg hk, if_pos (by omega)] at h; obtain ⟨rfl, -⟩ := Prod.mk.inj h; decide
  rw [readM_go hs hk (by omega)] at h
  have hul : (bodyL s i l).length = l - i := by unfold bodyL; simp; omega
  obtain ⟨a, b, c⟩ := readAll_keeps k (bodyL s i l) (rd0 k) (Nat.zero_le _) (Nat.zero_le _)
  split at h
  · obtain ⟨rfl, -⟩ := Prod.mk.inj h
    constructor <;> omega
  · obtain ⟨rfl, -⟩ := Prod.mk.inj h; decide
end Go.Proofs.YtbacnaplpfmpnaaGreatDoor
