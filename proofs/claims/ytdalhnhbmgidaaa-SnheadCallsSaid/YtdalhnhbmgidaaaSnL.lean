/- The reference of chapter 21: ReadFlag, Flag, May. -/
import Derived.Test.YtdalhnhbmgidaaaSnK
import Derived.Test.YtdalhnhbmgidaaaSnH
namespace Go.Proofs.Ytdalhnhbmgidaaa
open Go.RowKit
set_option linter.unusedVariables false

set_option maxRecDepth 100000 in
set_option maxHeartbeats 800000 in
theorem rreadflag_any (n : Int) (w : World) : Calls Try.prog 29 #[.int .i64 n] w fun e w' =>
    e = .returned (.tuple #[.agg #[.bool (rfF n).dup, .int .i64 (rfF n).q, .bool (rfF n).retain, .bool (rfF n).will, .bool (rfF n).clean, .int .i64 (rfF n).typ], .int .i64 (rfE n)]) ∧ Below w.heap.size w w' := by
  rcases rf_cases n with ⟨hk, h2, h3, h4⟩ | ⟨hk, h2⟩ | ⟨hk, h2, h3⟩ | ⟨hk, h2, h3, h4⟩
  · obtain ⟨m, rfl⟩ := Int.eq_ofNat_of_zero_le h2
    have HF := Lib.hid (show rfF m = ⟨decide ((m : Int) / 128 % 2 = 1), rfQ m, decide ((m : Int) / 16 % 2 = 1), decide ((m : Int) / 8 % 2 = 1), decide ((m : Int) / 4 % 2 = 1), (m : Int) % 4⟩ by unfold rfF; rw [hk]; rfl)
    have HE := Lib.hid (show rfE m = 0 by unfold rfE; rw [hk]; rfl)
    have hd : ((m : Int) % 4 == 3) = false := by simpa using h4
    rw [HF.out, HE.out, show decide ((m : Int) / 128 % 2 = 1) = decide (128 ≤ (m : Int)) by rw [decide_eq_decide]; omega]
    clear hk h4
    by_cases h5 : (m : Int) / 32 % 4 = 3
    · have HQ := Lib.hid (show rfQ m = -1 by unfold rfQ; rw [if_pos h5])
      have hd2 : ((m : Int) / 32 % 4 == 3) = true := by simpa using h5
      rw [HQ.out]
      clear h5
      go_enter Try.func29, Try.ntmps29
      go_wp2_with fail
      (try simp only [Exit.inBlock, Exit.then])
      refine bodyPost_ret (results_row_tmp rfl _ _ _ _ _ _ rfl (Obj?.new _ _ _) Try.underlying45 rfl infoFl) rfl ?_
      exact ⟨rfl, (Below.refl _ _).alloc (Nat.le_refl _) _⟩
    · have HQ := Lib.hid (show rfQ m = (m : Int) / 32 % 4 by unfold rfQ; rw [if_neg h5])
      have hd2 : ((m : Int) / 32 % 4 == 3) = false := by simpa using h5
      rw [HQ.out]
      clear h5
      go_enter Try.func29, Try.ntmps29
      go_wp2_with fail
      (try simp only [Exit.inBlock, Exit.then])
      refine bodyPost_ret (results_row_tmp rfl _ _ _ _ _ _ rfl (Obj?.new _ _ _) Try.underlying45 rfl infoFl) rfl ?_
      exact ⟨rfl, (Below.refl _ _).alloc (Nat.le_refl _) _⟩
  all_goals rw [show rfF n = fl0 by unfold rfF; rw [hk]; rfl, show rfE n = 7 by unfold rfE; rw [hk]; rfl]
  all_goals clear hk
  · go_enter Try.func29, Try.ntmps29
    go_wp2
    (try simp only [Exit.inBlock, Exit.then])
    refine bodyPost_ret (results_row_tmp rfl _ _ _ _ _ _ rfl (Obj?.new _ _ _) Try.underlying45 rfl infoFl) rfl ?_
    exact ⟨rfl, (Below.refl _ _).alloc (Nat.le_refl _) _⟩
  · go_enter Try.func29, Try.ntmps29
    go_wp2
    (try simp only [Exit.inBlock, Exit.then])
    refine bodyPost_ret (results_row_tmp rfl _ _ _ _ _ _ rfl (Obj?.new _ _ _) Try.underlying45 rfl infoFl) rfl ?_
    exact ⟨rfl, (Below.refl _ _).alloc (Nat.le_refl _) _⟩
  · have hd : (n % 4 == 3) = true := by simpa using h4
    clear h4
    go_enter Try.func29, Try.ntmps29
    go_wp2
    (try simp only [Exit.inBlock, Exit.then])
    refine bodyPost_ret (results_row_tmp rfl _ _ _ _ _ _ rfl (Obj?.new _ _ _) Try.underlying45 rfl infoFl) rfl ?_
    exact ⟨rfl, (Below.refl _ _).alloc (Nat.le_refl _) _⟩

theorem i64_ok (x : Int) (h : -9223372036854775808 ≤ x) (h2 : x ≤ 9223372036854775807) : IntKind.i64.wrap x = x := by rw [IntKind.wrap_i64]; omega
theorem bitN_range (b : Bool) (n : Int) (h : 0 ≤ n) : 0 ≤ bitN b n ∧ bitN b n ≤ n := by cases b <;> simp [bitN, h]
set_option maxRecDepth 100000 in
set_option maxHeartbeats 1600000 in
theorem rflag_fl (f : Fl) (w : World) : Calls Try.prog 28 #[.agg #[.bool f.dup, .int .i64 f.q, .bool f.retain, .bool f.will, .bool f.clean, .int .i64 f.typ]] w fun e w' =>
    e = .returned (.tuple #[.int .i64 (flagV f).1, .int .i64 (flagV f).2]) ∧ Below w.heap.size w w' := by
  obtain ⟨dup, q, retain, will, clean, t⟩ := f
  have hA : Below w.heap.size w (w.alloc (.cells #[.bool dup, .int .i64 q, .bool retain, .bool will, .bool clean, .int .i64 t] 45 (0, 0))) := (Below.refl _ _).alloc (Nat.le_refl _) _
  show Calls Try.prog 28 #[.agg #[.bool dup, .int .i64 q, .bool retain, .bool will, .bool clean, .int .i64 t]] w fun e w' =>
    e = .returned (.tuple #[.int .i64 (flagF dup q retain will clean t).1, .int .i64 (flagF dup q retain will clean t).2]) ∧ Below w.heap.size w w'
  cases hok : flagOk q t with
  | false =>
    rw [show flagF dup q retain will clean t = (0, 7) by unfold flagF; rw [hok]; rfl]
    have h' : ¬ (-1 ≤ q ∧ q ≤ 2 ∧ 0 ≤ t ∧ t ≤ 2) := by simpa [flagOk] using hok
    clear hok
    rcases (by omega : q < -1 ∨ (-1 ≤ q ∧ 2 < q) ∨ (-1 ≤ q ∧ q ≤ 2 ∧ t < 0) ∨ (-1 ≤ q ∧ q ≤ 2 ∧ 0 ≤ t ∧ 2 < t)) with h | ⟨h1, h⟩ | ⟨h1, h2, h⟩ | ⟨h1, h2, h3, h⟩
    all_goals clear h'
    all_goals go_enter Try.func28, Try.ntmps28
    all_goals go_wp2
    all_goals go_ret2
    all_goals exact ⟨rfl, hA⟩
  | true =>
    have h' : -1 ≤ q ∧ q ≤ 2 ∧ 0 ≤ t ∧ t ≤ 2 := by simpa [flagOk] using hok
    have HF := Lib.hid (show flagF dup q retain will clean t = (flagN dup q retain will clean t, 0) by unfold flagF; rw [hok]; rfl)
    rw [HF.out]
    obtain ⟨h1, h2, h3, h4⟩ := h'
    have r1 := bitN_range dup 128 (by decide)
    have r2 := bitN_range retain 16 (by decide)
    have r3 := bitN_range will 8 (by decide)
    have r4 := bitN_range clean 4 (by decide)
    obtain ⟨Q, hQ⟩ : ∃ Q, Q = q % 4 := ⟨_, rfl⟩
    have hN : flagN dup q retain will clean t = bitN dup 128 + 32 * Q + bitN retain 16 + bitN will 8 + bitN clean 4 + t := by unfold flagN; rw [hQ]
    have hq0 : 0 ≤ Q ∧ Q ≤ 3 := by omega
    have e1 := i64_ok (32 * Q) (by omega) (by omega)
    have e2 := i64_ok (bitN dup 128 + 32 * Q) (by omega) (by omega)
    have e3 := i64_ok (bitN dup 128 + 32 * Q + bitN retain 16) (by omega) (by omega)
    have e4 := i64_ok (bitN dup 128 + 32 * Q + bitN retain 16 + bitN will 8) (by omega) (by omega)
    have e5 := i64_ok (bitN dup 128 + 32 * Q + bitN retain 16 + bitN will 8 + bitN clean 4) (by omega) (by omega)
    have e6 := i64_ok (bitN dup 128 + 32 * Q + bitN retain 16 + bitN will 8 + bitN clean 4 + t) (by omega) (by omega)
    have HE := Lib.hid (And.intro e1 (And.intro e2 (And.intro e3 (And.intro e4 (And.intro e5 e6)))))
    have HN := Lib.hid hN
    clear e1 e2 e3 e4 e5 e6 hN hok
    by_cases h5 : q < 0
    · have hQ3 : Q = 3 := by omega
      subst hQ3
      clear hQ
      go_enter Try.func28, Try.ntmps28
      go_wp2
      obtain ⟨e1, e2, e3, e4, e5, e6⟩ := HE.out
      go_quiet ((go_at_call 58; exact quiet_left (rbit_any _ _ _)))
      clear e1 e2 e3 e4 e5 e6
      go_wp2
      go_ret2
      exact ⟨by rw [HN.out]; rfl, hA.trans ((below_grown (quiet_grown ⟨_, rfl⟩ none)).mono hA.size)⟩
    · have hQ3 : Q = q := by omega
      subst hQ3
      clear hQ
      go_enter Try.func28, Try.ntmps28
      go_wp2
      obtain ⟨e1, e2, e3, e4, e5, e6⟩ := HE.out
      go_quiet ((go_at_call 58; exact quiet_left (rbit_any _ _ _)))
      clear e1 e2 e3 e4 e5 e6
      go_wp2
      go_ret2
      exact ⟨by rw [HN.out]; rfl, hA.trans ((below_grown (quiet_grown ⟨_, rfl⟩ none)).mono hA.size)⟩
end Go.Proofs.Ytdalhnhbmgidaaa
