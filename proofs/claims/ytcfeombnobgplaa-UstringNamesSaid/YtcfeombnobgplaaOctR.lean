/- The walks of the reference's cursor. -/
import Derived.Test.YtcfeombnobgplaaOctC
namespace Go.Proofs.Ytcfeombnobgplaa
open Go.RowKit

/-- Block b is the reference's cursor over the text t, at place i, with error e. -/
def RCur (w : World) (b : Nat) (t : List UInt8) (i : Nat) (e : Int) : Prop := Obj? w b #[.string ⟨t.toArray⟩, .int .i64 i, .int .i64 e] 72
theorem RCur.cells {w : World} {b : Nat} {t : List UInt8} {i : Nat} {e : Int} (h : RCur w b t i e) :
    w.cell? ⟨b, 0, none⟩ = some (.string ⟨t.toArray⟩) ∧ w.cell? ⟨b, 1, none⟩ = some (.int .i64 i) ∧ w.cell? ⟨b, 2, none⟩ = some (.int .i64 e) ∧
    w.frozen? ⟨b, 1, none⟩ = false ∧ w.frozen? ⟨b, 2, none⟩ = false :=
  ⟨Obj?.cell h 0 _ rfl, Obj?.cell h 1 _ rfl, Obj?.cell h 2 _ rfl, Obj?.frozen h 1, Obj?.frozen h 2⟩
theorem RCur.kept {w w' : World} {row : Option Nat} {b : Nat} {t : List UInt8} {i : Nat} {e : Int} (h : RCur w b t i e) (hg : w.grownBy w' row) (hne : row ≠ some b) : RCur w' b t i e := Obj?.kept h hg hne

theorem rnew_any (t : List UInt8) (w : World) : Calls Try.prog 53 #[.string ⟨t.toArray⟩] w fun e w' =>
    ∃ b, e = .returned (.pointer (some ⟨b, 0, none⟩)) ∧ w.heap.size ≤ b ∧ RCur w' b t 0 0 ∧ w.grownBy w' none := by
  go_enter Try.func53, Try.ntmps53
  go_wp2
  go_ret
  exact ⟨_, rfl, Nat.le_refl _, Obj?.new _ _ _, World.grownBy_alloc _ _ _⟩

set_option maxRecDepth 100000 in
set_option maxHeartbeats 800000 in
theorem rpeek_any {b : Nat} {t : List UInt8} {i : Nat} {e : Int} {w : World} (h : RCur w b t i e) (n : Int) (hi : i ≤ t.length) (ht : (t.length : Int) ≤ 4611686018427387904) :
    Calls Try.prog 56 #[.pointer (some ⟨b, 0, none⟩), .int .i64 n] w fun r w' => r = .returned (.string ⟨(takeS t i e n).toArray⟩) ∧ ∃ k, w' = w.drewN k := by
  obtain ⟨c0, c1, c2, f1, f2⟩ := h.cells
  have H := Lib.hid h; clear h
  by_cases he : e = 0
  · subst he
    by_cases hn : n < 0
    · have hd : decide (n < 0) = true := by simpa using hn
      go_enter Try.func56, Try.ntmps56
      go_wp2
      go_quiet (fail)
      go_wp2
      go_ret
      exact ⟨ret_val (by simp [takeS, hasB]; omega), _, rfl⟩
    · have hd : decide (n < 0) = false := by simpa using hn
      obtain ⟨m, rfl⟩ := Int.eq_ofNat_of_zero_le (show 0 ≤ n by omega)
      by_cases hh : i + m ≤ t.length
      · go_enter Try.func56, Try.ntmps56
        go_wp2
        go_quiet (fail)
        go_wp2
        go_quiet (fail)
        go_wp2
        go_ret
        have hb : hasB t i m = true := by simp [hasB]; omega
        exact ⟨ret_val (by rw [ByteArray.extract_mk]; simp [takeS, hb]), _, World.drewN_drewN _ _ _⟩
      · have hb : hasB t i m = false := by simp [hasB]; omega
        have HB := Lib.hid hb; clear hb
        go_enter Try.func56, Try.ntmps56
        go_wp2
        go_quiet (fail)
        go_wp2
        go_ret
        exact ⟨ret_val (by simp [takeS, HB.out]), _, rfl⟩
  · have hd : (e == 0) = false := beq_eq_false_iff_ne.2 he
    have hd2 : (e != 0) = true := by simp [he]
    go_enter Try.func56, Try.ntmps56
    go_wp2
    go_quiet (fail)
    go_wp2
    go_ret
    exact ⟨ret_val (by simp [takeS, he]), _, rfl⟩

theorem takeS_short {t : List UInt8} {i : Nat} {e n : Int} (h : ¬ (e = 0 ∧ hasB t i n = true)) : takeS t i e n = [] := by simp only [takeS, if_neg h]
theorem takeI_add' (t : List UInt8) (i : Nat) (e n : Int) (hi : i ≤ t.length) : i + (takeS t i e n).length = takeI t i e n := by
  unfold takeI takeS
  split
  · rename_i h; have := h.2; simp [hasB] at this; simp; omega
  · simp
theorem takeS_len {t : List UInt8} {i : Nat} {e n : Int} (hi : i ≤ t.length) : i + (takeS t i e n).length ≤ t.length := by
  rw [takeI_add' _ _ _ _ hi]; exact takeI_le hi
/-- Behind the test, in a world w in which the error stands. -/
theorem takeS_err {t : List UInt8} {i : Nat} {e n : Int} : takeS t i (takeE t i e n) n = takeS t i e n := by
  unfold takeS takeE
  by_cases he : e = 0
  · subst he
    cases hh : hasB t i n <;> simp
  · simp [he]
set_option maxRecDepth 100000 in
set_option maxHeartbeats 1600000 in
theorem rtake_any {b : Nat} {t : List UInt8} {i : Nat} {e : Int} {w : World} (h : RCur w b t i e) (n : Int) (hi : i ≤ t.length) (ht : (t.length : Int) ≤ 4611686018427387904) :
    Calls Try.prog 54 #[.pointer (some ⟨b, 0, none⟩), .int .i64 n] w fun r w' => r = .returned (.string ⟨(takeS t i e n).toArray⟩) ∧ RCur w' b t (takeI t i e n) (takeE t i e n) ∧ w.grownBy w' (some b) := by
  obtain ⟨c0, c1, c2, f1, f2⟩ := h.cells
  have hlen := takeS_len (e := e) (n := n) hi
  have hadd := Lib.hid (takeI_add' t i e n hi)
  by_cases he : e = 0
  · subst he
    by_cases hsh : hasB t i n = true
    · have hE : takeE t i 0 n = 0 := by simp [takeE, hsh]
      have h2 := hsh
      simp [hasB] at h2
      obtain ⟨m, rfl⟩ := Int.eq_ofNat_of_zero_le h2.1
      have hh : i + m ≤ t.length := by omega
      have hd : decide ((m : Int) < 0) = false := by simp
      have HE := Lib.hid (And.intro hE hsh)
      have H := Lib.hid h
      clear hE hsh h2 h
      go_enter Try.func54, Try.ntmps54
      go_wp2
      go_quiet (fail)
      go_wp2_with fail
      refine (rpeek_any (w := w.drewN _) (Obj?.drewN H.out _) m hi ht).mono ?_
      rintro r w' ⟨rfl, k, rfl⟩
      go_wp2
      go_ret
      refine ⟨rfl, ?_, grown_set (grown_drewN (World.grownBy.refl _ _) _) rfl _⟩
      rw [HE.out.1, ← hadd.out]
      exact Obj?.set (w := w.drewN _) H.out 1 _
    · have hsh2 : hasB t i n = false := by simpa using hsh
      have hE : takeE t i 0 n = 3 := by simp [takeE, hsh2]
      have hI : takeI t i 0 n = i := by simp [takeI, hsh2]
      have hS : takeS t i 0 n = [] := by simp [takeS, hsh2]
      have hS3 : takeS t i 3 n = [] := by simp [takeS]
      have hc : n < 0 ∨ ¬ n < 0 ∧ (t.length : Int) - i < n := by simp [hasB] at hsh2; omega
      have HE := Lib.hid (And.intro hE (And.intro hI (And.intro hS hS3)))
      have H := Lib.hid h
      clear hE hsh2 hsh hI hS hS3 h hadd hlen
      rcases hc with hc | ⟨hc, hc2⟩
      · have hd : decide (n < 0) = true := by simpa using hc
        go_enter Try.func54, Try.ntmps54
        go_wp2
        go_quiet (fail)
        go_wp2_with fail
        refine (rpeek_any (w := (w.drewN _).setCell _ _) (Obj?.set (w := w.drewN _) H.out 2 _) n hi ht).mono ?_
        rintro r w' ⟨rfl, k, rfl⟩
        rw [HE.out.2.2.2]
        go_wp2
        go_ret
        refine ⟨ret_str HE.out.2.2.1.symm, ?_, grown_set (g := b) (p := ⟨b, 1, none⟩) (grown_drewN (grown_set (g := b) (p := ⟨b, 2, none⟩) (grown_drewN (World.grownBy.refl _ _) _) rfl _) _) rfl _⟩
        rw [HE.out.1, HE.out.2.1]
        exact Obj?.set (w := ((w.drewN _).setCell _ _).drewN _) (Obj?.set (w := w.drewN _) H.out 2 _) 1 _
      · have hd : decide (n < 0) = false := by simpa using hc
        go_enter Try.func54, Try.ntmps54
        go_wp2
        go_quiet (fail)
        go_wp2_with fail
        refine (rpeek_any (w := (w.drewN _).setCell _ _) (Obj?.set (w := w.drewN _) H.out 2 _) n hi ht).mono ?_
        rintro r w' ⟨rfl, k, rfl⟩
        rw [HE.out.2.2.2]
        go_wp2
        go_ret
        refine ⟨ret_str HE.out.2.2.1.symm, ?_, grown_set (g := b) (p := ⟨b, 1, none⟩) (grown_drewN (grown_set (g := b) (p := ⟨b, 2, none⟩) (grown_drewN (World.grownBy.refl _ _) _) rfl _) _) rfl _⟩
        rw [HE.out.1, HE.out.2.1]
        exact Obj?.set (w := ((w.drewN _).setCell _ _).drewN _) (Obj?.set (w := w.drewN _) H.out 2 _) 1 _
  · have hd : (e == 0) = false := beq_eq_false_iff_ne.2 he
    have hE : takeE t i e n = e := by simp [takeE, he]
    have hI : takeI t i e n = i := by simp [takeI, he]
    have hS : takeS t i e n = [] := by simp [takeS, he]
    have HE := Lib.hid (And.intro hE (And.intro hI hS))
    have H := Lib.hid h
    clear hE hI hS h hadd hlen
    go_enter Try.func54, Try.ntmps54
    go_wp2
    go_quiet (fail)
    go_wp2_with fail
    refine (rpeek_any (w := w.drewN _) (Obj?.drewN H.out _) n hi ht).mono ?_
    rintro r w' ⟨rfl, k, rfl⟩
    rw [HE.out.2.2]
    go_wp2
    go_ret
    refine ⟨ret_str HE.out.2.2.symm, ?_, grown_set (grown_drewN (World.grownBy.refl _ _) _) rfl _⟩
    rw [HE.out.1, HE.out.2.1]
    exact Obj?.set (w := w.drewN _) H.out 1 _

set_option maxRecDepth 100000 in
set_option maxHeartbeats 800000 in
/-- The reference's Get. -/
theorem rget_any (l : List UInt8) (hl : (l.length : Int) ≤ 4611686018427387904) (w : World) :
    Calls Try.prog 79 #[.string ⟨l.toArray⟩] w fun e w' => e = .returned (.int .u64 (getL l)) ∧ w = w' := by
  obtain ⟨z, hz⟩ : ∃ z, z = l.length - 8 := ⟨_, rfl⟩
  have hz1 : z ≤ l.length := by omega
  have hz2 : l.length ≤ z + 8 := by omega
  have hgz : getL l = getB (l.drop z) := by rw [hz]; rfl
  have HG := Lib.hid (And.intro hz hgz)
  clear hz hgz
  go_enter Try.func79, Try.ntmps79
  by_cases h8 : (l.length : Int) - 8 ≤ 0
  all_goals
    go_wp2
    try rw [show ((l.length : Int) - 8) = (z : Int) by have := HG.out.1; omega]
    go_loop [3, 4] (fun n i => ∃ j : Nat, j ≤ (l.drop z).length ∧ i = .int .i64 ((z + j : Nat) : Int) ∧ n = .int .u64 (getB ((l.drop z).take j))) (fun _ i => l.length - (intOf i).toNat)
    case atStart => exact ⟨0, Nat.zero_le _, by first | (simp; done) | (have := HG.out.1; simp; omega), rfl⟩
    case round =>
      obtain ⟨j, hj, rfl, rfl⟩ := hrel
      have hdl : (l.drop z).length = l.length - z := by simp
      by_cases hlt : j < (l.drop z).length
      · have e := getB_take (l.drop z) j hlt
        have e2 := or_byte (getB ((l.drop z).take j)) (l.drop z)[j].toNat (getB_nonneg _) (getB_lt _ 7 (by simp; omega)) (l.drop z)[j].toNat_lt
        rw [← e] at e2
        simp only [List.getElem_drop] at e2
        have E := Lib.hid e2
        have hzj : z + j < l.length := by omega
        clear e e2 hdl
        go_wp2
        go_round
        case rel => exact ⟨j + 1, by omega, by go_num, congrArg _ E.out⟩
        case measure => simp [intOf]; omega
      · have e : j = (l.drop z).length := by omega
        have hjz : ¬ z + j < l.length := by omega
        have HE := Lib.hid e
        clear e hdl
        go_wp2
        go_ret
        exact ⟨ret_int (by rw [HG.out.2, HE.out, List.take_length]), rfl⟩

set_option maxHeartbeats 400000 in
theorem rnumber_any {b : Nat} {t : List UInt8} {i : Nat} {e : Int} {w : World} (h : RCur w b t i e) (n : Int) (hi : i ≤ t.length) (ht : (t.length : Int) ≤ 4611686018427387904) :
    Calls Try.prog 55 #[.pointer (some ⟨b, 0, none⟩), .int .i64 n] w fun r w' => r = .returned (.int .u64 (getL (takeS t i e n))) ∧ RCur w' b t (takeI t i e n) (takeE t i e n) ∧ w.grownBy w' (some b) := by
  have hl : ((takeS t i e n).length : Int) ≤ 4611686018427387904 := by have := takeS_len (e := e) (n := n) hi; omega
  go_enter Try.func55, Try.ntmps55
  go_wp2_with fail
  refine (rtake_any h n hi ht).mono ?_
  rintro r w' ⟨rfl, h', hg⟩
  have H := Lib.hid h'
  clear h h'
  go_wp2_with fail
  refine (rget_any _ hl _).mono ?_
  rintro r w'' ⟨rfl, rfl⟩
  go_wp2
  go_ret
  exact ⟨rfl, H.out, hg⟩
set_option maxHeartbeats 400000 in
theorem rfail_any {b : Nat} {t : List UInt8} {i : Nat} {e : Int} {w : World} (h : RCur w b t i e) (e' : Int) :
    Calls Try.prog 57 #[.pointer (some ⟨b, 0, none⟩), .int .i64 e'] w fun r w' => r = .returned (.tuple #[]) ∧ RCur w' b t i (failE e e') ∧ w.grownBy w' (some b) := by
  obtain ⟨c0, c1, c2, f1, f2⟩ := h.cells
  have H := Lib.hid h; clear h
  by_cases he : e = 0
  · subst he
    go_enter Try.func57, Try.ntmps57
    go_wp2
    go_end0
    exact ⟨rfl, Obj?.set (w := w) H.out 2 _, grown_set (World.grownBy.refl _ _) rfl _⟩
  · have h2 : failE e e' = e := by simp [failE, he]
    have hd : (e == 0) = false := beq_eq_false_iff_ne.2 he
    rw [h2]
    clear h2
    go_enter Try.func57, Try.ntmps57
    go_wp2
    go_end0
    exact ⟨rfl, H.out, World.grownBy.refl _ _⟩
set_option maxHeartbeats 400000 in
theorem rrest_any {b : Nat} {t : List UInt8} {i : Nat} {e : Int} {w : World} (h : RCur w b t i e) (hi : i ≤ t.length) (_ht : (t.length : Int) ≤ 4611686018427387904) :
    Calls Try.prog 59 #[.pointer (some ⟨b, 0, none⟩)] w fun r w' => r = .returned (.string ⟨(t.drop i).toArray⟩) ∧ ∃ k, w' = w.drewN k := by
  obtain ⟨c0, c1, c2, f1, f2⟩ := h.cells
  clear h
  go_enter Try.func59, Try.ntmps59
  go_wp2
  go_quiet (fail)
  go_wp2
  go_ret
  exact ⟨ret_val (by rw [ByteArray.extract_mk]; simp [List.take_of_length_le]), _, rfl⟩
set_option maxHeartbeats 400000 in
theorem rleft_any {b : Nat} {t : List UInt8} {i : Nat} {e : Int} {w : World} (h : RCur w b t i e) (hi : i ≤ t.length) (ht : (t.length : Int) ≤ 4611686018427387904) :
    Calls Try.prog 58 #[.pointer (some ⟨b, 0, none⟩)] w fun r w' => r = .returned (.int .i64 ((t.length - i : Nat) : Int)) ∧ ∃ k, w' = w.drewN k := by
  obtain ⟨c0, c1, c2, f1, f2⟩ := h.cells
  clear h
  go_enter Try.func58, Try.ntmps58
  go_wp2
  go_quiet (fail)
  go_wp2
  go_ret
  exact ⟨ret_int (by omega), _, rfl⟩
end Go.Proofs.Ytcfeombnobgplaa
