/- ustring: the walks of Text, Binary, Read, ReadBinary; the law's examples. -/
import Derived.Test.YtcfeombnobgplaaUstW
import Derived.Test.YtcfeombnobgplaaOctC
import Derived.Test.YtcfeombnobgplaaOctP
namespace Go.Proofs.Ytcfeombnobgplaa
open Go.RowKit

/-- Bytes with their length ahead. -/
def frm (l : List UInt8) : List UInt8 := putL l.length 2 ++ l
theorem length_frm (l : List UInt8) : (frm l).length = l.length + 2 := by simp [frm, length_putL]; omega
/-- What ReadBinary returns: data, size, error. -/
def rdB (l : List UInt8) : List UInt8 × Nat × Int :=
  if l.length < 2 then ([], 0, 3) else if (l.length : Int) - 2 < getB (l.take 2) then ([], 0, 3) else ((l.drop 2).take (getB (l.take 2)).toNat, 2 + (getB (l.take 2)).toNat, 0)
/-- What Read returns. -/
def rdT (l : List UInt8) : List UInt8 × Nat × Int := if (rdB l).2.2 = 0 ∧ vld (rdB l).1 = false then ([], 0, 6) else rdB l

set_option maxHeartbeats 400000 in
theorem framed_any (l : List UInt8) (hl : (l.length : Int) ≤ 4611686018427387904) (w : World) :
    Calls Try.prog 80 #[.string ⟨l.toArray⟩] w fun e w' => e = .returned (.string ⟨(frm l).toArray⟩) ∧ Below w.heap.size w w' := by
  have h2 := length_putL l.length 2
  have hap : (ByteArray.mk (putL l.length 2).toArray) ++ ByteArray.mk l.toArray = ByteArray.mk (frm l).toArray := ByteArray.mk_append_mk _ _
  have hsz : (putL l.length 2).length ≤ 2 := by rw [h2]; omega
  clear h2
  go_enter Try.func80, Try.ntmps80
  go_wp2_with fail
  refine (put_any _ _ _).mono ?_
  rintro e w1 ⟨rfl, hb⟩
  go_wp2
  go_ret
  exact ⟨rfl, hb⟩
set_option maxHeartbeats 400000 in
theorem text_yes (l : List UInt8) (hv : vld l = true) (w : World) :
    Calls Try.prog 60 #[.string ⟨l.toArray⟩] w fun e w' => e = .returned (.tuple #[.string ⟨(frm l).toArray⟩, .int .i64 0]) ∧ Below w.heap.size w w' := by
  have hl := (vld_bd hv).1
  go_enter Try.func60, Try.ntmps60
  go_wp2_with fail
  refine (valid_any l (by omega) _).mono ?_
  rintro e w1 ⟨rfl, hb⟩
  rw [hv]
  clear hv
  go_wp2_with fail
  refine (framed_any l (by omega) _).mono ?_
  rintro e w2 ⟨rfl, hb2⟩
  go_wp2
  go_ret2
  exact ⟨rfl, hb.trans (hb2.mono hb.size)⟩
theorem text_no (l : List UInt8) (hl : (l.length : Int) ≤ 9223372036854775807) (hv : vld l = false) (w : World) :
    Calls Try.prog 60 #[.string ⟨l.toArray⟩] w fun e w' => e = .returned (.tuple #[.string ⟨#[]⟩, .int .i64 6]) ∧ Below w.heap.size w w' := by
  go_enter Try.func60, Try.ntmps60
  go_wp2_with fail
  refine (valid_any l hl _).mono ?_
  rintro e w1 ⟨rfl, hb⟩
  rw [hv]
  clear hv
  go_wp2
  go_ret2
  exact ⟨rfl, hb⟩
set_option maxHeartbeats 400000 in
theorem binary_yes (l : List UInt8) (hl : l.length ≤ 65535) (w : World) :
    Calls Try.prog 62 #[.string ⟨l.toArray⟩] w fun e w' => e = .returned (.tuple #[.string ⟨(frm l).toArray⟩, .int .i64 0]) ∧ Below w.heap.size w w' := by
  go_enter Try.func62, Try.ntmps62
  go_wp2_with fail
  refine (framed_any l (by omega) _).mono ?_
  rintro e w2 ⟨rfl, hb2⟩
  go_wp2
  go_ret2
  exact ⟨rfl, hb2⟩
theorem binary_no (l : List UInt8) (hl : ¬ l.length ≤ 65535) (w : World) :
    Calls Try.prog 62 #[.string ⟨l.toArray⟩] w fun e w' => e = .returned (.tuple #[.string ⟨#[]⟩, .int .i64 2]) ∧ w = w' := by
  go_enter Try.func62, Try.ntmps62
  go_wp2
  go_ret2
  exact ⟨rfl, rfl⟩

theorem getB_two (l : List UInt8) (h : l.length ≤ 2) : 0 ≤ getB l ∧ getB l ≤ 65535 := by
  have h1 := getB_nonneg l
  have h2 := getB_lt l 2 h
  exact ⟨h1, by omega⟩
set_option maxRecDepth 100000 in
set_option maxHeartbeats 800000 in
theorem rdB_any (t : List UInt8) (ht : (t.length : Int) ≤ 9223372036854775807) (w : World) :
    Calls Try.prog 63 #[.string ⟨t.toArray⟩] w fun e w' => e = .returned (.tuple #[.string ⟨(rdB t).1.toArray⟩, .int .i64 (rdB t).2.1, .int .i64 (rdB t).2.2]) ∧ Below w.heap.size w w' := by
  by_cases h2 : t.length < 2
  · have hr : rdB t = ([], 0, 3) := by unfold rdB; rw [if_pos h2]
    have hh : hasB t 0 2 = false := by simp [hasB]; omega
    have e1 : takeS t 0 0 2 = [] := by simp [takeS, hh]
    have e2 : takeI t 0 0 2 = 0 := by simp [takeI, hh]
    have e3 : takeE t 0 0 2 = 3 := by simp [takeE, hh]
    rw [hr]
    have HH := Lib.hid (And.intro hr hh)
    clear hr hh
    go_enter Try.func63, Try.ntmps63
    go_wp2_with fail
    refine (new_any t _).mono ?_
    rintro e w1 ⟨b, rfl, hb, C, hg⟩
    have hB := below_grown hg
    clear hg
    go_wp2_with fail
    refine (number_any C 2 (Nat.zero_le _) ht).mono ?_
    rintro e w2 ⟨rfl, K, hg⟩
    rw [e1, show getL [] = 0 by decide]
    rw [e2, e3] at K
    replace hB := hB.grown hg hB.size (fun j e => by cases e; exact hb)
    clear hg C e1 e2 e3
    go_wp2_with fail
    refine (take_err K 0 (by decide)).mono ?_
    rintro e w ⟨rfl, rfl⟩
    go_wp2_with fail
    refine (err_any K).mono ?_
    rintro e w ⟨rfl, rfl⟩
    go_wp2
    go_ret3
    exact ⟨rfl, hB⟩
  · have hh : hasB t 0 2 = true := by simp [hasB]; omega
    have e1 : takeS t 0 0 2 = t.take 2 := by simp [takeS, hh]
    have e2 : takeI t 0 0 2 = 2 := by simp [takeI, hh]
    have e3 : takeE t 0 0 2 = 0 := by simp [takeE, hh]
    have hg2 : getL (t.take 2) = getB (t.take 2) := by unfold getL; rw [show (t.take 2).length - 8 = 0 by simp; omega, List.drop_zero]
    have hbd := getB_two (t.take 2) (by simp; omega)
    obtain ⟨N, hN⟩ := Int.eq_ofNat_of_zero_le hbd.1
    have hN5 : N ≤ 65535 := by omega
    have HH := Lib.hid (And.intro hh hN)
    by_cases hfit : (t.length : Int) - 2 < N
    · have hr : rdB t = ([], 0, 3) := by unfold rdB; rw [if_neg h2, if_pos (by omega)]
      have f1 : hasB t 2 N = false := by simp [hasB]; omega
      rw [hr]
      have HF := Lib.hid hr
      clear hr hh
      go_enter Try.func63, Try.ntmps63
      go_wp2_with fail
      refine (new_any t _).mono ?_
      rintro e w1 ⟨b, rfl, hb, C, hg⟩
      have hB := below_grown hg
      clear hg
      go_wp2_with fail
      refine (number_any C 2 (Nat.zero_le _) ht).mono ?_
      rintro e w2 ⟨rfl, K, hg⟩
      rw [e1, hg2, hN]
      rw [e2, e3] at K
      replace hB := hB.grown hg hB.size (fun j e => by cases e; exact hb)
      clear hg C e1 e2 e3 hg2 hbd hN
      go_wp2_with fail
      refine (take_short K N (by omega) ht f1).mono ?_
      rintro e w3 ⟨rfl, K2, hg⟩
      replace hB := hB.grown hg hB.size (fun j e => by cases e; exact hb)
      clear hg K f1
      go_wp2_with fail
      refine (err_any K2).mono ?_
      rintro e w ⟨rfl, rfl⟩
      go_wp2
      go_ret3
      exact ⟨rfl, hB⟩
    · have hr : rdB t = ((t.drop 2).take N, 2 + N, 0) := by unfold rdB; rw [if_neg h2, if_neg (by omega), hN]; rfl
      rw [hr]
      have HF := Lib.hid hr
      clear hr hh
      go_enter Try.func63, Try.ntmps63
      go_wp2_with fail
      refine (new_any t _).mono ?_
      rintro e w1 ⟨b, rfl, hb, C, hg⟩
      have hB := below_grown hg
      clear hg
      go_wp2_with fail
      refine (number_any C 2 (Nat.zero_le _) ht).mono ?_
      rintro e w2 ⟨rfl, K, hg⟩
      rw [e1, hg2, hN]
      rw [e2, e3] at K
      replace hB := hB.grown hg hB.size (fun j e => by cases e; exact hb)
      clear hg C e1 e2 e3 hg2 hbd hN
      go_wp2_with fail
      refine (take_yes K N (by omega) ht (by omega)).mono ?_
      rintro e w3 ⟨rfl, K2, hg⟩
      replace hB := hB.grown hg hB.size (fun j e => by cases e; exact hb)
      clear hg K
      go_wp2_with fail
      refine (err_any K2).mono ?_
      rintro e w ⟨rfl, rfl⟩
      go_wp2_with fail
      refine (at_any K2).mono ?_
      rintro e w ⟨rfl, rfl⟩
      go_wp2
      go_ret3
      exact ⟨rfl, hB⟩
theorem rdB_err (t : List UInt8) : (rdB t).2.2 = 0 ∨ (rdB t).2.2 = 3 ∧ (rdB t).1 = [] ∧ (rdB t).2.1 = 0 := by
  unfold rdB; split
  · exact .inr ⟨rfl, rfl, rfl⟩
  · split
    · exact .inr ⟨rfl, rfl, rfl⟩
    · exact .inl rfl
theorem rdB_len (t : List UInt8) : (rdB t).1.length ≤ t.length ∧ (rdB t).2.1 ≤ t.length := by
  unfold rdB; split
  · simp
  · split
    · simp
    · have := getB_nonneg (t.take 2); simp; omega
set_option maxRecDepth 100000 in
set_option maxHeartbeats 400000 in
theorem rdT_any (t : List UInt8) (ht : (t.length : Int) ≤ 9223372036854775807) (w : World) :
    Calls Try.prog 61 #[.string ⟨t.toArray⟩] w fun e w' => e = .returned (.tuple #[.string ⟨(rdT t).1.toArray⟩, .int .i64 (rdT t).2.1, .int .i64 (rdT t).2.2]) ∧ Below w.heap.size w w' := by
  have hlen := (rdB_len t).1
  have herr := rdB_err t
  have hT : rdT t = if (rdB t).2.2 = 0 ∧ vld (rdB t).1 = false then ([], 0, 6) else rdB t := rfl
  obtain ⟨X, hX⟩ : ∃ X, X = rdB t := ⟨_, rfl⟩
  rw [← hX] at hlen herr hT
  obtain ⟨x1, x2, x3⟩ := X
  simp only at hlen herr hT
  rw [hT]
  have HX := Lib.hid (And.intro hX hT)
  clear hX hT
  by_cases h0 : x3 = 0
  · subst h0
    cases hv : vld x1 with
    | true =>
      rw [if_neg (by simp)]
      clear herr
      go_enter Try.func61, Try.ntmps61
      go_wp2_with fail
      refine (rdB_any t ht _).mono ?_
      rintro e w1 ⟨rfl, hb⟩
      rw [← HX.out.1]
      go_wp2_with fail
      refine (valid_any x1 (by omega) _).mono ?_
      rintro e w2 ⟨rfl, hb2⟩
      rw [hv]
      have HV := Lib.hid hv
      clear hv
      go_wp2
      go_ret3
      exact ⟨rfl, hb.trans (hb2.mono hb.size)⟩
    | false =>
      rw [if_pos ⟨rfl, rfl⟩]
      clear herr
      go_enter Try.func61, Try.ntmps61
      go_wp2_with fail
      refine (rdB_any t ht _).mono ?_
      rintro e w1 ⟨rfl, hb⟩
      rw [← HX.out.1]
      go_wp2_with fail
      refine (valid_any x1 (by omega) _).mono ?_
      rintro e w2 ⟨rfl, hb2⟩
      rw [hv]
      have HV := Lib.hid hv
      clear hv
      go_wp2
      go_ret3
      exact ⟨rfl, hb.trans (hb2.mono hb.size)⟩
  · rw [if_neg (fun h => h0 h.1)]
    have hd : (x3 == 0) = false := beq_eq_false_iff_ne.2 h0
    clear herr h0
    go_enter Try.func61, Try.ntmps61
    go_wp2_with fail
    refine (rdB_any t ht _).mono ?_
    rintro e w1 ⟨rfl, hb⟩
    rw [← HX.out.1]
    go_wp2
    go_ret3
    exact ⟨rfl, hb⟩

set_option maxHeartbeats 400000 in
theorem lives03 (w : World) : Calls Try.prog 21 #[] w fun e w' => e = .returned (.bool true) ∧ Below w.heap.size w w' := by
  have e1 : frm [65] = [0, 1, 65] := by decide
  go_enter Try.func21, Try.ntmps21
  go_wp2_with fail
  refine (text_yes [65] (by decide) _).mono ?_
  rintro r w1 ⟨rfl, hB1⟩
  rw [e1]
  go_wp2_with fail
  refine (text_no [192, 128] (by decide) (by decide) _).mono ?_
  rintro r w2 ⟨rfl, hb⟩
  go_wp2
  go_ret
  exact ⟨rfl, hB1.trans (hb.mono hB1.size)⟩
end Go.Proofs.Ytcfeombnobgplaa
