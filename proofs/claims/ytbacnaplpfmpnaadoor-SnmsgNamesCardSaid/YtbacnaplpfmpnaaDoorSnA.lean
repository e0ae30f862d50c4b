/- snhead: what it computes, plain; Known, Bytes, Read. -/
import Derived.Test.YtbacnaplpfmpnaaDoorOctA
namespace Go.Proofs.YtbacnaplpfmpnaaDoor
open Go.RowKit

def knownK (k : Int) : Bool := if k = 3 ∨ k = 17 ∨ k = 25 then false else if k = 254 then true else decide (0 ≤ k ∧ k ≤ 29)
def snS (kind rest : Int) : List UInt8 := if rest ≤ 253 then putL (rest + 2) 1 ++ putL kind 1 else putL 1 1 ++ putL (rest + 4) 2 ++ putL kind 1
def snB (kind rest : Int) : List UInt8 × Int := if knownK kind = false then ([], 8) else if rest < 0 then ([], 2) else if 65531 < rest then ([], 4) else (snS kind rest, 0)
def snTail (kind head length : Int) : Int × Int × Int × Int := if length < head ∨ (head = 4 ∧ length < 258) then (0, 0, 0, 5) else if knownK kind = false then (0, 0, 0, 8) else (kind, head, length, 0)
def num (t : List UInt8) (i n : Nat) : Int := getB ((t.drop i).take n)
def snR (t : List UInt8) : Int × Int × Int × Int :=
  if t.length < 1 then (0, 0, 0, 3)
  else if num t 0 1 = 1 then (if t.length < 4 then (0, 0, 0, 3) else snTail (num t 3 1) 4 (num t 1 2))
  else (if t.length < 2 then (0, 0, 0, 3) else snTail (num t 1 1) 2 (num t 0 1))
theorem num_one (t : List UInt8) (i : Nat) : 0 ≤ num t i 1 ∧ num t i 1 ≤ 255 := by
  have h1 := getB_nonneg ((t.drop i).take 1)
  have h2 := getB_lt ((t.drop i).take 1) 1 (by simp; omega)
  unfold num; omega
theorem num_two (t : List UInt8) (i : Nat) : 0 ≤ num t i 2 ∧ num t i 2 ≤ 65535 := by
  have h1 := getB_nonneg ((t.drop i).take 2)
  have h2 := getB_lt ((t.drop i).take 2) 2 (by simp; omega)
  unfold num; omega

theorem num_ok {b : Nat} {t : List UInt8} {i : Nat} {w : World} (h : Cur w b t i 0) (n : Nat) (hn : i + n ≤ t.length) (h8 : n ≤ 8) (ht : (t.length : Int) ≤ 9223372036854775807) :
    Calls Tryd.prog 69 #[.pointer (some ⟨b, 0, none⟩), .int .i64 n] w fun r w' => r = .returned (.int .u64 (num t i n)) ∧ Cur w' b t (i + n) 0 ∧ w.grownBy w' (some b) := by
  have hh : hasB t i (n : Int) = true := by simp [hasB]; omega
  refine (number_any h (n : Int) (by omega) ht).mono ?_
  rintro r w' ⟨rfl, C, hg⟩
  have e1 : takeS t i 0 (n : Int) = (t.drop i).take n := by simp [takeS, hh]
  have e2 : takeI t i 0 (n : Int) = i + n := by simp [takeI, hh]
  have e3 : takeE t i 0 (n : Int) = 0 := by simp [takeE, hh]
  rw [e2, e3] at C
  rw [e1]
  have hl : ((t.drop i).take n).length ≤ 8 := by simp; omega
  refine ⟨?_, C, hg⟩
  unfold getL num
  rw [Nat.sub_eq_zero_of_le hl, List.drop_zero]
theorem num_short {b : Nat} {t : List UInt8} {i : Nat} {w : World} (h : Cur w b t i 0) (n : Nat) (hi : i ≤ t.length) (hn : t.length < i + n) (ht : (t.length : Int) ≤ 9223372036854775807) :
    Calls Tryd.prog 69 #[.pointer (some ⟨b, 0, none⟩), .int .i64 n] w fun r w' => r = .returned (.int .u64 0) ∧ Cur w' b t i 3 ∧ w.grownBy w' (some b) := by
  have hh : hasB t i (n : Int) = false := by simp [hasB]; omega
  refine (number_any h (n : Int) (by omega) ht).mono ?_
  rintro r w' ⟨rfl, C, hg⟩
  have e1 : takeS t i 0 (n : Int) = [] := by simp [takeS, hh]
  have e2 : takeI t i 0 (n : Int) = i := by simp [takeI, hh]
  have e3 : takeE t i 0 (n : Int) = 3 := by simp [takeE, hh]
  rw [e2, e3] at C
  rw [e1]
  exact ⟨rfl, C, hg⟩
theorem num_err {b : Nat} {t : List UInt8} {i : Nat} {e : Int} {w : World} (h : Cur w b t i e) (n : Nat) (hi : i ≤ t.length) (he : e ≠ 0) (ht : (t.length : Int) ≤ 9223372036854775807) :
    Calls Tryd.prog 69 #[.pointer (some ⟨b, 0, none⟩), .int .i64 n] w fun r w' => r = .returned (.int .u64 0) ∧ Cur w' b t i e ∧ w.grownBy w' (some b) := by
  refine (number_any h (n : Int) hi ht).mono ?_
  rintro r w' ⟨rfl, C, hg⟩
  have e1 : takeS t i e (n : Int) = [] := by simp [takeS, he]
  have e2 : takeI t i e (n : Int) = i := by simp [takeI, he]
  have e3 : takeE t i e (n : Int) = e := by simp [takeE, he]
  rw [e2, e3] at C
  rw [e1]
  exact ⟨rfl, C, hg⟩

set_option maxHeartbeats 400000 in
theorem known_any (k : Int) (w : World) : Calls Tryd.prog 60 #[.int .i64 k] w fun e w' => e = .returned (.bool (knownK k)) ∧ w = w' := by
  by_cases h1 : k = 3
  · subst h1
    go_enter Tryd.func60, Tryd.ntmps60
    go_wp2
    go_ret
    exact ⟨rfl, rfl⟩
  by_cases h2 : k = 17
  · subst h2
    go_enter Tryd.func60, Tryd.ntmps60
    go_wp2
    go_ret
    exact ⟨rfl, rfl⟩
  by_cases h3 : k = 25
  · subst h3
    go_enter Tryd.func60, Tryd.ntmps60
    go_wp2
    go_ret
    exact ⟨rfl, rfl⟩
  by_cases h4 : k = 254
  · subst h4
    go_enter Tryd.func60, Tryd.ntmps60
    go_wp2
    go_ret
    exact ⟨rfl, rfl⟩
  have q1 : (k == 3) = false := by simpa using h1
  have q2 : (k == 17) = false := by simpa using h2
  have q3 : (k == 25) = false := by simpa using h3
  have q4 : (k == 254) = false := by simpa using h4
  have hK : knownK k = decide (0 ≤ k ∧ k ≤ 29) := by unfold knownK; rw [if_neg (by omega), if_neg h4]
  by_cases h5 : 0 ≤ k
  · by_cases h6 : k ≤ 29
    · have HK := Lib.hid (show knownK k = true by rw [hK]; simp [h5, h6])
      clear hK h1 h2 h3 h4
      go_enter Tryd.func60, Tryd.ntmps60
      go_wp2
      go_ret
      exact ⟨by rw [HK.out]; rfl, rfl⟩
    · have HK := Lib.hid (show knownK k = false by rw [hK]; simp [h6])
      clear hK h1 h2 h3 h4
      go_enter Tryd.func60, Tryd.ntmps60
      go_wp2
      go_ret
      exact ⟨by rw [HK.out]; rfl, rfl⟩
  · have HK := Lib.hid (show knownK k = false by rw [hK]; simp [h5])
    clear hK h1 h2 h3 h4
    go_enter Tryd.func60, Tryd.ntmps60
    go_wp2
    go_ret
    exact ⟨by rw [HK.out]; rfl, rfl⟩

set_option maxHeartbeats 400000 in
theorem snbytes_any (kind rest : Int) (hr : rest ≤ 9223372036854775807) (w : World) : Calls Tryd.prog 37 #[.int .i64 kind, .int .i64 rest] w fun e w' => e = .returned (.tuple #[.string ⟨(snB kind rest).1.toArray⟩, .int .i64 (snB kind rest).2]) ∧ Below w.heap.size w w' := by
  cases hk : knownK kind with
  | false =>
    have e : snB kind rest = ([], 8) := by unfold snB; rw [if_pos hk]
    rw [e]
    have HK := Lib.hid hk
    clear hk e
    go_enter Tryd.func37, Tryd.ntmps37
    go_wp2_with fail
    refine (known_any kind _).mono ?_
    rintro r w' ⟨rfl, rfl⟩
    rw [HK.out]
    go_wp2
    go_ret2
    exact ⟨rfl, Below.refl _ _⟩
  | true =>
  have hkr : 0 ≤ kind ∧ kind ≤ 254 := by
    unfold knownK at hk
    split at hk
    · cases hk
    split at hk
    · omega
    · simp at hk; omega
  have u3 : IntKind.u64.wrap kind = kind := wraps_u64 _ (by omega) (by omega)
  have HK := Lib.hid hk
  by_cases h1 : rest < 0
  · have e : snB kind rest = ([], 2) := by unfold snB; rw [if_neg (by simp [hk]), if_pos h1]
    rw [e]
    clear hk e
    go_enter Tryd.func37, Tryd.ntmps37
    go_wp2_with fail
    refine (known_any kind _).mono ?_
    rintro r w' ⟨rfl, rfl⟩
    rw [HK.out]
    go_wp2
    go_ret2
    exact ⟨rfl, Below.refl _ _⟩
  by_cases h2 : 65531 < rest
  · have e : snB kind rest = ([], 4) := by unfold snB; rw [if_neg (by simp [hk]), if_neg h1, if_pos h2]
    rw [e]
    clear hk e
    go_enter Tryd.func37, Tryd.ntmps37
    go_wp2_with fail
    refine (known_any kind _).mono ?_
    rintro r w' ⟨rfl, rfl⟩
    rw [HK.out]
    go_wp2
    go_ret2
    exact ⟨rfl, Below.refl _ _⟩
  have e : snB kind rest = (snS kind rest, 0) := by unfold snB; rw [if_neg (by simp [hk]), if_neg h1, if_neg h2]
  rw [e]
  have l1 := length_putL kind 1
  by_cases h3 : rest ≤ 253
  · have e2 : snS kind rest = putL (rest + 2) 1 ++ putL kind 1 := by unfold snS; rw [if_pos h3]
    have HE := Lib.hid e2
    have u1 : IntKind.i64.wrap (rest + 2) = rest + 2 := by rw [IntKind.wrap_i64]; omega
    have u2 : IntKind.u64.wrap (rest + 2) = rest + 2 := wraps_u64 _ (by omega) (by omega)
    have l2 := length_putL (rest + 2) 1
    have hx : ByteArray.mk (putL (rest + 2) 1).toArray ++ ByteArray.mk (putL kind 1).toArray = ByteArray.mk (putL (rest + 2) 1 ++ putL kind 1).toArray := ByteArray.mk_append_mk _ _
    have hl1 : (putL (rest + 2) 1).length ≤ 1 := by omega
    have hl2 : (putL kind 1).length ≤ 1 := by omega
    have h3' : rest + 2 ≤ 255 := by omega
    clear hk e e2 l1 l2
    go_enter Tryd.func37, Tryd.ntmps37
    go_wp2_with fail
    refine (known_any kind _).mono ?_
    rintro r w' ⟨rfl, rfl⟩
    rw [HK.out]
    go_wp2_with fail
    refine (put_any _ _ _).mono ?_
    rintro r w1 ⟨rfl, hB1⟩
    go_wp2_with fail
    refine (put_any _ _ _).mono ?_
    rintro r w2 ⟨rfl, hb⟩
    have hB2 := hB1.trans (hb.mono hB1.size)
    go_wp2
    go_ret2
    exact ⟨by rw [HE.out]; rfl, hB2⟩
  · have e2 : snS kind rest = putL 1 1 ++ putL (rest + 4) 2 ++ putL kind 1 := by unfold snS; rw [if_neg h3]
    have HE := Lib.hid e2
    have u1 : IntKind.i64.wrap (rest + 2) = rest + 2 := by rw [IntKind.wrap_i64]; omega
    have u4 : IntKind.i64.wrap (rest + 4) = rest + 4 := by rw [IntKind.wrap_i64]; omega
    have u2 : IntKind.u64.wrap (rest + 4) = rest + 4 := wraps_u64 _ (by omega) (by omega)
    have l2 := length_putL (rest + 4) 2
    have l3 := length_putL 1 1
    have hx : ByteArray.mk (putL 1 1).toArray ++ ByteArray.mk (putL (rest + 4) 2).toArray = ByteArray.mk (putL 1 1 ++ putL (rest + 4) 2).toArray := ByteArray.mk_append_mk _ _
    have hy : ByteArray.mk (putL 1 1 ++ putL (rest + 4) 2).toArray ++ ByteArray.mk (putL kind 1).toArray = ByteArray.mk (putL 1 1 ++ putL (rest + 4) 2 ++ putL kind 1).toArray := ByteArray.mk_append_mk _ _
    have hl1 : (putL (rest + 4) 2).length ≤ 2 := by omega
    have hl2 : (putL kind 1).length ≤ 1 := by omega
    have hl3 : (putL 1 1).length ≤ 1 := by omega
    have h3' : ¬ rest + 2 ≤ 255 := by omega
    clear hk e e2 l1 l2 l3
    go_enter Tryd.func37, Tryd.ntmps37
    go_wp2_with fail
    refine (known_any kind _).mono ?_
    rintro r w' ⟨rfl, rfl⟩
    rw [HK.out]
    go_wp2_with fail
    refine (put_any _ _ _).mono ?_
    rintro r w1 ⟨rfl, hB1⟩
    go_wp2_with fail
    refine (put_any _ _ _).mono ?_
    rintro r w2 ⟨rfl, hb⟩
    have hB2 := hB1.trans (hb.mono hB1.size)
    go_wp2_with fail
    refine (put_any _ _ _).mono ?_
    rintro r w3 ⟨rfl, hb⟩
    have hB3 := hB2.trans (hb.mono hB2.size)
    go_wp2
    go_ret2
    exact ⟨by rw [HE.out]; rfl, hB3⟩
end Go.Proofs.YtbacnaplpfmpnaaDoor
