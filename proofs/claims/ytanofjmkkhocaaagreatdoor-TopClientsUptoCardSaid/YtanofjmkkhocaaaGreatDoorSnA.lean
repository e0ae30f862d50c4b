/- snhead: what it computes, plain; Known, Bytes, Read. snhead.Read; polyglotlaw21.lives. SnheadLengths. snhead.Flag, ReadFlag, Uses, May. snhead.Uses, May. -/
import Derived.Test.YtanofjmkkhocaaaGreatDoorOctA
import Derived.Laws.ResultCell
import Derived.Laws.Rows
set_option linter.unusedVariables false
set_option linter.unusedSimpArgs false
set_option maxRecDepth 100000
set_option maxHeartbeats 6400000
namespace Go.Proofs.YtanofjmkkhocaaaGreatDoor
open Go.RowKit
def knownK (k : Int) : Bool := if k = 3 ∨ k = 17 ∨ k = 25 then false else if k = 254 then true else decide (0 ≤ k ∧ k ≤ 29)
def snS (kind rest : Int) : List UInt8 := if rest ≤ 253 then putL (rest + 2) 1 ++ putL kind 1 else putL 1 1 ++ putL (rest + 4) 2 ++ putL kind 1
def snB (kind rest : Int) : List UInt8 × Int := if knownK kind = false then ([], 8) else if rest < 0 then ([], 2) else if 65531 < rest then ([], 4) else (snS kind rest, 0)
def snTail (kind head length : Int) : Int × Int × Int × Int := if length < head ∨ (head = 4 ∧ length < 258) then (0, 0, 0, 5) else if knownK kind = false then (0, 0, 0, 8) else (kind, head, length, 0)
def num (t : List UInt8) (i n : Nat) : Int := getB ((t.drop i).take n)
def snR (t : List UInt8) : Int × Int × Int × Int :=
 if t.length < 1 then (0, 0, 0, 3)
 else if num t 0 1 = 1 then (if t.length < 4 then (0, 0, 0, 3) else snTail (num t 3 1) 4 (num t 1 2))
 else (if t.length < 2 then (0, 0, 0, 3) else snTail (num t 1 1) 2 (num t 0 1))
theorem num_one (t : List UInt8) (i : Nat) : 0 ≤ num t i 1 ∧ num t i 1 ≤ 255 := by
 have h1 := getB_nonneg ((t.drop i).take 1)
 have h2 := getB_lt ((t.drop i).take 1) 1 (by simp; omega)
 unfold num; omega
theorem num_two (t : List UInt8) (i : Nat) : 0 ≤ num t i 2 ∧ num t i 2 ≤ 65535 := by
 have h1 := getB_nonneg ((t.drop i).take 2)
 have h2 := getB_lt ((t.drop i).take 2) 2 (by simp; omega)
 unfold num; omega
theorem num_ok {b : Nat} {t : List UInt8} {i : Nat} {w : World} (h : Cur w b t i 0) (n : Nat) (hn : i + n ≤ t.length) (h8 : n ≤ 8) (ht : (t.length : Int) ≤ 9223372036854775807) :
  Calls Tryz.prog 120 #[.pointer (some ⟨b, 0, none⟩), .int .i64 n] w fun r w' => r = .returned (.int .u64 (num t i n)) ∧ Cur w' b t (i + n) 0 ∧ w.grownBy w' (some b) := by
 have hh : hasB t i (n : Int) = true := by simp [hasB]; omega
 refine (number_any h (n : Int) (by omega) ht).mono ?_
 rintro r w' ⟨rfl, C, hg⟩
 have e1 : takeS t i 0 (n : Int) = (t.drop i).take n := by simp [takeS, hh]
 have e2 : takeI t i 0 (n : Int) = i + n := by simp [takeI, hh]
 have e3 : takeE t i 0 (n : Int) = 0 := by simp [takeE, hh]
 rw [e2, e3] at C
 rw [e1]
 have hl : ((t.drop i).take n).length ≤ 8 := by simp; omega
 refine ⟨?_, C, hg⟩
 unfold getL num
 rw [Nat.sub_eq_zero_of_le hl, List.drop_zero]
theorem num_short {b : Nat} {t : List UInt8} {i : Nat} {w : World} (h : Cur w b t i 0) (n : Nat) (hi : i ≤ t.length) (hn : t.length < i + n) (ht : (t.length : Int) ≤ 9223372036854775807) :
  Calls Tryz.prog 120 #[.pointer (some ⟨b, 0, none⟩), .int .i64 n] w fun r w' => r = .returned (.int .u64 0) ∧ Cur w' b t i 3 ∧ w.grownBy w' (some b) := by
 have hh : hasB t i (n : Int) = false := by simp [hasB]; omega
 refine (number_any h (n : Int) (by omega) ht).mono ?_
 rintro r w' ⟨rfl, C, hg⟩
 have e1 : takeS t i 0 (n : Int) = [] := by simp [takeS, hh]
 have e2 : takeI t i 0 (n : Int) = i := by simp [takeI, hh]
 have e3 : takeE t i 0 (n : Int) = 3 := by simp [takeE, hh]
 rw [e2, e3] at C
 rw [e1]
 exact ⟨rfl, C, hg⟩
theorem num_err {b : Nat} {t : List UInt8} {i : Nat} {e : Int} {w : World} (h : Cur w b t i e) (n : Nat) (hi : i ≤ t.length) (he : e ≠ 0) (ht : (t.length : Int) ≤ 9223372036854775807) :
  Calls Tryz.prog 120 #[.pointer (some ⟨b, 0, none⟩), .int .i64 n] w fun r w' => r = .returned (.int .u64 0) ∧ Cur w' b t i e ∧ w.grownBy w' (some b) := by
 refine (number_any h (n : Int) hi ht).mono ?_
 rintro r w' ⟨rfl, C, hg⟩
 have e1 : takeS t i e (n : Int) = [] := by simp [takeS, he]
 have e2 : takeI t i e (n : Int) = i := by simp [takeI, he]
 have e3 : takeE t i e (n : Int) = e := by simp [takeE, he]
 rw [e2, e3] at C
 rw [e1]
 exact ⟨rfl, C, hg⟩
theorem known_any (k : Int) (w : World) : Calls Tryz.prog 416 #[.int .i64 k] w fun e w' => e = .returned (.bool (knownK k)) ∧ w = w' := by
 by_cases h1 : k = 3
 ·subst h1
  go_enter Tryz.func416, Tryz.ntmps416
  go_wp2
  go_ret
  exact ⟨rfl, rfl⟩
 by_cases h2 : k = 17
 ·subst h2
  go_enter Tryz.func416, Tryz.ntmps416
  go_wp2
  go_ret
  exact ⟨rfl, rfl⟩
 by_cases h3 : k = 25
 ·subst h3
  go_enter Tryz.func416, Tryz.ntmps416
  go_wp2
  go_ret
  exact ⟨rfl, rfl⟩
 by_cases h4 : k = 254
 ·subst h4
  go_enter Tryz.func416, Tryz.ntmps416
  go_wp2
  go_ret
  exact ⟨rfl, rfl⟩
 have q1 : (k == 3) = false := by simpa using h1
 have q2 : (k == 17) = false := by simpa using h2
 have q3 : (k == 25) = false := by simpa using h3
 have q4 : (k == 254) = false := by simpa using h4
 have hK : knownK k = decide (0 ≤ k ∧ k ≤ 29) := by unfold knownK; rw [if_neg (by omega), if_neg h4]
 by_cases h5 : 0 ≤ k
 ·by_cases h6 : k ≤ 29
  ·have HK := Lib.hid (show knownK k = true by rw [hK]; simp [h5, h6])
   clear hK h1 h2 h3 h4
   go_enter Tryz.func416, Tryz.ntmps416
   go_wp2
   go_ret
   exact ⟨by rw [HK.out]; rfl, rfl⟩
  ·have HK := Lib.hid (show knownK k = false by rw [hK]; simp [h6])
   clear hK h1 h2 h3 h4
   go_enter Tryz.func416, Tryz.ntmps416
   go_wp2
   go_ret
   exact ⟨by rw [HK.out]; rfl, rfl⟩
 ·have HK := Lib.hid (show knownK k = false by rw [hK]; simp [h5])
  clear hK h1 h2 h3 h4
  go_enter Tryz.func416, Tryz.ntmps416
  go_wp2
  go_ret
  exact ⟨by rw [HK.out]; rfl, rfl⟩
theorem snbytes_any (kind rest : Int) (hr : rest ≤ 9223372036854775807) (w : World) : Calls Tryz.prog 408 #[.int .i64 kind, .int .i64 rest] w fun e w' => e = .returned (.tuple #[.string ⟨(snB kind rest).1.toArray⟩, .int .i64 (snB kind rest).2]) ∧ Below w.heap.size w w' := by
 cases hk : knownK kind with
 | false =>
  have e : snB kind rest = ([], 8) := by unfold snB; rw [if_pos hk]
  rw [e]
  have HK := Lib.hid hk
  clear hk e
  go_enter Tryz.func408, Tryz.ntmps408
  go_wp2_with fail
  refine (known_any kind _).mono ?_
  rintro r w' ⟨rfl, rfl⟩
  rw [HK.out]
  go_wp2
  go_ret2
  exact ⟨rfl, Below.refl _ _⟩
 | true =>
 have hkr : 0 ≤ kind ∧ kind ≤ 254 := by
  unfold knownK at hk
  split at hk
  ·cases hk
  split at hk
  ·omega
  ·simp at hk; omega
 have u3 : IntKind.u64.wrap kind = kind := wraps_u64 _ (by omega) (by omega)
 have HK := Lib.hid hk
 by_cases h1 : rest < 0
 ·have e : snB kind rest = ([], 2) := by unfold snB; rw [if_neg (by simp [hk]), if_pos h1]
  rw [e]
  clear hk e
  go_enter Tryz.func408, Tryz.ntmps408
  go_wp2_with fail
  refine (known_any kind _).mono ?_
  rintro r w' ⟨rfl, rfl⟩
  rw [HK.out]
  go_wp2
  go_ret2
  exact ⟨rfl, Below.refl _ _⟩
 by_cases h2 : 65531 < rest
 ·have e : snB kind rest = ([], 4) := by unfold snB; rw [if_neg (by simp [hk]), if_neg h1, if_pos h2]
  rw [e]
  clear hk e
  go_enter Tryz.func408, Tryz.ntmps408
  go_wp2_with fail
  refine (known_any kind _).mono ?_
  rintro r w' ⟨rfl, rfl⟩
  rw [HK.out]
  go_wp2
  go_ret2
  exact ⟨rfl, Below.refl _ _⟩
 have e : snB kind rest = (snS kind rest, 0) := by unfold snB; rw [if_neg (by simp [hk]), if_neg h1, if_neg h2]
 rw [e]
 have l1 := length_putL kind 1
 by_cases h3 : rest ≤ 253
 ·have e2 : snS kind rest = putL (rest + 2) 1 ++ putL kind 1 := by unfold snS; rw [if_pos h3]
  have HE := Lib.hid e2
  have u1 : IntKind.i64.wrap (rest + 2) = rest + 2 := by rw [IntKind.wrap_i64]; omega
  have u2 : IntKind.u64.wrap (rest + 2) = rest + 2 := wraps_u64 _ (by omega) (by omega)
  have l2 := length_putL (rest + 2) 1
  have hx : ByteArray.mk (putL (rest + 2) 1).toArray ++ ByteArray.mk (putL kind 1).toArray = ByteArray.mk (putL (rest + 2) 1 ++ putL kind 1).toArray := ByteArray.mk_append_mk _ _
  have hl1 : (putL (rest + 2) 1).length ≤ 1 := by omega
  have hl2 : (putL kind 1).length ≤ 1 := by omega
  have h3' : rest + 2 ≤ 255 := by omega
  clear hk e e2 l1 l2
  go_enter Tryz.func408, Tryz.ntmps408
  go_wp2_with fail
  refine (known_any kind _).mono ?_
  rintro r w' ⟨rfl, rfl⟩
  rw [HK.out]
  go_wp2_with fail
  refine (put_any _ _ _).mono ?_
  rintro r w1 ⟨rfl, hB1⟩
  go_wp2_with fail
  refine (put_any _ _ _).mono ?_
  rintro r w2 ⟨rfl, hb⟩
  have hB2 := hB1.trans (hb.mono hB1.size)
  go_wp2
  go_ret2
  exact ⟨by rw [HE.out]; rfl, hB2⟩
 ·have e2 : snS kind rest = putL 1 1 ++ putL (rest + 4) 2 ++ putL kind 1 := by unfold snS; rw [if_neg h3]
  have HE := Lib.hid e2
  have u1 : IntKind.i64.wrap (rest + 2) = rest + 2 := by rw [IntKind.wrap_i64]; omega
  have u4 : IntKind.i64.wrap (rest + 4) = rest + 4 := by rw [IntKind.wrap_i64]; omega
  have u2 : IntKind.u64.wrap (rest + 4) = rest + 4 := wraps_u64 _ (by omega) (by omega)
  have l2 := length_putL (rest + 4) 2
  have l3 := length_putL 1 1
  have hx : ByteArray.mk (putL 1 1).toArray ++ ByteArray.mk (putL (rest + 4) 2).toArray = ByteArray.mk (putL 1 1 ++ putL (rest + 4) 2).toArray := ByteArray.mk_append_mk _ _
  have hy : ByteArray.mk (putL 1 1 ++ putL (rest + 4) 2).toArray ++ ByteArray.mk (putL kind 1).toArray = ByteArray.mk (putL 1 1 ++ putL (rest + 4) 2 ++ putL kind 1).toArray := ByteArray.mk_append_mk _ _
  have hl1 : (putL (rest + 4) 2).length ≤ 2 := by omega
  have hl2 : (putL kind 1).length ≤ 1 := by omega
  have hl3 : (putL 1 1).length ≤ 1 := by omega
  have h3' : ¬ rest + 2 ≤ 255 := by omega
  clear hk e e2 l1 l2 l3
  go_enter Tryz.func408, Tryz.ntmps408
  go_wp2_with fail
  refine (known_any kind _).mono ?_
  rintro r w' ⟨rfl, rfl⟩
  rw [HK.out]
  go_wp2_with fail
  refine (put_any _ _ _).mono ?_
  rintro r w1 ⟨rfl, hB1⟩
  go_wp2_with fail
  refine (put_any _ _ _).mono ?_
  rintro r w2 ⟨rfl, hb⟩
  have hB2 := hB1.trans (hb.mono hB1.size)
  go_wp2_with fail
  refine (put_any _ _ _).mono ?_
  rintro r w3 ⟨rfl, hb⟩
  have hB3 := hB2.trans (hb.mono hB2.size)
  go_wp2
  go_ret2
  exact ⟨by rw [HE.out]; rfl, hB3⟩
end Go.Proofs.YtanofjmkkhocaaaGreatDoor
namespace Go.Proofs.YtanofjmkkhocaaaGreatDoor
open Go.RowKit
theorem results_four {fn : Func} {t u v x : Tmp} (h : fn.results = #[.tmp t, .tmp u, .tmp v, .tmp x]) (tmps : Array Value) (P : Program) (w : World) :
  (results fn tmps).run P w = .ok (.tuple #[tmps.getD t undef, tmps.getD u undef, tmps.getD v undef, tmps.getD x undef]) w := by
 simp [results, h]
theorem snread_any (t : List UInt8) (ht : (t.length : Int) ≤ 9223372036854775807) (w : World) : Calls Tryz.prog 451 #[.string ⟨t.toArray⟩] w fun e w' => e = .returned (.tuple #[.int .i64 (snR t).1, .int .i64 (snR t).2.1, .int .i64 (snR t).2.2.1, .int .i64 (snR t).2.2.2]) ∧ Below w.heap.size w w' := by
 by_cases h1 : t.length < 1
 ·have hr : snR t = (0, 0, 0, 3) := by unfold snR; rw [if_pos h1]
  rw [hr]
  clear hr
  go_enter Tryz.func451, Tryz.ntmps451
  go_wp2_with fail
  refine (new_any t _).mono ?_
  rintro e w1 ⟨b, rfl, hb, C, hg⟩
  have hB := below_grown hg
  clear hg
  go_wp2_with fail
  refine (num_short C 1 (by omega) (by omega) ht).mono ?_
  rintro e wx ⟨rfl, K, hg⟩
  replace hB := hB.grown hg hB.size (fun j e => by cases e; exact hb)
  clear hg C
  go_wp2_with fail
  refine (num_err K 1 (by omega) (by decide) ht).mono ?_
  rintro e wx ⟨rfl, C, hg⟩
  replace hB := hB.grown hg hB.size (fun j e => by cases e; exact hb)
  clear hg K
  go_wp2_with fail
  refine (err_any C).mono ?_
  rintro e w ⟨rfl, rfl⟩
  go_wp2
  ((try simp only [Exit.inBlock, Exit.then]); refine bodyPost_ret (results_four rfl _ _ _) rfl ?_)
  exact ⟨rfl, hB⟩
 by_cases hv : num t 0 1 = 1
 ·by_cases h4 : t.length < 4
  ·have hr : snR t = (0, 0, 0, 3) := by unfold snR; rw [if_neg h1, if_pos hv, if_pos h4]
   rw [hr]
   have HV := Lib.hid hv
   clear hr hv
   by_cases h3 : t.length < 3
   ·go_enter Tryz.func451, Tryz.ntmps451
    go_wp2_with fail
    refine (new_any t _).mono ?_
    rintro e w1 ⟨b, rfl, hb, C, hg⟩
    have hB := below_grown hg
    clear hg
    go_wp2_with fail
    refine (num_ok C 1 (by omega) (by omega) ht).mono ?_
    rintro e wx ⟨rfl, K, hg⟩
    replace hB := hB.grown hg hB.size (fun j e => by cases e; exact hb)
    clear hg C
    rw [HV.out]
    go_wp2_with fail
    refine (num_short K 2 (by omega) (by omega) ht).mono ?_
    rintro e wx ⟨rfl, C, hg⟩
    replace hB := hB.grown hg hB.size (fun j e => by cases e; exact hb)
    clear hg K
    go_wp2_with fail
    refine (num_err C 1 (by omega) (by decide) ht).mono ?_
    rintro e wx ⟨rfl, K, hg⟩
    replace hB := hB.grown hg hB.size (fun j e => by cases e; exact hb)
    clear hg C
    go_wp2_with fail
    refine (err_any K).mono ?_
    rintro e w ⟨rfl, rfl⟩
    go_wp2
    ((try simp only [Exit.inBlock, Exit.then]); refine bodyPost_ret (results_four rfl _ _ _) rfl ?_)
    exact ⟨rfl, hB⟩
   ·have hs := num_two t 1
    generalize hn : num t 1 2 = L at hs
    have hw : IntKind.i64.wrap L = L := by rw [IntKind.wrap_i64]; omega
    have HN := Lib.hid hn
    clear hn
    go_enter Tryz.func451, Tryz.ntmps451
    go_wp2_with fail
    refine (new_any t _).mono ?_
    rintro e w1 ⟨b, rfl, hb, C, hg⟩
    have hB := below_grown hg
    clear hg
    go_wp2_with fail
    refine (num_ok C 1 (by omega) (by omega) ht).mono ?_
    rintro e wx ⟨rfl, K, hg⟩
    replace hB := hB.grown hg hB.size (fun j e => by cases e; exact hb)
    clear hg C
    rw [HV.out]
    go_wp2_with fail
    refine (num_ok K 2 (by omega) (by omega) ht).mono ?_
    rintro e wx ⟨rfl, C, hg⟩
    replace hB := hB.grown hg hB.size (fun j e => by cases e; exact hb)
    clear hg K
    rw [show 0 + 1 = 1 from rfl, HN.out]
    go_wp2_with fail
    refine (num_short C 1 (by omega) (by omega) ht).mono ?_
    rintro e wx ⟨rfl, K, hg⟩
    replace hB := hB.grown hg hB.size (fun j e => by cases e; exact hb)
    clear hg C
    go_wp2_with fail
    refine (err_any K).mono ?_
    rintro e w ⟨rfl, rfl⟩
    go_wp2
    ((try simp only [Exit.inBlock, Exit.then]); refine bodyPost_ret (results_four rfl _ _ _) rfl ?_)
    exact ⟨rfl, hB⟩
  have hr : snR t = snTail (num t 3 1) 4 (num t 1 2) := by unfold snR; rw [if_neg h1, if_pos hv, if_neg h4]
  rw [hr]
  have hs := num_two t 1
  have hk := num_one t 3
  have HV := Lib.hid hv
  clear hr hv
  obtain ⟨L, hL⟩ : ∃ L, L = num t 1 2 := ⟨_, rfl⟩
  obtain ⟨k, hK⟩ : ∃ k, k = num t 3 1 := ⟨_, rfl⟩
  rw [← hL] at hs ⊢
  rw [← hK] at hk ⊢
  have hw : IntKind.i64.wrap L = L := by rw [IntKind.wrap_i64]; omega
  have hw2 : IntKind.i64.wrap k = k := by rw [IntKind.wrap_i64]; omega
  have HL := Lib.hid hL
  have HK := Lib.hid hK
  clear hL hK
  by_cases h258 : L < 258
  ·rw [show snTail k 4 L = (0, 0, 0, 5) by unfold snTail; rw [if_pos (by omega)]]
   by_cases h4L : L < 4
   ·go_enter Tryz.func451, Tryz.ntmps451
    go_wp2_with fail
    refine (new_any t _).mono ?_
    rintro e w1 ⟨b, rfl, hb, C, hg⟩
    have hB := below_grown hg
    clear hg
    go_wp2_with fail
    refine (num_ok C 1 (by omega) (by omega) ht).mono ?_
    rintro e wx ⟨rfl, K, hg⟩
    replace hB := hB.grown hg hB.size (fun j e => by cases e; exact hb)
    clear hg C
    rw [HV.out]
    go_wp2_with fail
    refine (num_ok K 2 (by omega) (by omega) ht).mono ?_
    rintro e wx ⟨rfl, C, hg⟩
    replace hB := hB.grown hg hB.size (fun j e => by cases e; exact hb)
    clear hg K
    rw [show 0 + 1 = 1 from rfl, ← HL.out]
    rw [show 0 + 1 + 2 = 3 from rfl] at C
    go_wp2_with fail
    refine (num_ok C 1 (by omega) (by omega) ht).mono ?_
    rintro e wx ⟨rfl, K, hg⟩
    replace hB := hB.grown hg hB.size (fun j e => by cases e; exact hb)
    clear hg C
    rw [← HK.out]
    go_wp2_with fail
    refine (err_any K).mono ?_
    rintro e w ⟨rfl, rfl⟩
    go_wp2
    ((try simp only [Exit.inBlock, Exit.then]); refine bodyPost_ret (results_four rfl _ _ _) rfl ?_)
    exact ⟨rfl, hB⟩
   ·go_enter Tryz.func451, Tryz.ntmps451
    go_wp2_with fail
    refine (new_any t _).mono ?_
    rintro e w1 ⟨b, rfl, hb, C, hg⟩
    have hB := below_grown hg
    clear hg
    go_wp2_with fail
    refine (num_ok C 1 (by omega) (by omega) ht).mono ?_
    rintro e wx ⟨rfl, K, hg⟩
    replace hB := hB.grown hg hB.size (fun j e => by cases e; exact hb)
    clear hg C
    rw [HV.out]
    go_wp2_with fail
    refine (num_ok K 2 (by omega) (by omega) ht).mono ?_
    rintro e wx ⟨rfl, C, hg⟩
    replace hB := hB.grown hg hB.size (fun j e => by cases e; exact hb)
    clear hg K
    rw [show 0 + 1 = 1 from rfl, ← HL.out]
    rw [show 0 + 1 + 2 = 3 from rfl] at C
    go_wp2_with fail
    refine (num_ok C 1 (by omega) (by omega) ht).mono ?_
    rintro e wx ⟨rfl, K, hg⟩
    replace hB := hB.grown hg hB.size (fun j e => by cases e; exact hb)
    clear hg C
    rw [← HK.out]
    go_wp2_with fail
    refine (err_any K).mono ?_
    rintro e w ⟨rfl, rfl⟩
    go_wp2
    ((try simp only [Exit.inBlock, Exit.then]); refine bodyPost_ret (results_four rfl _ _ _) rfl ?_)
    exact ⟨rfl, hB⟩
  have h4L : ¬ L < 4 := by omega
  cases hkn : knownK k with
  | false =>
   rw [show snTail k 4 L = (0, 0, 0, 8) by unfold snTail; rw [if_neg (by omega), if_pos hkn]]
   have HKN := Lib.hid hkn
   clear hkn
   go_enter Tryz.func451, Tryz.ntmps451
   go_wp2_with fail
   refine (new_any t _).mono ?_
   rintro e w1 ⟨b, rfl, hb, C, hg⟩
   have hB := below_grown hg
   clear hg
   go_wp2_with fail
   refine (num_ok C 1 (by omega) (by omega) ht).mono ?_
   rintro e wx ⟨rfl, K, hg⟩
   replace hB := hB.grown hg hB.size (fun j e => by cases e; exact hb)
   clear hg C
   rw [HV.out]
   go_wp2_with fail
   refine (num_ok K 2 (by omega) (by omega) ht).mono ?_
   rintro e wx ⟨rfl, C, hg⟩
   replace hB := hB.grown hg hB.size (fun j e => by cases e; exact hb)
   clear hg K
   rw [show 0 + 1 = 1 from rfl, ← HL.out]
   rw [show 0 + 1 + 2 = 3 from rfl] at C
   go_wp2_with fail
   refine (num_ok C 1 (by omega) (by omega) ht).mono ?_
   rintro e wx ⟨rfl, K, hg⟩
   replace hB := hB.grown hg hB.size (fun j e => by cases e; exact hb)
   clear hg C
   rw [← HK.out]
   go_wp2_with fail
   refine (err_any K).mono ?_
   rintro e w ⟨rfl, rfl⟩
   go_wp2_with fail
   refine (known_any _ _).mono ?_
   rintro e w ⟨rfl, rfl⟩
   rw [HKN.out]
   go_wp2
   ((try simp only [Exit.inBlock, Exit.then]); refine bodyPost_ret (results_four rfl _ _ _) rfl ?_)
   exact ⟨rfl, hB⟩
  | true =>
   rw [show snTail k 4 L = (k, 4, L, 0) by unfold snTail; rw [if_neg (by omega), if_neg (by simp [hkn])]]
   have HKN := Lib.hid hkn
   clear hkn
   go_enter Tryz.func451, Tryz.ntmps451
   go_wp2_with fail
   refine (new_any t _).mono ?_
   rintro e w1 ⟨b, rfl, hb, C, hg⟩
   have hB := below_grown hg
   clear hg
   go_wp2_with fail
   refine (num_ok C 1 (by omega) (by omega) ht).mono ?_
   rintro e wx ⟨rfl, K, hg⟩
   replace hB := hB.grown hg hB.size (fun j e => by cases e; exact hb)
   clear hg C
   rw [HV.out]
   go_wp2_with fail
   refine (num_ok K 2 (by omega) (by omega) ht).mono ?_
   rintro e wx ⟨rfl, C, hg⟩
   replace hB := hB.grown hg hB.size (fun j e => by cases e; exact hb)
   clear hg K
   rw [show 0 + 1 = 1 from rfl, ← HL.out]
   rw [show 0 + 1 + 2 = 3 from rfl] at C
   go_wp2_with fail
   refine (num_ok C 1 (by omega) (by omega) ht).mono ?_
   rintro e wx ⟨rfl, K, hg⟩
   replace hB := hB.grown hg hB.size (fun j e => by cases e; exact hb)
   clear hg C
   rw [← HK.out]
   go_wp2_with fail
   refine (err_any K).mono ?_
   rintro e w ⟨rfl, rfl⟩
   go_wp2_with fail
   refine (known_any _ _).mono ?_
   rintro e w ⟨rfl, rfl⟩
   rw [HKN.out]
   go_wp2
   ((try simp only [Exit.inBlock, Exit.then]); refine bodyPost_ret (results_four rfl _ _ _) rfl ?_)
   exact ⟨rfl, hB⟩
 have hs := num_one t 0
 obtain ⟨L, hL⟩ : ∃ L, L = num t 0 1 := ⟨_, rfl⟩
 have hvL : ¬ L = 1 := by rw [hL]; exact hv
 have hv1 : (L == 1) = false := by simpa using hvL
 rw [← hL] at hs
 have hw : IntKind.i64.wrap L = L := by rw [IntKind.wrap_i64]; omega
 by_cases h2 : t.length < 2
 ·have hr : snR t = (0, 0, 0, 3) := by unfold snR; rw [if_neg h1, if_neg hv, if_pos h2]
  rw [hr]
  have HL := Lib.hid hL
  clear hr hv hL hvL
  go_enter Tryz.func451, Tryz.ntmps451
  go_wp2_with fail
  refine (new_any t _).mono ?_
  rintro e w1 ⟨b, rfl, hb, C, hg⟩
  have hB := below_grown hg
  clear hg
  go_wp2_with fail
  refine (num_ok C 1 (by omega) (by omega) ht).mono ?_
  rintro e wx ⟨rfl, K, hg⟩
  replace hB := hB.grown hg hB.size (fun j e => by cases e; exact hb)
  clear hg C
  rw [← HL.out]
  go_wp2_with fail
  refine (num_short K 1 (by omega) (by omega) ht).mono ?_
  rintro e wx ⟨rfl, C, hg⟩
  replace hB := hB.grown hg hB.size (fun j e => by cases e; exact hb)
  clear hg K
  go_wp2_with fail
  refine (err_any C).mono ?_
  rintro e w ⟨rfl, rfl⟩
  go_wp2
  ((try simp only [Exit.inBlock, Exit.then]); refine bodyPost_ret (results_four rfl _ _ _) rfl ?_)
  exact ⟨rfl, hB⟩
 have hr : snR t = snTail (num t 1 1) 2 L := by unfold snR; rw [if_neg h1, if_neg hv, if_neg h2, hL]
 rw [hr]
 have hk := num_one t 1
 obtain ⟨k, hK⟩ : ∃ k, k = num t 1 1 := ⟨_, rfl⟩
 rw [← hK] at hk ⊢
 have hw2 : IntKind.i64.wrap k = k := by rw [IntKind.wrap_i64]; omega
 have HL := Lib.hid hL
 have HK := Lib.hid hK
 clear hL hK hr hv hvL
 by_cases h2L : L < 2
 ·rw [show snTail k 2 L = (0, 0, 0, 5) by unfold snTail; rw [if_pos (by omega)]]
  go_enter Tryz.func451, Tryz.ntmps451
  go_wp2_with fail
  refine (new_any t _).mono ?_
  rintro e w1 ⟨b, rfl, hb, C, hg⟩
  have hB := below_grown hg
  clear hg
  go_wp2_with fail
  refine (num_ok C 1 (by omega) (by omega) ht).mono ?_
  rintro e wx ⟨rfl, K, hg⟩
  replace hB := hB.grown hg hB.size (fun j e => by cases e; exact hb)
  clear hg C
  rw [← HL.out]
  rw [show 0 + 1 = 1 from rfl] at K
  go_wp2_with fail
  refine (num_ok K 1 (by omega) (by omega) ht).mono ?_
  rintro e wx ⟨rfl, C, hg⟩
  replace hB := hB.grown hg hB.size (fun j e => by cases e; exact hb)
  clear hg K
  rw [← HK.out]
  go_wp2_with fail
  refine (err_any C).mono ?_
  rintro e w ⟨rfl, rfl⟩
  go_wp2
  ((try simp only [Exit.inBlock, Exit.then]); refine bodyPost_ret (results_four rfl _ _ _) rfl ?_)
  exact ⟨rfl, hB⟩
 cases hkn : knownK k with
 | false =>
  rw [show snTail k 2 L = (0, 0, 0, 8) by unfold snTail; rw [if_neg (by omega), if_pos hkn]]
  have HKN := Lib.hid hkn
  clear hkn
  go_enter Tryz.func451, Tryz.ntmps451
  go_wp2_with fail
  refine (new_any t _).mono ?_
  rintro e w1 ⟨b, rfl, hb, C, hg⟩
  have hB := below_grown hg
  clear hg
  go_wp2_with fail
  refine (num_ok C 1 (by omega) (by omega) ht).mono ?_
  rintro e wx ⟨rfl, K, hg⟩
  replace hB := hB.grown hg hB.size (fun j e => by cases e; exact hb)
  clear hg C
  rw [← HL.out]
  rw [show 0 + 1 = 1 from rfl] at K
  go_wp2_with fail
  refine (num_ok K 1 (by omega) (by omega) ht).mono ?_
  rintro e wx ⟨rfl, C, hg⟩
  replace hB := hB.grown hg hB.size (fun j e => by cases e; exact hb)
  clear hg K
  rw [← HK.out]
  go_wp2_with fail
  refine (err_any C).mono ?_
  rintro e w ⟨rfl, rfl⟩
  go_wp2_with fail
  refine (known_any _ _).mono ?_
  rintro e w ⟨rfl, rfl⟩
  rw [HKN.out]
  go_wp2
  ((try simp only [Exit.inBlock, Exit.then]); refine bodyPost_ret (results_four rfl _ _ _) rfl ?_)
  exact ⟨rfl, hB⟩
 | true =>
  rw [show snTail k 2 L = (k, 2, L, 0) by unfold snTail; rw [if_neg (by omega), if_neg (by simp [hkn])]]
  have HKN := Lib.hid hkn
  clear hkn
  go_enter Tryz.func451, Tryz.ntmps451
  go_wp2_with fail
  refine (new_any t _).mono ?_
  rintro e w1 ⟨b, rfl, hb, C, hg⟩
  have hB := below_grown hg
  clear hg
  go_wp2_with fail
  refine (num_ok C 1 (by omega) (by omega) ht).mono ?_
  rintro e wx ⟨rfl, K, hg⟩
  replace hB := hB.grown hg hB.size (fun j e => by cases e; exact hb)
  clear hg C
  rw [← HL.out]
  rw [show 0 + 1 = 1 from rfl] at K
  go_wp2_with fail
  refine (num_ok K 1 (by omega) (by omega) ht).mono ?_
  rintro e wx ⟨rfl, C, hg⟩
  replace hB := hB.grown hg hB.size (fun j e => by cases e; exact hb)
  clear hg K
  rw [← HK.out]
  go_wp2_with fail
  refine (err_any C).mono ?_
  rintro e w ⟨rfl, rfl⟩
  go_wp2_with fail
  refine (known_any _ _).mono ?_
  rintro e w ⟨rfl, rfl⟩
  rw [HKN.out]
  go_wp2
  ((try simp only [Exit.inBlock, Exit.then]); refine bodyPost_ret (results_four rfl _ _ _) rfl ?_)
  exact ⟨rfl, hB⟩
end Go.Proofs.YtanofjmkkhocaaaGreatDoor
namespace Go.Proofs.YtanofjmkkhocaaaGreatDoor
open Go.RowKit
theorem put_one (x : Int) (h0 : 0 ≤ x) (h : x ≤ 255) : ∃ a : UInt8, putL x 1 = [a] ∧ (a.toNat : Int) = x := by
 have h1 := getB_putB x 1 (by decide)
 have h2 := length_putB x 1
 have e : putL x 1 = putB x 1 := rfl
 match hp : putB x 1, h2 with
 | [a], _ =>
  rw [hp] at h1
  refine ⟨a, by rw [e, hp], ?_⟩
  have : getB [a] = (a.toNat : Int) := by simp [getB]
  rw [← this, h1]; omega
theorem getB_one (a : UInt8) : getB [a] = (a.toNat : Int) := by simp [getB]
theorem snS_len (kind rest : Int) : (rest ≤ 253 → (snS kind rest).length = 2) ∧ (253 < rest → (snS kind rest).length = 4) := by
 constructor
 ·intro h; unfold snS; rw [if_pos h]; simp only [List.length_append, length_putL]; decide
 ·intro h; unfold snS; rw [if_neg (by omega)]; simp only [List.length_append, length_putL]; decide
end Go.Proofs.YtanofjmkkhocaaaGreatDoor
namespace Go.Proofs.YtanofjmkkhocaaaGreatDoor
open Go.RowKit
def orIf (is : Bool) (n bit : Int) : Int := if is then bits .or .i64 n bit else n
theorem flag1_any {b : Nat} {n : Int} {w : World} (C : Obj? w b #[.int .i64 n] 3) (is : Bool) (bit : Int) : Calls Tryz.prog 421 #[.bool is, .int .i64 bit, .pointer (some ⟨b, 0, none⟩)] w fun e w' =>
  e = .returned (.tuple #[]) ∧ Obj? w' b #[.int .i64 (orIf is n bit)] 3 ∧ w.grownBy w' (some b) := by
 have h := C.cell 0 _ rfl
 have hf := C.frozen 0
 cases is
 ·go_enter Tryz.func421, Tryz.ntmps421
  go_wp2
  go_end0
  exact ⟨rfl, C, World.grownBy.refl _ _⟩
 ·have C2 := C.set 0 (.int .i64 (bits .or .i64 n bit))
  go_enter Tryz.func421, Tryz.ntmps421
  go_wp2
  go_end0
  exact ⟨rfl, C2, grown_set (World.grownBy.refl _ _) rfl _⟩
def bitN (b : Bool) (n : Int) : Int := if b then n else 0
def flagN (dup : Bool) (q : Int) (retain will clean : Bool) (t : Int) : Int := bitN dup 128 + 32 * (q % 4) + bitN retain 16 + bitN will 8 + bitN clean 4 + t
def flagOk (q t : Int) : Bool := decide (-1 ≤ q ∧ q ≤ 2 ∧ 0 ≤ t ∧ t ≤ 2)
def flagF (dup : Bool) (q : Int) (retain will clean : Bool) (t : Int) : Int × Int := if flagOk q t then (flagN dup q retain will clean t, 0) else (0, 7)
theorem flag_bits (dup retain will clean : Bool) (q t : Int) (h : flagOk q t = true) :
  bits .or .i64 (orIf dup (orIf retain (orIf will (orIf clean t 4) 8) 16) 128) (bits .and .i64 q 3 * 32) = flagN dup q retain will clean t := by
 have h' : -1 ≤ q ∧ q ≤ 2 ∧ 0 ≤ t ∧ t ≤ 2 := by simpa [flagOk] using h
 rcases (by omega : q = -1 ∨ q = 0 ∨ q = 1 ∨ q = 2) with rfl | rfl | rfl | rfl <;> rcases (by omega : t = 0 ∨ t = 1 ∨ t = 2) with rfl | rfl | rfl <;> cases dup <;> cases retain <;> cases will <;> cases clean <;> rfl
theorem results_row_tmp {P : Program} {fn : Func} {p u : Tmp} {ty : TypeId} (h : fn.results = #[.cell p ty, .tmp u]) (tmps : Array Value) (w : World) (g : Nat) (t : TypeId) (cs : Array Value) (d : TypeDesc)
  (hp : tmps.getD p undef = .pointer (some ⟨g, 0, none⟩)) (hg : Obj? w g cs t)
  (hu : P.underlying ty = some d) (hd : (match d with | .struct _ | .array _ _ => true | _ => false) = true) (hi : (P.info? ty).map (·.size) = some cs.size) :
  (results fn tmps).run P w = .ok (.tuple #[.agg cs, tmps.getD u undef]) w := by
 rw [results_cell_tmp h, hp]
 simp [asAddr, Result.andThen, run_loadVar_row w g t ty cs (0, 0) d hg hu hd hi]
theorem infoFl : (Tryz.prog.info? 36).map (·.size) = some 6 := by kernel_rfl
theorem flag_any (dup : Bool) (q : Int) (retain will clean : Bool) (t : Int) (w : World) : Calls Tryz.prog 417 #[.agg #[.bool dup, .int .i64 q, .bool retain, .bool will, .bool clean, .int .i64 t]] w fun e w' =>
  e = .returned (.tuple #[.int .i64 (flagF dup q retain will clean t).1, .int .i64 (flagF dup q retain will clean t).2]) ∧ Below w.heap.size w w' := by
 have hA : Below w.heap.size w (w.alloc (.cells #[.bool dup, .int .i64 q, .bool retain, .bool will, .bool clean, .int .i64 t] 36 (0, 0))) := (Below.refl _ _).alloc (Nat.le_refl _) _
 by_cases h1 : q < -1
 ·rw [show flagF dup q retain will clean t = (0, 7) by unfold flagF; rw [if_neg (by simp [flagOk]; omega)]]
  go_enter Tryz.func417, Tryz.ntmps417
  go_wp2
  go_ret2
  exact ⟨rfl, hA⟩
 by_cases h2 : 2 < q
 ·rw [show flagF dup q retain will clean t = (0, 7) by unfold flagF; rw [if_neg (by simp [flagOk]; omega)]]
  go_enter Tryz.func417, Tryz.ntmps417
  go_wp2
  go_ret2
  exact ⟨rfl, hA⟩
 by_cases h3 : t < 0
 ·rw [show flagF dup q retain will clean t = (0, 7) by unfold flagF; rw [if_neg (by simp [flagOk]; omega)]]
  go_enter Tryz.func417, Tryz.ntmps417
  go_wp2
  go_ret2
  exact ⟨rfl, hA⟩
 by_cases h4 : 2 < t
 ·rw [show flagF dup q retain will clean t = (0, 7) by unfold flagF; rw [if_neg (by simp [flagOk]; omega)]]
  go_enter Tryz.func417, Tryz.ntmps417
  go_wp2
  go_ret2
  exact ⟨rfl, hA⟩
 have hok : flagOk q t = true := by simp [flagOk]; omega
 rw [show flagF dup q retain will clean t = (flagN dup q retain will clean t, 0) by unfold flagF; rw [if_pos hok]]
 have HB := Lib.hid (flag_bits dup retain will clean q t hok)
 have hrange : 0 ≤ bits .and .i64 q 3 * 32 ∧ bits .and .i64 q 3 * 32 ≤ 96 := by
  rcases (by omega : q = -1 ∨ q = 0 ∨ q = 1 ∨ q = 2) with rfl | rfl | rfl | rfl <;> decide
 have hw : wrap64 (bits .and .i64 q 3 * 32) = bits .and .i64 q 3 * 32 := by rw [wrap64]; omega
 have F0 := Obj?.new w #[.bool dup, .int .i64 q, .bool retain, .bool will, .bool clean, .int .i64 t] 36
 have F1 := F0.alloc (.cells #[.int .i64 t] 3 (0, 0))
 have C0 := Obj?.new (w.alloc (.cells #[.bool dup, .int .i64 q, .bool retain, .bool will, .bool clean, .int .i64 t] 36 (0, 0))) #[.int .i64 t] 3
 have hsz : (w.alloc (.cells #[.bool dup, .int .i64 q, .bool retain, .bool will, .bool clean, .int .i64 t] 36 (0, 0))).heap.size = w.heap.size + 1 := by simp
 rw [hsz] at C0
 have hB0 := hA.alloc hA.size (.cells #[.int .i64 t] 3 (0, 0))
 have HH := Lib.hid (And.intro hok (And.intro hrange hw))
 have HF := Lib.hid F1
 have HC := Lib.hid C0
 clear hok hrange hw F0 F1 C0 hA hsz
 go_enter Tryz.func417, Tryz.ntmps417
 go_wp2_with fail
 refine (flag1_any HC.out _ _).mono ?_
 rintro r w1 ⟨rfl, C1, g1⟩
 have F1 := HF.out.kept g1 (by simp)
 have hB1 := hB0.grown g1 hB0.size (fun j e => by cases e; omega)
 have k3 := F1.cell 3 _ rfl
 have HC1 := Lib.hid C1
 have HF1 := Lib.hid F1
 clear C1 F1 g1 hB0
 go_wp2_with fail
 refine (flag1_any HC1.out _ _).mono ?_
 rintro r w2 ⟨rfl, C2, g2⟩
 have F2 := HF1.out.kept g2 (by simp)
 have hB2 := hB1.grown g2 hB1.size (fun j e => by cases e; omega)
 clear k3 HC1 HF1
 have k3 := F2.cell 2 _ rfl
 have HC2 := Lib.hid C2
 have HF2 := Lib.hid F2
 clear C2 F2 g2 hB1
 go_wp2_with fail
 refine (flag1_any HC2.out _ _).mono ?_
 rintro r w3 ⟨rfl, C3, g3⟩
 have F3 := HF2.out.kept g3 (by simp)
 have hB3 := hB2.grown g3 hB2.size (fun j e => by cases e; omega)
 clear k3 HC2 HF2
 have k3 := F3.cell 0 _ rfl
 have HC3 := Lib.hid C3
 have HF3 := Lib.hid F3
 clear C3 F3 g3 hB2
 go_wp2_with fail
 refine (flag1_any HC3.out _ _).mono ?_
 rintro r w4 ⟨rfl, C4, g4⟩
 have F4 := HF3.out.kept g4 (by simp)
 have hB4 := hB3.grown g4 hB3.size (fun j e => by cases e; omega)
 clear k3 HC3 HF3
 have k0 := C4.cell 0 _ rfl
 have k1 := F4.cell 1 _ rfl
 clear C4 F4 g4 hB3
 go_wp2_with fail
 go_ret2
 refine ⟨?_, hB4⟩
 show Ending.returned (.tuple #[.int .i64 (bits .or .i64 (orIf dup (orIf retain (orIf will (orIf clean t 4) 8) 16) 128) (wrap64 (bits .and .i64 q 3 * 32))), .int .i64 0]) = _
 rw [show wrap64 (bits .and .i64 q 3 * 32) = bits .and .i64 q 3 * 32 from HH.out.2.2, HB.out]
structure Fl where
 dup : Bool
 q : Int
 retain : Bool
 will : Bool
 clean : Bool
 typ : Int
def Fl.cs (f : Fl) : Array Value := #[.bool f.dup, .int .i64 f.q, .bool f.retain, .bool f.will, .bool f.clean, .int .i64 f.typ]
def fl0 : Fl := ⟨false, 0, false, false, false, 0⟩
def flagV (f : Fl) : Int × Int := flagF f.dup f.q f.retain f.will f.clean f.typ
theorem flag_fl (f : Fl) (w : World) : Calls Tryz.prog 417 #[.agg #[.bool f.dup, .int .i64 f.q, .bool f.retain, .bool f.will, .bool f.clean, .int .i64 f.typ]] w fun e w' =>
  e = .returned (.tuple #[.int .i64 (flagV f).1, .int .i64 (flagV f).2]) ∧ Below w.heap.size w w' := flag_any _ _ _ _ _ _ w
def rfOk (n : Int) : Bool := decide (0 ≤ n ∧ n ≤ 255 ∧ n % 4 ≠ 3)
def rfQ (n : Int) : Int := if n / 32 % 4 = 3 then -1 else n / 32 % 4
def rfF (n : Int) : Fl := if rfOk n then ⟨decide (n / 128 % 2 = 1), rfQ n, decide (n / 16 % 2 = 1), decide (n / 8 % 2 = 1), decide (n / 4 % 2 = 1), n % 4⟩ else fl0
def rfE (n : Int) : Int := if rfOk n then 0 else 7
theorem bit_of : ∀ m : Fin 256, ((bits .and .i64 ((m : Nat) : Int) 128 != 0) = decide (((m : Nat) : Int) / 128 % 2 = 1)) ∧ ((bits .and .i64 ((m : Nat) : Int) 16 != 0) = decide (((m : Nat) : Int) / 16 % 2 = 1)) ∧
  ((bits .and .i64 ((m : Nat) : Int) 8 != 0) = decide (((m : Nat) : Int) / 8 % 2 = 1)) ∧ ((bits .and .i64 ((m : Nat) : Int) 4 != 0) = decide (((m : Nat) : Int) / 4 % 2 = 1)) ∧
  (bits .and .i64 ((m : Nat) : Int) 3 = ((m : Nat) : Int) % 4) ∧ (bits .and .i64 (((m : Nat) : Int) / 32) 3 = ((m : Nat) : Int) / 32 % 4) := by decide +kernel
theorem readflag_any (n : Int) (w : World) : Calls Tryz.prog 437 #[.int .i64 n] w fun e w' =>
  e = .returned (.tuple #[.agg #[.bool (rfF n).dup, .int .i64 (rfF n).q, .bool (rfF n).retain, .bool (rfF n).will, .bool (rfF n).clean, .int .i64 (rfF n).typ], .int .i64 (rfE n)]) ∧ Below w.heap.size w w' := by
 by_cases h1 : n < 0
 ·have hk : rfOk n = false := by simp [rfOk]; omega
  rw [show rfF n = fl0 by unfold rfF; rw [hk]; rfl, show rfE n = 7 by unfold rfE; rw [hk]; rfl]
  clear hk
  go_enter Tryz.func437, Tryz.ntmps437
  go_wp2
  (try simp only [Exit.inBlock, Exit.then])
  refine bodyPost_ret (results_row_tmp rfl _ _ _ _ _ _ rfl (Obj?.new _ _ _) Tryz.underlying36 rfl infoFl) rfl ?_
  exact ⟨rfl, (Below.refl _ _).alloc (Nat.le_refl _) _⟩
 by_cases h2 : 255 < n
 ·have hk : rfOk n = false := by simp [rfOk]; omega
  rw [show rfF n = fl0 by unfold rfF; rw [hk]; rfl, show rfE n = 7 by unfold rfE; rw [hk]; rfl]
  clear hk
  go_enter Tryz.func437, Tryz.ntmps437
  go_wp2
  (try simp only [Exit.inBlock, Exit.then])
  refine bodyPost_ret (results_row_tmp rfl _ _ _ _ _ _ rfl (Obj?.new _ _ _) Tryz.underlying36 rfl infoFl) rfl ?_
  exact ⟨rfl, (Below.refl _ _).alloc (Nat.le_refl _) _⟩
 obtain ⟨m, rfl⟩ := Int.eq_ofNat_of_zero_le (show 0 ≤ n by omega)
 obtain ⟨b1, b2, b3, b4, b5, b6⟩ := bit_of ⟨m, by omega⟩
 simp only at b1 b2 b3 b4 b5 b6
 by_cases h3 : (m : Int) % 4 = 3
 ·have hk : rfOk m = false := by simp [rfOk]; omega
  rw [show rfF m = fl0 by unfold rfF; rw [hk]; rfl, show rfE m = 7 by unfold rfE; rw [hk]; rfl]
  have hd : (bits .and .i64 (m : Int) 3 == 3) = true := by rw [b5, h3]; rfl
  clear b1 b2 b3 b4 b5 b6 hk h3
  go_enter Tryz.func437, Tryz.ntmps437
  go_wp2
  (try simp only [Exit.inBlock, Exit.then])
  refine bodyPost_ret (results_row_tmp rfl _ _ _ _ _ _ rfl (Obj?.new _ _ _) Tryz.underlying36 rfl infoFl) rfl ?_
  exact ⟨rfl, (Below.refl _ _).alloc (Nat.le_refl _) _⟩
 ·have hk : rfOk m = true := by simp [rfOk]; omega
  have HF := Lib.hid (show rfF m = ⟨decide ((m : Int) / 128 % 2 = 1), rfQ m, decide ((m : Int) / 16 % 2 = 1), decide ((m : Int) / 8 % 2 = 1), decide ((m : Int) / 4 % 2 = 1), (m : Int) % 4⟩ by unfold rfF; rw [hk]; rfl)
  have HE := Lib.hid (show rfE m = 0 by unfold rfE; rw [hk]; rfl)
  rw [HF.out, HE.out]
  have hd : ((m : Int) % 4 == 3) = false := by simpa using h3
  clear hk h3
  by_cases h4 : (m : Int) / 32 % 4 = 3
  ·have HQ := Lib.hid (show rfQ m = -1 by unfold rfQ; rw [if_pos h4])
   have hd2 : ((m : Int) / 32 % 4 == 3) = true := by simpa using h4
   rw [HQ.out]
   clear h4
   go_enter Tryz.func437, Tryz.ntmps437
   go_wp2_with fail
   (try simp only [Exit.inBlock, Exit.then])
   refine bodyPost_ret (results_row_tmp rfl _ _ _ _ _ _ rfl (Obj?.new _ _ _) Tryz.underlying36 rfl infoFl) rfl ?_
   exact ⟨rfl, (Below.refl _ _).alloc (Nat.le_refl _) _⟩
  ·have HQ := Lib.hid (show rfQ m = (m : Int) / 32 % 4 by unfold rfQ; rw [if_neg h4])
   have hd2 : ((m : Int) / 32 % 4 == 3) = false := by simpa using h4
   rw [HQ.out]
   clear h4
   go_enter Tryz.func437, Tryz.ntmps437
   go_wp2_with fail
   (try simp only [Exit.inBlock, Exit.then])
   refine bodyPost_ret (results_row_tmp rfl _ _ _ _ _ _ rfl (Obj?.new _ _ _) Tryz.underlying36 rfl infoFl) rfl ?_
   exact ⟨rfl, (Below.refl _ _).alloc (Nat.le_refl _) _⟩
def usesF (k : Int) : Fl :=
 if k = 4 then ⟨false, 0, false, true, true, 0⟩ else if k = 7 ∨ k = 26 then ⟨false, 1, true, false, false, 0⟩ else if k = 19 then ⟨false, 1, false, false, false, 0⟩
 else if k = 12 then ⟨true, 1, true, false, false, 1⟩ else if k = 18 then ⟨true, 1, false, false, false, 1⟩ else if k = 20 then ⟨false, 0, false, false, false, 1⟩ else fl0
end Go.Proofs.YtanofjmkkhocaaaGreatDoor
namespace Go.Proofs.YtanofjmkkhocaaaGreatDoor
open Go.RowKit
def kindOf (k : Int) : Prop := k ≠ 4 ∧ k ≠ 7 ∧ k ≠ 26 ∧ k ≠ 19 ∧ k ≠ 12 ∧ k ≠ 18 ∧ k ≠ 20
theorem uses_else {k : Int} (h : kindOf k) : usesF k = fl0 := by
 obtain ⟨h1, h2, h3, h4, h5, h6, h7⟩ := h
 unfold usesF; rw [if_neg h1, if_neg (by omega), if_neg h4, if_neg h5, if_neg h6, if_neg h7]
theorem kinds_split (k : Int) : k = 4 ∨ k = 7 ∨ k = 26 ∨ k = 19 ∨ k = 12 ∨ k = 18 ∨ k = 20 ∨ kindOf k := by unfold kindOf; omega
theorem kindOf_bool {k : Int} (h : kindOf k) : (k == 4) = false ∧ (k == 7) = false ∧ (k == 26) = false ∧ (k == 19) = false ∧ (k == 12) = false ∧ (k == 18) = false ∧ (k == 20) = false := by
 obtain ⟨h1, h2, h3, h4, h5, h6, h7⟩ := h
 simp [h1, h2, h3, h4, h5, h6, h7]
theorem uses_any (k : Int) (w : World) : Calls Tryz.prog 418 #[.int .i64 k] w fun e w' =>
  e = .returned (.agg #[.bool (usesF k).dup, .int .i64 (usesF k).q, .bool (usesF k).retain, .bool (usesF k).will, .bool (usesF k).clean, .int .i64 (usesF k).typ]) ∧ Below w.heap.size w w' := by
 rcases kinds_split k with rfl | rfl | rfl | rfl | rfl | rfl | rfl | h
 rotate_right
 ·have HU := Lib.hid (uses_else h)
  obtain ⟨q1, q2, q3, q4, q5, q6, q7⟩ := kindOf_bool h
  clear h
  go_enter Tryz.func418, Tryz.ntmps418
  go_wp2
  refine bodyPost_ret (results_row1 rfl _ _ _ _ _ _ rfl ((Obj?.new _ _ _).alloc _) Tryz.underlying36 rfl infoFl) rfl ?_
  exact ⟨by rw [HU.out]; rfl, ((Below.refl _ _).alloc (Nat.le_refl _) _).alloc (by simp) _⟩
 all_goals
  go_enter Tryz.func418, Tryz.ntmps418
  go_wp2
  refine bodyPost_ret (results_row1 rfl _ _ _ _ _ _ rfl ((Obj?.new _ _ _).alloc _) Tryz.underlying36 rfl infoFl) rfl ?_
  exact ⟨rfl, ((Below.refl _ _).alloc (Nat.le_refl _) _).alloc (by simp) _⟩
def mayF (k : Int) (f : Fl) : Bool :=
 flagOk f.q f.typ && ((usesF k).dup || !f.dup) && ((usesF k).q == 1 || f.q == 0) && ((usesF k).retain || !f.retain) && ((usesF k).will || !f.will) && ((usesF k).clean || !f.clean) && ((usesF k).typ == 1 || f.typ == 0) && (decide (0 ≤ f.q) || k == 12)
theorem may_no (k : Int) (f : Fl) (h : flagOk f.q f.typ = false) (w : World) : Calls Tryz.prog 410 #[.int .i64 k, .agg #[.bool f.dup, .int .i64 f.q, .bool f.retain, .bool f.will, .bool f.clean, .int .i64 f.typ]] w fun e w' =>
  e = .returned (.bool (mayF k f)) ∧ Below w.heap.size w w' := by
 have hm : mayF k f = false := by unfold mayF; rw [h]; rfl
 have hf : flagV f = (0, 7) := by unfold flagV flagF; rw [h]; rfl
 have HM := Lib.hid (And.intro hm hf)
 have hA : Below w.heap.size w (w.alloc (.cells #[.bool f.dup, .int .i64 f.q, .bool f.retain, .bool f.will, .bool f.clean, .int .i64 f.typ] 36 (0, 0))) := (Below.refl _ _).alloc (Nat.le_refl _) _
 clear h hm hf
 go_enter Tryz.func410, Tryz.ntmps410
 go_wp2_with fail
 refine (flag_fl f _).mono ?_
 rintro e w1 ⟨rfl, hb⟩
 rw [HM.out.2]
 have hB1 := hA.trans (hb.mono hA.size)
 clear hb
 go_wp2
 go_ret
 exact ⟨by rw [HM.out.1]; rfl, hB1⟩
theorem may_no2 (k : Int) (f : Fl) (h : flagOk f.q f.typ = true) (h2 : f.q < 0) (h3 : k ≠ 12) (w : World) : Calls Tryz.prog 410 #[.int .i64 k, .agg #[.bool f.dup, .int .i64 f.q, .bool f.retain, .bool f.will, .bool f.clean, .int .i64 f.typ]] w fun e w' =>
  e = .returned (.bool (mayF k f)) ∧ Below w.heap.size w w' := by
 have hm : mayF k f = false := by unfold mayF; rw [show decide (0 ≤ f.q) = false from decide_eq_false (by omega), show (k == 12) = false by simpa using h3]; simp
 have hf : (flagV f).2 = 0 := by unfold flagV flagF; rw [h]; rfl
 have HM := Lib.hid (And.intro hm hf)
 have hA : Below w.heap.size w (w.alloc (.cells #[.bool f.dup, .int .i64 f.q, .bool f.retain, .bool f.will, .bool f.clean, .int .i64 f.typ] 36 (0, 0))) := (Below.refl _ _).alloc (Nat.le_refl _) _
 have q1 : (k != 12) = true := by simpa using h3
 clear h hm hf h3
 go_enter Tryz.func410, Tryz.ntmps410
 go_wp2_with fail
 refine (flag_fl f _).mono ?_
 rintro e w1 ⟨rfl, hb⟩
 rw [HM.out.2]
 have hB1 := hA.trans (hb.mono hA.size)
 have O := (Obj?.new w #[.bool f.dup, .int .i64 f.q, .bool f.retain, .bool f.will, .bool f.clean, .int .i64 f.typ] 36).below hb (by simp)
 have k1 := O.cell 1 _ rfl
 clear hb O
 go_wp2
 go_ret
 exact ⟨by rw [HM.out.1]; rfl, hB1⟩
theorem uses_cls (k : Int) : usesF k = ⟨false, 0, false, true, true, 0⟩ ∨ usesF k = ⟨false, 1, true, false, false, 0⟩ ∨ usesF k = ⟨false, 1, false, false, false, 0⟩ ∨ usesF k = ⟨true, 1, true, false, false, 1⟩ ∨
  usesF k = ⟨true, 1, false, false, false, 1⟩ ∨ usesF k = ⟨false, 0, false, false, false, 1⟩ ∨ usesF k = fl0 := by
 rcases kinds_split k with rfl | rfl | rfl | rfl | rfl | rfl | rfl | h
 ·exact .inl rfl
 ·exact .inr (.inl rfl)
 ·exact .inr (.inl rfl)
 ·exact .inr (.inr (.inl rfl))
 ·exact .inr (.inr (.inr (.inl rfl)))
 ·exact .inr (.inr (.inr (.inr (.inl rfl))))
 ·exact .inr (.inr (.inr (.inr (.inr (.inl rfl)))))
 ·exact .inr (.inr (.inr (.inr (.inr (.inr (uses_else h))))))
theorem flagOk_range {q t : Int} (h : flagOk q t = true) : -1 ≤ q ∧ q ≤ 2 ∧ 0 ≤ t ∧ t ≤ 2 := by simpa [flagOk] using h
theorem may_go (k : Int) (f : Fl) (h : flagOk f.q f.typ = true) (u : Fl) (hu : usesF k = u) (hu' : u = ⟨false, 0, false, true, true, 0⟩ ∨ u = ⟨false, 1, true, false, false, 0⟩ ∨ u = ⟨false, 1, false, false, false, 0⟩ ∨ u = ⟨true, 1, true, false, false, 1⟩ ∨
  u = ⟨true, 1, false, false, false, 1⟩ ∨ u = ⟨false, 0, false, false, false, 1⟩ ∨ u = fl0) (hd : decide (f.q < 0) = false) (w : World) : Calls Tryz.prog 410 #[.int .i64 k, .agg #[.bool f.dup, .int .i64 f.q, .bool f.retain, .bool f.will, .bool f.clean, .int .i64 f.typ]] w fun e w' =>
  e = .returned (.bool (mayF k f)) ∧ Below w.heap.size w w' := by
 have hg : (decide (0 ≤ f.q) || k == 12) = true := by rw [show decide (0 ≤ f.q) = true from decide_eq_true (by simp at hd; omega)]; rfl
 have HM := Lib.hid (And.intro (show (flagV f).2 = 0 by unfold flagV flagF; rw [h]; rfl) (show mayF k f = ((u.dup || !f.dup) && (u.q == 1 || f.q == 0) && (u.retain || !f.retain) && (u.will || !f.will) && (u.clean || !f.clean) && (u.typ == 1 || f.typ == 0)) by unfold mayF; rw [h, hu, hg]; simp))
 have HU := Lib.hid hu
 have hA : Below w.heap.size w (w.alloc (.cells #[.bool f.dup, .int .i64 f.q, .bool f.retain, .bool f.will, .bool f.clean, .int .i64 f.typ] 36 (0, 0))) := (Below.refl _ _).alloc (Nat.le_refl _) _
 have hs := flagOk_range h
 clear h hu hg
 have hm := HM.out.2
 rw [hm]
 clear hm
 go_enter Tryz.func410, Tryz.ntmps410
 go_wp2_with fail
 refine (flag_fl f _).mono ?_
 rintro e w1 ⟨rfl, hb⟩
 rw [HM.out.1]
 have hB1 := hA.trans (hb.mono hA.size)
 have O := (Obj?.new w #[.bool f.dup, .int .i64 f.q, .bool f.retain, .bool f.will, .bool f.clean, .int .i64 f.typ] 36).below hb (by simp)
 have k1 := O.cell 1 _ rfl
 have HO := Lib.hid O
 clear hb O
 go_wp2_with fail
 refine (uses_any _ _).mono ?_
 rintro e w2 ⟨rfl, hb⟩
 rw [HU.out]
 have hB2 := hB1.trans (hb.mono hB1.size)
 have O := HO.out.below hb HO.out.lt
 have kc := O.cells
 have kf := O.froz
 have hz := O.lt
 clear hb HO k1 O HU HM
 rcases hu' with rfl | rfl | rfl | rfl | rfl | rfl | rfl
 all_goals go_wp2_with fail
 all_goals go_ret
 all_goals refine ⟨?_, ?_⟩
 any_goals ((repeat (first | exact hB2 | refine below_al ?_ _ | refine Below.setCell ?_ (by simp) _)); done)
 all_goals simp_all
theorem may_go2 (f : Fl) (h : flagOk f.q f.typ = true) (hd : decide (f.q < 0) = true) (w : World) : Calls Tryz.prog 410 #[.int .i64 12, .agg #[.bool f.dup, .int .i64 f.q, .bool f.retain, .bool f.will, .bool f.clean, .int .i64 f.typ]] w fun e w' =>
  e = .returned (.bool (mayF 12 f)) ∧ Below w.heap.size w w' := by
 have HM := Lib.hid (And.intro (show (flagV f).2 = 0 by unfold flagV flagF; rw [h]; rfl) (show mayF 12 f = (!f.will && !f.clean) by unfold mayF; rw [h, show usesF 12 = ⟨true, 1, true, false, false, 1⟩ from rfl]; simp))
 have hA : Below w.heap.size w (w.alloc (.cells #[.bool f.dup, .int .i64 f.q, .bool f.retain, .bool f.will, .bool f.clean, .int .i64 f.typ] 36 (0, 0))) := (Below.refl _ _).alloc (Nat.le_refl _) _
 have hs := flagOk_range h
 clear h
 have hm := HM.out.2
 rw [hm]
 clear hm
 go_enter Tryz.func410, Tryz.ntmps410
 go_wp2_with fail
 refine (flag_fl f _).mono ?_
 rintro e w1 ⟨rfl, hb⟩
 rw [HM.out.1]
 have hB1 := hA.trans (hb.mono hA.size)
 have O := (Obj?.new w #[.bool f.dup, .int .i64 f.q, .bool f.retain, .bool f.will, .bool f.clean, .int .i64 f.typ] 36).below hb (by simp)
 have k1 := O.cell 1 _ rfl
 have HO := Lib.hid O
 clear hb O
 go_wp2_with fail
 refine (uses_any _ _).mono ?_
 rintro e w2 ⟨rfl, hb⟩
 rw [show usesF 12 = ⟨true, 1, true, false, false, 1⟩ from rfl]
 have hB2 := hB1.trans (hb.mono hB1.size)
 have O := HO.out.below hb HO.out.lt
 have kc := O.cells
 have kf := O.froz
 have hz := O.lt
 clear hb HO k1 O HM
 go_wp2_with fail
 all_goals go_ret
 all_goals refine ⟨?_, ?_⟩
 any_goals ((repeat (first | exact hB2 | refine below_al ?_ _ | refine Below.setCell ?_ (by simp) _)); done)
 all_goals simp_all
theorem snmay_any (k : Int) (f : Fl) (w : World) : Calls Tryz.prog 410 #[.int .i64 k, .agg #[.bool f.dup, .int .i64 f.q, .bool f.retain, .bool f.will, .bool f.clean, .int .i64 f.typ]] w fun e w' =>
  e = .returned (.bool (mayF k f)) ∧ Below w.heap.size w w' := by
 cases h : flagOk f.q f.typ with
 | false => exact may_no k f h w
 | true =>
  by_cases h2 : f.q < 0
  ·by_cases h3 : k = 12
   ·subst h3
    exact may_go2 f h (decide_eq_true h2) w
   ·exact may_no2 k f h h2 h3 w
  ·exact may_go k f h _ rfl (uses_cls k) (decide_eq_false h2) w
end Go.Proofs.YtanofjmkkhocaaaGreatDoor
