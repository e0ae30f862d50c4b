/- UstringBack: the walk. -/
import Derived.Test.YtcfeombnobgplaaUstX
namespace Go.Proofs.Ytcfeombnobgplaa
open Go.RowKit

theorem rdB_frm (s r : List UInt8) (h : s.length ≤ 65535) : rdB (frm s ++ r) = (s, s.length + 2, 0) := by
  have hp : putL s.length 2 = putB s.length 2 := by unfold putL; congr 1
  have hl : (putB (s.length : Int) 2).length = 2 := length_putB _ _
  have ht : (frm s ++ r).take 2 = putB s.length 2 := by
    unfold frm; rw [hp, List.append_assoc, List.take_append_of_le_length (by rw [hl]; omega), List.take_of_length_le (by rw [hl]; omega)]
  have hd : (frm s ++ r).drop 2 = s ++ r := by
    unfold frm; rw [hp, List.append_assoc, List.drop_append_of_le_length (by rw [hl]; omega), List.drop_of_length_le (by rw [hl]; omega), List.nil_append]
  have hg : getB ((frm s ++ r).take 2) = s.length := by rw [ht, getB_putB _ _ (by omega)]; omega
  have hlen : (frm s ++ r).length = s.length + 2 + r.length := by rw [List.length_append, length_frm]
  unfold rdB
  rw [hg, hd, hlen, if_neg (by omega), if_neg (by omega)]
  simp [Nat.add_comm]
theorem rdT_frm (s r : List UInt8) (h : vld s = true) : rdT (frm s ++ r) = (s, s.length + 2, 0) := by
  unfold rdT
  rw [rdB_frm s r (vld_bd h).1]
  simp [h]
theorem rdB_inv {b t : List UInt8} {n : Nat} (h : rdB b = (t, n, 0)) : n ≤ b.length ∧ frm t = b.take n ∧ t.length ≤ 65535 := by
  unfold rdB at h
  split at h
  · cases h
  · split at h
    · cases h
    · rename_i h1 h2
      have hg := getB_two (b.take 2) (by simp; omega)
      obtain ⟨N, hN⟩ := Int.eq_ofNat_of_zero_le hg.1
      rw [hN] at h h2 hg
      simp only [Int.toNat_natCast, Prod.mk.injEq, and_true] at h
      obtain ⟨rfl, rfl⟩ := h
      have hl : ((b.drop 2).take N).length = N := by simp; omega
      refine ⟨by omega, ?_, by rw [hl]; omega⟩
      unfold frm
      rw [hl]
      have hp : putL (N : Int) 2 = putB N 2 := by unfold putL; congr 1
      have h3 : putB (N : Int) 2 = b.take 2 := by
        have := putB_getB (b.take 2) (by simp; omega)
        rw [hN, show (b.take 2).length = 2 by simp; omega] at this
        exact this
      rw [hp, h3, ← List.take_add]
theorem rdT_inv {b t : List UInt8} {n : Nat} (h : rdT b = (t, n, 0)) : n ≤ b.length ∧ frm t = b.take n ∧ vld t = true := by
  unfold rdT at h
  split at h
  · cases h
  · rename_i h1
    obtain ⟨h2, h3, _⟩ := rdB_inv h
    refine ⟨h2, h3, ?_⟩
    rw [h] at h1
    cases hv : vld t with
    | true => rfl
    | false => exact absurd ⟨rfl, hv⟩ h1
theorem rdT_err (b : List UInt8) (h : (rdT b).2.2 ≠ 0) : (rdT b).1 = [] ∧ (rdT b).2.1 = 0 := by
  unfold rdT at *
  split
  · exact ⟨rfl, rfl⟩
  · rename_i h1
    rw [if_neg h1] at h
    rcases rdB_err b with h2 | h2
    · exact absurd h2 h
    · exact ⟨h2.2.1, h2.2.2⟩

set_option maxRecDepth 100000 in
set_option maxHeartbeats 3200000 in
theorem ustringBack_walk (s bh b : List UInt8) (hs : (s.length : Int) ≤ 9223372036854775807) (hh : (bh.length : Int) ≤ 9223372036854775807) (hb : (b.length : Int) ≤ 9223372036854775807) (w : World) :
    Calls Try.prog 14 #[.string ⟨s.toArray⟩, .string ⟨bh.toArray⟩, .string ⟨b.toArray⟩] w fun e w' => e = .returned (.bool true) ∧ Below w.heap.size w w' := by
  by_cases h1 : 70000 < s.length
  · go_enter Try.func14, Try.ntmps14
    go_wp2_with fail
    refine (lives03 _).mono ?_
    rintro r w1 ⟨rfl, hB1⟩
    go_wp2
    go_ret
    exact ⟨rfl, hB1⟩
  by_cases h2 : 1000 < bh.length
  · go_enter Try.func14, Try.ntmps14
    go_wp2_with fail
    refine (lives03 _).mono ?_
    rintro r w1 ⟨rfl, hB1⟩
    go_wp2
    go_ret
    exact ⟨rfl, hB1⟩
  by_cases h3 : 70000 < b.length
  · go_enter Try.func14, Try.ntmps14
    go_wp2_with fail
    refine (lives03 _).mono ?_
    rintro r w1 ⟨rfl, hB1⟩
    go_wp2
    go_ret
    exact ⟨rfl, hB1⟩
  have hap : (ByteArray.mk (frm s).toArray) ++ ByteArray.mk bh.toArray = ByteArray.mk (frm s ++ bh).toArray := ByteArray.mk_append_mk _ _
  have hfl := length_frm s
  have hsz : (frm s).length + bh.length ≤ 80000 := by omega
  have HL := Lib.hid hfl
  have hfl2 : ((frm s).length : Int) = (s.length : Int) + 2 := by omega
  clear hfl
  cases hv : vld s with
  | true =>
    have hs5 := (vld_bd hv).1
    have HT := Lib.hid (And.intro (rdT_frm s bh hv) (rdB_frm s bh hs5))
    go_enter Try.func14, Try.ntmps14
    go_wp2_with fail
    refine (lives03 _).mono ?_
    rintro r w1 ⟨rfl, hB1⟩
    go_wp2_with fail
    refine (text_yes s hv _).mono ?_
    rintro r w2 ⟨rfl, hb2⟩
    have hB2 := hB1.trans (hb2.mono hB1.size)
    clear hb2
    go_wp2_with fail
    refine (rdT_any (frm s ++ bh) (by simp; omega) _).mono ?_
    rintro r w3 ⟨rfl, hb2⟩
    have hB3 := hB2.trans (hb2.mono hB2.size)
    clear hb2
    rw [HT.out.1]
    go_wp2_with fail
    refine (valid_any s hs _).mono ?_
    rintro r w4 ⟨rfl, hb2⟩
    have hB4 := hB3.trans (hb2.mono hB3.size)
    clear hb2
    rw [hv]
    go_wp2_with fail
    refine (binary_yes s hs5 _).mono ?_
    rintro r w5 ⟨rfl, hb2⟩
    have hB5 := hB4.trans (hb2.mono hB4.size)
    clear hb2
    go_wp2_with fail
    refine (rdB_any (frm s ++ bh) (by simp; omega) _).mono ?_
    rintro r w6 ⟨rfl, hb2⟩
    have hB6 := hB5.trans (hb2.mono hB5.size)
    clear hb2
    rw [HT.out.2]
    have HV := Lib.hid hv
    clear hv
    go_wp2_with fail
    refine (rdT_any b hb _).mono ?_
    rintro r w7 ⟨rfl, hb2⟩
    have hB7 := hB6.trans (hb2.mono hB6.size)
    clear hb2
    obtain ⟨t, n, e, hX⟩ : ∃ t n e, rdT b = (t, n, e) := ⟨_, _, _, rfl⟩
    rw [hX]
    by_cases he : e = 0
    · subst he
      obtain ⟨q1, q2, q3⟩ := rdT_inv hX
      have hx : (ByteArray.mk b.toArray).extract 0 n = ByteArray.mk (frm t).toArray := by rw [ByteArray.extract_mk]; simp [q2]
      have HX := Lib.hid (And.intro hX q2)
      clear hX q2
      go_wp2_with fail
      refine (text_yes t q3 _).mono ?_
      rintro r w8 ⟨rfl, hb2⟩
      have hB8 := hB7.trans (hb2.mono hB7.size)
      clear hb2 q3
      go_wp2
      go_ret
      exact ⟨rfl, hB8⟩
    · obtain ⟨q1, q2⟩ := rdT_err b (by rw [hX]; exact he)
      rw [hX] at q1 q2
      simp only at q1 q2
      have hd : (e != 0) = true := by simp [he]
      subst q1 q2
      have HX := Lib.hid hX
      clear hX he
      go_wp2
      go_ret
      exact ⟨rfl, hB7⟩
  | false =>
    by_cases hs5 : s.length ≤ 65535
    · have HT := Lib.hid (rdB_frm s bh hs5)
      go_enter Try.func14, Try.ntmps14
      go_wp2_with fail
      refine (lives03 _).mono ?_
      rintro r w1 ⟨rfl, hB1⟩
      go_wp2_with fail
      refine (text_no s hs hv _).mono ?_
      rintro r w2 ⟨rfl, hb2⟩
      have hB2 := hB1.trans (hb2.mono hB1.size)
      clear hb2
      go_wp2_with fail
      refine (valid_any s hs _).mono ?_
      rintro r w3 ⟨rfl, hb2⟩
      have hB3 := hB2.trans (hb2.mono hB2.size)
      clear hb2
      rw [hv]
      go_wp2_with fail
      refine (binary_yes s hs5 _).mono ?_
      rintro r w4 ⟨rfl, hb2⟩
      have hB4 := hB3.trans (hb2.mono hB3.size)
      clear hb2
      go_wp2_with fail
      refine (rdB_any (frm s ++ bh) (by simp; omega) _).mono ?_
      rintro r w5 ⟨rfl, hb2⟩
      have hB5 := hB4.trans (hb2.mono hB4.size)
      clear hb2
      rw [HT.out]
      have HV := Lib.hid hv
      clear hv
      go_wp2_with fail
      refine (rdT_any b hb _).mono ?_
      rintro r w6 ⟨rfl, hb2⟩
      have hB6 := hB5.trans (hb2.mono hB5.size)
      clear hb2
      obtain ⟨t, n, e, hX⟩ : ∃ t n e, rdT b = (t, n, e) := ⟨_, _, _, rfl⟩
      rw [hX]
      by_cases he : e = 0
      · subst he
        obtain ⟨q1, q2, q3⟩ := rdT_inv hX
        have hx : (ByteArray.mk b.toArray).extract 0 n = ByteArray.mk (frm t).toArray := by rw [ByteArray.extract_mk]; simp [q2]
        have HX := Lib.hid (And.intro hX q2)
        clear hX q2
        go_wp2_with fail
        refine (text_yes t q3 _).mono ?_
        rintro r w7 ⟨rfl, hb2⟩
        have hB7 := hB6.trans (hb2.mono hB6.size)
        clear hb2 q3
        go_wp2
        go_ret
        exact ⟨rfl, hB7⟩
      · obtain ⟨q1, q2⟩ := rdT_err b (by rw [hX]; exact he)
        rw [hX] at q1 q2
        simp only at q1 q2
        have hd : (e != 0) = true := by simp [he]
        subst q1 q2
        have HX := Lib.hid hX
        clear hX he
        go_wp2
        go_ret
        exact ⟨rfl, hB6⟩
    · go_enter Try.func14, Try.ntmps14
      go_wp2_with fail
      refine (lives03 _).mono ?_
      rintro r w1 ⟨rfl, hB1⟩
      go_wp2_with fail
      refine (text_no s hs hv _).mono ?_
      rintro r w2 ⟨rfl, hb2⟩
      have hB2 := hB1.trans (hb2.mono hB1.size)
      clear hb2
      go_wp2_with fail
      refine (valid_any s hs _).mono ?_
      rintro r w3 ⟨rfl, hb2⟩
      have hB3 := hB2.trans (hb2.mono hB2.size)
      clear hb2
      rw [hv]
      go_wp2_with fail
      refine (binary_no s hs5 _).mono ?_
      rintro r w4 ⟨rfl, rfl⟩
      have HV := Lib.hid hv
      clear hv
      go_wp2_with fail
      refine (rdT_any b hb _).mono ?_
      rintro r w4 ⟨rfl, hb2⟩
      have hB4 := hB3.trans (hb2.mono hB3.size)
      clear hb2
      obtain ⟨t, n, e, hX⟩ : ∃ t n e, rdT b = (t, n, e) := ⟨_, _, _, rfl⟩
      rw [hX]
      by_cases he : e = 0
      · subst he
        obtain ⟨q1, q2, q3⟩ := rdT_inv hX
        have hx : (ByteArray.mk b.toArray).extract 0 n = ByteArray.mk (frm t).toArray := by rw [ByteArray.extract_mk]; simp [q2]
        have HX := Lib.hid (And.intro hX q2)
        clear hX q2
        go_wp2_with fail
        refine (text_yes t q3 _).mono ?_
        rintro r w5 ⟨rfl, hb2⟩
        have hB5 := hB4.trans (hb2.mono hB4.size)
        clear hb2 q3
        go_wp2
        go_ret
        exact ⟨rfl, hB5⟩
      · obtain ⟨q1, q2⟩ := rdT_err b (by rw [hX]; exact he)
        rw [hX] at q1 q2
        simp only at q1 q2
        have hd : (e != 0) = true := by simp [he]
        subst q1 q2
        have HX := Lib.hid hX
        clear hX he
        go_wp2
        go_ret
        exact ⟨rfl, hB4⟩
end Go.Proofs.Ytcfeombnobgplaa
