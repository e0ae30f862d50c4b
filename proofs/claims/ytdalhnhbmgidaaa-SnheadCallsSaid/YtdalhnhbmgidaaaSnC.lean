/- SnheadLengths. -/
import Derived.Test.YtdalhnhbmgidaaaSnB
namespace Go.Proofs.Ytdalhnhbmgidaaa
open Go.RowKit

theorem known_range {k : Int} (h : knownK k = true) : 0 ≤ k ∧ k ≤ 254 := by
  unfold knownK at h
  split at h
  · cases h
  split at h
  · omega
  · simp at h; omega
theorem put_one (x : Int) (h0 : 0 ≤ x) (h : x ≤ 255) : ∃ a : UInt8, putL x 1 = [a] ∧ (a.toNat : Int) = x := by
  have h1 := getB_putB x 1 (by decide)
  have h2 := length_putB x 1
  have e : putL x 1 = putB x 1 := rfl
  match hp : putB x 1, h2 with
  | [a], _ =>
    rw [hp] at h1
    refine ⟨a, by rw [e, hp], ?_⟩
    have : getB [a] = (a.toNat : Int) := by simp [getB]
    rw [← this, h1]; omega
theorem put_two (x : Int) (h0 : 0 ≤ x) (h : x ≤ 65535) : ∃ a b : UInt8, putL x 2 = [a, b] ∧ getB [a, b] = x := by
  have h1 := getB_putB x 2 (by decide)
  have h2 := length_putB x 2
  have e : putL x 2 = putB x 2 := rfl
  match hp : putB x 2, h2 with
  | [a, b], _ =>
    rw [hp] at h1
    refine ⟨a, b, by rw [e, hp], ?_⟩
    rw [h1]; omega
/-- A head is short, or long. -/
theorem snS_short (kind rest : Int) (hk : knownK kind = true) (h0 : 0 ≤ rest) (h : rest ≤ 253) : ∃ a c : UInt8, snS kind rest = [a, c] ∧ (a.toNat : Int) = rest + 2 ∧ (c.toNat : Int) = kind := by
  have hr := known_range hk
  obtain ⟨a, ha, ha2⟩ := put_one (rest + 2) (by omega) (by omega)
  obtain ⟨c, hc, hc2⟩ := put_one kind (by omega) (by omega)
  exact ⟨a, c, by unfold snS; rw [if_pos h, ha, hc]; rfl, ha2, hc2⟩
theorem snS_long (kind rest : Int) (hk : knownK kind = true) (h0 : 253 < rest) (h : rest ≤ 65531) : ∃ a b c : UInt8, snS kind rest = [1, a, b, c] ∧ getB [a, b] = rest + 4 ∧ (c.toNat : Int) = kind := by
  have hr := known_range hk
  obtain ⟨a, b, ha, ha2⟩ := put_two (rest + 4) (by omega) (by omega)
  obtain ⟨c, hc, hc2⟩ := put_one kind (by omega) (by omega)
  have h1 : putL 1 1 = [1] := by decide
  exact ⟨a, b, c, by unfold snS; rw [if_neg (by omega), ha, hc, h1]; rfl, ha2, hc2⟩
theorem getB_one (a : UInt8) : getB [a] = (a.toNat : Int) := by simp [getB]
theorem snR_short (a c : UInt8) (more : List UInt8) (h : ¬ (a.toNat : Int) = 1) : snR (a :: c :: more) = snTail (c.toNat : Int) 2 (a.toNat : Int) := by
  have e0 : num (a :: c :: more) 0 1 = a.toNat := getB_one a
  have e1 : num (a :: c :: more) 1 1 = c.toNat := getB_one c
  unfold snR
  rw [e0, e1, if_neg (by simp), if_neg h, if_neg (by simp)]
theorem snR_long (a b c : UInt8) (more : List UInt8) : snR (1 :: a :: b :: c :: more) = snTail (c.toNat : Int) 4 (getB [a, b]) := by
  have e0 : num (1 :: a :: b :: c :: more) 0 1 = 1 := getB_one 1
  have e1 : num (1 :: a :: b :: c :: more) 1 2 = getB [a, b] := rfl
  have e2 : num (1 :: a :: b :: c :: more) 3 1 = c.toNat := getB_one c
  unfold snR
  rw [e0, e1, e2, if_neg (by simp), if_pos rfl, if_neg (by simp)]
theorem snR_snS (kind rest : Int) (hk : knownK kind = true) (h0 : 0 ≤ rest) (h : rest ≤ 65531) (more : List UInt8) :
    snR (snS kind rest ++ more) = (kind, ((snS kind rest).length : Int), rest + ((snS kind rest).length : Int), 0) := by
  rcases Int.lt_or_le 253 rest with h1 | h1
  · obtain ⟨a, b, c, e, e1, e2⟩ := snS_long kind rest hk h1 h
    rw [e, show [1, a, b, c] ++ more = 1 :: a :: b :: c :: more from rfl, snR_long, e1, e2]
    unfold snTail
    rw [if_neg (by omega), if_neg (by simp [hk])]
    rfl
  · obtain ⟨a, c, e, e1, e2⟩ := snS_short kind rest hk h0 h1
    rw [e, show [a, c] ++ more = a :: c :: more from rfl, snR_short _ _ _ (by omega), e1, e2]
    unfold snTail
    rw [if_neg (by omega), if_neg (by simp [hk])]
    rfl
theorem snS_len (kind rest : Int) : (rest ≤ 253 → (snS kind rest).length = 2) ∧ (253 < rest → (snS kind rest).length = 4) := by
  constructor
  · intro h; unfold snS; rw [if_pos h]; simp only [List.length_append, length_putL]; decide
  · intro h; unfold snS; rw [if_neg (by omega)]; simp only [List.length_append, length_putL]; decide
theorem snB_ok {kind rest : Int} (hk : knownK kind = true) (h0 : 0 ≤ rest) (h : rest ≤ 65531) : snB kind rest = (snS kind rest, 0) := by
  unfold snB; rw [if_neg (by simp [hk]), if_neg (by omega), if_neg (by omega)]

set_option maxRecDepth 100000 in
set_option maxHeartbeats 1600000 in
theorem snheadLengths_walk (kind n : Int) (w : World) :
    Calls Try.prog 3 #[.int .i64 kind, .int .i64 n] w fun e w' => e = .returned (.bool true) ∧ Below w.heap.size w w' := by
  have hlo : n.tmod 66000 < 66000 := Int.tmod_lt_of_pos n (by decide)
  have hhi : -66000 < n.tmod 66000 := by have := Int.lt_tmod_of_pos n (show (0 : Int) < 66000 by decide); omega
  obtain ⟨r, hr⟩ : ∃ r, r = n.tmod 66000 := ⟨_, rfl⟩
  rw [← hr] at hlo hhi
  have HR := Lib.hid hr
  clear hr
  cases hk : knownK kind with
  | false =>
    have HB := Lib.hid (show snB kind r = ([], 8) by unfold snB; rw [if_pos hk])
    have HK := Lib.hid hk
    clear hk
    go_enter Try.func3, Try.ntmps3
    go_wp2_with fail
    refine (lives21 _).mono ?_
    rintro r w1 ⟨rfl, hB1⟩
    go_wp2_with fail
    rw [← HR.out]
    refine (snbytes_any _ _ (by omega) _).mono ?_
    rintro r w2 ⟨rfl, hb⟩
    have hB2 := hB1.trans (hb.mono hB1.size)
    rw [HB.out]
    go_wp2_with fail
    refine (known_any _ _).mono ?_
    rintro r w ⟨rfl, rfl⟩
    rw [HK.out]
    go_wp2
    go_ret
    exact ⟨rfl, hB2⟩
  | true =>
  by_cases h0 : r < 0
  · have HB := Lib.hid (show snB kind r = ([], 2) by unfold snB; rw [if_neg (by simp [hk]), if_pos h0])
    have HK := Lib.hid hk
    clear hk
    go_enter Try.func3, Try.ntmps3
    go_wp2_with fail
    refine (lives21 _).mono ?_
    rintro r w1 ⟨rfl, hB1⟩
    go_wp2_with fail
    rw [← HR.out]
    refine (snbytes_any _ _ (by omega) _).mono ?_
    rintro r w2 ⟨rfl, hb⟩
    have hB2 := hB1.trans (hb.mono hB1.size)
    rw [HB.out]
    go_wp2_with fail
    refine (known_any _ _).mono ?_
    rintro r w ⟨rfl, rfl⟩
    rw [HK.out]
    go_wp2
    go_ret
    exact ⟨rfl, hB2⟩
  by_cases h1 : 65531 < r
  · have HB := Lib.hid (show snB kind r = ([], 4) by unfold snB; rw [if_neg (by simp [hk]), if_neg h0, if_pos h1])
    have HK := Lib.hid hk
    clear hk
    go_enter Try.func3, Try.ntmps3
    go_wp2_with fail
    refine (lives21 _).mono ?_
    rintro r w1 ⟨rfl, hB1⟩
    go_wp2_with fail
    rw [← HR.out]
    refine (snbytes_any _ _ (by omega) _).mono ?_
    rintro r w2 ⟨rfl, hb⟩
    have hB2 := hB1.trans (hb.mono hB1.size)
    rw [HB.out]
    go_wp2_with fail
    refine (known_any _ _).mono ?_
    rintro r w ⟨rfl, rfl⟩
    rw [HK.out]
    go_wp2
    go_ret
    exact ⟨rfl, hB2⟩
  -- a head there is
  have HB := Lib.hid (snB_ok hk (by omega : 0 ≤ r) (by omega))
  have hs := snR_snS kind r hk (by omega) (by omega) []
  rw [List.append_nil] at hs
  have hl := snS_len kind r
  obtain ⟨S, hS⟩ : ∃ S, S = snS kind r := ⟨_, rfl⟩
  rw [← hS] at hs hl HB
  have hq1 : IntKind.i64.wrap (r + 1) = r + 1 := by rw [IntKind.wrap_i64]; omega
  have hq2 : IntKind.i64.wrap (r + (S.length : Int)) = r + (S.length : Int) := by rw [IntKind.wrap_i64]; omega
  by_cases h2 : r = 65531
  · have hl4 : S.length = 4 := hl.2 (by omega)
    rw [hl4] at hs hq2
    have HS := Lib.hid hs
    have HB2 := Lib.hid (show snB kind 65532 = ([], 4) by unfold snB; rw [if_neg (by simp [hk]), if_neg (by omega), if_pos (by omega)])
    have HK := Lib.hid hk
    subst h2
    clear hk hl hs hS
    go_enter Try.func3, Try.ntmps3
    go_wp2_with fail
    refine (lives21 _).mono ?_
    rintro x w1 ⟨rfl, hB1⟩
    go_wp2_with fail
    rw [← HR.out]
    refine (snbytes_any _ _ (by omega) _).mono ?_
    rintro x w2 ⟨rfl, hb⟩
    have hB2 := hB1.trans (hb.mono hB1.size)
    clear hb
    rw [HB.out]
    go_wp2_with fail
    refine (known_any _ _).mono ?_
    rintro x w ⟨rfl, rfl⟩
    rw [HK.out]
    go_wp2_with fail
    refine (snread_any S (by omega) _).mono ?_
    rintro x w3 ⟨rfl, hb⟩
    have hB3 := hB2.trans (hb.mono hB2.size)
    clear hb
    rw [HS.out]
    go_wp2_with fail
    refine (snbytes_any _ _ (by omega) _).mono ?_
    rintro x w4 ⟨rfl, hb⟩
    have hB4 := hB3.trans (hb.mono hB3.size)
    clear hb
    rw [HB2.out]
    go_wp2
    go_ret
    exact ⟨rfl, hB4⟩
  have hT := snR_snS kind (r + 1) hk (by omega) (by omega) []
  rw [List.append_nil] at hT
  have hl2 := snS_len kind (r + 1)
  have HB2 := Lib.hid (snB_ok hk (by omega : 0 ≤ r + 1) (by omega))
  obtain ⟨T, hTT⟩ : ∃ T, T = snS kind (r + 1) := ⟨_, rfl⟩
  rw [← hTT] at hT hl2 HB2
  have hr : (r == 65531) = false := by simpa using h2
  have HK := Lib.hid hk
  clear hk hS hTT
  by_cases h3 : r ≤ 253
  · by_cases h4 : r = 253
    · have hlS : S.length = 2 := hl.1 (by omega)
      have hlT : T.length = 4 := hl2.2 (by omega)
      rw [hlS] at hs hq2
      rw [hlT] at hT
      have HS := Lib.hid hs
      have HT := Lib.hid hT
      have hq3 : IntKind.i64.wrap (r + 1 + 4) = r + 1 + 4 := by rw [IntKind.wrap_i64]; omega
      have hq4 : IntKind.i64.wrap (r + 1 + 4 - (r + 2)) = 3 := by rw [IntKind.wrap_i64]; omega
      subst h4
      replace HB2 := Lib.hid (show snB kind 254 = (T, 0) from HB2.out)
      replace HS := Lib.hid (show snR S = (kind, 2, 255, 0) from HS.out)
      replace HT := Lib.hid (show snR T = (kind, 4, 258, 0) from HT.out)
      clear hl hl2 hs hT h2 hq1 hq2 hq3 hq4
      go_enter Try.func3, Try.ntmps3
      go_wp2_with fail
      refine (lives21 _).mono ?_
      rintro x w1 ⟨rfl, hB1⟩
      go_wp2_with fail
      rw [← HR.out]
      refine (snbytes_any _ _ (by omega) _).mono ?_
      rintro x w2 ⟨rfl, hb⟩
      have hB2 := hB1.trans (hb.mono hB1.size)
      clear hb
      rw [HB.out]
      go_wp2_with fail
      refine (known_any _ _).mono ?_
      rintro x w ⟨rfl, rfl⟩
      rw [HK.out]
      go_wp2_with fail
      refine (snread_any S (by omega) _).mono ?_
      rintro x w3 ⟨rfl, hb⟩
      have hB3 := hB2.trans (hb.mono hB2.size)
      clear hb
      rw [HS.out]
      go_wp2_with fail
      refine (snbytes_any _ _ (by omega) _).mono ?_
      rintro x w4 ⟨rfl, hb⟩
      have hB4 := hB3.trans (hb.mono hB3.size)
      clear hb
      rw [HB2.out]
      go_wp2_with fail
      refine (snread_any T (by omega) _).mono ?_
      rintro x w5 ⟨rfl, hb⟩
      have hB5 := hB4.trans (hb.mono hB4.size)
      clear hb
      rw [HT.out]
      go_wp2
      go_ret
      exact ⟨rfl, hB5⟩
    · have hlS : S.length = 2 := hl.1 (by omega)
      have hlT : T.length = 2 := hl2.1 (by omega)
      rw [hlS] at hs hq2
      rw [hlT] at hT
      have HS := Lib.hid hs
      have HT := Lib.hid hT
      have hq3 : IntKind.i64.wrap (r + 1 + 2) = r + 1 + 2 := by rw [IntKind.wrap_i64]; omega
      have hq4 : IntKind.i64.wrap (r + 1 + 2 - (r + 2)) = 1 := by rw [IntKind.wrap_i64]; omega
      clear hl hl2 hs hT h2
      go_enter Try.func3, Try.ntmps3
      go_wp2_with fail
      refine (lives21 _).mono ?_
      rintro x w1 ⟨rfl, hB1⟩
      go_wp2_with fail
      rw [← HR.out]
      refine (snbytes_any _ _ (by omega) _).mono ?_
      rintro x w2 ⟨rfl, hb⟩
      have hB2 := hB1.trans (hb.mono hB1.size)
      clear hb
      rw [HB.out]
      go_wp2_with fail
      refine (known_any _ _).mono ?_
      rintro x w ⟨rfl, rfl⟩
      rw [HK.out]
      go_wp2_with fail
      refine (snread_any S (by omega) _).mono ?_
      rintro x w3 ⟨rfl, hb⟩
      have hB3 := hB2.trans (hb.mono hB2.size)
      clear hb
      rw [HS.out]
      go_wp2_with fail
      refine (snbytes_any _ _ (by omega) _).mono ?_
      rintro x w4 ⟨rfl, hb⟩
      have hB4 := hB3.trans (hb.mono hB3.size)
      clear hb
      rw [HB2.out]
      go_wp2_with fail
      refine (snread_any T (by omega) _).mono ?_
      rintro x w5 ⟨rfl, hb⟩
      have hB5 := hB4.trans (hb.mono hB4.size)
      clear hb
      rw [HT.out]
      go_wp2
      go_ret
      exact ⟨rfl, hB5⟩
  have hlS : S.length = 4 := hl.2 (by omega)
  have hlT : T.length = 4 := hl2.2 (by omega)
  rw [hlS] at hs hq2
  rw [hlT] at hT
  have HS := Lib.hid hs
  have HT := Lib.hid hT
  have hq3 : IntKind.i64.wrap (r + 1 + 4) = r + 1 + 4 := by rw [IntKind.wrap_i64]; omega
  have hq4 : IntKind.i64.wrap (r + 1 + 4 - (r + 4)) = 1 := by rw [IntKind.wrap_i64]; omega
  clear hl hl2 hs hT h2
  go_enter Try.func3, Try.ntmps3
  go_wp2_with fail
  refine (lives21 _).mono ?_
  rintro x w1 ⟨rfl, hB1⟩
  go_wp2_with fail
  rw [← HR.out]
  refine (snbytes_any _ _ (by omega) _).mono ?_
  rintro x w2 ⟨rfl, hb⟩
  have hB2 := hB1.trans (hb.mono hB1.size)
  clear hb
  rw [HB.out]
  go_wp2_with fail
  refine (known_any _ _).mono ?_
  rintro x w ⟨rfl, rfl⟩
  rw [HK.out]
  go_wp2_with fail
  refine (snread_any S (by omega) _).mono ?_
  rintro x w3 ⟨rfl, hb⟩
  have hB3 := hB2.trans (hb.mono hB2.size)
  clear hb
  rw [HS.out]
  go_wp2_with fail
  refine (snbytes_any _ _ (by omega) _).mono ?_
  rintro x w4 ⟨rfl, hb⟩
  have hB4 := hB3.trans (hb.mono hB3.size)
  clear hb
  rw [HB2.out]
  go_wp2_with fail
  refine (snread_any T (by omega) _).mono ?_
  rintro x w5 ⟨rfl, hb⟩
  have hB5 := hB4.trans (hb.mono hB4.size)
  clear hb
  rw [HT.out]
  go_wp2
  go_ret
  exact ⟨rfl, hB5⟩
end Go.Proofs.Ytdalhnhbmgidaaa
