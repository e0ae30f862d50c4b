/- TopRefused: a packet whose header states more than the limits allow is refused with the last byte of its header, any other is awaited. -/
import Derived.Test.YtlfgkdiehmoohaaGreatDoorTrO
import Derived.Test.YtlfgkdiehmoohaaGreatDoorTrP
import Derived.Test.YtlfgkdiehmoohaaGreatDoorOctL
namespace Go.Proofs.YtlfgkdiehmoohaaGreatDoor
open Go Go.RowKit
set_option linter.unusedVariables false
set_option linter.unusedSimpArgs false
theorem hdA_check {v k l : Int} (hv : v = 4 ∨ v = 5) (hk : 1 ≤ k ∧ k ≤ 14) (hl : 1 ≤ l ∧ l ≤ 268435455) : checkF v k (fixedF k) l = 0 := by
  have a : knownV v = true := by simp [knownV]; omega
  have b : kindsV v k = true := by simp [kindsV]; omega
  have c : flaggedF k (fixedF k) = true := by
    unfold flaggedF
    split
    · rename_i h; subst h; decide
    · simp
  have d : vmay l = true := by simp [vmay]; omega
  unfold checkF
  simp [a, b, c, d]
theorem says_short {v m : Int} {ks : List UInt8} (hk : ks.length ≤ 5) (hh : rdH v ks = (0, 0, 0, 0, 3)) : NextSays v m ks 3 := fun w sp a t al c hO hnc hR => next_short hO hk hnc hk hR hh
theorem says_long {v m k f l nn : Int} {ks : List UInt8} (hk : ks.length ≤ 5) (hh : rdH v ks = (k, f, l, nn, 0)) (hr : 0 ≤ l ∧ l ≤ 268435455 ∧ 0 ≤ nn ∧ nn ≤ 5) (hm : m < nn + l) : NextSays v m ks 4 := fun w sp a t al c hO hnc hR => next_long hO hk hnc hk hR hh hr hm
theorem says_wait {v m k f l nn : Int} {ks : List UInt8} (hk : ks.length ≤ 5) (hh : rdH v ks = (k, f, l, nn, 0)) (hr : 0 ≤ l ∧ l ≤ 268435455 ∧ 0 ≤ nn ∧ nn ≤ 5) (hm : nn + l ≤ m) (hw : (ks.length : Int) < nn + l) : NextSays v m ks 3 := fun w sp a t al c hO hnc hR => next_wait hO hk hnc hk hR hh hr hm hw
theorem takeT_one (s : List UInt8) (i : Nat) (hi : i < s.length) : s.take (i + 1) = s.take i ++ [s[i]] := by rw [List.take_succ_eq_append_getElem hi]
theorem extract_one (s : List UInt8) (i : Nat) (hi : i < s.length) : (ByteArray.mk s.toArray).extract i (i + 1) = ByteArray.mk [s[i]].toArray := by
  rw [ByteArray.extract_mk]
  congr 1
  apply Array.ext
  · simp; omega
  · intro j h1 h2
    simp at h2
    subst h2
    simp
set_option maxRecDepth 100000 in
set_option maxHeartbeats 3200000 in
theorem refused_no (v k l mp md : Int) (hm : limM mp md = false) (w : World) : Calls Tryz.prog 3 #[.int .i64 v, .int .i64 k, .int .i64 l, .agg #[.int .i64 mp, .int .i64 md]] w fun e w' => e = .returned (.bool true) ∧ Below w.heap.size w w' := by
  obtain ⟨V, hV⟩ : ∃ V : Int, V = if v % 2 = 0 then 4 else 5 := ⟨_, rfl⟩
  have hV2 : V = 4 ∨ V = 5 := by rw [hV]; split <;> simp
  obtain ⟨K, hK⟩ : ∃ K : Int, K = k % 14 := ⟨_, rfl⟩
  obtain ⟨L, hL⟩ : ∃ L : Int, L = l % 268435455 := ⟨_, rfl⟩
  have hK1 : 0 ≤ K ∧ K < 14 := by omega
  have hL1 : 0 ≤ L ∧ L < 268435455 := by omega
  have HV := Lib.hid (fun W => version_any v W)
  have HK := Lib.hid (fun W => pick_any k 14 (by decide) (by decide) W)
  have HL := Lib.hid (fun W => pick_any l 268435455 (by decide) (by decide) W)
  rw [← hV] at HV
  rw [← hK] at HK
  rw [← hL] at HL
  have HN := Lib.hid (fun W => mnew_no V mp md hV2 hm W)
  have HR := Lib.hid (fun W => topright_no V mp md hV2 hm W)
  have HLv := Lib.hid (fun W => livesT W)
  have HO0 := Lib.hid (Obj?.new w #[.int .i64 mp, .int .i64 md] 23)
  have HB0 := Lib.hid (below_al (Below.refl _ w) (.cells #[.int .i64 mp, .int .i64 md] 23 (0, 0)))
  obtain ⟨hK0, hK2⟩ := hK1
  obtain ⟨hL0, hL2⟩ := hL1
  clear hV hV2 hK hL hm
  go_enter Tryz.func3, Tryz.ntmps3
  refine wp_hide fun Q1 hQ1 => ?_
  have HQ1 := Lib.hid hQ1
  clear hQ1
  go_wp2_with fail
  refine (HLv.out _).mono ?_
  rintro e w1 ⟨rfl, hb⟩
  have HB1 := Lib.hid (below_thenh HB0.out hb)
  have HO1 := Lib.hid (HO0.out.below hb HO0.out.lt)
  have k1 := HO1.out.cells
  clear hb HB0 HO0 HLv
  go_wp2_with fail
  refine (HV.out _).mono ?_
  rintro e w2 ⟨rfl, rfl⟩
  go_wp2_with fail
  refine (HK.out _).mono ?_
  rintro e w2 ⟨rfl, rfl⟩
  go_wp2_with fail
  refine (HL.out _).mono ?_
  rintro e w2 ⟨rfl, rfl⟩
  go_wp2_with fail
  refine (HN.out _).mono ?_
  rintro e w3 ⟨rfl, hb⟩
  have HB3 := Lib.hid (below_thenh HB1.out hb)
  have HO3 := Lib.hid (HO1.out.below hb HO1.out.lt)
  have k3 := HO3.out.cells
  clear hb k1 HB1 HO1
  go_wp2_with fail
  refine (HR.out _).mono ?_
  rintro e w4 ⟨rfl, hb⟩
  have HB4 := Lib.hid (below_thenh HB3.out hb)
  clear hb k3 HB3 HO3
  go_wp2_with fail
  refine HQ1.out _ _ _ ?_
  go_ret
  exact ⟨rfl, HB4.out⟩
end Go.Proofs.YtlfgkdiehmoohaaGreatDoor
