/- TopRefused where the limits may be. -/
import Derived.Test.YtlfgkdiehmoohaaGreatDoorTrQ
namespace Go.Proofs.YtlfgkdiehmoohaaGreatDoor
open Go Go.RowKit
set_option linter.unusedVariables false
set_option linter.unusedSimpArgs false
set_option maxRecDepth 100000 in
set_option maxHeartbeats 6400000 in
theorem refused_yes (v k l mp md : Int) (hm : limM mp md = true) (w : World) : Calls Tryz.prog 3 #[.int .i64 v, .int .i64 k, .int .i64 l, .agg #[.int .i64 mp, .int .i64 md]] w fun e w' => e = .returned (.bool true) ∧ Below w.heap.size w w' := by
  obtain ⟨V, hV⟩ : ∃ V : Int, V = if v % 2 = 0 then 4 else 5 := ⟨_, rfl⟩
  have hV2 : V = 4 ∨ V = 5 := by rw [hV]; split <;> simp
  obtain ⟨K, hK⟩ : ∃ K : Int, K = k % 14 := ⟨_, rfl⟩
  obtain ⟨L, hL⟩ : ∃ L : Int, L = l % 268435455 := ⟨_, rfl⟩
  have hK1 : 0 ≤ K ∧ K < 14 := by omega
  have hL1 : 0 ≤ L ∧ L < 268435455 := by omega
  have HV := Lib.hid (fun W => version_any v W)
  have HK := Lib.hid (fun W => pick_any k 14 (by decide) (by decide) W)
  have HL := Lib.hid (fun W => pick_any l 268435455 (by decide) (by decide) W)
  rw [← hV] at HV
  rw [← hK] at HK
  rw [← hL] at HL
  have HN := Lib.hid (fun W => mnew_ok V mp md hV2 hm W)
  have HH := Lib.hid (fun W => header_any (1 + K) (1 + L) (by omega) (by omega) (by omega) (by omega) W)
  have hck := hdA_check (v := V) (k := 1 + K) (l := 1 + L) hV2 (by omega) (by omega)
  have hlen := hdA_len hck
  have HFull := Lib.hid (by have h := rdH_hdA hck []; rw [List.append_nil] at h; exact h)
  have HCut := Lib.hid (rdH_cut hck)
  obtain ⟨s, hs⟩ : ∃ s, s = hdA (1 + K) (fixedF (1 + K)) (1 + L) := ⟨_, rfl⟩
  rw [← hs] at HH HFull HCut hlen
  obtain ⟨-, hl2, hl5⟩ := hlen
  have HM := Lib.hid (show 16 ≤ mp ∧ mp ≤ 1048576 ∧ 0 ≤ md ∧ md ≤ 32 by simpa [limM] using hm)
  clear hs hck
  have HLv := Lib.hid (fun W => livesT W)
  have HO0 := Lib.hid (Obj?.new w #[.int .i64 mp, .int .i64 md] 23)
  have HB0 := Lib.hid (below_al (Below.refl _ w) (.cells #[.int .i64 mp, .int .i64 md] 23 (0, 0)))
  obtain ⟨hK0, hK2⟩ := hK1
  obtain ⟨hL0, hL2⟩ := hL1
  clear hV hV2 hK hL hm
  go_enter Tryz.func3, Tryz.ntmps3
  refine wp_hide fun Q1 hQ1 => ?_
  have HQ1 := Lib.hid hQ1
  clear hQ1
  go_wp2_with fail
  refine (HLv.out _).mono ?_
  rintro e w1 ⟨rfl, hb⟩
  have HB1 := Lib.hid (below_thenh HB0.out hb)
  have HO1 := Lib.hid (HO0.out.below hb HO0.out.lt)
  have k1 := HO1.out.cells
  clear hb HB0 HO0 HLv
  go_wp2_with fail
  refine (HV.out _).mono ?_
  rintro e w2 ⟨rfl, rfl⟩
  go_wp2_with fail
  refine (HK.out _).mono ?_
  rintro e w2 ⟨rfl, rfl⟩
  go_wp2_with fail
  refine (HL.out _).mono ?_
  rintro e w2 ⟨rfl, rfl⟩
  go_wp2_with fail
  refine (HN.out _).mono ?_
  rintro e w3 ⟨rfl, hb, hO⟩
  obtain ⟨sp, hsp⟩ : ∃ sp, sp = w1.heap.size + 1 := ⟨_, rfl⟩
  have HSp := Lib.hid (show w.heap.size < sp by rw [hsp]; have := HB1.out.size; omega)
  rw [← hsp] at hO
  rw [← hsp]
  clear hsp
  have HB3 := Lib.hid (below_thenh HB1.out hb)
  have HO3 := Lib.hid (HO1.out.below hb HO1.out.lt)
  have HS3 := Lib.hid hO
  clear hb hO k1 HB1 HO1
  go_wp2_with fail
  refine (HH.out _).mono ?_
  rintro e w4 ⟨rfl, hb⟩
  have HB4 := Lib.hid (below_thenh HB3.out hb)
  have HO4 := Lib.hid (HO3.out.below hb HO3.out.lt)
  have HS4 := Lib.hid (HS3.out.below hb HS3.out.lt)
  clear hb HB3 HO3 HS3 HH HN HV HK HL
  go_wp2_with fail
  go_loopw [12] (fun i wr => ∃ (n c : Nat) (al : Option Addr), i = .int .i64 n ∧ n + 1 ≤ s.length ∧ Hid (Obj? wr sp (stC V mp (.slice al n c) 0 0 0) 67 ∧ wr.ownsRow (sp + 1) 5 1 (.slice al n c) n (u8w (s.take n)) ∧ Obj? wr w.heap.size #[.int .i64 mp, .int .i64 md] 23 ∧ Below w.heap.size w wr)) (fun i _ => s.length - (intOf i).toNat)
  case atStart => exact ⟨0, 0, none, rfl, by omega, Lib.hid ⟨HS4.out, World.ownsRow_nil _ _ _ _, HO4.out, HB4.out⟩⟩
  case round =>
    obtain ⟨n, c, al, rfl, hn, HR⟩ := hrel
    have etake : (s.take n).length = n := by rw [List.length_take]; omega
    have HOwn := Lib.hid (show wr.ownsRow (sp + 1) 5 1 (.slice al n c) (s.take n).length (u8w (s.take n)) by rw [etake]; exact HR.out.2.1)
    by_cases hlt : n + 1 < s.length
    · have e2 : (s.take (n + 1)).length = n + 1 := by rw [List.length_take]; omega
      have HF := Lib.hid (feed_wait (takeT_one s n (by omega)) HR.out.1 HOwn.out (Nat.lt_succ_self sp) HR.out.1.lt (by rw [e2]; omega) (by simp) (says_short (m := mp) (by rw [e2]; omega) (HCut.out (n + 1) hlt)))
      have hi : (n : Int) < (s.length : Int) - 1 := by omega
      have hex := extract_one s n (by omega)
      go_wp2_with fail
      refine HF.out.mono ?_
      rintro r w5 ⟨kv, rfl, hb, hO5, hown5⟩
      obtain ⟨al5, c5, rfl⟩ := owns_shape (by decide) hown5
      have hRd := reads_any hown5 (by intro e; rw [e] at e2; simp at e2)
      rw [e2] at hO5 hown5 hRd
      have HR5 := Lib.hid (And.intro hO5 (And.intro hown5 (And.intro (HR.out.2.2.1.below hb HSp.out) (HR.out.2.2.2.trans (hb.mono (Nat.le_of_lt HSp.out))))))
      have hkp := stkept_any hO5
      rw [show ((n + 1 : Nat) : Int) = (n : Int) + 1 from rfl] at hkp
      have HKp := Lib.hid hkp
      have HNd := Lib.hid (need_short hO5 (by omega) (owns_le hown5) (by rw [e2]; omega) hRd (HCut.out (n + 1) hlt))
      clear hb hO5 hown5 hRd hkp HR HOwn HF
      go_wp2_with fail
      refine HKp.out.mono ?_
      rintro r w6 ⟨rfl, hw⟩
      subst hw
      go_wp2_with fail
      refine HNd.out.mono ?_
      rintro r w7 ⟨rfl, hb⟩
      have HR7 := Lib.hid (And.intro (HR5.out.1.below hb HR5.out.1.lt) (And.intro (row_belowh HR5.out.2.1 hb) (And.intro (HR5.out.2.2.1.below hb HR5.out.2.2.1.lt) (below_thenh HR5.out.2.2.2 hb))))
      clear hb HR5 HKp HNd
      go_wp2_with fail
      go_roundw
      case rel => exact ⟨n + 1, c5, al5, by go_num, by omega, HR7⟩
      case measure => simp [intOf]; omega
    · have hs1 : s.length = n + 1 := by omega
      have hi : ¬ (n : Int) < (s.length : Int) - 1 := by omega
      obtain ⟨x, hex, hone⟩ : ∃ x : UInt8, (ByteArray.mk s.toArray).extract n (n + 1) = ByteArray.mk [x].toArray ∧ s = s.take n ++ [x] := ⟨s[n], extract_one s n (by omega), by
        have hfull : s.take (n + 1) = s := by rw [← hs1]; exact List.take_length
        rw [← takeT_one s n (by omega), hfull]⟩
      by_cases hbig : mp < (s.length : Int) + (1 + L)
      · have HF := Lib.hid (feed_long hone HR.out.1 HOwn.out (Nat.lt_succ_self sp) HR.out.1.lt hl5 (by simp) (says_long hl5 HFull.out (by omega) hbig))
        have HBg := Lib.hid hbig
        clear hone hbig
        go_wp2_with fail
        refine HF.out.mono ?_
        clear hs1 hex hi hn hlt
        rintro r w5 ⟨rfl, hb, hO5⟩
        have HR5 := Lib.hid (And.intro hO5 (And.intro (HR.out.2.2.1.below hb HSp.out) (HR.out.2.2.2.trans (hb.mono (Nat.le_of_lt HSp.out)))))
        have kl := HR5.out.2.1.cells
        have hdg := HBg.out
        clear hb hO5 HR HOwn HF
        go_wp2_with fail
        refine (stat_any HR5.out.1).mono ?_
        rintro r w6 ⟨rfl, hw⟩
        subst hw
        go_wp2_with fail
        refine (sttold_any HR5.out.1).mono ?_
        rintro r w6 ⟨rfl, hw⟩
        subst hw
        go_wp2_with fail
        refine (stkept_any HR5.out.1).mono ?_
        rintro r w6 ⟨rfl, hw⟩
        subst hw
        go_wp2_with fail
        refine (need_err HR5.out.1 (by decide)).mono ?_
        rintro r w6 ⟨rfl, hw⟩
        subst hw
        go_wp2_with fail
        refine (sterr_any HR5.out.1).mono ?_
        rintro r w6 ⟨rfl, hw⟩
        subst hw
        go_wp2_with fail
        refine HQ1.out _ _ _ ?_
        go_ret
        exact ⟨rfl, HR5.out.2.2⟩
      · have HF := Lib.hid (feed_wait hone HR.out.1 HOwn.out (Nat.lt_succ_self sp) HR.out.1.lt hl5 (by simp) (says_wait (m := mp) hl5 HFull.out (by omega) (by omega) (by omega)))
        have HBg := Lib.hid hbig
        clear hone hbig
        go_wp2_with fail
        refine HF.out.mono ?_
        clear hs1 hex hi hn hlt
        rintro r w5 ⟨kv, rfl, hb, hO5, hown5⟩
        obtain ⟨al5, c5, rfl⟩ := owns_shape (by decide) hown5
        have hRd := reads_any hown5 (by intro e; rw [e] at hl2; simp at hl2)
        have HNd := Lib.hid (need_ok hO5 hl5 (owns_le hown5) hl5 hRd HFull.out (by omega))
        have HR5 := Lib.hid (And.intro hO5 (And.intro (HR.out.2.2.1.below hb HSp.out) (HR.out.2.2.2.trans (hb.mono (Nat.le_of_lt HSp.out)))))
        have kl := HR5.out.2.1.cells
        have hdg := HBg.out
        have hnd : (s.length : Int) + (1 + L) - s.length = 1 + L := by omega
        rw [hnd] at HNd
        clear hb hO5 hown5 hRd HR HOwn HF hnd
        go_wp2_with fail
        refine (stat_any HR5.out.1).mono ?_
        rintro r w6 ⟨rfl, hw⟩
        subst hw
        go_wp2_with fail
        refine (sttold_any HR5.out.1).mono ?_
        rintro r w6 ⟨rfl, hw⟩
        subst hw
        go_wp2_with fail
        refine (stkept_any HR5.out.1).mono ?_
        rintro r w6 ⟨rfl, hw⟩
        subst hw
        go_wp2_with fail
        refine HNd.out.mono ?_
        rintro r w7 ⟨rfl, hb⟩
        have HB7 := Lib.hid (below_thenh HR5.out.2.2 hb)
        clear hb
        go_wp2_with fail
        refine HQ1.out _ _ _ ?_
        go_ret
        exact ⟨rfl, HB7.out⟩
end Go.Proofs.YtlfgkdiehmoohaaGreatDoor
