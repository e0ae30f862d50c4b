/- snhead.Read; polyglotlaw21.lives. -/
import Derived.Test.YtbacnaplpfmpnaaDoorSnA
namespace Go.Proofs.YtbacnaplpfmpnaaDoor
open Go.RowKit

theorem results_four {fn : Func} {t u v x : Tmp} (h : fn.results = #[.tmp t, .tmp u, .tmp v, .tmp x]) (tmps : Array Value) (P : Program) (w : World) :
    (results fn tmps).run P w = .ok (.tuple #[tmps.getD t undef, tmps.getD u undef, tmps.getD v undef, tmps.getD x undef]) w := by
  simp [results, h]
set_option maxHeartbeats 1600000 in
theorem snread_any (t : List UInt8) (ht : (t.length : Int) ≤ 9223372036854775807) (w : World) : Calls Tryd.prog 46 #[.string ⟨t.toArray⟩] w fun e w' => e = .returned (.tuple #[.int .i64 (snR t).1, .int .i64 (snR t).2.1, .int .i64 (snR t).2.2.1, .int .i64 (snR t).2.2.2]) ∧ Below w.heap.size w w' := by
  by_cases h1 : t.length < 1
  · have hr : snR t = (0, 0, 0, 3) := by unfold snR; rw [if_pos h1]
    rw [hr]
    clear hr
    go_enter Tryd.func46, Tryd.ntmps46
    go_wp2_with fail
    refine (new_any t _).mono ?_
    rintro e w1 ⟨b, rfl, hb, C, hg⟩
    have hB := below_grown hg
    clear hg
    go_wp2_with fail
    refine (num_short C 1 (by omega) (by omega) ht).mono ?_
    rintro e wx ⟨rfl, K, hg⟩
    replace hB := hB.grown hg hB.size (fun j e => by cases e; exact hb)
    clear hg C
    go_wp2_with fail
    refine (num_err K 1 (by omega) (by decide) ht).mono ?_
    rintro e wx ⟨rfl, C, hg⟩
    replace hB := hB.grown hg hB.size (fun j e => by cases e; exact hb)
    clear hg K
    go_wp2_with fail
    refine (err_any C).mono ?_
    rintro e w ⟨rfl, rfl⟩
    go_wp2
    ((try simp only [Exit.inBlock, Exit.then]); refine bodyPost_ret (results_four rfl _ _ _) rfl ?_)
    exact ⟨rfl, hB⟩
  by_cases hv : num t 0 1 = 1
  · by_cases h4 : t.length < 4
    · have hr : snR t = (0, 0, 0, 3) := by unfold snR; rw [if_neg h1, if_pos hv, if_pos h4]
      rw [hr]
      have HV := Lib.hid hv
      clear hr hv
      by_cases h3 : t.length < 3
      · go_enter Tryd.func46, Tryd.ntmps46
        go_wp2_with fail
        refine (new_any t _).mono ?_
        rintro e w1 ⟨b, rfl, hb, C, hg⟩
        have hB := below_grown hg
        clear hg
        go_wp2_with fail
        refine (num_ok C 1 (by omega) (by omega) ht).mono ?_
        rintro e wx ⟨rfl, K, hg⟩
        replace hB := hB.grown hg hB.size (fun j e => by cases e; exact hb)
        clear hg C
        rw [HV.out]
        go_wp2_with fail
        refine (num_short K 2 (by omega) (by omega) ht).mono ?_
        rintro e wx ⟨rfl, C, hg⟩
        replace hB := hB.grown hg hB.size (fun j e => by cases e; exact hb)
        clear hg K
        go_wp2_with fail
        refine (num_err C 1 (by omega) (by decide) ht).mono ?_
        rintro e wx ⟨rfl, K, hg⟩
        replace hB := hB.grown hg hB.size (fun j e => by cases e; exact hb)
        clear hg C
        go_wp2_with fail
        refine (err_any K).mono ?_
        rintro e w ⟨rfl, rfl⟩
        go_wp2
        ((try simp only [Exit.inBlock, Exit.then]); refine bodyPost_ret (results_four rfl _ _ _) rfl ?_)
        exact ⟨rfl, hB⟩
      · have hs := num_two t 1
        generalize hn : num t 1 2 = L at hs
        have hw : IntKind.i64.wrap L = L := by rw [IntKind.wrap_i64]; omega
        have HN := Lib.hid hn
        clear hn
        go_enter Tryd.func46, Tryd.ntmps46
        go_wp2_with fail
        refine (new_any t _).mono ?_
        rintro e w1 ⟨b, rfl, hb, C, hg⟩
        have hB := below_grown hg
        clear hg
        go_wp2_with fail
        refine (num_ok C 1 (by omega) (by omega) ht).mono ?_
        rintro e wx ⟨rfl, K, hg⟩
        replace hB := hB.grown hg hB.size (fun j e => by cases e; exact hb)
        clear hg C
        rw [HV.out]
        go_wp2_with fail
        refine (num_ok K 2 (by omega) (by omega) ht).mono ?_
        rintro e wx ⟨rfl, C, hg⟩
        replace hB := hB.grown hg hB.size (fun j e => by cases e; exact hb)
        clear hg K
        rw [show 0 + 1 = 1 from rfl, HN.out]
        go_wp2_with fail
        refine (num_short C 1 (by omega) (by omega) ht).mono ?_
        rintro e wx ⟨rfl, K, hg⟩
        replace hB := hB.grown hg hB.size (fun j e => by cases e; exact hb)
        clear hg C
        go_wp2_with fail
        refine (err_any K).mono ?_
        rintro e w ⟨rfl, rfl⟩
        go_wp2
        ((try simp only [Exit.inBlock, Exit.then]); refine bodyPost_ret (results_four rfl _ _ _) rfl ?_)
        exact ⟨rfl, hB⟩
    have hr : snR t = snTail (num t 3 1) 4 (num t 1 2) := by unfold snR; rw [if_neg h1, if_pos hv, if_neg h4]
    rw [hr]
    have hs := num_two t 1
    have hk := num_one t 3
    have HV := Lib.hid hv
    clear hr hv
    obtain ⟨L, hL⟩ : ∃ L, L = num t 1 2 := ⟨_, rfl⟩
    obtain ⟨k, hK⟩ : ∃ k, k = num t 3 1 := ⟨_, rfl⟩
    rw [← hL] at hs ⊢
    rw [← hK] at hk ⊢
    have hw : IntKind.i64.wrap L = L := by rw [IntKind.wrap_i64]; omega
    have hw2 : IntKind.i64.wrap k = k := by rw [IntKind.wrap_i64]; omega
    have HL := Lib.hid hL
    have HK := Lib.hid hK
    clear hL hK
    by_cases h258 : L < 258
    · rw [show snTail k 4 L = (0, 0, 0, 5) by unfold snTail; rw [if_pos (by omega)]]
      by_cases h4L : L < 4
      · go_enter Tryd.func46, Tryd.ntmps46
        go_wp2_with fail
        refine (new_any t _).mono ?_
        rintro e w1 ⟨b, rfl, hb, C, hg⟩
        have hB := below_grown hg
        clear hg
        go_wp2_with fail
        refine (num_ok C 1 (by omega) (by omega) ht).mono ?_
        rintro e wx ⟨rfl, K, hg⟩
        replace hB := hB.grown hg hB.size (fun j e => by cases e; exact hb)
        clear hg C
        rw [HV.out]
        go_wp2_with fail
        refine (num_ok K 2 (by omega) (by omega) ht).mono ?_
        rintro e wx ⟨rfl, C, hg⟩
        replace hB := hB.grown hg hB.size (fun j e => by cases e; exact hb)
        clear hg K
        rw [show 0 + 1 = 1 from rfl, ← HL.out]
        rw [show 0 + 1 + 2 = 3 from rfl] at C
        go_wp2_with fail
        refine (num_ok C 1 (by omega) (by omega) ht).mono ?_
        rintro e wx ⟨rfl, K, hg⟩
        replace hB := hB.grown hg hB.size (fun j e => by cases e; exact hb)
        clear hg C
        rw [← HK.out]
        go_wp2_with fail
        refine (err_any K).mono ?_
        rintro e w ⟨rfl, rfl⟩
        go_wp2
        ((try simp only [Exit.inBlock, Exit.then]); refine bodyPost_ret (results_four rfl _ _ _) rfl ?_)
        exact ⟨rfl, hB⟩
      · go_enter Tryd.func46, Tryd.ntmps46
        go_wp2_with fail
        refine (new_any t _).mono ?_
        rintro e w1 ⟨b, rfl, hb, C, hg⟩
        have hB := below_grown hg
        clear hg
        go_wp2_with fail
        refine (num_ok C 1 (by omega) (by omega) ht).mono ?_
        rintro e wx ⟨rfl, K, hg⟩
        replace hB := hB.grown hg hB.size (fun j e => by cases e; exact hb)
        clear hg C
        rw [HV.out]
        go_wp2_with fail
        refine (num_ok K 2 (by omega) (by omega) ht).mono ?_
        rintro e wx ⟨rfl, C, hg⟩
        replace hB := hB.grown hg hB.size (fun j e => by cases e; exact hb)
        clear hg K
        rw [show 0 + 1 = 1 from rfl, ← HL.out]
        rw [show 0 + 1 + 2 = 3 from rfl] at C
        go_wp2_with fail
        refine (num_ok C 1 (by omega) (by omega) ht).mono ?_
        rintro e wx ⟨rfl, K, hg⟩
        replace hB := hB.grown hg hB.size (fun j e => by cases e; exact hb)
        clear hg C
        rw [← HK.out]
        go_wp2_with fail
        refine (err_any K).mono ?_
        rintro e w ⟨rfl, rfl⟩
        go_wp2
        ((try simp only [Exit.inBlock, Exit.then]); refine bodyPost_ret (results_four rfl _ _ _) rfl ?_)
        exact ⟨rfl, hB⟩
    have h4L : ¬ L < 4 := by omega
    cases hkn : knownK k with
    | false =>
      rw [show snTail k 4 L = (0, 0, 0, 8) by unfold snTail; rw [if_neg (by omega), if_pos hkn]]
      have HKN := Lib.hid hkn
      clear hkn
      go_enter Tryd.func46, Tryd.ntmps46
      go_wp2_with fail
      refine (new_any t _).mono ?_
      rintro e w1 ⟨b, rfl, hb, C, hg⟩
      have hB := below_grown hg
      clear hg
      go_wp2_with fail
      refine (num_ok C 1 (by omega) (by omega) ht).mono ?_
      rintro e wx ⟨rfl, K, hg⟩
      replace hB := hB.grown hg hB.size (fun j e => by cases e; exact hb)
      clear hg C
      rw [HV.out]
      go_wp2_with fail
      refine (num_ok K 2 (by omega) (by omega) ht).mono ?_
      rintro e wx ⟨rfl, C, hg⟩
      replace hB := hB.grown hg hB.size (fun j e => by cases e; exact hb)
      clear hg K
      rw [show 0 + 1 = 1 from rfl, ← HL.out]
      rw [show 0 + 1 + 2 = 3 from rfl] at C
      go_wp2_with fail
      refine (num_ok C 1 (by omega) (by omega) ht).mono ?_
      rintro e wx ⟨rfl, K, hg⟩
      replace hB := hB.grown hg hB.size (fun j e => by cases e; exact hb)
      clear hg C
      rw [← HK.out]
      go_wp2_with fail
      refine (err_any K).mono ?_
      rintro e w ⟨rfl, rfl⟩
      go_wp2_with fail
      refine (known_any _ _).mono ?_
      rintro e w ⟨rfl, rfl⟩
      rw [HKN.out]
      go_wp2
      ((try simp only [Exit.inBlock, Exit.then]); refine bodyPost_ret (results_four rfl _ _ _) rfl ?_)
      exact ⟨rfl, hB⟩
    | true =>
      rw [show snTail k 4 L = (k, 4, L, 0) by unfold snTail; rw [if_neg (by omega), if_neg (by simp [hkn])]]
      have HKN := Lib.hid hkn
      clear hkn
      go_enter Tryd.func46, Tryd.ntmps46
      go_wp2_with fail
      refine (new_any t _).mono ?_
      rintro e w1 ⟨b, rfl, hb, C, hg⟩
      have hB := below_grown hg
      clear hg
      go_wp2_with fail
      refine (num_ok C 1 (by omega) (by omega) ht).mono ?_
      rintro e wx ⟨rfl, K, hg⟩
      replace hB := hB.grown hg hB.size (fun j e => by cases e; exact hb)
      clear hg C
      rw [HV.out]
      go_wp2_with fail
      refine (num_ok K 2 (by omega) (by omega) ht).mono ?_
      rintro e wx ⟨rfl, C, hg⟩
      replace hB := hB.grown hg hB.size (fun j e => by cases e; exact hb)
      clear hg K
      rw [show 0 + 1 = 1 from rfl, ← HL.out]
      rw [show 0 + 1 + 2 = 3 from rfl] at C
      go_wp2_with fail
      refine (num_ok C 1 (by omega) (by omega) ht).mono ?_
      rintro e wx ⟨rfl, K, hg⟩
      replace hB := hB.grown hg hB.size (fun j e => by cases e; exact hb)
      clear hg C
      rw [← HK.out]
      go_wp2_with fail
      refine (err_any K).mono ?_
      rintro e w ⟨rfl, rfl⟩
      go_wp2_with fail
      refine (known_any _ _).mono ?_
      rintro e w ⟨rfl, rfl⟩
      rw [HKN.out]
      go_wp2
      ((try simp only [Exit.inBlock, Exit.then]); refine bodyPost_ret (results_four rfl _ _ _) rfl ?_)
      exact ⟨rfl, hB⟩
  have hs := num_one t 0
  obtain ⟨L, hL⟩ : ∃ L, L = num t 0 1 := ⟨_, rfl⟩
  have hvL : ¬ L = 1 := by rw [hL]; exact hv
  have hv1 : (L == 1) = false := by simpa using hvL
  rw [← hL] at hs
  have hw : IntKind.i64.wrap L = L := by rw [IntKind.wrap_i64]; omega
  by_cases h2 : t.length < 2
  · have hr : snR t = (0, 0, 0, 3) := by unfold snR; rw [if_neg h1, if_neg hv, if_pos h2]
    rw [hr]
    have HL := Lib.hid hL
    clear hr hv hL hvL
    go_enter Tryd.func46, Tryd.ntmps46
    go_wp2_with fail
    refine (new_any t _).mono ?_
    rintro e w1 ⟨b, rfl, hb, C, hg⟩
    have hB := below_grown hg
    clear hg
    go_wp2_with fail
    refine (num_ok C 1 (by omega) (by omega) ht).mono ?_
    rintro e wx ⟨rfl, K, hg⟩
    replace hB := hB.grown hg hB.size (fun j e => by cases e; exact hb)
    clear hg C
    rw [← HL.out]
    go_wp2_with fail
    refine (num_short K 1 (by omega) (by omega) ht).mono ?_
    rintro e wx ⟨rfl, C, hg⟩
    replace hB := hB.grown hg hB.size (fun j e => by cases e; exact hb)
    clear hg K
    go_wp2_with fail
    refine (err_any C).mono ?_
    rintro e w ⟨rfl, rfl⟩
    go_wp2
    ((try simp only [Exit.inBlock, Exit.then]); refine bodyPost_ret (results_four rfl _ _ _) rfl ?_)
    exact ⟨rfl, hB⟩
  have hr : snR t = snTail (num t 1 1) 2 L := by unfold snR; rw [if_neg h1, if_neg hv, if_neg h2, hL]
  rw [hr]
  have hk := num_one t 1
  obtain ⟨k, hK⟩ : ∃ k, k = num t 1 1 := ⟨_, rfl⟩
  rw [← hK] at hk ⊢
  have hw2 : IntKind.i64.wrap k = k := by rw [IntKind.wrap_i64]; omega
  have HL := Lib.hid hL
  have HK := Lib.hid hK
  clear hL hK hr hv hvL
  by_cases h2L : L < 2
  · rw [show snTail k 2 L = (0, 0, 0, 5) by unfold snTail; rw [if_pos (by omega)]]
    go_enter Tryd.func46, Tryd.ntmps46
    go_wp2_with fail
    refine (new_any t _).mono ?_
    rintro e w1 ⟨b, rfl, hb, C, hg⟩
    have hB := below_grown hg
    clear hg
    go_wp2_with fail
    refine (num_ok C 1 (by omega) (by omega) ht).mono ?_
    rintro e wx ⟨rfl, K, hg⟩
    replace hB := hB.grown hg hB.size (fun j e => by cases e; exact hb)
    clear hg C
    rw [← HL.out]
    rw [show 0 + 1 = 1 from rfl] at K
    go_wp2_with fail
    refine (num_ok K 1 (by omega) (by omega) ht).mono ?_
    rintro e wx ⟨rfl, C, hg⟩
    replace hB := hB.grown hg hB.size (fun j e => by cases e; exact hb)
    clear hg K
    rw [← HK.out]
    go_wp2_with fail
    refine (err_any C).mono ?_
    rintro e w ⟨rfl, rfl⟩
    go_wp2
    ((try simp only [Exit.inBlock, Exit.then]); refine bodyPost_ret (results_four rfl _ _ _) rfl ?_)
    exact ⟨rfl, hB⟩
  cases hkn : knownK k with
  | false =>
    rw [show snTail k 2 L = (0, 0, 0, 8) by unfold snTail; rw [if_neg (by omega), if_pos hkn]]
    have HKN := Lib.hid hkn
    clear hkn
    go_enter Tryd.func46, Tryd.ntmps46
    go_wp2_with fail
    refine (new_any t _).mono ?_
    rintro e w1 ⟨b, rfl, hb, C, hg⟩
    have hB := below_grown hg
    clear hg
    go_wp2_with fail
    refine (num_ok C 1 (by omega) (by omega) ht).mono ?_
    rintro e wx ⟨rfl, K, hg⟩
    replace hB := hB.grown hg hB.size (fun j e => by cases e; exact hb)
    clear hg C
    rw [← HL.out]
    rw [show 0 + 1 = 1 from rfl] at K
    go_wp2_with fail
    refine (num_ok K 1 (by omega) (by omega) ht).mono ?_
    rintro e wx ⟨rfl, C, hg⟩
    replace hB := hB.grown hg hB.size (fun j e => by cases e; exact hb)
    clear hg K
    rw [← HK.out]
    go_wp2_with fail
    refine (err_any C).mono ?_
    rintro e w ⟨rfl, rfl⟩
    go_wp2_with fail
    refine (known_any _ _).mono ?_
    rintro e w ⟨rfl, rfl⟩
    rw [HKN.out]
    go_wp2
    ((try simp only [Exit.inBlock, Exit.then]); refine bodyPost_ret (results_four rfl _ _ _) rfl ?_)
    exact ⟨rfl, hB⟩
  | true =>
    rw [show snTail k 2 L = (k, 2, L, 0) by unfold snTail; rw [if_neg (by omega), if_neg (by simp [hkn])]]
    have HKN := Lib.hid hkn
    clear hkn
    go_enter Tryd.func46, Tryd.ntmps46
    go_wp2_with fail
    refine (new_any t _).mono ?_
    rintro e w1 ⟨b, rfl, hb, C, hg⟩
    have hB := below_grown hg
    clear hg
    go_wp2_with fail
    refine (num_ok C 1 (by omega) (by omega) ht).mono ?_
    rintro e wx ⟨rfl, K, hg⟩
    replace hB := hB.grown hg hB.size (fun j e => by cases e; exact hb)
    clear hg C
    rw [← HL.out]
    rw [show 0 + 1 = 1 from rfl] at K
    go_wp2_with fail
    refine (num_ok K 1 (by omega) (by omega) ht).mono ?_
    rintro e wx ⟨rfl, C, hg⟩
    replace hB := hB.grown hg hB.size (fun j e => by cases e; exact hb)
    clear hg K
    rw [← HK.out]
    go_wp2_with fail
    refine (err_any C).mono ?_
    rintro e w ⟨rfl, rfl⟩
    go_wp2_with fail
    refine (known_any _ _).mono ?_
    rintro e w ⟨rfl, rfl⟩
    rw [HKN.out]
    go_wp2
    ((try simp only [Exit.inBlock, Exit.then]); refine bodyPost_ret (results_four rfl _ _ _) rfl ?_)
    exact ⟨rfl, hB⟩

end Go.Proofs.YtbacnaplpfmpnaaDoor
