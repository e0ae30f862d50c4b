/- polyglotref22.Codes, polyglotkit.Same[int]; SnmsgCalls. -/
import Derived.Test.YtbacnaplpfmpnaaGreatDoorRfV
import Derived.Test.YtbacnaplpfmpnaaGreatDoorLkC
import Derived.Deep.RegionHeld3
import Derived.BigQuiet
namespace Go.Proofs.YtbacnaplpfmpnaaGreatDoor
open Go Go.RowKit Go.Shelf
set_option linter.unusedVariables false
set_option linter.unusedSimpArgs false

theorem known_kind {n : Nat} (h : n < 254) : knownK (n : Int) = kindM (n : Int) := by
  rw [← msgB_kindM]
  unfold msgB
  have : ((n : Int) == 254) = false := by simp; omega
  simp [this] <;> omega
theorem ints_of_row {w : World} {base : Nat} {v : Value} {l : List Int} (h : w.ownsRow base 3 1 v l.length (l.map (Value.int .i64))) (hl : l.length ≤ 100000) : IntsAt w v l := by
  rcases h.2 with ⟨rfl, h0⟩ | ⟨g, cap, cur, rfl, hb, hg, hk, hm, hcs, hx⟩
  · obtain rfl : l = [] := List.length_eq_zero_iff.1 h0
    exact intsat_nil w
  · refine ⟨_, _, rfl, hl, .inr ⟨g, 0, rfl, (Array.getElem?_eq_some_iff.1 hg).1, fun i hi => ?_⟩⟩
    refine Obj?.cell (cs := cur) hg (0 + i) _ ?_
    have h2 : (l.map (Value.int .i64))[i]? = some (.int .i64 l[i]) := by simp [hi]
    rw [← hx, List.getElem?_take_of_lt (by omega)] at h2
    rw [Nat.zero_add]
    simpa using h2
set_option maxRecDepth 100000 in
set_option maxHeartbeats 1600000 in
theorem rcodes_any (w : World) : Calls Tryz.prog 22 #[] w fun r w' => ∃ v, r = .returned v ∧ w'.ownsRow w.heap.size 3 1 v allKinds.length (allKinds.map (Value.int .i64)) ∧ Below w.heap.size w w' := by
  obtain ⟨i0, hi, hz0, hz1, hz2⟩ := info_parts infoInt
  go_enter Tryz.func22, Tryz.ntmps22
  go_wp2
  go_loopw [1, 2] (fun v i wr => ∃ n : Nat, n ≤ 254 ∧ i = .int .i64 n ∧ wr.ownsRow w.heap.size 3 1 v (kindsBelow n).length ((kindsBelow n).map (Value.int .i64)) ∧ Below w.heap.size w wr) (fun _ i _ => (254 - intOf i).toNat)
  case atStart => exact ⟨0, by omega, rfl, World.ownsRow_nil _ _ _ _, Below.refl _ _⟩
  case round =>
    obtain ⟨n, hn, rfl, hown, hB⟩ := hrel
    obtain ⟨L, hL⟩ : ∃ L, L = kindsBelow n := ⟨_, rfl⟩
    have hlen : L.length ≤ n := by rw [hL]; exact kindsBelow_len n
    rw [← hL] at hown
    by_cases hlt : n < 254
    · have d1 : decide ((n : Int) < 254) = true := by simp; omega
      have Hs := Lib.hid (And.intro (kindsBelow_succ n) hL)
      have HKK := Lib.hid (known_kind hlt)
      clear hL
      cases hk : kindM n with
      | true =>
        go_wp2_with fail
        refine (rknown_any n _).mono ?_
        rintro r w1 ⟨rfl, rfl⟩
        rw [HKK.out, hk]
        have HK := Lib.hid hk
        clear hk
        go_wp2_with (at_builtin; refine wpList_append_own _ rfl _ _ 39 rfl w.heap.size 3 i0 (.int .i64 0) 1 8 Tryz.underlying39 hi hz0 hz1 hz2 rfl (by decide) _ _ _ rfl (hown.alloc _) ⟨wr.heap.size, 0, none⟩ 1 1 [.int .i64 n] rfl rfl (cell_one_new _ _ _) (by simp [Value.oneCell']) (by unfold maxLen; omega) (by omega) (by have := hB.size; simp; omega) ?_; intro v' w1 hown1 hgrow _)
        have hB2 : Below w.heap.size w w1 := below_append hB hown hgrow
        go_roundw
        case rel => exact ⟨n + 1, by omega, by go_num, by rw [Hs.out.1, if_pos HK.out, ← Hs.out.2]; simpa using hown1, hB2⟩
        case measure => simp [intOf]; omega
      | false =>
        go_wp2_with fail
        refine (rknown_any n _).mono ?_
        rintro r w1 ⟨rfl, rfl⟩
        rw [HKK.out, hk]
        have HK := Lib.hid hk
        clear hk
        go_wp2
        go_roundw
        case rel => exact ⟨n + 1, by omega, by go_num, by rw [Hs.out.1, if_neg (by simp [HK.out]), ← Hs.out.2]; exact hown, hB⟩
        case measure => simp [intOf]; omega
    · obtain rfl : n = 254 := by omega
      rw [kindsBelow_all] at hL
      subst hL
      have HO := Lib.hid (And.intro hown hB)
      clear hown hB
      go_wp2
      go_ret
      exact ⟨_, rfl, HO.out.1, HO.out.2⟩
set_option maxRecDepth 100000 in
set_option maxHeartbeats 1600000 in
/-- The same numbers. -/
theorem same_ints {va vb : Value} {l : List Int} {w : World} (hA : IntsAt w va l) (hB : IntsAt w vb l) :
    Calls Tryz.prog 20 #[va, vb] w fun e w' => e = .returned (.bool true) ∧ ∃ n, w' = w.drewN n := by
  have HA := Lib.hid hA
  have HB := Lib.hid hB
  obtain ⟨a, ca, rfl, hl, -⟩ := hA
  obtain ⟨b, cb, rfl, -, -⟩ := hB
  obtain ⟨n, hN⟩ : ∃ n, n = l.length := ⟨_, rfl⟩
  rw [← hN] at HA HB hl ⊢
  have HN := Lib.hid hN
  clear hN
  go_enter Tryz.func20, Tryz.ntmps20
  go_wp2
  go_loopw [5] (fun i wr => ∃ k q : Nat, k ≤ n ∧ i = .int .i64 k ∧ wr = w.drewN q) (fun i _ => n - (intOf i).toNat)
  case atStart => exact ⟨0, 0, Nat.zero_le _, rfl, rfl⟩
  case round =>
    obtain ⟨k, q, hk, rfl, rfl⟩ := hrel
    by_cases hlt : k < n
    · have hkl : k < l.length := by rw [← HN.out]; exact hlt
      obtain ⟨ba, oa, rfl, -, ka⟩ := intat_cell HA.out k hkl
      obtain ⟨bb, ob, rfl, -, kb⟩ := intat_cell HB.out k hkl
      obtain ⟨x, hx⟩ : ∃ x, x = l[k] := ⟨_, rfl⟩
      rw [← hx] at ka kb
      clear hx
      have dx : (x == x) = true := by simp
      have dx2 : (x != x) = false := by simp
      have hki : (k : Int) < n := by omega
      have hk0 : (0 : Int) ≤ (k : Int) := by omega
      go_wp2
      go_quiet (fail)
      go_wp2
      go_roundw
      case rel => exact ⟨k + 1, _, by omega, by go_num, rfl⟩
      case measure => simp [intOf]; omega
    · obtain rfl : k = n := by omega
      have hnj : ¬ ((k : Int) < k) := by omega
      go_wp2
      go_ret
      exact ⟨rfl, q, rfl⟩
attribute [local go_sem ↓] Go.wp_at_zero Go.wp_at_succ load_Msg store_Msg
attribute [local irreducible] rowSem rowStore
theorem eql_msg (m : Ms) (w : World) : (binOp .eql 25 (.agg m.cs) (.agg m.cs)).run Tryz.prog w = .ok (.bool true) w := by
  unfold Ms.cs
  go_simp
/-- What the orders of the last region keep. -/
abbrev SCl (m X : Ms) (w : World) (bX bY : Nat) (W : World) : Prop :=
  Below w.heap.size w W ∧ Hid (Obj? W w.heap.size m.cs 25 ∧ Obj? W bX X.cs 25 ∧ Obj? W bY X.cs 25) ∧ (rowSem 25 ⟨w.heap.size, 0, none⟩).run Tryz.prog W = .ok (.agg m.cs) W ∧ (rowSem 25 ⟨bX, 0, none⟩).run Tryz.prog W = .ok (.agg X.cs) W ∧ (rowSem 25 ⟨bY, 0, none⟩).run Tryz.prog W = .ok (.agg X.cs) W
theorem sCl_mk {m X : Ms} {w W : World} {bX bY : Nat} (hB : Below w.heap.size w W) (h1 : Obj? W w.heap.size m.cs 25) (h2 : Obj? W bX X.cs 25) (h3 : Obj? W bY X.cs 25) : SCl m X w bX bY W :=
  ⟨hB, ⟨h1, h2, h3⟩, load_msgA rfl h1, load_msgA rfl h2, load_msgA rfl h3⟩
theorem sCl_step {m X : Ms} {w W W' : World} {bX bY : Nat} (hb : Below W.heap.size W W') (hB : Below w.heap.size w W) (h : Hid (Obj? W w.heap.size m.cs 25 ∧ Obj? W bX X.cs 25 ∧ Obj? W bY X.cs 25)) : SCl m X w bX bY W' :=
  sCl_mk (hB.trans (hb.mono hB.size)) (Obj?.below h.out.1 hb (Obj?.lt h.out.1)) (Obj?.below h.out.2.1 hb (Obj?.lt h.out.2.1)) (Obj?.below h.out.2.2 hb (Obj?.lt h.out.2.2))
theorem sCl_drewN {m X : Ms} {w W : World} {bX bY : Nat} (hB : Below w.heap.size w W) (h : Hid (Obj? W w.heap.size m.cs 25 ∧ Obj? W bX X.cs 25 ∧ Obj? W bY X.cs 25)) (q : Nat) : SCl m X w bX bY (W.drewN q) := sCl_step (below_grown (quiet_grown ⟨q, rfl⟩ none)) hB h
theorem sCl_drew2 {m X : Ms} {w W : World} {bX bY : Nat} (hB : Below w.heap.size w W) (h : Hid (Obj? W w.heap.size m.cs 25 ∧ Obj? W bX X.cs 25 ∧ Obj? W bY X.cs 25)) : SCl m X w bX bY W.drew := sCl_drewN hB h 1
theorem sCl_drew {m X : Ms} {w W : World} {bX bY : Nat} (h : SCl m X w bX bY W) : SCl m X w bX bY W.drew := sCl_drew2 h.1 h.2.1
theorem allKinds_len : allKinds.length ≤ 100000 := by decide
set_option maxRecDepth 100000 in
set_option maxHeartbeats 6400000 in
theorem snmsgCalls_go (m : Ms) (s name : List UInt8) (id : Int) (h : lightM m = true) (hs : s.length ≤ 400) (hnm : name.length ≤ 400) (w : World) (hm : Mx w) :
    Calls Tryz.prog 3 #[.agg m.cs, .string ⟨s.toArray⟩, .string ⟨name.toArray⟩, .int .i64 id] w fun e w' => e = .returned (.bool true) ∧ Below w.heap.size w w' := by
  have HMW := Lib.hid hm
  have HO0 := Lib.hid (Obj?.new w m.cs 25)
  have HB0 := Lib.hid (below_al (Below.refl _ w) (.cells m.cs 25 (0, 0)))
  have HLV := Lib.hid lives22
  have HG := Lib.hid (fun w => lightmsg_any m w)
  have hnd := light_len h
  rw [h] at HG
  have HBy := Lib.hid (fun W (hB : Below w.heap.size w W) => msbytes_any m (by omega) (by omega) W (HMW.out.below hB HMW.out.1))
  have HBr := Lib.hid (fun W => rbytes_any m (by omega) (by omega) W)
  have HCk := Lib.hid (fun W (hB : Below w.heap.size w W) => check_any m (by omega) (by omega) W (HMW.out.below hB HMW.out.1))
  have HCr := Lib.hid (fun W => rcheck_any m (by omega) (by omega) W)
  have HRd := Lib.hid (fun W (hB : Below w.heap.size w W) => msread_any s (by omega) W (HMW.out.below hB HMW.out.1))
  have HRr := Lib.hid (fun W => qread_any s (by omega) W)
  have HSh := Lib.hid (fun W => short_any name (by omega) W)
  have HSr := Lib.hid (fun W => rshort22_any name (by omega) W)
  obtain ⟨B, hB⟩ : ∃ B, B = (bytesM m).1 := ⟨_, rfl⟩
  obtain ⟨E, hE⟩ : ∃ E, E = (bytesM m).2 := ⟨_, rfl⟩
  obtain ⟨X, hX⟩ : ∃ X, X = (readM s).1 := ⟨_, rfl⟩
  obtain ⟨k, hk⟩ : ∃ k, k = (readM s).2.1 := ⟨_, rfl⟩
  obtain ⟨F, hF⟩ : ∃ F, F = (readM s).2.2 := ⟨_, rfl⟩
  obtain ⟨c, hc⟩ : ∃ c, c = checkM m := ⟨_, rfl⟩
  obtain ⟨sn, hsn⟩ : ∃ x, x = (shortF name).1 := ⟨_, rfl⟩
  obtain ⟨sb, hsb⟩ : ∃ x, x = (shortF name).2 := ⟨_, rfl⟩
  obtain ⟨nn, hnn⟩ : ∃ x, x = (nameOfF id).1 := ⟨_, rfl⟩
  obtain ⟨nb, hnb⟩ : ∃ x, x = (nameOfF id).2 := ⟨_, rfl⟩
  have HNa := Lib.hid (fun W => nameof_any id W)
  have HNr := Lib.hid (fun W => rnameof22_any id W)
  rw [← hB, ← hE] at HBy HBr
  rw [← hX, ← hk, ← hF] at HRd HRr
  rw [← hc] at HCk HCr
  rw [← hsn, ← hsb] at HSh HSr
  rw [← hnn, ← hnb] at HNa HNr
  clear hB hE hX hk hF hc hsn hsb hnn hnb h
  have d0 : (s.length : Int) ≤ 400 := by omega
  have d0b : (name.length : Int) ≤ 400 := by omega
  clear hnd hs hnm hm
  have q1 : (B == B) = true := by simp
  have q2 : (E == E) = true := by simp
  have q3 : (k == k) = true := by simp
  have q4 : (F == F) = true := by simp
  have q5 : (c == c) = true := by simp
  have q6 : (sn == sn) = true := by simp
  have q7 : (sb == sb) = true := by simp
  have q8 : (nn == nn) = true := by simp
  have q9 : (nb == nb) = true := by simp
  have HQ := Lib.hid (And.intro q1 (And.intro q2 (And.intro q3 (And.intro q4 (And.intro q5 (And.intro q6 (And.intro q7 (And.intro q8 q9))))))))
  clear q1 q2 q3 q4 q5 q6 q7 q8 q9
  go_enter Tryz.func3, Tryz.ntmps3
  refine wp_hide fun Q1 hQ1 => ?_
  have HQ1 := Lib.hid hQ1
  clear hQ1
  go_wp2_with fail
  refine (HLV.out _ (HMW.out.below HB0.out HMW.out.1)).mono ?_
  rintro r w1 ⟨rfl, hb⟩
  have HO1 := Lib.hid (HO0.out.below hb HO0.out.lt)
  have HB1 := Lib.hid (HB0.out.trans (hb.mono HB0.out.size))
  have hld := load_msgA (A := m.cs) rfl HO1.out
  clear hb
  go_wp2_with fail
  refine (HG.out _).mono ?_
  rintro r w2 ⟨rfl, hb⟩
  have HO2 := Lib.hid (HO1.out.below hb HO1.out.lt)
  have HB2 := Lib.hid (HB1.out.trans (hb.mono HB1.out.size))
  clear hb hld
  have hld := load_msgA (A := m.cs) rfl HO2.out
  go_wp2_with fail
  refine (HBy.out _ HB2.out).mono ?_
  rintro r w3 ⟨rfl, hb⟩
  have HO3 := Lib.hid (HO2.out.below hb HO2.out.lt)
  have HB3 := Lib.hid (HB2.out.trans (hb.mono HB2.out.size))
  clear hb hld
  have hld := load_msgA (A := m.cs) rfl HO3.out
  go_wp2_with fail
  refine (HBr.out _).mono ?_
  rintro r w4 ⟨rfl, hb⟩
  have HO4 := Lib.hid (HO3.out.below hb HO3.out.lt)
  have HB4 := Lib.hid (HB3.out.trans (hb.mono HB3.out.size))
  clear hb hld
  go_wp2_with fail
  refine (HRd.out _ HB4.out).mono ?_
  rintro r w5 ⟨rfl, hb⟩
  have HO5 := Lib.hid ((HO4.out.below hb HO4.out.lt).alloc (.cells X.cs 25 (0, 0)))
  have HB5 := Lib.hid (below_al (HB4.out.trans (hb.mono HB4.out.size)) (.cells X.cs 25 (0, 0)))
  have HX5 := Lib.hid (Obj?.new w5 X.cs 25)
  have hst := store_new w5 X
  clear hb
  go_wp2_with fail
  refine (HRr.out _).mono ?_
  rintro r w6 ⟨rfl, hb⟩
  have HO6 := Lib.hid ((HO5.out.below hb HO5.out.lt).alloc (.cells X.cs 25 (0, 0)))
  have HB6 := Lib.hid (below_al (HB5.out.trans (hb.mono HB5.out.size)) (.cells X.cs 25 (0, 0)))
  have HX6 := Lib.hid ((HX5.out.below hb HX5.out.lt).alloc (.cells X.cs 25 (0, 0)))
  have HY6 := Lib.hid (Obj?.new w6 X.cs 25)
  clear hst
  have hst := store_new w6 X
  clear hb
  go_wp2_with fail
  refine (HSh.out _).mono ?_
  rintro r w7 ⟨rfl, hb⟩
  have HS7 := Lib.hid (sCl_mk (HB6.out.trans (hb.mono HB6.out.size)) (HO6.out.below hb HO6.out.lt) (HX6.out.below hb HX6.out.lt) (HY6.out.below hb HY6.out.lt))
  clear hb hst
  go_wp2_with fail
  refine (HSr.out _).mono ?_
  rintro r w8 ⟨rfl, rfl⟩
  go_wp2_with fail
  refine (HNa.out _).mono ?_
  rintro r w9 ⟨rfl, hb⟩
  have HS9 := Lib.hid (sCl_step hb HS7.out.1 HS7.out.2.1)
  clear hb
  go_wp2_with fail
  refine (HNr.out _).mono ?_
  rintro r w10 ⟨rfl, hb⟩
  have HS10 := Lib.hid (sCl_step hb HS9.out.1 HS9.out.2.1)
  clear hb
  obtain ⟨bX, hbX⟩ : ∃ bX, bX = w5.heap.size := ⟨_, rfl⟩
  obtain ⟨bY, hbY⟩ : ∃ bY, bY = w6.heap.size := ⟨_, rfl⟩
  rw [← hbX, ← hbY] at HS10
  rw [← hbX, ← hbY]
  clear hbX hbY HO0 HO1 HO2 HO3 HO4 HO5 HO6 HB0 HB1 HB2 HB3 HB4 HB5 HB6 HX5 HX6 HY6 HS7 HS9 HLV HG HBy HBr HRd HRr HSh HSr HNa HNr
  obtain ⟨q1, q2, q3, q4, q5, q6, q7, q8, q9⟩ := HQ.out
  have qx := fun W => eql_msg X W
  go_upto_region 13 with fail
  (try dsimp only [List.append])
  have hS0 := HS10.out
  have hS1 := sCl_drew hS0
  go_region_held3 (fun W => Below w.heap.size w W ∧ Hid (Obj? W w.heap.size m.cs 25 ∧ Obj? W bX X.cs 25 ∧ Obj? W bY X.cs 25) ∧ (rowSem 25 ⟨w.heap.size, 0, none⟩).run Tryz.prog W = .ok (.agg m.cs) W ∧ (rowSem 25 ⟨bX, 0, none⟩).run Tryz.prog W = .ok (.agg X.cs) W ∧ (rowSem 25 ⟨bY, 0, none⟩).run Tryz.prog W = .ok (.agg X.cs) W)
    ((first | assumption | exact sCl_drew2 (by assumption) (by assumption) | exact sCl_drewN (by assumption) (by assumption) _ | exact sCl_drew (by assumption)))
    ((go_split_ands; first
        | (go_at_call 18; ((with_reducible refine (HCk.out _ (by assumption)).mono ?_); (rintro e w' ⟨rfl, hb⟩; have hS := sCl_step hb (by assumption) (by assumption))))
        | (go_at_call 19; ((with_reducible refine (HCr.out _).mono ?_); (rintro e w' ⟨rfl, hb⟩; have hS := sCl_step hb (by assumption) (by assumption))))
        | (go_at_call 21; ((with_reducible refine (codes_any _).mono ?_); (rintro e w' ⟨va, rfl, hva, hb⟩; have hS := sCl_step hb (by assumption) (by assumption); have HIa := Lib.hid (ints_of_row hva allKinds_len); clear hva)))
        | (go_at_call 22; ((with_reducible refine (rcodes_any _).mono ?_); (rintro e w' ⟨vb, rfl, hvb, hb⟩; have hS := sCl_step hb (by assumption) (by assumption); have HIb := Lib.hid (And.intro (HIa.out.below hb) (ints_of_row hvb allKinds_len)); clear hvb)))
        | (go_at_call 20; ((with_reducible refine (same_ints HIb.out.1 HIb.out.2).mono ?_); (rintro e w' ⟨rfl, q, rfl⟩; have hS := sCl_drewN (q := q) (by assumption) (by assumption))))))
  all_goals
    go_wp2_with fail
    refine HQ1.out _ _ _ ?_
    go_ret
    exact ⟨rfl, by first | assumption | exact (show SCl m X w bX bY _ by assumption).1⟩
set_option maxRecDepth 100000 in
set_option maxHeartbeats 3200000 in
theorem snmsgCalls_heavy (m : Ms) (s name : List UInt8) (id : Int) (L : Bool) (hL : lightM m = L) (h : L = false ∨ (L = true ∧ 400 < s.length) ∨ (L = true ∧ s.length ≤ 400 ∧ 400 < name.length)) (w : World) (hm : Mx w) :
    Calls Tryz.prog 3 #[.agg m.cs, .string ⟨s.toArray⟩, .string ⟨name.toArray⟩, .int .i64 id] w fun e w' => e = .returned (.bool true) ∧ Below w.heap.size w w' := by
  have HMW := Lib.hid hm
  have HO0 := Lib.hid (Obj?.new w m.cs 25)
  have HB0 := Lib.hid (below_al (Below.refl _ w) (.cells m.cs 25 (0, 0)))
  have HLV := Lib.hid lives22
  have HG := Lib.hid (fun w => lightmsg_any m w)
  rw [hL] at HG
  clear hL hm
  have h3 : L = false ∨ (L = true ∧ (400 : Int) < s.length) ∨ (L = true ∧ ¬ (400 : Int) < s.length ∧ (400 : Int) < name.length) := by
    rcases h with h | ⟨h, h1⟩ | ⟨h, h1, h2⟩
    · exact .inl h
    · exact .inr (.inl ⟨h, by omega⟩)
    · exact .inr (.inr ⟨h, by omega, by omega⟩)
  clear h
  rcases h3 with rfl | ⟨rfl, d1⟩ | ⟨rfl, d1, d2⟩
  all_goals
    go_enter Tryz.func3, Tryz.ntmps3
    go_wp2_with fail
    refine (HLV.out _ (HMW.out.below HB0.out HMW.out.1)).mono ?_
    rintro r w1 ⟨rfl, hb⟩
    have HO1 := Lib.hid (HO0.out.below hb HO0.out.lt)
    have HB1 := Lib.hid (HB0.out.trans (hb.mono HB0.out.size))
    have hld := load_msgA (A := m.cs) rfl HO1.out
    clear hb
    go_wp2_with fail
    refine (HG.out _).mono ?_
    rintro r w2 ⟨rfl, hb⟩
    have HB2 := Lib.hid (HB1.out.trans (hb.mono HB1.out.size))
    clear hb hld
    go_wp2
    go_ret
    exact ⟨rfl, HB2.out⟩
theorem snmsgCalls_walk (m : Ms) (s name : List UInt8) (id : Int) (w : World) (hm : Mx w) :
    Calls Tryz.prog 3 #[.agg m.cs, .string ⟨s.toArray⟩, .string ⟨name.toArray⟩, .int .i64 id] w fun e w' => e = .returned (.bool true) ∧ Below w.heap.size w w' := by
  cases hl : lightM m with
  | false => exact snmsgCalls_heavy m s name id false hl (.inl rfl) w hm
  | true =>
    by_cases h1 : 400 < s.length
    · exact snmsgCalls_heavy m s name id true hl (.inr (.inl ⟨rfl, h1⟩)) w hm
    by_cases h2 : 400 < name.length
    · exact snmsgCalls_heavy m s name id true hl (.inr (.inr ⟨rfl, by omega, h2⟩)) w hm
    · exact snmsgCalls_go m s name id hl (by omega) (by omega) w hm
end Go.Proofs.YtbacnaplpfmpnaaGreatDoor
