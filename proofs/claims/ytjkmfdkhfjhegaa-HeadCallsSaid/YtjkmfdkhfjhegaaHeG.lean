/- polyglotkit: weight, LightProps, LightPacket. -/
import Derived.Test.YtjkmfdkhfjhegaaHeD
namespace Go.Proofs.Ytjkmfdkhfjhegaa
open Go Go.RowKit
set_option linter.unusedVariables false
set_option linter.unusedSimpArgs false
attribute [local irreducible] rowSem rowStore

set_option maxRecDepth 100000 in
set_option maxHeartbeats 1600000 in
theorem weight_any {v : Value} {xs : List Pp} {w : World} (hA : RowOf Pp.cs 4 w v xs) (hl : xs.length ≤ 2000) :
    Calls Try.prog 60 #[v] w fun e w' => (∃ n : Int, e = .returned (.int .i64 n)) ∧ Below w.heap.size w w' := by
  have HA := Lib.hid hA
  obtain ⟨a, cap, rfl, la, -⟩ := hA
  obtain ⟨n, hN⟩ : ∃ n, n = xs.length := ⟨_, rfl⟩
  rw [← hN] at HA la hl ⊢
  have HN := Lib.hid (And.intro hN hl)
  clear hN hl
  go_enter Try.func60, Try.ntmps60
  refine wp_hide fun Q1 hQ1 => ?_
  have HQ1 := Lib.hid hQ1
  clear hQ1
  go_wp2
  go_loopg [3, 4] (n + 1) (fun g s i wr => ∃ (k : Nat) (m : Int), g + k = n + 1 ∧ k ≤ n ∧ i = .int .i64 k ∧ s = .int .i64 m ∧ Hid (Below w.heap.size w wr))
  case atStart => exact ⟨0, 0, by omega, by omega, rfl, rfl, Lib.hid (Below.refl _ _)⟩
  case round =>
    obtain ⟨k, m, hgk, hkn, rfl, rfl, HI⟩ := hrel
    have HGK := Lib.hid (And.intro hgk hkn)
    clear hgk
    by_cases hlt : k < n
    · have hka : k < xs.length := by rw [← HN.out.1]; exact hlt
      obtain ⟨b1, o1, rfl, l1, c1⟩ := (HA.out.below HI.out).at k hka
      obtain ⟨x, hx⟩ : ∃ x, x = xs[k] := ⟨_, rfl⟩
      rw [← hx] at c1
      have k2 := c1 2 (.string ⟨x.t.toArray⟩) rfl
      have k3 := c1 3 (.string ⟨x.v.toArray⟩) rfl
      have d1 : decide ((k : Int) < n) = true := decide_eq_true (by omega)
      have hki : (k : Int) < n := by omega
      clear hx hka c1 l1 hkn hlt
      go_wp2
      go_quiet (fail)
      go_wp2
      go_roundg (gk - 1)
      case measure => have := HGK.out; omega
      case rel => exact ⟨k + 1, _, by have := HGK.out; omega, by have := HGK.out; omega, by go_num, rfl, Lib.hid (below_drewNh HI.out _)⟩
    · obtain rfl : k = n := by omega
      go_wp2
      refine HQ1.out _ _ _ ?_
      go_ret
      exact ⟨⟨_, rfl⟩, HI.out⟩
set_option maxRecDepth 100000 in
set_option maxHeartbeats 1600000 in
theorem lightprops_any {v : Value} {xs : List Pp} {w : World} (hA : RowOf Pp.cs 4 w v xs) :
    Calls Try.prog 35 #[v] w fun e w' => (∃ B : Bool, e = .returned (.bool B) ∧ (B = true → xs.length ≤ 1010)) ∧ Below w.heap.size w w' := by
  by_cases h : xs.length ≤ 1010
  · have HW := Lib.hid (weight_any hA (by omega))
    obtain ⟨a, cap, rfl, la, -⟩ := hA
    obtain ⟨n, hN⟩ : ∃ n, n = xs.length := ⟨_, rfl⟩
    rw [← hN] at la h HW ⊢
    have d1 : decide ((n : Int) ≤ 1010) = true := decide_eq_true (by omega)
    have hn : (n : Int) ≤ 1010 := by omega
    have HH := Lib.hid h
    clear hN h
    go_enter Try.func35, Try.ntmps35
    go_wp2_with fail
    refine HW.out.mono ?_
    rintro r w2 ⟨⟨m, rfl⟩, hb⟩
    have HB := Lib.hid hb
    clear hb
    go_wp2
    go_ret
    exact ⟨⟨_, rfl, fun _ => HH.out⟩, HB.out⟩
  · obtain ⟨a, cap, rfl, la, -⟩ := hA
    obtain ⟨n, hN⟩ : ∃ n, n = xs.length := ⟨_, rfl⟩
    rw [← hN] at la h ⊢
    have d1 : decide ((n : Int) ≤ 1010) = false := decide_eq_false (by omega)
    have hn : ¬ (n : Int) ≤ 1010 := by omega
    clear hN h
    go_enter Try.func35, Try.ntmps35
    go_wp2
    go_ret
    exact ⟨.inl rfl, Below.refl _ _⟩
set_option maxRecDepth 100000 in
set_option maxHeartbeats 3200000 in
theorem lightpacket_any {p : Pk} {vw vc vf vp : Value} {w : World} (hP : PkAt w p vw vc vf vp) :
    Calls Try.prog 12 #[.agg (pkCs p vw vc vf vp)] w fun e w' => (∃ B : Bool, e = .returned (.bool B) ∧ (B = true → PkSmall p)) ∧ Below w.heap.size w w' := by
  have O := Obj?.new w (pkCs p vw vc vf vp) 35
  have hb0 := below_al (Below.refl _ w) (.cells (pkCs p vw vc vf vp) 35 (0, 0))
  obtain ⟨W0, hW0⟩ : ∃ W0, W0 = w.alloc (.cells (pkCs p vw vc vf vp) 35 (0, 0)) := ⟨_, rfl⟩
  rw [← hW0] at O hb0
  have HO := Lib.hid (And.intro O hb0)
  have HP := Lib.hid (hP.below hb0)
  obtain ⟨⟨ac, cc, rfl, lc, -⟩⟩ := (⟨hP.rc⟩ : Nonempty _)
  obtain ⟨⟨af, cf, rfl, lf, -⟩⟩ := (⟨hP.rf⟩ : Nonempty _)
  have HLp := Lib.hid (fun W (hW : Below W0.heap.size W0 W) => lightprops_any (HP.out.rp.below hW))
  have HLw := Lib.hid (fun W (hW : Below W0.heap.size W0 W) => lightprops_any (HP.out.rw'.below hW))
  clear O hb0 hP
  go_enter Try.func12, Try.ntmps12
  refine wp_hide fun Q1 hQ1 => ?_
  have HQ1 := Lib.hid hQ1
  clear hQ1
  go_upto_region 1 with fail
  (try rw [← hW0])
  clear hW0
  (try dsimp only [List.append])
  have k := HO.out.1.cells
  simp only [pkCs] at k
  go_wp2_with fail
  refine (HLp.out _ (Below.refl _ _)).mono ?_
  rintro r w2 ⟨⟨B1, rfl, h1⟩, hb⟩
  have HB2 := Lib.hid hb
  clear k hb
  cases B1 with
  | false =>
    go_wp2
    refine HQ1.out _ _ _ ?_
    go_ret
    exact ⟨⟨_, rfl, fun h => by cases h⟩, below_thenh HO.out.2 HB2.out⟩
  | true =>
    have H1 := Lib.hid (h1 rfl)
    clear h1
    have k := (HO.out.1.below HB2.out HO.out.1.lt).cells
    simp only [pkCs] at k
    go_wp2_with fail
    refine (HLw.out _ HB2.out).mono ?_
    rintro r w3 ⟨⟨B2, rfl, h2⟩, hb⟩
    have HB3 := Lib.hid (below_thenh HB2.out hb)
    clear k hb
    have k := (HO.out.1.below HB3.out HO.out.1.lt).cells
    simp only [pkCs] at k
    cases B2 with
    | false =>
      go_wp2
      refine HQ1.out _ _ _ ?_
      go_ret
      exact ⟨⟨_, rfl, fun h => by cases h⟩, below_thenh HO.out.2 HB3.out⟩
    | true =>
      have H2 := Lib.hid (h2 rfl)
      clear h2
      by_cases h3 : 60 < p.codes.length
      · have d3 : (60 : Int) < p.codes.length := by omega
        clear h3
        go_wp2
        refine HQ1.out _ _ _ ?_
        go_ret
        exact ⟨⟨_, rfl, fun h => by cases h⟩, below_thenh HO.out.2 HB3.out⟩
      · by_cases h4 : 60 < p.filters.length
        · have d3 : ¬ (60 : Int) < p.codes.length := by omega
          have d4 : (60 : Int) < p.filters.length := by omega
          clear h3 h4
          go_wp2
          refine HQ1.out _ _ _ ?_
          go_ret
          exact ⟨⟨_, rfl, fun h => by cases h⟩, below_thenh HO.out.2 HB3.out⟩
        · have d3 : ¬ (60 : Int) < p.codes.length := by omega
          have d4 : ¬ (60 : Int) < p.filters.length := by omega
          have HS := Lib.hid (show PkSmall p from ⟨by have := H2.out; omega, by omega, by omega, by have := H1.out; omega⟩)
          clear h3 h4
          go_upto_region 3 with fail
          (try dsimp only [List.append])
          have HRf := Lib.hid HP.out.rf
          obtain ⟨n, hN⟩ : ∃ n, n = p.filters.length := ⟨_, rfl⟩
          rw [← hN] at d4 lf HRf HO k ⊢
          have HN := Lib.hid hN
          have hn60 : n ≤ 60 := by omega
          clear hN HLp HLw H1 H2 k d3 d4
          have HBr := Lib.hid (And.intro HB3.out (And.intro HO.out.1 hn60))
          have k := (HO.out.1.below HB3.out HO.out.1.lt).cells
          simp only [pkCs] at k
          clear hn60
          go_wp2
          clear k
          go_loopg [3, 4] (n + 1) (fun g s i wr => ∃ (k : Nat) (m : Int), g + k = n + 1 ∧ k ≤ n ∧ i = .int .i64 k ∧ s = .int .i64 m ∧ Hid (Below W0.heap.size W0 wr))
          case atStart => exact ⟨0, _, by omega, by omega, rfl, rfl, HB3⟩
          case round =>
            obtain ⟨k, m, hgk, hkn, rfl, rfl, HI⟩ := hrel
            have HGK := Lib.hid (And.intro hgk hkn)
            clear hgk
            have kb := (HO.out.1.below HI.out HO.out.1.lt).cells
            simp only [pkCs] at kb
            by_cases hlt : k < n
            · have hka : k < p.filters.length := by rw [← HN.out]; exact hlt
              obtain ⟨b1, o1, rfl, l1, c1⟩ := (HRf.out.below HI.out).at k hka
              obtain ⟨x, hx⟩ : ∃ x, x = p.filters[k] := ⟨_, rfl⟩
              rw [← hx] at c1
              have k2 := c1 0 (.string ⟨x.top.toArray⟩) rfl
              rw [Nat.add_zero] at k2
              have d1 : decide ((k : Int) < n) = true := decide_eq_true (by omega)
              have hki : (k : Int) < n := by omega
              clear hx hka c1 l1 hkn hlt
              go_wp2
              go_roundg (gk - 1)
              case measure => have := HGK.out; omega
              case rel => exact ⟨k + 1, _, by have := HGK.out; omega, by have := HGK.out; omega, by go_num, rfl, HI⟩
            · obtain rfl : k = n := by omega
              go_wp2
              refine HQ1.out _ _ _ ?_
              go_ret
              exact ⟨⟨_, rfl, fun _ => HS.out⟩, below_thenh HO.out.2 HI.out⟩
end Go.Proofs.Ytjkmfdkhfjhegaa
