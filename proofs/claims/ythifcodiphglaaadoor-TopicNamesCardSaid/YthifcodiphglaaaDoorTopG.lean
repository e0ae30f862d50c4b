/- TopicNames. -/
import Derived.Test.YthifcodiphglaaaDoorTopL
import Derived.Deep.Cut
namespace Go.Proofs.YthifcodiphglaaaDoor
open Go.RowKit
set_option linter.unusedVariables false

set_option maxRecDepth 100000 in
set_option maxHeartbeats 800000 in
/-- polyglotkit.Same of two rows that read the same. -/
theorem same_yes (l : List (List UInt8)) (b o c b' o' c' n : Nat) (hn : n = l.length) (hl : (n : Int) ≤ 1000) (w : World) (hr : Row w b o l) (hr' : Row w b' o' l) :
    Calls Tryd.prog 20 #[.slice (some ⟨b, o, none⟩) n c, .slice (some ⟨b', o', none⟩) n c'] w fun e w' => e = .returned (.bool true) ∧ ∃ k, w' = w.drewN k := by
  have HN := Lib.hid hn
  have HR := Lib.hid (And.intro hr hr')
  clear hn hr hr'
  go_enter Tryd.func20, Tryd.ntmps20
  go_wp2
  go_loopw [5] (fun i wr => ∃ k q, k ≤ n ∧ i = .int .i64 k ∧ wr = w.drewN q) (fun i _ => n - (intOf i).toNat)
  case atStart => exact ⟨0, 0, Nat.zero_le _, rfl, rfl⟩
  case round =>
    obtain ⟨k, q, hk, rfl, rfl⟩ := hrel
    by_cases hlt : k < n
    · obtain ⟨x, hx⟩ : ∃ x, l[k]? = some x := ⟨_, List.getElem?_eq_getElem (by have := HN.out; omega)⟩
      have c1 := HR.out.1.2 k x hx
      have c2 := HR.out.2.2 k x hx
      have hki : (k : Int) < (n : Int) := by omega
      have hk0 : (0 : Int) ≤ (k : Int) := by omega
      clear hx
      go_wp2_with fail
      go_quiet (fail)
      go_wp2_with fail
      go_roundw
      case rel => exact ⟨k + 1, _, by omega, by go_num, rfl⟩
      case measure => simp [intOf]; omega
    · go_wp2
      go_ret
      exact ⟨rfl, q, rfl⟩

theorem sharedE_of2 {s g f : List UInt8} {k : Bool} (h : sharedF s = (g, f, k)) : sharedE s = .returned (.tuple #[.string ⟨g.toArray⟩, .string ⟨f.toArray⟩, .bool k]) := by unfold sharedE; rw [h]
def wrongNames : List (List UInt8) := [[], [97, 43], [35], [97, 47, 35], [255], [97, 0]]
def wrongFilters : List (List UInt8) := [[], [97, 43], [97, 35], [35, 47, 97], [97, 47, 35, 47, 98], [97, 47, 98, 43, 47, 99], [255]]
theorem wrongN : ∀ x ∈ wrongNames, nameB x = false ∧ x.length ≤ 10 := by decide +kernel
theorem wrongF : ∀ x ∈ wrongFilters, filterB x = false ∧ matchesB x [97] = false ∧ x.length ≤ 10 := by decide +kernel

set_option maxRecDepth 100000 in
set_option maxHeartbeats 3200000 in
theorem topicNames_walk (w : World) (hm : Mx w) :
    Calls Tryd.prog 7 #[] w fun e w' => e = .returned (.bool true) ∧ Below w.heap.size w w' := by
  go_enter Tryd.func7, Tryd.ntmps7
  have hB0 : Below w.heap.size w w := Below.refl _ _
  have z1 : sharedE [36, 115, 104, 97, 114, 101, 47, 103, 47, 97, 47, 43] = .returned (.tuple #[.string ⟨#[103]⟩, .string ⟨#[97, 47, 43]⟩, .bool true]) := sharedE_of2 (g := [103]) (f := [97, 47, 43]) (by decide +kernel)
  have Z1 := Lib.hid z1
  clear z1
  have z2 : sharedE [36, 115, 104, 97, 114, 101, 47, 47, 97] = .returned (.tuple #[.string ⟨#[]⟩, .string ⟨#[]⟩, .bool false]) := sharedE_of2 (g := []) (f := []) (by decide +kernel)
  have Z2 := Lib.hid z2
  clear z2
  have z3 : sharedE [36, 115, 104, 97, 114, 101, 47, 103, 47] = .returned (.tuple #[.string ⟨#[]⟩, .string ⟨#[]⟩, .bool false]) := sharedE_of2 (g := []) (f := []) (by decide +kernel)
  have Z3 := Lib.hid z3
  clear z3
  have z4 : sharedE [36, 115, 104, 97, 114, 101, 47, 103, 43, 47, 97] = .returned (.tuple #[.string ⟨#[]⟩, .string ⟨#[]⟩, .bool false]) := sharedE_of2 (g := []) (f := []) (by decide +kernel)
  have Z4 := Lib.hid z4
  clear z4
  have z5 : sharedE [36, 115, 104, 97, 114, 101, 47, 103] = .returned (.tuple #[.string ⟨#[]⟩, .string ⟨#[]⟩, .bool false]) := sharedE_of2 (g := []) (f := []) (by decide +kernel)
  have Z5 := Lib.hid z5
  clear z5
  have z6 : nameB [47] = true := by decide +kernel
  have Z6 := Lib.hid z6
  clear z6
  have z7 : filterB [43, 47, 35] = true := by decide +kernel
  have Z7 := Lib.hid z7
  clear z7
  have z8 : filterB [47] = true := by decide +kernel
  have Z8 := Lib.hid z8
  clear z8
  have z9 : matchesB [97, 47, 43, 47, 99] [97, 47, 47, 99] = true := by decide +kernel
  have Z9 := Lib.hid z9
  clear z9
  have z10 : matchesB [97, 47, 43] [97] = false := by decide +kernel
  have Z10 := Lib.hid z10
  clear z10
  have z11 : matchesB [97, 47, 43] [97, 47, 98, 47, 99] = false := by decide +kernel
  have Z11 := Lib.hid z11
  clear z11
  have z12 : matchesB [36, 120, 47, 35] [36, 120, 47, 121] = true := by decide +kernel
  have Z12 := Lib.hid z12
  clear z12
  have z13 : matchesB [43, 47, 121] [36, 120, 47, 121] = false := by decide +kernel
  have Z13 := Lib.hid z13
  clear z13
  have z14 : matchesB [97, 47, 98] [97, 47, 98] = true := by decide +kernel
  have Z14 := Lib.hid z14
  clear z14
  have z15 : dollarB [36] = true := by decide +kernel
  have Z15 := Lib.hid z15
  clear z15
  have z16 : dollarB [] = false := by decide +kernel
  have Z16 := Lib.hid z16
  clear z16
  have z17 : withinB [97, 47, 98] [97, 47, 43] = true := by decide +kernel
  have Z17 := Lib.hid z17
  clear z17
  have z18 : withinB [97, 47, 43] [97, 47, 98] = false := by decide +kernel
  have Z18 := Lib.hid z18
  clear z18
  have z19 : withinB [35] [43, 47, 35] = true := by decide +kernel
  have Z19 := Lib.hid z19
  clear z19
  have z20 : withinB [97, 47, 35] [97, 47, 43, 47, 35] = false := by decide +kernel
  have Z20 := Lib.hid z20
  clear z20
  have z21 : withinB [97, 47, 43, 47, 35] [97, 47, 35] = true := by decide +kernel
  have Z21 := Lib.hid z21
  clear z21
  have z22 : withinB [36, 97] [35] = false := by decide +kernel
  have Z22 := Lib.hid z22
  clear z22
  have z23 : withinB [97, 47, 98] [97, 47, 98, 47, 35] = true := by decide +kernel
  have Z23 := Lib.hid z23
  clear z23
  have z24 : withinB [97, 43] [35] = false := by decide +kernel
  have Z24 := Lib.hid z24
  clear z24
  go_wp2_with fail
  refine (lives04 _ (hm.next hB0)).mono ?_
  rintro e w1 ⟨rfl, hb⟩
  have hB1 := hB0.trans (hb.mono hB0.size)
  clear hb
  have O1 := Obj?.new w1 (cellsS wrongNames) 9
  have hB1' := below_alT hB1 (.cells (cellsS wrongNames) 9 (0, 0))
  obtain ⟨wn, hwn⟩ : ∃ wn, wn = w1.alloc (.cells (cellsS wrongNames) 9 (0, 0)) := ⟨_, rfl⟩
  rw [← hwn] at O1 hB1'
  have HO := Lib.hid O1
  have HW := Lib.hid hwn
  clear O1 hwn
  go_wp2
  rw [show w1.alloc (.cells #[.string ⟨#[]⟩, .string ⟨#[97, 43]⟩, .string ⟨#[35]⟩, .string ⟨#[97, 47, 35]⟩, .string ⟨#[255]⟩, .string ⟨#[97, 0]⟩] 9 (0, 0)) = wn from HW.out.symm]
  go_loopw [2] (fun i wr => ∃ k : Nat, k ≤ 6 ∧ i = .int .i64 k ∧ Below w.heap.size w wr ∧ Obj? wr w1.heap.size (cellsS wrongNames) 9) (fun i _ => 6 - (intOf i).toNat)
  case atStart => exact ⟨0, Nat.zero_le _, rfl, hB1', HO.out⟩
  case round =>
    obtain ⟨k, hk, rfl, hB, O⟩ := hrel
    by_cases hlt : k < 6
    · obtain ⟨x, hx⟩ : ∃ x, wrongNames[k]? = some x := ⟨_, List.getElem?_eq_getElem (show k < 6 from hlt)⟩
      have kc := O.cell k _ (cellsS_at hx)
      have hq := wrongN x (List.mem_of_getElem? hx)
      have HQ := Lib.hid hq
      have HO2 := Lib.hid O
      clear hx hq O
      go_wp2_with fail
      refine (name_any x (by have := HQ.out.2; omega) _).mono ?_
      rintro e w2 ⟨rfl, hb⟩
      rw [HQ.out.1]
      clear kc
      go_wp2
      go_roundw
      case rel => exact ⟨k + 1, by omega, by go_num, hB.trans (hb.mono hB.size), HO2.out.below hb HO2.out.lt⟩
      case measure => simp [intOf]; omega
    · clear O hB1' hB1
      have O2 := Obj?.new wr (cellsS wrongFilters) 9
      have hB2 := below_alT hB (.cells (cellsS wrongFilters) 9 (0, 0))
      obtain ⟨wf, hwf⟩ : ∃ wf, wf = wr.alloc (.cells (cellsS wrongFilters) 9 (0, 0)) := ⟨_, rfl⟩
      rw [← hwf] at O2 hB2
      have HP := Lib.hid O2
      have HV := Lib.hid hwf
      clear O2 hwf
      go_wp2
      rw [show wr.alloc (.cells #[.string ⟨#[]⟩, .string ⟨#[97, 43]⟩, .string ⟨#[97, 35]⟩, .string ⟨#[35, 47, 97]⟩, .string ⟨#[97, 47, 35, 47, 98]⟩, .string ⟨#[97, 47, 98, 43, 47, 99]⟩, .string ⟨#[255]⟩] 9 (0, 0)) = wf from HV.out.symm]
      go_loopw [4] (fun i ws => ∃ k : Nat, k ≤ 7 ∧ i = .int .i64 k ∧ Below w.heap.size w ws ∧ Obj? ws wr.heap.size (cellsS wrongFilters) 9) (fun i _ => 7 - (intOf i).toNat)
      case atStart => exact ⟨0, Nat.zero_le _, rfl, hB2, HP.out⟩
      case round =>
        obtain ⟨k, hk, rfl, hC, O⟩ := hrel
        by_cases hlt : k < 7
        · obtain ⟨x, hx⟩ : ∃ x, wrongFilters[k]? = some x := ⟨_, List.getElem?_eq_getElem (show k < 7 from hlt)⟩
          have kc := O.cell k _ (cellsS_at hx)
          have hq := wrongF x (List.mem_of_getElem? hx)
          have HQ := Lib.hid hq
          have HX := Lib.hid hx
          have HO2 := Lib.hid O
          clear hx hq O
          go_wp2_with fail
          refine (filter_any x (by have := HQ.out.2.2; omega) _ (hm.next hC)).mono ?_
          rintro e w2 ⟨rfl, hb⟩
          rw [HQ.out.1]
          have hC2 := hC.trans (hb.mono hC.size)
          have HO3 := Lib.hid (HO2.out.below hb HO2.out.lt)
          clear kc hb
          have kc := HO3.out.cell k _ (cellsS_at (show wrongFilters[k]? = some x from HX.out))
          go_wp2_with fail
          refine (matches_any x [97] (by have := HQ.out.2.2; omega) (by decide) _ (hm.next hC2)).mono ?_
          rintro e w3 ⟨rfl, hb⟩
          rw [HQ.out.2.1]
          have hC3 := hC2.trans (hb.mono hC2.size)
          have HO4 := Lib.hid (HO3.out.below hb HO3.out.lt)
          clear kc hb
          go_wp2
          go_roundw
          case rel => exact ⟨k + 1, by omega, by go_num, hC3, HO4.out⟩
          case measure => simp [intOf]; omega
        · clear O hB2
          go_wp2_with fail
          refine (shared_any [36, 115, 104, 97, 114, 101, 47, 103, 47, 97, 47, 43] (by decide) _ (hm.next hC)).mono ?_
          rintro e w3 ⟨rfl, hb⟩
          rw [Z1.out]
          have hB3 := hC.trans (hb.mono hC.size)
          clear hb
          go_wp2_with fail
          refine (shared_any [36, 115, 104, 97, 114, 101, 47, 47, 97] (by decide) _ (hm.next hB3)).mono ?_
          rintro e w4 ⟨rfl, hb⟩
          rw [Z2.out]
          have hB4 := hB3.trans (hb.mono hB3.size)
          clear hb
          go_wp2_with fail
          refine (shared_any [36, 115, 104, 97, 114, 101, 47, 103, 47] (by decide) _ (hm.next hB4)).mono ?_
          rintro e w5 ⟨rfl, hb⟩
          rw [Z3.out]
          have hB5 := hB4.trans (hb.mono hB4.size)
          clear hb
          go_wp2_with fail
          refine (shared_any [36, 115, 104, 97, 114, 101, 47, 103, 43, 47, 97] (by decide) _ (hm.next hB5)).mono ?_
          rintro e w6 ⟨rfl, hb⟩
          rw [Z4.out]
          have hB6 := hB5.trans (hb.mono hB5.size)
          clear hb
          go_wp2_with fail
          refine (shared_any [36, 115, 104, 97, 114, 101, 47, 103] (by decide) _ (hm.next hB6)).mono ?_
          rintro e w7 ⟨rfl, hb⟩
          rw [Z5.out]
          have hB7 := hB6.trans (hb.mono hB6.size)
          clear hb
          go_upto_region 20 with fail
          dsimp only [List.append]
          go_wp2_with fail
          refine (name_any [47] (by decide) _).mono ?_
          rintro e w8 ⟨rfl, hb⟩
          rw [Z6.out]
          have hB8 := hB7.trans (hb.mono hB7.size)
          clear hb
          go_wp2_with fail
          refine (filter_any [43, 47, 35] (by decide) _ (hm.next hB8)).mono ?_
          rintro e w9 ⟨rfl, hb⟩
          rw [Z7.out]
          have hB9 := hB8.trans (hb.mono hB8.size)
          clear hb
          go_wp2_with fail
          refine (filter_any [47] (by decide) _ (hm.next hB9)).mono ?_
          rintro e w10 ⟨rfl, hb⟩
          rw [Z8.out]
          have hB10 := hB9.trans (hb.mono hB9.size)
          clear hb
          go_wp2_with fail
          refine (levels_any [97, 47, 47, 98] (by decide) _ (hm.next hB10)).mono ?_
          rintro e w11 ⟨rfl, hw⟩
          rw [show splitS [97, 47, 47, 98] = [[97], [], [98]] from by decide +kernel] at hw ⊢
          have O := Obj?.new w10 (cellsS [[97], [], [98]]) 9
          rw [← hw] at O
          have HA := Lib.hid (And.intro O hw)
          have hB11 : Below w.heap.size w w11 := by rw [hw]; exact below_alT hB10 _
          clear O hw
          go_wp2_with fail
          have OA := Lib.hid (HA.out.1.alloc (.cells (cellsS [[97], [], [98]]) 9 (0, 0)))
          have OB := Obj?.new w11 (cellsS [[97], [], [98]]) 9
          have HOB := Lib.hid OB
          clear OB
          have hC0 := below_alT hB11 (.cells (cellsS [[97], [], [98]]) 9 (0, 0))
          refine (same_yes [[97], [], [98]] _ 0 3 _ 0 3 3 rfl (by decide) _ (Row.of_obj OA.out) (Row.of_obj HOB.out)).mono ?_
          rintro e w12 ⟨rfl, q, hw⟩
          have hB12 : Below w.heap.size w w12 := by rw [hw]; exact below_drewNT hC0 q
          clear OA HOB HA hC0 hw
          go_wp2_with fail
          refine (levels_any [] (by decide) _ (hm.next hB12)).mono ?_
          rintro e w13 ⟨rfl, hw⟩
          rw [show splitS [] = [[]] from by decide +kernel] at hw ⊢
          have O := Obj?.new w12 (cellsS [[]]) 9
          rw [← hw] at O
          have HA := Lib.hid (And.intro O hw)
          have hB13 : Below w.heap.size w w13 := by rw [hw]; exact below_alT hB12 _
          clear O hw
          go_wp2_with fail
          have OA := Lib.hid (HA.out.1.alloc (.cells (cellsS [[]]) 9 (0, 0)))
          have OB := Obj?.new w13 (cellsS [[]]) 9
          have HOB := Lib.hid OB
          clear OB
          have hC0 := below_alT hB13 (.cells (cellsS [[]]) 9 (0, 0))
          refine (same_yes [[]] _ 0 1 _ 0 1 1 rfl (by decide) _ (Row.of_obj OA.out) (Row.of_obj HOB.out)).mono ?_
          rintro e w14 ⟨rfl, q, hw⟩
          have hB14 : Below w.heap.size w w14 := by rw [hw]; exact below_drewNT hC0 q
          clear OA HOB HA hC0 hw
          go_wp2_with fail
          have OB := Obj?.new w14 (cellsS [[97], [], [98]]) 9
          have HOB := Lib.hid OB
          clear OB
          have hC0 := below_alT hB14 (.cells (cellsS [[97], [], [98]]) 9 (0, 0))
          refine (join_any [[97], [], [98]] _ 0 3 (by decide) (by decide) (by decide) _ (Row.of_obj HOB.out)).mono ?_
          rintro e w15 ⟨rfl, hb⟩
          rw [show joinS [[97], [], [98]] = [97, 47, 47, 98] from by decide +kernel]
          have hB15 := hC0.trans (hb.mono hC0.size)
          clear hb hC0 HOB
          go_wp2_with fail
          refine (join_none none 0 _).mono ?_
          rintro e w16 ⟨rfl, hb⟩
          have hB16 := hB15.trans (hb.mono hB15.size)
          clear hb
          go_wp2_with fail
          refine (matches_any [97, 47, 43, 47, 99] [97, 47, 47, 99] (by decide) (by decide) _ (hm.next hB16)).mono ?_
          rintro e w17 ⟨rfl, hb⟩
          rw [Z9.out]
          have hB17 := hB16.trans (hb.mono hB16.size)
          clear hb
          go_wp2_with fail
          refine (matches_any [97, 47, 43] [97] (by decide) (by decide) _ (hm.next hB17)).mono ?_
          rintro e w18 ⟨rfl, hb⟩
          rw [Z10.out]
          have hB18 := hB17.trans (hb.mono hB17.size)
          clear hb
          go_wp2_with fail
          refine (matches_any [97, 47, 43] [97, 47, 98, 47, 99] (by decide) (by decide) _ (hm.next hB18)).mono ?_
          rintro e w19 ⟨rfl, hb⟩
          rw [Z11.out]
          have hB19 := hB18.trans (hb.mono hB18.size)
          clear hb
          go_wp2_with fail
          refine (matches_any [36, 120, 47, 35] [36, 120, 47, 121] (by decide) (by decide) _ (hm.next hB19)).mono ?_
          rintro e w20 ⟨rfl, hb⟩
          rw [Z12.out]
          have hB20 := hB19.trans (hb.mono hB19.size)
          clear hb
          go_wp2_with fail
          refine (matches_any [43, 47, 121] [36, 120, 47, 121] (by decide) (by decide) _ (hm.next hB20)).mono ?_
          rintro e w21 ⟨rfl, hb⟩
          rw [Z13.out]
          have hB21 := hB20.trans (hb.mono hB20.size)
          clear hb
          go_wp2_with fail
          refine (matches_any [97, 47, 98] [97, 47, 98] (by decide) (by decide) _ (hm.next hB21)).mono ?_
          rintro e w22 ⟨rfl, hb⟩
          rw [Z14.out]
          have hB22 := hB21.trans (hb.mono hB21.size)
          clear hb
          go_wp2_with fail
          refine (dollar_any [36] _ (by decide)).mono ?_
          rintro e w' ⟨rfl, rfl⟩
          rw [Z15.out]
          go_wp2_with fail
          refine (dollar_any [] _ (by decide)).mono ?_
          rintro e w' ⟨rfl, rfl⟩
          rw [Z16.out]
          go_wp2_with fail
          refine (within_any [97, 47, 98] [97, 47, 43] (by decide) (by decide) _ (hm.next hB22)).mono ?_
          rintro e w23 ⟨rfl, hb⟩
          rw [Z17.out]
          have hB23 := hB22.trans (hb.mono hB22.size)
          clear hb
          go_wp2_with fail
          refine (within_any [97, 47, 43] [97, 47, 98] (by decide) (by decide) _ (hm.next hB23)).mono ?_
          rintro e w24 ⟨rfl, hb⟩
          rw [Z18.out]
          have hB24 := hB23.trans (hb.mono hB23.size)
          clear hb
          go_wp2_with fail
          refine (within_any [35] [43, 47, 35] (by decide) (by decide) _ (hm.next hB24)).mono ?_
          rintro e w25 ⟨rfl, hb⟩
          rw [Z19.out]
          have hB25 := hB24.trans (hb.mono hB24.size)
          clear hb
          go_wp2_with fail
          refine (within_any [97, 47, 35] [97, 47, 43, 47, 35] (by decide) (by decide) _ (hm.next hB25)).mono ?_
          rintro e w26 ⟨rfl, hb⟩
          rw [Z20.out]
          have hB26 := hB25.trans (hb.mono hB25.size)
          clear hb
          go_wp2_with fail
          refine (within_any [97, 47, 43, 47, 35] [97, 47, 35] (by decide) (by decide) _ (hm.next hB26)).mono ?_
          rintro e w27 ⟨rfl, hb⟩
          rw [Z21.out]
          have hB27 := hB26.trans (hb.mono hB26.size)
          clear hb
          go_wp2_with fail
          refine (within_any [36, 97] [35] (by decide) (by decide) _ (hm.next hB27)).mono ?_
          rintro e w28 ⟨rfl, hb⟩
          rw [Z22.out]
          have hB28 := hB27.trans (hb.mono hB27.size)
          clear hb
          go_wp2_with fail
          refine (within_any [97, 47, 98] [97, 47, 98, 47, 35] (by decide) (by decide) _ (hm.next hB28)).mono ?_
          rintro e w29 ⟨rfl, hb⟩
          rw [Z23.out]
          have hB29 := hB28.trans (hb.mono hB28.size)
          clear hb
          go_wp2_with fail
          refine (within_any [97, 43] [35] (by decide) (by decide) _ (hm.next hB29)).mono ?_
          rintro e w30 ⟨rfl, hb⟩
          rw [Z24.out]
          have hB30 := hB29.trans (hb.mono hB29.size)
          clear hb
          go_wp2_with fail
          go_ret
          exact ⟨rfl, hB30⟩
end Go.Proofs.YthifcodiphglaaaDoor
