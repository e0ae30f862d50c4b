/- TopicWilds. -/
import Derived.Test.YthifcodiphglaaaDoorTopL
import Derived.Test.YthifcodiphglaaaDoorTopD
namespace Go.Proofs.YthifcodiphglaaaDoor
open Go.RowKit
set_option linter.unusedVariables false

theorem set_cells (l : List (List UInt8)) (k : Nat) (s : List UInt8) : (l.map fun s => Value.string ⟨s.toArray⟩).set k (.string ⟨s.toArray⟩) = (l.set k s).map fun s => Value.string ⟨s.toArray⟩ := by
  rw [List.map_set]
/-- Own, one place changed: what the caller knows behind the store. -/
theorem own_set {w0 w : World} {g k cap n : Nat} {l : List (List UInt8)} (h : w.ownsRow w0.heap.size 9 1 (.slice (some ⟨g, 0, none⟩) n cap) n (l.map fun s => Value.string ⟨s.toArray⟩)) (hb : Below w0.heap.size w0 w) (s : List UInt8) :
    Row (w.setCell ⟨g, k, none⟩ (.string ⟨s.toArray⟩)) g 0 (l.set k s) ∧ n ≤ cap ∧ Below w0.heap.size w0 (w.setCell ⟨g, k, none⟩ (.string ⟨s.toArray⟩)) := by
  have st := (h.stored k (.string ⟨s.toArray⟩)).1
  rw [set_cells] at st
  exact ⟨(Row.of_own st).1, (Row.of_own st).2.2, hb.setCell (h.lt g rfl).1 _⟩
theorem own_cell {w : World} {base g k cap n : Nat} {l : List (List UInt8)} {x : List UInt8} (h : w.ownsRow base 9 1 (.slice (some ⟨g, 0, none⟩) n cap) n (l.map fun s => Value.string ⟨s.toArray⟩)) (hx : l[k]? = some x) (hk : k < n) :
    w.cell? ⟨g, k, none⟩ = some (.string ⟨x.toArray⟩) := by
  rw [h.cellAt k (by omega), List.getElem?_map, hx]; rfl
theorem join_own {w : World} {g cap n : Nat} {l : List (List UInt8)} (hn : n = l.length) (hl : n ≤ 1000) (hj : (joinS l).length ≤ 1000) (hc : n ≤ cap) (hr : Row w g 0 l) :
    Calls Tryd.prog 16 #[.slice (some ⟨g, 0, none⟩) n cap] w fun e w' => e = .returned (.string ⟨(joinS l).toArray⟩) ∧ Below w.heap.size w w' := by
  subst hn
  exact join_any l g 0 cap hc (by omega) (by omega) w hr
theorem row_take {w : World} {b o : Nat} {l : List (List UInt8)} (h : Row w b o l) (k : Nat) : Row w b o (l.take k) :=
  ⟨h.1, fun j s hj => by
    rw [List.getElem?_take] at hj
    split at hj
    · exact h.2 j s hj
    · cases hj⟩

set_option maxRecDepth 100000 in
theorem topicWilds_long (s o : List UInt8) (at_ : Int) (h : 200 < s.length ∨ (s.length ≤ 200 ∧ 40 < o.length)) (w : World) (hm : Mx w) :
    Calls Tryd.prog 6 #[.string ⟨s.toArray⟩, .int .i64 at_, .string ⟨o.toArray⟩] w fun e w' => e = .returned (.bool true) ∧ Below w.heap.size w w' := by
  rcases h with h | ⟨h, h2⟩
  all_goals
    go_enter Tryd.func6, Tryd.ntmps6
    go_wp2_with fail
    refine (lives04 _ hm).mono ?_
    rintro e w1 ⟨rfl, hb⟩
    go_wp2_with fail
    go_ret
    exact ⟨rfl, hb⟩
set_option maxRecDepth 100000 in
theorem topicWilds_no (s o : List UInt8) (at_ : Int) (hs : s.length ≤ 200) (ho : o.length ≤ 40) (hn : Hid (nameB s = false)) (w : World) (hm : Mx w) :
    Calls Tryd.prog 6 #[.string ⟨s.toArray⟩, .int .i64 at_, .string ⟨o.toArray⟩] w fun e w' => e = .returned (.bool true) ∧ Below w.heap.size w w' := by
  go_enter Tryd.func6, Tryd.ntmps6
  go_wp2_with fail
  refine (lives04 _ hm).mono ?_
  rintro e w1 ⟨rfl, hb⟩
  go_wp2_with fail
  refine (name_any s (by omega) _).mono ?_
  rintro e w2 ⟨rfl, hb2⟩
  rw [hn.out]
  go_wp2_with fail
  go_ret
  exact ⟨rfl, hb.trans (hb2.mono hb.size)⟩

set_option maxRecDepth 100000 in
set_option maxHeartbeats 3200000 in
theorem topicWilds_yes (s o : List UInt8) (at_ : Int) (hs : s.length ≤ 200) (ho : o.length ≤ 40) (hnm : nameB s = true) (w : World) (hm : Mx w) :
    Calls Tryd.prog 6 #[.string ⟨s.toArray⟩, .int .i64 at_, .string ⟨o.toArray⟩] w fun e w' => e = .returned (.bool true) ∧ Below w.heap.size w w' := by
  obtain ⟨n, hn⟩ : ∃ n, n = splitS s := ⟨_, rfl⟩
  obtain ⟨N, hN⟩ : ∃ N, N = n.length := ⟨_, rfl⟩
  have hN0 : 0 < n.length := by rw [hn]; exact List.length_pos_iff.2 (splitS_ne s)
  have hNl : (N : Int) ≤ 201 := by have := len_split_le s; rw [hN, hn]; omega
  have hN1 : (1 : Int) ≤ (N : Int) := by omega
  obtain ⟨k, hk⟩ : ∃ k : Nat, (k : Int) = at_ % (N : Int) := ⟨(at_ % (N : Int)).toNat, by rw [Int.toNat_of_nonneg (Int.emod_nonneg _ (by omega))]⟩
  have hkN : k < N := by have := Int.emod_lt_of_pos at_ (show (0 : Int) < (N : Int) by omega); omega
  obtain ⟨x, hx⟩ : ∃ x, n[k]? = some x := ⟨_, List.getElem?_eq_getElem (by omega)⟩
  obtain ⟨fr, hfr⟩ : ∃ fr, fr = (decide (0 < k) || !dollarB s) := ⟨_, rfl⟩
  have p1 : matchesB (joinS (n.set k [43])) s = fr := by rw [hn, hfr]; exact wild_plus hnm hs k (by rw [← hn]; omega)
  have p2 : matchesB (joinS (n.take k ++ [[35]])) s = fr := by rw [hn, hfr]; exact wild_hash hnm hs k (by rw [← hn]; omega)
  have p3 : matchesB (joinS (n ++ [[35]])) s = true := by
    have := wild_hash hnm hs n.length (by rw [← hn]; exact Nat.le_refl _)
    rw [← hn, List.take_length] at this
    rw [this]; simp; omega
  have p4 : ∀ h1 : o ≠ x, o ≠ [43] → o ≠ [35] → (splitS (joinS (n.set k o))).length = N → matchesB (joinS (n.set k o)) s = false := fun h1 h2 h3 h4 => by
    rw [hn]
    exact wild_other hnm k (by rw [← hn]; omega) o x (by rw [← hn]; exact hx) h1 h2 h3 (by rw [← hn, h4, hN])
  have q1 : (joinS (n.set k [43])).length ≤ 1000 := by
    have := length_join (n.set k [43]) (by intro e; have := congrArg List.length e; rw [List.length_set] at this; simp only [List.length_nil] at this; omega)
    have := total_set n k [43]
    have := length_join n (by intro e; rw [e] at hN0; simp at hN0)
    have hj : joinS n = s := by rw [hn]; exact join_split s
    rw [hj] at this
    simp at *; omega
  have q2 : (joinS (n.take k ++ [[35]])).length ≤ 1000 := by
    have := length_join (n.take k ++ [[35]]) (by simp)
    have e1 := total_app (n.take k) [[35]]
    have e2 := total_take n k
    have := length_join n (by intro e; rw [e] at hN0; simp at hN0)
    have hj : joinS n = s := by rw [hn]; exact join_split s
    rw [hj] at this
    have e3 : total [[35]] = 2 := rfl
    omega
  have q3 : (joinS (n ++ [[35]])).length ≤ 1000 := by
    have := length_join (n ++ [[35]]) (by simp)
    have e1 := total_app n [[35]]
    have := length_join n (by intro e; rw [e] at hN0; simp at hN0)
    have hj : joinS n = s := by rw [hn]; exact join_split s
    rw [hj] at this
    have e3 : total [[35]] = 2 := rfl
    omega
  have q4 : (joinS (n.set k o)).length ≤ 1000 := by
    have := length_join (n.set k o) (by intro e; have := congrArg List.length e; rw [List.length_set] at this; simp only [List.length_nil] at this; omega)
    have := total_set n k o
    have := length_join n (by intro e; rw [e] at hN0; simp at hN0)
    have hj : joinS n = s := by rw [hn]; exact join_split s
    rw [hj] at this
    omega
  have LA := Lib.hid (fun W (hM : Mx W) => by have := levels_any s (by omega) W hM; rw [← hn, ← hN] at this; exact this)
  obtain ⟨F, hF⟩ : ∃ F, F = joinS (n.set k o) := ⟨_, rfl⟩
  rw [← hF] at p4 q4
  have LF := Lib.hid (fun W (hM : Mx W) => levels_any F (by omega) W hM)
  have HP := Lib.hid (And.intro p1 (And.intro p2 (And.intro p3 p4)))
  have HN := Lib.hid hN
  have HK := Lib.hid hk
  have HX := Lib.hid hx
  have HF := Lib.hid hF
  have HNM := Lib.hid hnm
  have HFR := Lib.hid hfr
  have hsl : ∀ (W : World) (g : Nat), (Instr.slice 28 (.slice (some ⟨g, 0, none⟩) N N) none (some (.int .i64 (k : Int))) none).run Tryd.prog W = .ok (.slice (some ⟨g, 0, none⟩) k N) W := fun W g => by
    have ht : Tryd.prog.underlying 28 = some (.slice (Tryd.prog.elem 28)) := by kernel_rfl
    have hz : ∀ w, (Go.sizeOf (Tryd.prog.elem 28)).run Tryd.prog w = .ok 1 w := by intro w; kernel_rfl
    rw [run_slice_h W 28 _ N N ht .i64 _ (by omega) (by omega), hz]
    simp [Result.andThen, sliced, show N ≠ 0 by omega, Addr.add]
  clear p1 p2 p3 p4 hN hk hx hF hn hnm hfr hN0
  obtain ⟨i0, hi, hz0, hz1, hz2⟩ := info_parts infoStr
  have HI := Lib.hid (And.intro hi (And.intro hz0 (And.intro hz1 hz2)))
  clear hi hz0 hz1 hz2
  go_enter Tryd.func6, Tryd.ntmps6
  have hB0 : Below w.heap.size w w := Below.refl _ _
  go_wp2_with fail
  refine (lives04 _ (hm.next hB0)).mono ?_
  rintro e w1 ⟨rfl, hb⟩
  have hB1 := hB0.trans (hb.mono hB0.size)
  clear hb
  go_wp2_with fail
  refine (name_any s (by omega) _).mono ?_
  rintro e w2 ⟨rfl, hb⟩
  rw [HNM.out]
  have hB2 := hB1.trans (hb.mono hB1.size)
  clear hb
  go_wp2_with fail
  refine (LA.out _ (hm.next hB2)).mono ?_
  rintro e w3 ⟨rfl, hw⟩
  have hb : Below w2.heap.size w2 w3 := by rw [hw]; exact below_al1
  have O := Obj?.new w2 (cellsS n) 9
  rw [← hw] at O
  have RL0 := Lib.hid (Row.of_obj O)
  clear O
  clear hw
  have hB3 := hB2.trans (hb.mono hB2.size)
  clear hb
  go_wp2_with fail
  refine (pick_any at_ (N : Int) hN1 (by omega) _).mono ?_
  rintro e w' ⟨rfl, rfl⟩
  rw [← HK.out]
  go_wp2_with fail
  refine (own_any n _ 0 N N HN.out (by omega) _ RL0.out).mono ?_
  rintro e u4 ⟨gP, cP, rfl, hown, hb0⟩
  obtain ⟨hrow, hcapP, hb⟩ := own_set (k := k) hown hb0 [43]
  have kx := own_cell hown HX.out hkN
  have kf := hown.frozenAt k
  have RP0 := Lib.hid hrow
  have hB4 := hB3.trans (hb.mono hB3.size)
  have RL1 := Lib.hid (RL0.out.below hb RL0.out.1)
  clear hb
  have HQP := Lib.hid hcapP
  clear hrow hown hb0
  go_wp2_with fail
  clear kx kf
  refine (own_any (n.take k) _ 0 N k (by simp; have := HN.out; omega) (by omega) _ (row_take RL1.out k)).mono ?_
  rintro e u5 ⟨g, c, rfl, hown, hb0⟩
  obtain ⟨hi, hz0, hz1, hz2⟩ := HI.out
  go_wp2_with (at_builtin; refine wpList_append_own _ rfl _ _ 28 rfl _ 9 i0 (.string ByteArray.empty) 1 16 Tryd.underlying28 hi hz0 hz1 hz2 rfl (by decide) _ _ _ rfl (hown.alloc _) ⟨u5.heap.size, 0, none⟩ 1 1 [.string ⟨#[35]⟩] rfl rfl (str_one_new _ _ _) (by simp [Value.oneCell']) (by unfold maxLen; omega) (by omega) (Nat.le_trans hb0.size (by simp)) ?_; intro vH w5 hown1 hgrow1 _)
  clear hi hz0 hz1 hz2
  obtain ⟨gH, cH, rfl⟩ := owns_succ hown1
  have hb := (hb0.alloc hb0.size _).grown hgrow1 (Nat.le_trans hb0.size (by simp)) (fun k e => (hown.lt k e).1)
  rw [show ((n.take k).map fun (s : List UInt8) => Value.string ⟨s.toArray⟩) ++ [Value.string ⟨#[35]⟩] = ((n.take k) ++ [[35]]).map fun (s : List UInt8) => Value.string ⟨s.toArray⟩ by simp] at hown1
  obtain ⟨hrow, _, hcapH⟩ := Row.of_own hown1
  have RH0 := Lib.hid hrow
  have hB5 := hB4.trans (hb.mono hB4.size)
  have RL2 := Lib.hid (RL1.out.below hb RL1.out.1)
  have RP1 := Lib.hid (RP0.out.below hb RP0.out.1)
  clear hb
  have HQH := Lib.hid hcapH
  clear hrow hown hown1 hgrow1 hb0
  by_cases hk0 : 0 < k
  · have HV := Lib.hid (show fr = true by rw [HFR.out]; simp [hk0])
    have hk0d : decide (0 < k) = true := by simpa using hk0
    clear hk0
    go_wp2_with fail
    refine (own_any n _ 0 N N HN.out (by omega) _ RL2.out).mono ?_
    rintro e u6 ⟨g, c, rfl, hown, hb0⟩
    obtain ⟨hi, hz0, hz1, hz2⟩ := HI.out
    go_wp2_with (at_builtin; refine wpList_append_own _ rfl _ _ 28 rfl _ 9 i0 (.string ByteArray.empty) 1 16 Tryd.underlying28 hi hz0 hz1 hz2 rfl (by decide) _ _ _ rfl (hown.alloc _) ⟨u6.heap.size, 0, none⟩ 1 1 [.string ⟨#[35]⟩] rfl rfl (str_one_new _ _ _) (by simp [Value.oneCell']) (by unfold maxLen; omega) (by omega) (Nat.le_trans hb0.size (by simp)) ?_; intro vQ w6 hown1 hgrow1 _)
    clear hi hz0 hz1 hz2
    obtain ⟨gQ, cQ, rfl⟩ := owns_succ hown1
    have hb := (hb0.alloc hb0.size _).grown hgrow1 (Nat.le_trans hb0.size (by simp)) (fun k e => (hown.lt k e).1)
    rw [show (n.map fun (s : List UInt8) => Value.string ⟨s.toArray⟩) ++ [Value.string ⟨#[35]⟩] = (n ++ [[35]]).map fun (s : List UInt8) => Value.string ⟨s.toArray⟩ by simp] at hown1
    obtain ⟨hrow, _, hcapQ⟩ := Row.of_own hown1
    have RQ0 := Lib.hid hrow
    have hB6 := hB5.trans (hb.mono hB5.size)
    have RL3 := Lib.hid (RL2.out.below hb RL2.out.1)
    have RP2 := Lib.hid (RP1.out.below hb RP1.out.1)
    have RH1 := Lib.hid (RH0.out.below hb RH0.out.1)
    clear hb
    have HQQ := Lib.hid hcapQ
    clear hrow hown hown1 hgrow1 hb0
    go_wp2_with fail
    refine (join_own (by rw [List.length_set]; exact HN.out) (by omega) q1 HQP.out RP2.out).mono ?_
    rintro e w7 ⟨rfl, hb⟩
    have hB7 := hB6.trans (hb.mono hB6.size)
    have RL4 := Lib.hid (RL3.out.below hb RL3.out.1)
    have RP3 := Lib.hid (RP2.out.below hb RP2.out.1)
    have RH2 := Lib.hid (RH1.out.below hb RH1.out.1)
    have RQ1 := Lib.hid (RQ0.out.below hb RQ0.out.1)
    clear hb
    go_wp2_with fail
    refine (matches_any _ s (by omega) (by omega) _ (hm.next hB7)).mono ?_
    rintro e w8 ⟨rfl, hb⟩
    rw [HP.out.1]
    rw [HV.out]
    have hB8 := hB7.trans (hb.mono hB7.size)
    have RL5 := Lib.hid (RL4.out.below hb RL4.out.1)
    have RP4 := Lib.hid (RP3.out.below hb RP3.out.1)
    have RH3 := Lib.hid (RH2.out.below hb RH2.out.1)
    have RQ2 := Lib.hid (RQ1.out.below hb RQ1.out.1)
    clear hb
    go_wp2_with fail
    refine (join_own (by simp; have := HN.out; omega) (by omega) q2 HQH.out RH3.out).mono ?_
    rintro e w9 ⟨rfl, hb⟩
    have hB9 := hB8.trans (hb.mono hB8.size)
    have RL6 := Lib.hid (RL5.out.below hb RL5.out.1)
    have RP5 := Lib.hid (RP4.out.below hb RP4.out.1)
    have RH4 := Lib.hid (RH3.out.below hb RH3.out.1)
    have RQ3 := Lib.hid (RQ2.out.below hb RQ2.out.1)
    clear hb
    go_wp2_with fail
    refine (matches_any _ s (by omega) (by omega) _ (hm.next hB9)).mono ?_
    rintro e w10 ⟨rfl, hb⟩
    rw [HP.out.2.1]
    rw [HV.out]
    have hB10 := hB9.trans (hb.mono hB9.size)
    have RL7 := Lib.hid (RL6.out.below hb RL6.out.1)
    have RP6 := Lib.hid (RP5.out.below hb RP5.out.1)
    have RH5 := Lib.hid (RH4.out.below hb RH4.out.1)
    have RQ4 := Lib.hid (RQ3.out.below hb RQ3.out.1)
    clear hb
    go_wp2_with fail
    refine (join_own (by simp; have := HN.out; omega) (by omega) q3 HQQ.out RQ4.out).mono ?_
    rintro e w11 ⟨rfl, hb⟩
    have hB11 := hB10.trans (hb.mono hB10.size)
    have RL8 := Lib.hid (RL7.out.below hb RL7.out.1)
    have RP7 := Lib.hid (RP6.out.below hb RP6.out.1)
    have RH6 := Lib.hid (RH5.out.below hb RH5.out.1)
    have RQ5 := Lib.hid (RQ4.out.below hb RQ4.out.1)
    clear hb
    go_wp2_with fail
    refine (matches_any _ s (by omega) (by omega) _ (hm.next hB11)).mono ?_
    rintro e w12 ⟨rfl, hb⟩
    rw [HP.out.2.2.1]
    have hB12 := hB11.trans (hb.mono hB11.size)
    have RL9 := Lib.hid (RL8.out.below hb RL8.out.1)
    have RP8 := Lib.hid (RP7.out.below hb RP7.out.1)
    have RH7 := Lib.hid (RH6.out.below hb RH6.out.1)
    have RQ6 := Lib.hid (RQ5.out.below hb RQ5.out.1)
    clear hb
    go_wp2_with fail
    refine (own_any n _ 0 N N HN.out (by omega) _ RL9.out).mono ?_
    rintro e u13 ⟨gO, cO, rfl, hown, hb0⟩
    obtain ⟨hrow, hcapO, hb⟩ := own_set (k := k) hown hb0 o
    have kx := own_cell hown HX.out hkN
    have kf := hown.frozenAt k
    have RO0 := Lib.hid hrow
    have hB13 := hB12.trans (hb.mono hB12.size)
    have RL10 := Lib.hid (RL9.out.below hb RL9.out.1)
    have RP9 := Lib.hid (RP8.out.below hb RP8.out.1)
    have RH8 := Lib.hid (RH7.out.below hb RH7.out.1)
    have RQ7 := Lib.hid (RQ6.out.below hb RQ6.out.1)
    clear hb
    have HQO := Lib.hid hcapO
    clear hrow hown hb0
    go_wp2_with fail
    refine (join_own (by rw [List.length_set]; exact HN.out) (by omega) (by rw [← HF.out]; omega) HQO.out RO0.out).mono ?_
    rintro e w14 ⟨rfl, hb⟩
    rw [← HF.out]
    have hB14 := hB13.trans (hb.mono hB13.size)
    have RL11 := Lib.hid (RL10.out.below hb RL10.out.1)
    have RP10 := Lib.hid (RP9.out.below hb RP9.out.1)
    have RH9 := Lib.hid (RH8.out.below hb RH8.out.1)
    have RQ8 := Lib.hid (RQ7.out.below hb RQ7.out.1)
    have RO1 := Lib.hid (RO0.out.below hb RO0.out.1)
    clear hb
    clear kx kf
    have kl := RL11.out.2 k x HX.out
    rw [Nat.zero_add] at kl
    by_cases h1 : o = x
    · have d1 : (o == x) = true := by simpa using h1
      clear h1
      go_wp2
      go_ret
      exact ⟨rfl, hB14⟩
    have d1 : (o == x) = false := by simpa using h1
    by_cases h2 : o = [43]
    · have d2 : (o == [43]) = true := by simpa using h2
      clear h1 h2
      go_wp2
      go_ret
      exact ⟨rfl, hB14⟩
    have d2 : (o == [43]) = false := by simpa using h2
    by_cases h3 : o = [35]
    · have d3 : (o == [35]) = true := by simpa using h3
      clear h1 h2 h3
      go_wp2
      go_ret
      exact ⟨rfl, hB14⟩
    have d3 : (o == [35]) = false := by simpa using h3
    cases h4 : filterB F with
    | false =>
      replace h4 := Lib.hid h4
      clear h1 h2 h3
      go_wp2_with fail
      refine (filter_any F (by omega) _ (hm.next hB14)).mono ?_
      rintro e w15 ⟨rfl, hb⟩
      rw [h4.out]
      have hB15 := hB14.trans (hb.mono hB14.size)
      have RL12 := Lib.hid (RL11.out.below hb RL11.out.1)
      have RP11 := Lib.hid (RP10.out.below hb RP10.out.1)
      have RH10 := Lib.hid (RH9.out.below hb RH9.out.1)
      have RQ9 := Lib.hid (RQ8.out.below hb RQ8.out.1)
      have RO2 := Lib.hid (RO1.out.below hb RO1.out.1)
      clear hb
      go_wp2
      go_ret
      exact ⟨rfl, hB15⟩
    | true =>
      replace h4 := Lib.hid h4
      by_cases h5 : (splitS F).length = N
      · have h6 := Lib.hid (HP.out.2.2.2 h1 h2 h3 h5)
        replace h5 := Lib.hid h5
        clear h1 h2 h3
        go_wp2_with fail
        refine (filter_any F (by omega) _ (hm.next hB14)).mono ?_
        rintro e w15 ⟨rfl, hb⟩
        rw [h4.out]
        have hB15 := hB14.trans (hb.mono hB14.size)
        have RL12 := Lib.hid (RL11.out.below hb RL11.out.1)
        have RP11 := Lib.hid (RP10.out.below hb RP10.out.1)
        have RH10 := Lib.hid (RH9.out.below hb RH9.out.1)
        have RQ9 := Lib.hid (RQ8.out.below hb RQ8.out.1)
        have RO2 := Lib.hid (RO1.out.below hb RO1.out.1)
        clear hb
        go_wp2_with fail
        refine (LF.out _ (hm.next hB15)).mono ?_
        rintro e w16 ⟨rfl, hw⟩
        have hb : Below w15.heap.size w15 w16 := by rw [hw]; exact below_al1
        clear hw
        have hB16 := hB15.trans (hb.mono hB15.size)
        have RL13 := Lib.hid (RL12.out.below hb RL12.out.1)
        have RP12 := Lib.hid (RP11.out.below hb RP11.out.1)
        have RH11 := Lib.hid (RH10.out.below hb RH10.out.1)
        have RQ10 := Lib.hid (RQ9.out.below hb RQ9.out.1)
        have RO3 := Lib.hid (RO2.out.below hb RO2.out.1)
        clear hb
        rw [h5.out]
        go_wp2_with fail
        refine (matches_any F s (by omega) (by omega) _ (hm.next hB16)).mono ?_
        rintro e w17 ⟨rfl, hb⟩
        rw [h6.out]
        have hB17 := hB16.trans (hb.mono hB16.size)
        have RL14 := Lib.hid (RL13.out.below hb RL13.out.1)
        have RP13 := Lib.hid (RP12.out.below hb RP12.out.1)
        have RH12 := Lib.hid (RH11.out.below hb RH11.out.1)
        have RQ11 := Lib.hid (RQ10.out.below hb RQ10.out.1)
        have RO4 := Lib.hid (RO3.out.below hb RO3.out.1)
        clear hb
        go_wp2
        go_ret
        exact ⟨rfl, hB17⟩
      · obtain ⟨M, hM⟩ : ∃ M, M = (splitS F).length := ⟨_, rfl⟩
        rw [← hM] at h5
        have h7 := Lib.hid hM
        have h8 : ((M : Int) != (N : Int)) = true := by rw [bne_iff_ne]; omega
        have h9 : ((M : Int) == (N : Int)) = false := by rw [beq_eq_false_iff_ne]; omega
        clear h1 h2 h3 h5 hM
        go_wp2_with fail
        refine (filter_any F (by omega) _ (hm.next hB14)).mono ?_
        rintro e w15 ⟨rfl, hb⟩
        rw [h4.out]
        have hB15 := hB14.trans (hb.mono hB14.size)
        have RL12 := Lib.hid (RL11.out.below hb RL11.out.1)
        have RP11 := Lib.hid (RP10.out.below hb RP10.out.1)
        have RH10 := Lib.hid (RH9.out.below hb RH9.out.1)
        have RQ9 := Lib.hid (RQ8.out.below hb RQ8.out.1)
        have RO2 := Lib.hid (RO1.out.below hb RO1.out.1)
        clear hb
        go_wp2_with fail
        refine (LF.out _ (hm.next hB15)).mono ?_
        rintro e w16 ⟨rfl, hw⟩
        have hb : Below w15.heap.size w15 w16 := by rw [hw]; exact below_al1
        clear hw
        have hB16 := hB15.trans (hb.mono hB15.size)
        have RL13 := Lib.hid (RL12.out.below hb RL12.out.1)
        have RP12 := Lib.hid (RP11.out.below hb RP11.out.1)
        have RH11 := Lib.hid (RH10.out.below hb RH10.out.1)
        have RQ10 := Lib.hid (RQ9.out.below hb RQ9.out.1)
        have RO3 := Lib.hid (RO2.out.below hb RO2.out.1)
        clear hb
        rw [← h7.out]
        go_wp2
        go_ret
        exact ⟨rfl, hB16⟩
  · have hk0d : decide (0 < k) = false := by simpa using hk0
    cases hd : dollarB s with
    | true =>
      have HV := Lib.hid (show fr = false by rw [HFR.out, hk0d, hd]; rfl)
      have HD := Lib.hid hd
      clear hd hk0
      go_wp2_with fail
      refine (own_any n _ 0 N N HN.out (by omega) _ RL2.out).mono ?_
      rintro e u6 ⟨g, c, rfl, hown, hb0⟩
      obtain ⟨hi, hz0, hz1, hz2⟩ := HI.out
      go_wp2_with (at_builtin; refine wpList_append_own _ rfl _ _ 28 rfl _ 9 i0 (.string ByteArray.empty) 1 16 Tryd.underlying28 hi hz0 hz1 hz2 rfl (by decide) _ _ _ rfl (hown.alloc _) ⟨u6.heap.size, 0, none⟩ 1 1 [.string ⟨#[35]⟩] rfl rfl (str_one_new _ _ _) (by simp [Value.oneCell']) (by unfold maxLen; omega) (by omega) (Nat.le_trans hb0.size (by simp)) ?_; intro vQ w6 hown1 hgrow1 _)
      clear hi hz0 hz1 hz2
      obtain ⟨gQ, cQ, rfl⟩ := owns_succ hown1
      have hb := (hb0.alloc hb0.size _).grown hgrow1 (Nat.le_trans hb0.size (by simp)) (fun k e => (hown.lt k e).1)
      rw [show (n.map fun (s : List UInt8) => Value.string ⟨s.toArray⟩) ++ [Value.string ⟨#[35]⟩] = (n ++ [[35]]).map fun (s : List UInt8) => Value.string ⟨s.toArray⟩ by simp] at hown1
      obtain ⟨hrow, _, hcapQ⟩ := Row.of_own hown1
      have RQ0 := Lib.hid hrow
      have hB6 := hB5.trans (hb.mono hB5.size)
      have RL3 := Lib.hid (RL2.out.below hb RL2.out.1)
      have RP2 := Lib.hid (RP1.out.below hb RP1.out.1)
      have RH1 := Lib.hid (RH0.out.below hb RH0.out.1)
      clear hb
      have HQQ := Lib.hid hcapQ
      clear hrow hown hown1 hgrow1 hb0
      go_wp2_with fail
      refine (dollar_any s _ (by omega)).mono ?_
      rintro e w' ⟨rfl, rfl⟩
      rw [HD.out]
      go_wp2_with fail
      refine (join_own (by rw [List.length_set]; exact HN.out) (by omega) q1 HQP.out RP2.out).mono ?_
      rintro e w7 ⟨rfl, hb⟩
      have hB7 := hB6.trans (hb.mono hB6.size)
      have RL4 := Lib.hid (RL3.out.below hb RL3.out.1)
      have RP3 := Lib.hid (RP2.out.below hb RP2.out.1)
      have RH2 := Lib.hid (RH1.out.below hb RH1.out.1)
      have RQ1 := Lib.hid (RQ0.out.below hb RQ0.out.1)
      clear hb
      go_wp2_with fail
      refine (matches_any _ s (by omega) (by omega) _ (hm.next hB7)).mono ?_
      rintro e w8 ⟨rfl, hb⟩
      rw [HP.out.1]
      rw [HV.out]
      have hB8 := hB7.trans (hb.mono hB7.size)
      have RL5 := Lib.hid (RL4.out.below hb RL4.out.1)
      have RP4 := Lib.hid (RP3.out.below hb RP3.out.1)
      have RH3 := Lib.hid (RH2.out.below hb RH2.out.1)
      have RQ2 := Lib.hid (RQ1.out.below hb RQ1.out.1)
      clear hb
      go_wp2_with fail
      refine (join_own (by simp; have := HN.out; omega) (by omega) q2 HQH.out RH3.out).mono ?_
      rintro e w9 ⟨rfl, hb⟩
      have hB9 := hB8.trans (hb.mono hB8.size)
      have RL6 := Lib.hid (RL5.out.below hb RL5.out.1)
      have RP5 := Lib.hid (RP4.out.below hb RP4.out.1)
      have RH4 := Lib.hid (RH3.out.below hb RH3.out.1)
      have RQ3 := Lib.hid (RQ2.out.below hb RQ2.out.1)
      clear hb
      go_wp2_with fail
      refine (matches_any _ s (by omega) (by omega) _ (hm.next hB9)).mono ?_
      rintro e w10 ⟨rfl, hb⟩
      rw [HP.out.2.1]
      rw [HV.out]
      have hB10 := hB9.trans (hb.mono hB9.size)
      have RL7 := Lib.hid (RL6.out.below hb RL6.out.1)
      have RP6 := Lib.hid (RP5.out.below hb RP5.out.1)
      have RH5 := Lib.hid (RH4.out.below hb RH4.out.1)
      have RQ4 := Lib.hid (RQ3.out.below hb RQ3.out.1)
      clear hb
      go_wp2_with fail
      refine (join_own (by simp; have := HN.out; omega) (by omega) q3 HQQ.out RQ4.out).mono ?_
      rintro e w11 ⟨rfl, hb⟩
      have hB11 := hB10.trans (hb.mono hB10.size)
      have RL8 := Lib.hid (RL7.out.below hb RL7.out.1)
      have RP7 := Lib.hid (RP6.out.below hb RP6.out.1)
      have RH6 := Lib.hid (RH5.out.below hb RH5.out.1)
      have RQ5 := Lib.hid (RQ4.out.below hb RQ4.out.1)
      clear hb
      go_wp2_with fail
      refine (matches_any _ s (by omega) (by omega) _ (hm.next hB11)).mono ?_
      rintro e w12 ⟨rfl, hb⟩
      rw [HP.out.2.2.1]
      have hB12 := hB11.trans (hb.mono hB11.size)
      have RL9 := Lib.hid (RL8.out.below hb RL8.out.1)
      have RP8 := Lib.hid (RP7.out.below hb RP7.out.1)
      have RH7 := Lib.hid (RH6.out.below hb RH6.out.1)
      have RQ6 := Lib.hid (RQ5.out.below hb RQ5.out.1)
      clear hb
      go_wp2_with fail
      refine (own_any n _ 0 N N HN.out (by omega) _ RL9.out).mono ?_
      rintro e u13 ⟨gO, cO, rfl, hown, hb0⟩
      obtain ⟨hrow, hcapO, hb⟩ := own_set (k := k) hown hb0 o
      have kx := own_cell hown HX.out hkN
      have kf := hown.frozenAt k
      have RO0 := Lib.hid hrow
      have hB13 := hB12.trans (hb.mono hB12.size)
      have RL10 := Lib.hid (RL9.out.below hb RL9.out.1)
      have RP9 := Lib.hid (RP8.out.below hb RP8.out.1)
      have RH8 := Lib.hid (RH7.out.below hb RH7.out.1)
      have RQ7 := Lib.hid (RQ6.out.below hb RQ6.out.1)
      clear hb
      have HQO := Lib.hid hcapO
      clear hrow hown hb0
      go_wp2_with fail
      refine (join_own (by rw [List.length_set]; exact HN.out) (by omega) (by rw [← HF.out]; omega) HQO.out RO0.out).mono ?_
      rintro e w14 ⟨rfl, hb⟩
      rw [← HF.out]
      have hB14 := hB13.trans (hb.mono hB13.size)
      have RL11 := Lib.hid (RL10.out.below hb RL10.out.1)
      have RP10 := Lib.hid (RP9.out.below hb RP9.out.1)
      have RH9 := Lib.hid (RH8.out.below hb RH8.out.1)
      have RQ8 := Lib.hid (RQ7.out.below hb RQ7.out.1)
      have RO1 := Lib.hid (RO0.out.below hb RO0.out.1)
      clear hb
      clear kx kf
      have kl := RL11.out.2 k x HX.out
      rw [Nat.zero_add] at kl
      by_cases h1 : o = x
      · have d1 : (o == x) = true := by simpa using h1
        clear h1
        go_wp2
        go_ret
        exact ⟨rfl, hB14⟩
      have d1 : (o == x) = false := by simpa using h1
      by_cases h2 : o = [43]
      · have d2 : (o == [43]) = true := by simpa using h2
        clear h1 h2
        go_wp2
        go_ret
        exact ⟨rfl, hB14⟩
      have d2 : (o == [43]) = false := by simpa using h2
      by_cases h3 : o = [35]
      · have d3 : (o == [35]) = true := by simpa using h3
        clear h1 h2 h3
        go_wp2
        go_ret
        exact ⟨rfl, hB14⟩
      have d3 : (o == [35]) = false := by simpa using h3
      cases h4 : filterB F with
      | false =>
        replace h4 := Lib.hid h4
        clear h1 h2 h3
        go_wp2_with fail
        refine (filter_any F (by omega) _ (hm.next hB14)).mono ?_
        rintro e w15 ⟨rfl, hb⟩
        rw [h4.out]
        have hB15 := hB14.trans (hb.mono hB14.size)
        have RL12 := Lib.hid (RL11.out.below hb RL11.out.1)
        have RP11 := Lib.hid (RP10.out.below hb RP10.out.1)
        have RH10 := Lib.hid (RH9.out.below hb RH9.out.1)
        have RQ9 := Lib.hid (RQ8.out.below hb RQ8.out.1)
        have RO2 := Lib.hid (RO1.out.below hb RO1.out.1)
        clear hb
        go_wp2
        go_ret
        exact ⟨rfl, hB15⟩
      | true =>
        replace h4 := Lib.hid h4
        by_cases h5 : (splitS F).length = N
        · have h6 := Lib.hid (HP.out.2.2.2 h1 h2 h3 h5)
          replace h5 := Lib.hid h5
          clear h1 h2 h3
          go_wp2_with fail
          refine (filter_any F (by omega) _ (hm.next hB14)).mono ?_
          rintro e w15 ⟨rfl, hb⟩
          rw [h4.out]
          have hB15 := hB14.trans (hb.mono hB14.size)
          have RL12 := Lib.hid (RL11.out.below hb RL11.out.1)
          have RP11 := Lib.hid (RP10.out.below hb RP10.out.1)
          have RH10 := Lib.hid (RH9.out.below hb RH9.out.1)
          have RQ9 := Lib.hid (RQ8.out.below hb RQ8.out.1)
          have RO2 := Lib.hid (RO1.out.below hb RO1.out.1)
          clear hb
          go_wp2_with fail
          refine (LF.out _ (hm.next hB15)).mono ?_
          rintro e w16 ⟨rfl, hw⟩
          have hb : Below w15.heap.size w15 w16 := by rw [hw]; exact below_al1
          clear hw
          have hB16 := hB15.trans (hb.mono hB15.size)
          have RL13 := Lib.hid (RL12.out.below hb RL12.out.1)
          have RP12 := Lib.hid (RP11.out.below hb RP11.out.1)
          have RH11 := Lib.hid (RH10.out.below hb RH10.out.1)
          have RQ10 := Lib.hid (RQ9.out.below hb RQ9.out.1)
          have RO3 := Lib.hid (RO2.out.below hb RO2.out.1)
          clear hb
          rw [h5.out]
          go_wp2_with fail
          refine (matches_any F s (by omega) (by omega) _ (hm.next hB16)).mono ?_
          rintro e w17 ⟨rfl, hb⟩
          rw [h6.out]
          have hB17 := hB16.trans (hb.mono hB16.size)
          have RL14 := Lib.hid (RL13.out.below hb RL13.out.1)
          have RP13 := Lib.hid (RP12.out.below hb RP12.out.1)
          have RH12 := Lib.hid (RH11.out.below hb RH11.out.1)
          have RQ11 := Lib.hid (RQ10.out.below hb RQ10.out.1)
          have RO4 := Lib.hid (RO3.out.below hb RO3.out.1)
          clear hb
          go_wp2
          go_ret
          exact ⟨rfl, hB17⟩
        · obtain ⟨M, hM⟩ : ∃ M, M = (splitS F).length := ⟨_, rfl⟩
          rw [← hM] at h5
          have h7 := Lib.hid hM
          have h8 : ((M : Int) != (N : Int)) = true := by rw [bne_iff_ne]; omega
          have h9 : ((M : Int) == (N : Int)) = false := by rw [beq_eq_false_iff_ne]; omega
          clear h1 h2 h3 h5 hM
          go_wp2_with fail
          refine (filter_any F (by omega) _ (hm.next hB14)).mono ?_
          rintro e w15 ⟨rfl, hb⟩
          rw [h4.out]
          have hB15 := hB14.trans (hb.mono hB14.size)
          have RL12 := Lib.hid (RL11.out.below hb RL11.out.1)
          have RP11 := Lib.hid (RP10.out.below hb RP10.out.1)
          have RH10 := Lib.hid (RH9.out.below hb RH9.out.1)
          have RQ9 := Lib.hid (RQ8.out.below hb RQ8.out.1)
          have RO2 := Lib.hid (RO1.out.below hb RO1.out.1)
          clear hb
          go_wp2_with fail
          refine (LF.out _ (hm.next hB15)).mono ?_
          rintro e w16 ⟨rfl, hw⟩
          have hb : Below w15.heap.size w15 w16 := by rw [hw]; exact below_al1
          clear hw
          have hB16 := hB15.trans (hb.mono hB15.size)
          have RL13 := Lib.hid (RL12.out.below hb RL12.out.1)
          have RP12 := Lib.hid (RP11.out.below hb RP11.out.1)
          have RH11 := Lib.hid (RH10.out.below hb RH10.out.1)
          have RQ10 := Lib.hid (RQ9.out.below hb RQ9.out.1)
          have RO3 := Lib.hid (RO2.out.below hb RO2.out.1)
          clear hb
          rw [← h7.out]
          go_wp2
          go_ret
          exact ⟨rfl, hB16⟩
    | false =>
      have HV := Lib.hid (show fr = true by rw [HFR.out, hk0d, hd]; rfl)
      have HD := Lib.hid hd
      clear hd hk0
      go_wp2_with fail
      refine (own_any n _ 0 N N HN.out (by omega) _ RL2.out).mono ?_
      rintro e u6 ⟨g, c, rfl, hown, hb0⟩
      obtain ⟨hi, hz0, hz1, hz2⟩ := HI.out
      go_wp2_with (at_builtin; refine wpList_append_own _ rfl _ _ 28 rfl _ 9 i0 (.string ByteArray.empty) 1 16 Tryd.underlying28 hi hz0 hz1 hz2 rfl (by decide) _ _ _ rfl (hown.alloc _) ⟨u6.heap.size, 0, none⟩ 1 1 [.string ⟨#[35]⟩] rfl rfl (str_one_new _ _ _) (by simp [Value.oneCell']) (by unfold maxLen; omega) (by omega) (Nat.le_trans hb0.size (by simp)) ?_; intro vQ w6 hown1 hgrow1 _)
      clear hi hz0 hz1 hz2
      obtain ⟨gQ, cQ, rfl⟩ := owns_succ hown1
      have hb := (hb0.alloc hb0.size _).grown hgrow1 (Nat.le_trans hb0.size (by simp)) (fun k e => (hown.lt k e).1)
      rw [show (n.map fun (s : List UInt8) => Value.string ⟨s.toArray⟩) ++ [Value.string ⟨#[35]⟩] = (n ++ [[35]]).map fun (s : List UInt8) => Value.string ⟨s.toArray⟩ by simp] at hown1
      obtain ⟨hrow, _, hcapQ⟩ := Row.of_own hown1
      have RQ0 := Lib.hid hrow
      have hB6 := hB5.trans (hb.mono hB5.size)
      have RL3 := Lib.hid (RL2.out.below hb RL2.out.1)
      have RP2 := Lib.hid (RP1.out.below hb RP1.out.1)
      have RH1 := Lib.hid (RH0.out.below hb RH0.out.1)
      clear hb
      have HQQ := Lib.hid hcapQ
      clear hrow hown hown1 hgrow1 hb0
      go_wp2_with fail
      refine (dollar_any s _ (by omega)).mono ?_
      rintro e w' ⟨rfl, rfl⟩
      rw [HD.out]
      go_wp2_with fail
      refine (join_own (by rw [List.length_set]; exact HN.out) (by omega) q1 HQP.out RP2.out).mono ?_
      rintro e w7 ⟨rfl, hb⟩
      have hB7 := hB6.trans (hb.mono hB6.size)
      have RL4 := Lib.hid (RL3.out.below hb RL3.out.1)
      have RP3 := Lib.hid (RP2.out.below hb RP2.out.1)
      have RH2 := Lib.hid (RH1.out.below hb RH1.out.1)
      have RQ1 := Lib.hid (RQ0.out.below hb RQ0.out.1)
      clear hb
      go_wp2_with fail
      refine (matches_any _ s (by omega) (by omega) _ (hm.next hB7)).mono ?_
      rintro e w8 ⟨rfl, hb⟩
      rw [HP.out.1]
      rw [HV.out]
      have hB8 := hB7.trans (hb.mono hB7.size)
      have RL5 := Lib.hid (RL4.out.below hb RL4.out.1)
      have RP4 := Lib.hid (RP3.out.below hb RP3.out.1)
      have RH3 := Lib.hid (RH2.out.below hb RH2.out.1)
      have RQ2 := Lib.hid (RQ1.out.below hb RQ1.out.1)
      clear hb
      go_wp2_with fail
      refine (join_own (by simp; have := HN.out; omega) (by omega) q2 HQH.out RH3.out).mono ?_
      rintro e w9 ⟨rfl, hb⟩
      have hB9 := hB8.trans (hb.mono hB8.size)
      have RL6 := Lib.hid (RL5.out.below hb RL5.out.1)
      have RP5 := Lib.hid (RP4.out.below hb RP4.out.1)
      have RH4 := Lib.hid (RH3.out.below hb RH3.out.1)
      have RQ3 := Lib.hid (RQ2.out.below hb RQ2.out.1)
      clear hb
      go_wp2_with fail
      refine (matches_any _ s (by omega) (by omega) _ (hm.next hB9)).mono ?_
      rintro e w10 ⟨rfl, hb⟩
      rw [HP.out.2.1]
      rw [HV.out]
      have hB10 := hB9.trans (hb.mono hB9.size)
      have RL7 := Lib.hid (RL6.out.below hb RL6.out.1)
      have RP6 := Lib.hid (RP5.out.below hb RP5.out.1)
      have RH5 := Lib.hid (RH4.out.below hb RH4.out.1)
      have RQ4 := Lib.hid (RQ3.out.below hb RQ3.out.1)
      clear hb
      go_wp2_with fail
      refine (join_own (by simp; have := HN.out; omega) (by omega) q3 HQQ.out RQ4.out).mono ?_
      rintro e w11 ⟨rfl, hb⟩
      have hB11 := hB10.trans (hb.mono hB10.size)
      have RL8 := Lib.hid (RL7.out.below hb RL7.out.1)
      have RP7 := Lib.hid (RP6.out.below hb RP6.out.1)
      have RH6 := Lib.hid (RH5.out.below hb RH5.out.1)
      have RQ5 := Lib.hid (RQ4.out.below hb RQ4.out.1)
      clear hb
      go_wp2_with fail
      refine (matches_any _ s (by omega) (by omega) _ (hm.next hB11)).mono ?_
      rintro e w12 ⟨rfl, hb⟩
      rw [HP.out.2.2.1]
      have hB12 := hB11.trans (hb.mono hB11.size)
      have RL9 := Lib.hid (RL8.out.below hb RL8.out.1)
      have RP8 := Lib.hid (RP7.out.below hb RP7.out.1)
      have RH7 := Lib.hid (RH6.out.below hb RH6.out.1)
      have RQ6 := Lib.hid (RQ5.out.below hb RQ5.out.1)
      clear hb
      go_wp2_with fail
      refine (own_any n _ 0 N N HN.out (by omega) _ RL9.out).mono ?_
      rintro e u13 ⟨gO, cO, rfl, hown, hb0⟩
      obtain ⟨hrow, hcapO, hb⟩ := own_set (k := k) hown hb0 o
      have kx := own_cell hown HX.out hkN
      have kf := hown.frozenAt k
      have RO0 := Lib.hid hrow
      have hB13 := hB12.trans (hb.mono hB12.size)
      have RL10 := Lib.hid (RL9.out.below hb RL9.out.1)
      have RP9 := Lib.hid (RP8.out.below hb RP8.out.1)
      have RH8 := Lib.hid (RH7.out.below hb RH7.out.1)
      have RQ7 := Lib.hid (RQ6.out.below hb RQ6.out.1)
      clear hb
      have HQO := Lib.hid hcapO
      clear hrow hown hb0
      go_wp2_with fail
      refine (join_own (by rw [List.length_set]; exact HN.out) (by omega) (by rw [← HF.out]; omega) HQO.out RO0.out).mono ?_
      rintro e w14 ⟨rfl, hb⟩
      rw [← HF.out]
      have hB14 := hB13.trans (hb.mono hB13.size)
      have RL11 := Lib.hid (RL10.out.below hb RL10.out.1)
      have RP10 := Lib.hid (RP9.out.below hb RP9.out.1)
      have RH9 := Lib.hid (RH8.out.below hb RH8.out.1)
      have RQ8 := Lib.hid (RQ7.out.below hb RQ7.out.1)
      have RO1 := Lib.hid (RO0.out.below hb RO0.out.1)
      clear hb
      clear kx kf
      have kl := RL11.out.2 k x HX.out
      rw [Nat.zero_add] at kl
      by_cases h1 : o = x
      · have d1 : (o == x) = true := by simpa using h1
        clear h1
        go_wp2
        go_ret
        exact ⟨rfl, hB14⟩
      have d1 : (o == x) = false := by simpa using h1
      by_cases h2 : o = [43]
      · have d2 : (o == [43]) = true := by simpa using h2
        clear h1 h2
        go_wp2
        go_ret
        exact ⟨rfl, hB14⟩
      have d2 : (o == [43]) = false := by simpa using h2
      by_cases h3 : o = [35]
      · have d3 : (o == [35]) = true := by simpa using h3
        clear h1 h2 h3
        go_wp2
        go_ret
        exact ⟨rfl, hB14⟩
      have d3 : (o == [35]) = false := by simpa using h3
      cases h4 : filterB F with
      | false =>
        replace h4 := Lib.hid h4
        clear h1 h2 h3
        go_wp2_with fail
        refine (filter_any F (by omega) _ (hm.next hB14)).mono ?_
        rintro e w15 ⟨rfl, hb⟩
        rw [h4.out]
        have hB15 := hB14.trans (hb.mono hB14.size)
        have RL12 := Lib.hid (RL11.out.below hb RL11.out.1)
        have RP11 := Lib.hid (RP10.out.below hb RP10.out.1)
        have RH10 := Lib.hid (RH9.out.below hb RH9.out.1)
        have RQ9 := Lib.hid (RQ8.out.below hb RQ8.out.1)
        have RO2 := Lib.hid (RO1.out.below hb RO1.out.1)
        clear hb
        go_wp2
        go_ret
        exact ⟨rfl, hB15⟩
      | true =>
        replace h4 := Lib.hid h4
        by_cases h5 : (splitS F).length = N
        · have h6 := Lib.hid (HP.out.2.2.2 h1 h2 h3 h5)
          replace h5 := Lib.hid h5
          clear h1 h2 h3
          go_wp2_with fail
          refine (filter_any F (by omega) _ (hm.next hB14)).mono ?_
          rintro e w15 ⟨rfl, hb⟩
          rw [h4.out]
          have hB15 := hB14.trans (hb.mono hB14.size)
          have RL12 := Lib.hid (RL11.out.below hb RL11.out.1)
          have RP11 := Lib.hid (RP10.out.below hb RP10.out.1)
          have RH10 := Lib.hid (RH9.out.below hb RH9.out.1)
          have RQ9 := Lib.hid (RQ8.out.below hb RQ8.out.1)
          have RO2 := Lib.hid (RO1.out.below hb RO1.out.1)
          clear hb
          go_wp2_with fail
          refine (LF.out _ (hm.next hB15)).mono ?_
          rintro e w16 ⟨rfl, hw⟩
          have hb : Below w15.heap.size w15 w16 := by rw [hw]; exact below_al1
          clear hw
          have hB16 := hB15.trans (hb.mono hB15.size)
          have RL13 := Lib.hid (RL12.out.below hb RL12.out.1)
          have RP12 := Lib.hid (RP11.out.below hb RP11.out.1)
          have RH11 := Lib.hid (RH10.out.below hb RH10.out.1)
          have RQ10 := Lib.hid (RQ9.out.below hb RQ9.out.1)
          have RO3 := Lib.hid (RO2.out.below hb RO2.out.1)
          clear hb
          rw [h5.out]
          go_wp2_with fail
          refine (matches_any F s (by omega) (by omega) _ (hm.next hB16)).mono ?_
          rintro e w17 ⟨rfl, hb⟩
          rw [h6.out]
          have hB17 := hB16.trans (hb.mono hB16.size)
          have RL14 := Lib.hid (RL13.out.below hb RL13.out.1)
          have RP13 := Lib.hid (RP12.out.below hb RP12.out.1)
          have RH12 := Lib.hid (RH11.out.below hb RH11.out.1)
          have RQ11 := Lib.hid (RQ10.out.below hb RQ10.out.1)
          have RO4 := Lib.hid (RO3.out.below hb RO3.out.1)
          clear hb
          go_wp2
          go_ret
          exact ⟨rfl, hB17⟩
        · obtain ⟨M, hM⟩ : ∃ M, M = (splitS F).length := ⟨_, rfl⟩
          rw [← hM] at h5
          have h7 := Lib.hid hM
          have h8 : ((M : Int) != (N : Int)) = true := by rw [bne_iff_ne]; omega
          have h9 : ((M : Int) == (N : Int)) = false := by rw [beq_eq_false_iff_ne]; omega
          clear h1 h2 h3 h5 hM
          go_wp2_with fail
          refine (filter_any F (by omega) _ (hm.next hB14)).mono ?_
          rintro e w15 ⟨rfl, hb⟩
          rw [h4.out]
          have hB15 := hB14.trans (hb.mono hB14.size)
          have RL12 := Lib.hid (RL11.out.below hb RL11.out.1)
          have RP11 := Lib.hid (RP10.out.below hb RP10.out.1)
          have RH10 := Lib.hid (RH9.out.below hb RH9.out.1)
          have RQ9 := Lib.hid (RQ8.out.below hb RQ8.out.1)
          have RO2 := Lib.hid (RO1.out.below hb RO1.out.1)
          clear hb
          go_wp2_with fail
          refine (LF.out _ (hm.next hB15)).mono ?_
          rintro e w16 ⟨rfl, hw⟩
          have hb : Below w15.heap.size w15 w16 := by rw [hw]; exact below_al1
          clear hw
          have hB16 := hB15.trans (hb.mono hB15.size)
          have RL13 := Lib.hid (RL12.out.below hb RL12.out.1)
          have RP12 := Lib.hid (RP11.out.below hb RP11.out.1)
          have RH11 := Lib.hid (RH10.out.below hb RH10.out.1)
          have RQ10 := Lib.hid (RQ9.out.below hb RQ9.out.1)
          have RO3 := Lib.hid (RO2.out.below hb RO2.out.1)
          clear hb
          rw [← h7.out]
          go_wp2
          go_ret
          exact ⟨rfl, hB16⟩

theorem topicWilds_walk (s o : List UInt8) (at_ : Int) (w : World) (hm : Mx w) :
    Calls Tryd.prog 6 #[.string ⟨s.toArray⟩, .int .i64 at_, .string ⟨o.toArray⟩] w fun e w' => e = .returned (.bool true) ∧ Below w.heap.size w w' := by
  by_cases hs : s.length ≤ 200
  rotate_left
  · exact topicWilds_long s o at_ (by omega) w hm
  by_cases ho : o.length ≤ 40
  rotate_left
  · exact topicWilds_long s o at_ (by omega) w hm
  cases hn : nameB s with
  | false => exact topicWilds_no s o at_ hs ho (Lib.hid hn) w hm
  | true => exact topicWilds_yes s o at_ hs ho hn w hm
end Go.Proofs.YthifcodiphglaaaDoor
