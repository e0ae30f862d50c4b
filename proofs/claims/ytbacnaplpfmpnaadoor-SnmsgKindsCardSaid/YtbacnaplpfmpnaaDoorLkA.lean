/- SnmsgKinds. -/
import Derived.Test.YtbacnaplpfmpnaaDoorMsX
import Derived.Test.YtbacnaplpfmpnaaDoorSnK
import Derived.Deep.RegionWith
namespace Go.Proofs.YtbacnaplpfmpnaaDoor
open Go.RowKit
set_option linter.unusedVariables false
set_option linter.unusedSimpArgs false
attribute [local go_sem ↓] load_Msg store_Msg

theorem kinds_known : ∀ k : Fin 27, knownK (allKinds.getD k 0) = true ∧ (0 < k.val → allKinds.getD (k - 1) 0 < allKinds.getD k 0) ∧ allKinds.take (k + 1) = allKinds.take k ++ [allKinds.getD k 0] := by decide +kernel
theorem topicIdF_8 (m : Ms) : topicIdF m ≠ 8 := by
  unfold topicIdF
  repeat' split
  all_goals decide
theorem nameF_8 (m : Ms) : nameF m ≠ 8 := by
  unfold nameF
  repeat' split
  all_goals decide
theorem checkM_8 (m : Ms) : (checkM m != 8) = kindM m.ty := by
  unfold checkM
  cases hk : kindM m.ty with
  | false => simp
  | true =>
    rw [if_neg (by simp)]
    split
    · rfl
    split
    · rfl
    split
    · have := topicIdF_8 m; simpa using this
    split
    · have := nameF_8 m; simpa using this
    · unfold snB
      rw [if_neg (by rw [kindM_known hk]; simp)]
      split
      · rfl
      split <;> rfl
theorem kinds_all (k : Int) : decide (k ∈ allKinds) = kindM k := by
  unfold kindM
  rw [decide_eq_decide]
  simp [allKinds]
  omega
set_option maxRecDepth 100000 in
set_option maxHeartbeats 1600000 in
theorem snmsgKinds_walk (kind : Int) (w : World) (hm : Mx w) :
    Calls Tryd.prog 5 #[.int .i64 kind] w fun e w' => e = .returned (.bool true) ∧ Below w.heap.size w w' := by
  have HL := Lib.hid lives22
  have HC := Lib.hid codes_any
  have HM := Lib.hid hm
  clear hm
  go_enter Tryd.func5, Tryd.ntmps5
  go_wp2_with fail
  refine (HL.out _ HM.out).mono ?_
  rintro r w1 ⟨rfl, hb1⟩
  go_wp2_with fail
  refine (HC.out _).mono ?_
  rintro r w2 ⟨v, rfl, hown, hb2⟩
  obtain ⟨g, cap, rfl⟩ := owns_succ (k := 26) hown
  have hcell := owns_ints hown rfl
  have HB2 := Lib.hid (hb1.trans (hb2.mono hb1.size))
  have HK := Lib.hid (fun (i : Nat) (hi : i < 27) => by have := hcell i hi; rw [Nat.zero_add] at this; exact this)
  clear hown hcell hb1 hb2
  rw [show 26 + 1 = 27 from rfl]
  go_wp2
  go_loopw [4, 5] (fun q i wr => ∃ k : Nat, k ≤ 27 ∧ i = .int .i64 k ∧ q = .bool (decide (kind ∈ allKinds.take k)) ∧ Hid (∀ i, i < 27 → wr.cell? ⟨g, i, none⟩ = some (.int .i64 (allKinds.getD i 0))) ∧ Hid (Below w.heap.size w wr)) (fun _ i _ => (27 - intOf i).toNat)
  case atStart => exact ⟨0, by omega, rfl, rfl, HK, HB2⟩
  case round =>
    obtain ⟨k, hk, rfl, rfl, HK, HB⟩ := hrel
    by_cases hlt : k < 27
    · obtain ⟨f1, f2, f3⟩ := kinds_known ⟨k, hlt⟩
      simp only at f1 f2 f3
      obtain ⟨q, hq⟩ : ∃ q, q = decide (kind ∈ allKinds.take k) := ⟨_, rfl⟩
      have hq2 : decide (kind ∈ allKinds.take (k + 1)) = (q || (allKinds.getD k 0 == kind)) := by
        rw [f3, hq]
        have e : decide (kind = allKinds.getD k 0) = (allKinds.getD k 0 == kind) := by
          by_cases h2 : allKinds.getD k 0 = kind
          · rw [h2]; simp
          · rw [decide_eq_false (fun h3 => h2 h3.symm)]; exact (beq_eq_false_iff_ne.2 h2).symm
        rw [← e]
        simp
      have c1 := HK.out k hlt
      obtain ⟨x, hx⟩ : ∃ x, x = allKinds.getD k 0 := ⟨_, rfl⟩
      rw [← hx] at f1 f2 c1 hq2
      rw [← hq]
      have HQ := Lib.hid hq2
      have d1 : decide (k < 27) = true := by simpa using hlt
      clear f3 hq hx hq2
      have HN := Lib.hid (fun w => by have := rknown_any x w; rw [f1] at this; exact this)
      rcases Nat.eq_zero_or_pos k with rfl | h0
      · clear f2 d1
        rw [show ((0 : Nat) : Int) = 0 from rfl]
        go_wp2_with fail
        go_wp2_with fail
        go_big_quiet ((go_at_call 20; exact quiet_left (HN.out _)))
        cases q
        · go_wp2
          go_roundw
          case rel => exact ⟨1, by omega, by go_num, by rw [HQ.out]; rfl, Lib.hid HK.out, Lib.hid (below_drewN HB.out _)⟩
          case measure => simp [intOf]
        · go_wp2
          go_roundw
          case rel => exact ⟨1, by omega, by go_num, by rw [HQ.out]; rfl, Lib.hid HK.out, Lib.hid (below_drewN HB.out _)⟩
          case measure => simp [intOf]
      · obtain ⟨j, rfl⟩ : ∃ j, k = j + 1 := ⟨k - 1, by omega⟩
        have c0 := HK.out j (by omega)
        have f2' := f2 (by omega)
        rw [Nat.add_sub_cancel] at f2'
        obtain ⟨y, hy⟩ : ∃ y, y = allKinds.getD j 0 := ⟨_, rfl⟩
        rw [← hy] at c0 f2'
        have d2 : decide (y < x) = true := by simpa using f2'
        have d3 : decide (x ≤ y) = false := by simpa using f2'
        clear f2 hy f2'
        go_wp2_with fail
        go_big_quiet ((go_at_call 20; exact quiet_left (HN.out _)))
        cases q
        · go_wp2
          go_roundw
          case rel => exact ⟨j + 1 + 1, by omega, by go_num, by rw [HQ.out]; rfl, Lib.hid HK.out, Lib.hid (below_drewN HB.out _)⟩
          case measure => simp [intOf]; omega
        · go_wp2
          go_roundw
          case rel => exact ⟨j + 1 + 1, by omega, by go_num, by rw [HQ.out]; rfl, Lib.hid HK.out, Lib.hid (below_drewN HB.out _)⟩
          case measure => simp [intOf]; omega
    · obtain rfl : k = 27 := by omega
      have e27 : decide (kind ∈ allKinds.take 27) = kindM kind := kinds_all kind
      rw [e27]
      clear e27 HK
      have HCk := Lib.hid (check_any (Ms.bare kind fl0) (Int.le_of_lt (by decide : (0 : Int) < 100000)) (Int.le_of_lt (by decide : (0 : Int) < 100000)) wr (HM.out.below HB.out HM.out.1))
      have HN := Lib.hid (fun w => rknown_any kind w)
      unfold Ms.cs Ms.bare fl0 at HCk
      dsimp only at HCk
      have hkd : (knownK kind && decide (kind ≠ 254)) = kindM kind := msgB_kindM kind
      obtain ⟨e, he⟩ : ∃ e, e = checkM (Ms.bare kind fl0) := ⟨_, rfl⟩
      have h8 : (e != 8) = kindM kind := by rw [he]; exact checkM_8 _
      unfold Ms.bare fl0 at he
      rw [← he] at HCk
      have HKD := Lib.hid hkd
      clear he hkd
      cases hk : kindM kind with
      | false =>
        rw [hk] at HKD h8
        have h8' : e = 8 := by simpa using h8
        subst h8'
        go_wp2_with fail
        refine HCk.out.mono ?_
        rintro r w3 ⟨rfl, hb3⟩
        have HB3 := Lib.hid (HB.out.trans (hb3.mono HB.out.size))
        clear hb3
        cases hkn : knownK kind with
        | false =>
          rw [hkn] at HN
          clear hkn
          go_wp2_with fail
          refine (HN.out _).mono ?_
          rintro r w4 ⟨rfl, hw4⟩
          subst hw4
          go_wp2
          go_ret
          exact ⟨rfl, HB3.out⟩
        | true =>
          rw [hkn] at HN HKD
          have h254 : kind = 254 := by simpa using HKD.out
          subst h254
          clear hkn
          go_wp2_with fail
          refine (HN.out _).mono ?_
          rintro r w4 ⟨rfl, hw4⟩
          subst hw4
          go_wp2
          go_ret
          exact ⟨rfl, HB3.out⟩
      | true =>
        rw [hk] at HKD h8
        have h2 : knownK kind = true ∧ kind ≠ 254 := by simpa using HKD.out
        rw [h2.1] at HN
        have d254 : (kind != 254) = true := by simpa using h2.2
        clear h2
        go_wp2_with fail
        refine HCk.out.mono ?_
        rintro r w3 ⟨rfl, hb3⟩
        have HB3 := Lib.hid (HB.out.trans (hb3.mono HB.out.size))
        clear hb3
        go_wp2_with fail
        refine (HN.out _).mono ?_
        rintro r w4 ⟨rfl, hw4⟩
        subst hw4
        go_wp2
        go_ret
        exact ⟨rfl, HB3.out⟩
end Go.Proofs.YtbacnaplpfmpnaaDoor
