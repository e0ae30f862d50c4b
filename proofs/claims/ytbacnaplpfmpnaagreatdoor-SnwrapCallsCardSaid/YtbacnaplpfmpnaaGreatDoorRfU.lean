/- polyglotref22: layout of SUBSCRIBE and UNSUBSCRIBE; layout, all ways joined. -/
import Derived.Test.YtbacnaplpfmpnaaGreatDoorRfQ
namespace Go.Proofs.YtbacnaplpfmpnaaGreatDoor
open Go Go.RowKit Go.Shelf
set_option linter.unusedVariables false
set_option linter.unusedSimpArgs false
attribute [local go_sem ↓] Go.wp_at_zero Go.wp_at_succ load_Msg store_Msg
attribute [local irreducible] rowSem rowStore

set_option maxRecDepth 100000 in
set_option maxHeartbeats 3200000 in
theorem rlay_18_nil (u : List UInt8) (hu : u = []) (w : World) : Calls Tryz.prog 54 #[.int .i64 18, .string ⟨u.toArray⟩] w (LaySaid w ((Ms.bare 18 fl0), [], 5)) := by
  subst hu
  obtain ⟨W1, hW1, O1, O2, hB⟩ := lay_world (Ms.bare 18 fl0) w
  have hst0 := store_lay w (Ms.bare 18 fl0)
  have HO := Lib.hid (And.intro O1 hB)
  have hldm := load_msgA (A := Ms.cs (Ms.bare 18 fl0)) rfl O2
  have hst := store_msg (Ms.bare 18 fl0) O1 rfl
  clear O1 O2 hB
  unfold Ms.cs Ms.bare fl0 at hst0 hW1 hldm hst
  dsimp only at hst0 hW1 hldm hst
  go_enter Tryz.func54, Tryz.ntmps54
  go_wp2
  refine bodyPost_ret (results_row_tmp2 rfl _ _ _ _ _ _ rfl (HO.out.1.setRow _) Tryz.underlying25 rfl infoMs) rfl ?_
  exact ⟨_, rfl, intsat_nil _, below_row HO.out.2 (Nat.le_refl _) _⟩
set_option maxRecDepth 100000 in
set_option maxHeartbeats 3200000 in
theorem rlay_18_bad (b : UInt8) (r : List UInt8) (he : rfE (b.toNat : Int) ≠ 0) (w : World) : Calls Tryz.prog 54 #[.int .i64 18, .string ⟨(b :: r).toArray⟩] w (LaySaid w ((Ms.bare 18 fl0), [], rfE (b.toNat : Int))) := by
  have d1 : (b :: r).isEmpty = false := rfl
  have d2 : ((b :: r) == []) = false := rfl
  have hx : (ByteArray.mk (b :: r).toArray)[0]'(by simp [ByteArray.size]) = b := rfl
  have hz : (0 : Nat) < (ByteArray.mk (b :: r).toArray).size := by simp [ByteArray.size]
  have HRF := Lib.hid (fun w => rreadflag_any (b.toNat : Int) w)
  obtain ⟨E, hE⟩ : ∃ E, E = rfE (b.toNat : Int) := ⟨_, rfl⟩
  obtain ⟨F, hF⟩ : ∃ F, F = rfF (b.toNat : Int) := ⟨_, rfl⟩
  rw [← hE] at he
  rw [← hE, ← hF] at HRF
  rw [← hE]
  have dE : (E != 0) = true := by simpa using he
  have hb255 : (b.toNat : Int) ≤ 255 := by have := b.toNat_lt; omega
  clear hE hF he
  obtain ⟨W1, hW1, O1, O2, hB⟩ := lay_world (Ms.bare 18 fl0) w
  have hst0 := store_lay w (Ms.bare 18 fl0)
  have HO := Lib.hid (And.intro O1 (And.intro O2 hB))
  clear O1 O2 hB
  unfold Ms.cs Ms.bare fl0 at hst0 hW1
  dsimp only at hst0 hW1
  go_enter Tryz.func54, Tryz.ntmps54
  go_wp2_with fail
  refine (HRF.out _).mono ?_
  rintro r w2 ⟨rfl, hb⟩
  have O12 := (HO.out.1.below hb HO.out.1.lt).alloc (.cells #[.bool F.dup, .int .i64 F.q, .bool F.retain, .bool F.will, .bool F.clean, .int .i64 F.typ] 23 (0, 0))
  have O22 := (HO.out.2.1.below hb HO.out.2.1.lt).alloc (.cells #[.bool F.dup, .int .i64 F.q, .bool F.retain, .bool F.will, .bool F.clean, .int .i64 F.typ] 23 (0, 0))
  have hldm := load_msgA (A := Ms.cs (Ms.bare 18 fl0)) rfl O22
  have hst := store_msg (Ms.bare 18 fl0) O12 rfl
  have HF := Lib.hid (And.intro O12 (below_al (HO.out.2.2.trans (hb.mono HO.out.2.2.size)) (.cells #[.bool F.dup, .int .i64 F.q, .bool F.retain, .bool F.will, .bool F.clean, .int .i64 F.typ] 23 (0, 0))))
  clear O12 O22 hb
  unfold Ms.cs Ms.bare fl0 at hldm hst
  dsimp only at hldm hst
  go_wp2
  refine bodyPost_ret (results_row_tmp2 rfl _ _ _ _ _ _ rfl (HF.out.1.setRow _) Tryz.underlying25 rfl infoMs) rfl ?_
  exact ⟨_, rfl, intsat_nil _, below_row HF.out.2 (Nat.le_refl _) _⟩
set_option maxRecDepth 100000 in
set_option maxHeartbeats 3200000 in
theorem rlay_18_ok (b : UInt8) (r : List UInt8) (he : rfE (b.toNat : Int) = 0) (w : World) : Calls Tryz.prog 54 #[.int .i64 18, .string ⟨(b :: r).toArray⟩] w (LaySaid w ({ Ms.bare 18 fl0 with fl := rfF (b.toNat : Int) }, partsM { Ms.bare 18 fl0 with fl := rfF (b.toNat : Int) }, 0)) := by
  have d1 : (b :: r).isEmpty = false := rfl
  have d2 : ((b :: r) == []) = false := rfl
  have hx : (ByteArray.mk (b :: r).toArray)[0]'(by simp [ByteArray.size]) = b := rfl
  have hz : (0 : Nat) < (ByteArray.mk (b :: r).toArray).size := by simp [ByteArray.size]
  have HRF := Lib.hid (fun w => rreadflag_any (b.toNat : Int) w)
  obtain ⟨F, hF⟩ : ∃ F, F = rfF (b.toNat : Int) := ⟨_, rfl⟩
  rw [he, ← hF] at HRF
  rw [← hF]
  have hb255 : (b.toNat : Int) ≤ 255 := by have := b.toNat_lt; omega
  clear hF he
  have HP := Lib.hid (fun w => rparts_any { Ms.bare 18 fl0 with fl := F } rfl w)
  obtain ⟨L, hL⟩ : ∃ L, L = partsM { Ms.bare 18 fl0 with fl := F } := ⟨_, rfl⟩
  have HLp := Lib.hid (show ∀ x ∈ L, x ≠ 0 from by rw [hL]; exact parts_pos)
  rw [← hL] at HP ⊢
  clear hL
  obtain ⟨W1, hW1, O1, O2, hB⟩ := lay_world (Ms.bare 18 fl0) w
  have hst0 := store_lay w (Ms.bare 18 fl0)
  have HO := Lib.hid (And.intro O1 (And.intro O2 hB))
  clear O1 O2 hB
  unfold Ms.cs Ms.bare fl0 at hst0 hW1 HP
  dsimp only at hst0 hW1 HP
  go_enter Tryz.func54, Tryz.ntmps54
  go_wp2_with fail
  refine (HRF.out _).mono ?_
  rintro r w2 ⟨rfl, hb⟩
  have O12 := (HO.out.1.below hb HO.out.1.lt).alloc (.cells #[.bool F.dup, .int .i64 F.q, .bool F.retain, .bool F.will, .bool F.clean, .int .i64 F.typ] 23 (0, 0))
  have O22 := (HO.out.2.1.below hb HO.out.2.1.lt).alloc (.cells #[.bool F.dup, .int .i64 F.q, .bool F.retain, .bool F.will, .bool F.clean, .int .i64 F.typ] 23 (0, 0))
  have k2 := O22.cells
  have f2 := fun j => O22.frozen j
  obtain ⟨W3, hW3⟩ : ∃ W3, W3 = setFl (w2.alloc (.cells #[.bool F.dup, .int .i64 F.q, .bool F.retain, .bool F.will, .bool F.clean, .int .i64 F.typ] 23 (0, 0))) (w.heap.size + 1) F := ⟨_, rfl⟩
  have O13 : Obj? W3 w.heap.size #[.int .i64 0, .bool false, .int .i64 0, .bool false, .bool false, .bool false, .int .i64 0, .int .i64 0, .int .i64 0, .int .i64 0, .bool false, .int .i64 0, .int .i64 0, .int .i64 0, .string ⟨#[]⟩, .string ⟨#[]⟩] 25 := by rw [hW3]; exact O12.kept (grown_setFl _ _ F) (fun e => by have h0 : w.heap.size + 1 = w.heap.size := Option.some.inj e; omega)
  have O23 : Obj? W3 (w.heap.size + 1) (Ms.cs { Ms.bare 18 fl0 with fl := F }) 25 := by rw [hW3]; exact obj_setFl O22 F
  have hB3 : Below w.heap.size w W3 := by rw [hW3]; exact below_setFl (below_al (HO.out.2.2.trans (hb.mono HO.out.2.2.size)) _) (by omega) F
  have HO1 := Lib.hid (show Obj? W3.drew w.heap.size #[.int .i64 0, .bool false, .int .i64 0, .bool false, .bool false, .bool false, .int .i64 0, .int .i64 0, .int .i64 0, .int .i64 0, .bool false, .int .i64 0, .int .i64 0, .int .i64 0, .string ⟨#[]⟩, .string ⟨#[]⟩] 25 from O13)
  have HO2 := Lib.hid (show Obj? W3.drew (w.heap.size + 1) (Ms.cs { Ms.bare 18 fl0 with fl := F }) 25 from O23)
  have HB := Lib.hid (show Below w.heap.size w W3.drew from below_drewM hB3)
  clear O13 O23 hB3
  unfold setFl at hW3
  have hldm := load_msgA (A := Ms.cs { Ms.bare 18 fl0 with fl := F }) rfl HO2.out
  unfold Ms.cs Ms.bare fl0 at hldm k2
  dsimp only at hldm k2
  clear O12 O22 hb
  go_upto_region 11 with fail
  (try rw [← hW3])
  clear hW3 hst0 k2 f2
  go_region_law ((go_simp; go_at_call 88; ((with_reducible refine (HP.out _).mono ?_); (rintro r w4 ⟨v, rfl, hI, hb⟩; have O14 := HO1.out.below hb HO1.out.lt; have O24 := HO2.out.below hb HO2.out.lt; have hldm2 := load_msgA (A := Ms.cs { Ms.bare 18 fl0 with fl := F }) rfl O24; have hst := store_msg { Ms.bare 18 fl0 with fl := F } O14 rfl; unfold Ms.cs Ms.bare fl0 at hldm2 hst; dsimp only at hldm2 hst; have HF := Lib.hid (And.intro O14 (And.intro hI hb)); clear O14 O24 hI hb))))
  all_goals
    go_wp2
    refine bodyPost_ret (results_row_tmp2 rfl _ _ _ _ _ _ rfl (HF.out.1.setRow _) Tryz.underlying25 rfl infoMs) rfl ?_
    exact ⟨v, rfl, ints_far HF.out.2.1 HF.out.1 HLp.out _, below_row (HB.out.trans (HF.out.2.2.mono HB.out.size)) (Nat.le_refl _) _⟩

set_option maxRecDepth 100000 in
set_option maxHeartbeats 3200000 in
theorem rlay_20_nil (u : List UInt8) (hu : u = []) (w : World) : Calls Tryz.prog 54 #[.int .i64 20, .string ⟨u.toArray⟩] w (LaySaid w ((Ms.bare 20 fl0), [], 5)) := by
  subst hu
  obtain ⟨W1, hW1, O1, O2, hB⟩ := lay_world (Ms.bare 20 fl0) w
  have hst0 := store_lay w (Ms.bare 20 fl0)
  have HO := Lib.hid (And.intro O1 hB)
  have hldm := load_msgA (A := Ms.cs (Ms.bare 20 fl0)) rfl O2
  have hst := store_msg (Ms.bare 20 fl0) O1 rfl
  clear O1 O2 hB
  unfold Ms.cs Ms.bare fl0 at hst0 hW1 hldm hst
  dsimp only at hst0 hW1 hldm hst
  go_enter Tryz.func54, Tryz.ntmps54
  go_wp2
  refine bodyPost_ret (results_row_tmp2 rfl _ _ _ _ _ _ rfl (HO.out.1.setRow _) Tryz.underlying25 rfl infoMs) rfl ?_
  exact ⟨_, rfl, intsat_nil _, below_row HO.out.2 (Nat.le_refl _) _⟩
set_option maxRecDepth 100000 in
set_option maxHeartbeats 3200000 in
theorem rlay_20_bad (b : UInt8) (r : List UInt8) (he : rfE (b.toNat : Int) ≠ 0) (w : World) : Calls Tryz.prog 54 #[.int .i64 20, .string ⟨(b :: r).toArray⟩] w (LaySaid w ((Ms.bare 20 fl0), [], rfE (b.toNat : Int))) := by
  have d1 : (b :: r).isEmpty = false := rfl
  have d2 : ((b :: r) == []) = false := rfl
  have hx : (ByteArray.mk (b :: r).toArray)[0]'(by simp [ByteArray.size]) = b := rfl
  have hz : (0 : Nat) < (ByteArray.mk (b :: r).toArray).size := by simp [ByteArray.size]
  have HRF := Lib.hid (fun w => rreadflag_any (b.toNat : Int) w)
  obtain ⟨E, hE⟩ : ∃ E, E = rfE (b.toNat : Int) := ⟨_, rfl⟩
  obtain ⟨F, hF⟩ : ∃ F, F = rfF (b.toNat : Int) := ⟨_, rfl⟩
  rw [← hE] at he
  rw [← hE, ← hF] at HRF
  rw [← hE]
  have dE : (E != 0) = true := by simpa using he
  have hb255 : (b.toNat : Int) ≤ 255 := by have := b.toNat_lt; omega
  clear hE hF he
  obtain ⟨W1, hW1, O1, O2, hB⟩ := lay_world (Ms.bare 20 fl0) w
  have hst0 := store_lay w (Ms.bare 20 fl0)
  have HO := Lib.hid (And.intro O1 (And.intro O2 hB))
  clear O1 O2 hB
  unfold Ms.cs Ms.bare fl0 at hst0 hW1
  dsimp only at hst0 hW1
  go_enter Tryz.func54, Tryz.ntmps54
  go_wp2_with fail
  refine (HRF.out _).mono ?_
  rintro r w2 ⟨rfl, hb⟩
  have O12 := (HO.out.1.below hb HO.out.1.lt).alloc (.cells #[.bool F.dup, .int .i64 F.q, .bool F.retain, .bool F.will, .bool F.clean, .int .i64 F.typ] 23 (0, 0))
  have O22 := (HO.out.2.1.below hb HO.out.2.1.lt).alloc (.cells #[.bool F.dup, .int .i64 F.q, .bool F.retain, .bool F.will, .bool F.clean, .int .i64 F.typ] 23 (0, 0))
  have hldm := load_msgA (A := Ms.cs (Ms.bare 20 fl0)) rfl O22
  have hst := store_msg (Ms.bare 20 fl0) O12 rfl
  have HF := Lib.hid (And.intro O12 (below_al (HO.out.2.2.trans (hb.mono HO.out.2.2.size)) (.cells #[.bool F.dup, .int .i64 F.q, .bool F.retain, .bool F.will, .bool F.clean, .int .i64 F.typ] 23 (0, 0))))
  clear O12 O22 hb
  unfold Ms.cs Ms.bare fl0 at hldm hst
  dsimp only at hldm hst
  go_wp2
  refine bodyPost_ret (results_row_tmp2 rfl _ _ _ _ _ _ rfl (HF.out.1.setRow _) Tryz.underlying25 rfl infoMs) rfl ?_
  exact ⟨_, rfl, intsat_nil _, below_row HF.out.2 (Nat.le_refl _) _⟩
set_option maxRecDepth 100000 in
set_option maxHeartbeats 3200000 in
theorem rlay_20_ok (b : UInt8) (r : List UInt8) (he : rfE (b.toNat : Int) = 0) (w : World) : Calls Tryz.prog 54 #[.int .i64 20, .string ⟨(b :: r).toArray⟩] w (LaySaid w ({ Ms.bare 20 fl0 with fl := rfF (b.toNat : Int) }, partsM { Ms.bare 20 fl0 with fl := rfF (b.toNat : Int) }, 0)) := by
  have d1 : (b :: r).isEmpty = false := rfl
  have d2 : ((b :: r) == []) = false := rfl
  have hx : (ByteArray.mk (b :: r).toArray)[0]'(by simp [ByteArray.size]) = b := rfl
  have hz : (0 : Nat) < (ByteArray.mk (b :: r).toArray).size := by simp [ByteArray.size]
  have HRF := Lib.hid (fun w => rreadflag_any (b.toNat : Int) w)
  obtain ⟨F, hF⟩ : ∃ F, F = rfF (b.toNat : Int) := ⟨_, rfl⟩
  rw [he, ← hF] at HRF
  rw [← hF]
  have hb255 : (b.toNat : Int) ≤ 255 := by have := b.toNat_lt; omega
  clear hF he
  have HP := Lib.hid (fun w => rparts_any { Ms.bare 20 fl0 with fl := F } rfl w)
  obtain ⟨L, hL⟩ : ∃ L, L = partsM { Ms.bare 20 fl0 with fl := F } := ⟨_, rfl⟩
  have HLp := Lib.hid (show ∀ x ∈ L, x ≠ 0 from by rw [hL]; exact parts_pos)
  rw [← hL] at HP ⊢
  clear hL
  obtain ⟨W1, hW1, O1, O2, hB⟩ := lay_world (Ms.bare 20 fl0) w
  have hst0 := store_lay w (Ms.bare 20 fl0)
  have HO := Lib.hid (And.intro O1 (And.intro O2 hB))
  clear O1 O2 hB
  unfold Ms.cs Ms.bare fl0 at hst0 hW1 HP
  dsimp only at hst0 hW1 HP
  go_enter Tryz.func54, Tryz.ntmps54
  go_wp2_with fail
  refine (HRF.out _).mono ?_
  rintro r w2 ⟨rfl, hb⟩
  have O12 := (HO.out.1.below hb HO.out.1.lt).alloc (.cells #[.bool F.dup, .int .i64 F.q, .bool F.retain, .bool F.will, .bool F.clean, .int .i64 F.typ] 23 (0, 0))
  have O22 := (HO.out.2.1.below hb HO.out.2.1.lt).alloc (.cells #[.bool F.dup, .int .i64 F.q, .bool F.retain, .bool F.will, .bool F.clean, .int .i64 F.typ] 23 (0, 0))
  have k2 := O22.cells
  have f2 := fun j => O22.frozen j
  obtain ⟨W3, hW3⟩ : ∃ W3, W3 = setFl (w2.alloc (.cells #[.bool F.dup, .int .i64 F.q, .bool F.retain, .bool F.will, .bool F.clean, .int .i64 F.typ] 23 (0, 0))) (w.heap.size + 1) F := ⟨_, rfl⟩
  have O13 : Obj? W3 w.heap.size #[.int .i64 0, .bool false, .int .i64 0, .bool false, .bool false, .bool false, .int .i64 0, .int .i64 0, .int .i64 0, .int .i64 0, .bool false, .int .i64 0, .int .i64 0, .int .i64 0, .string ⟨#[]⟩, .string ⟨#[]⟩] 25 := by rw [hW3]; exact O12.kept (grown_setFl _ _ F) (fun e => by have h0 : w.heap.size + 1 = w.heap.size := Option.some.inj e; omega)
  have O23 : Obj? W3 (w.heap.size + 1) (Ms.cs { Ms.bare 20 fl0 with fl := F }) 25 := by rw [hW3]; exact obj_setFl O22 F
  have hB3 : Below w.heap.size w W3 := by rw [hW3]; exact below_setFl (below_al (HO.out.2.2.trans (hb.mono HO.out.2.2.size)) _) (by omega) F
  have HO1 := Lib.hid (show Obj? W3.drew w.heap.size #[.int .i64 0, .bool false, .int .i64 0, .bool false, .bool false, .bool false, .int .i64 0, .int .i64 0, .int .i64 0, .int .i64 0, .bool false, .int .i64 0, .int .i64 0, .int .i64 0, .string ⟨#[]⟩, .string ⟨#[]⟩] 25 from O13)
  have HO2 := Lib.hid (show Obj? W3.drew (w.heap.size + 1) (Ms.cs { Ms.bare 20 fl0 with fl := F }) 25 from O23)
  have HB := Lib.hid (show Below w.heap.size w W3.drew from below_drewM hB3)
  clear O13 O23 hB3
  unfold setFl at hW3
  have hldm := load_msgA (A := Ms.cs { Ms.bare 20 fl0 with fl := F }) rfl HO2.out
  unfold Ms.cs Ms.bare fl0 at hldm k2
  dsimp only at hldm k2
  clear O12 O22 hb
  go_upto_region 11 with fail
  (try rw [← hW3])
  clear hW3 hst0 k2 f2
  go_region_law ((go_simp; go_at_call 88; ((with_reducible refine (HP.out _).mono ?_); (rintro r w4 ⟨v, rfl, hI, hb⟩; have O14 := HO1.out.below hb HO1.out.lt; have O24 := HO2.out.below hb HO2.out.lt; have hldm2 := load_msgA (A := Ms.cs { Ms.bare 20 fl0 with fl := F }) rfl O24; have hst := store_msg { Ms.bare 20 fl0 with fl := F } O14 rfl; unfold Ms.cs Ms.bare fl0 at hldm2 hst; dsimp only at hldm2 hst; have HF := Lib.hid (And.intro O14 (And.intro hI hb)); clear O14 O24 hI hb))))
  all_goals
    go_wp2
    refine bodyPost_ret (results_row_tmp2 rfl _ _ _ _ _ _ rfl (HF.out.1.setRow _) Tryz.underlying25 rfl infoMs) rfl ?_
    exact ⟨v, rfl, ints_far HF.out.2.1 HF.out.1 HLp.out _, below_row (HB.out.trans (HF.out.2.2.mono HB.out.size)) (Nat.le_refl _) _⟩

theorem rlayout_any (k : Int) (hk : kindM k = true) (u : List UInt8) (w : World) : Calls Tryz.prog 54 #[.int .i64 k, .string ⟨u.toArray⟩] w (LaySaid w (layR k u)) := by
  have em : ∀ {k : Int} {u : List UInt8}, u = [] → u.isEmpty = true := fun h => by rw [h]; rfl
  have ec : ∀ {u : List UInt8}, u ≠ [] → u.isEmpty = false := fun {u} h => by cases u with | nil => exact (h rfl).elim | cons _ _ => rfl
  by_cases h18 : k = 18 ∨ k = 20
  · have e0 : lay0 k u = Ms.bare k fl0 := by rcases h18 with rfl | rfl <;> rfl
    have e : layR k u = (if u.isEmpty then (Ms.bare k fl0, [], 5) else if rfE (getB (u.take 1)) ≠ 0 then (Ms.bare k fl0, [], rfE (getB (u.take 1))) else ({ Ms.bare k fl0 with fl := rfF (getB (u.take 1)) }, partsM { Ms.bare k fl0 with fl := rfF (getB (u.take 1)) }, 0)) := by
      unfold layR; rw [if_pos h18, e0]
    rw [e]
    cases u with
    | nil => rw [if_pos (show ([] : List UInt8).isEmpty = true from rfl)]; rcases h18 with rfl | rfl; exact rlay_18_nil [] rfl w; exact rlay_20_nil [] rfl w
    | cons b r =>
      rw [if_neg (by simp)]
      have t1 : (b :: r).take 1 = [b] := rfl
      rw [t1, getB_one]
      by_cases he : rfE (b.toNat : Int) = 0
      · rw [if_neg (by rw [he]; simp)]; rcases h18 with rfl | rfl; exact rlay_18_ok b r he w; exact rlay_20_ok b r he w
      · rw [if_pos he]; rcases h18 with rfl | rfl; exact rlay_18_bad b r he w; exact rlay_20_bad b r he w
  have e : layR k u = (lay0 k u, partsM (lay0 k u), 0) := by unfold layR; rw [if_neg h18]
  rw [e]
  by_cases h24 : k = 24
  · subst h24
    by_cases hu : u = []
    · have e0 : lay0 24 u = { Ms.bare 24 fl0 with timed := false, name := [] } := by rw [hu]; rfl
      rw [e0]; exact rlay_24_nil u hu w
    · have e0 : lay0 24 u = { Ms.bare 24 fl0 with timed := true, name := [] } := by unfold lay0; rw [ec hu]; rfl
      rw [e0]; exact rlay_24_cons u hu w
  by_cases h7 : k = 7
  · subst h7
    by_cases hu : u = []
    · have e0 : lay0 7 u = { Ms.bare 7 fl0 with timed := false, name := [] } := by rw [hu]; rfl
      rw [e0]; exact rlay_7_nil u hu w
    · have e0 : lay0 7 u = { Ms.bare 7 fl0 with timed := false, name := [63] } := by unfold lay0; rw [ec hu]; rfl
      rw [e0]; exact rlay_7_cons u hu w
  by_cases h26 : k = 26
  · subst h26
    by_cases hu : u = []
    · have e0 : lay0 26 u = { Ms.bare 26 fl0 with timed := false, name := [] } := by rw [hu]; rfl
      rw [e0]; exact rlay_26_nil u hu w
    · have e0 : lay0 26 u = { Ms.bare 26 fl0 with timed := false, name := [63] } := by unfold lay0; rw [ec hu]; rfl
      rw [e0]; exact rlay_26_cons u hu w
  have e0 : lay0 k u = { Ms.bare k fl0 with timed := false, name := [] } := by
    unfold lay0 willB; rw [decide_eq_false h24, decide_eq_false h7, decide_eq_false h26]; rfl
  rw [e0]
  exact rlay_k_any u hk h24 h7 h26 (fun h => h18 (.inl h)) (fun h => h18 (.inr h)) w
end Go.Proofs.YtbacnaplpfmpnaaGreatDoor
