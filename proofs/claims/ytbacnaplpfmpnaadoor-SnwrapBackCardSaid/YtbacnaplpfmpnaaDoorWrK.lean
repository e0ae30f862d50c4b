/- SnwrapBack. -/
import Derived.Test.YtbacnaplpfmpnaaDoorWrH
import Derived.Test.YtbacnaplpfmpnaaDoorSnK
import Derived.Deep.RegionWith
import Derived.Deep.CutRange
namespace Go.Proofs.YtbacnaplpfmpnaaDoor
open Go Go.RowKit Go.Shelf
set_option linter.unusedVariables false
set_option linter.unusedSimpArgs false
attribute [local go_sem ↓] load_Msg store_Msg load_Dg store_Dg
attribute [local irreducible] rowSem rowStore

/-- A datagram stored into a new block. -/
theorem store_newdg (w : World) (v : Value) (m : Ms) (hv : v.oneCell' = true) : (rowStore 54 ⟨w.heap.size, 0, none⟩ (.agg (dgCs v m))).run Tryd.prog (w.alloc (.cells #[.slice none 0 0, .int .i64 0, .bool false, .int .i64 0, .bool false, .bool false, .bool false, .int .i64 0, .int .i64 0, .int .i64 0, .int .i64 0, .bool false, .int .i64 0, .int .i64 0, .int .i64 0, .string ⟨#[]⟩, .string ⟨#[]⟩] 54 (0, 0))) = .ok () (w.alloc (.cells (dgCs v m) 54 (0, 0))) := by
  have h := store_dg (v0 := nilV) (m0 := ms0) (v := v) (m := m) hv (Obj?.new w (dgCs nilV ms0) 54)
  rw [World.setRow_alloc_new] at h
  exact h
/-- What stands behind the first reading. -/
def SBk (w : World) (v v1 : Value) (m : Ms) (hs : List Hp) (mp md : Int) (b : Nat) (W : World) : Prop :=
  Obj? W w.heap.size (dgCs v m) 54 ∧ Obj? W (w.heap.size + 1) #[.int .i64 mp, .int .i64 md] 56 ∧ Obj? W b (dgCs v1 m) 54 ∧ HopsAt W v1 hs ∧ Below w.heap.size w W ∧ b < W.heap.size
theorem SBk.below {w : World} {v v1 : Value} {m : Ms} {hs : List Hp} {mp md : Int} {b : Nat} {A B : World} (h : SBk w v v1 m hs mp md b A) (hb : Below A.heap.size A B) : SBk w v v1 m hs mp md b B :=
  ⟨h.1.below hb h.1.lt, h.2.1.below hb h.2.1.lt, h.2.2.1.below hb h.2.2.1.lt, h.2.2.2.1.below hb, h.2.2.2.2.1.trans (hb.mono h.2.2.2.2.1.size), Nat.lt_of_lt_of_le h.2.2.2.2.2 hb.size⟩
theorem SBk.alloc {w : World} {v v1 : Value} {m : Ms} {hs : List Hp} {mp md : Int} {b : Nat} {A : World} (h : SBk w v v1 m hs mp md b A) (o : Obj) : SBk w v v1 m hs mp md b (A.alloc o) := h.below (below_al (Below.refl _ _) o)
theorem SBk.drew {w : World} {v v1 : Value} {m : Ms} {hs : List Hp} {mp md : Int} {b : Nat} {A : World} (h : SBk w v v1 m hs mp md b A) : SBk w v v1 m hs mp md b A.drew := h.below (below_grown (quiet_grown ⟨1, rfl⟩ none))
/-- A row set beyond what is kept. -/
theorem SBk.row {w : World} {v v1 : Value} {m : Ms} {hs : List Hp} {mp md : Int} {b g : Nat} {A B : World} {C : Array Value} (h : SBk w v v1 m hs mp md b A) (hg : A.heap.size ≤ g) (hb : Below A.heap.size A B) : SBk w v v1 m hs mp md b (B.setRow g C) :=
  h.below (below_row hb hg C)
theorem new_kept {A B : World} {C : Array Value} {t : TypeId} (hb : Below ((A.alloc (.cells C t (0, 0))).drew).heap.size ((A.alloc (.cells C t (0, 0))).drew) B) : Obj? B A.heap.size C t :=
  Obj?.below (show Obj? ((A.alloc (.cells C t (0, 0))).drew) A.heap.size C t from Obj?.new A C t) hb (by show A.heap.size < (A.alloc _).heap.size; rw [World.size_alloc]; omega)
theorem new_below {A B : World} {C : Array Value} {t : TypeId} (hb : Below ((A.alloc (.cells C t (0, 0))).drew).heap.size ((A.alloc (.cells C t (0, 0))).drew) B) : Below A.heap.size A B :=
  ((below_al (Below.refl _ A) (.cells C t (0, 0))).trans ((below_grown (quiet_grown ⟨1, rfl⟩ none)).mono (by rw [World.size_alloc]; omega))).trans (hb.mono (by show A.heap.size ≤ (A.alloc _).heap.size; rw [World.size_alloc]; omega))
theorem HopsAt.one {w : World} {v : Value} {hs : List Hp} (h : HopsAt w v hs) : v.oneCell' = true := by
  obtain ⟨a, cap, rfl, -⟩ := h
  rfl
theorem HopsAt.alloc {w : World} {v : Value} {hs : List Hp} (h : HopsAt w v hs) (o : Obj) : HopsAt (w.alloc o) v hs := h.below (below_al (Below.refl _ _) o)
set_option maxRecDepth 100000 in
set_option maxHeartbeats 3200000 in
theorem snwrapBack_heavy {v : Value} {hs : List Hp} {m : Ms} (s : List UInt8) (mp md : Int) (more : UInt8) (cut : Int) {w : World} (hH : HopsAt w v hs) (hmx : Mx w) (h : lightD hs m = false) :
    Calls Tryd.prog 8 #[.agg (dgCs v m), .string ⟨s.toArray⟩, .agg #[.int .i64 mp, .int .i64 md], .int .u8 more.toNat, .int .i64 cut] w fun e w' => e = .returned (.bool true) ∧ Below w.heap.size w w' := by
  have OD := Obj?.new w (dgCs v m) 54
  have hB1 := below_al (Below.refl _ w) (.cells (dgCs v m) 54 (0, 0))
  have OL := Obj?.new (w.alloc (.cells (dgCs v m) 54 (0, 0))) #[.int .i64 mp, .int .i64 md] 56
  rw [World.size_alloc] at OL
  have HD0 := Lib.hid (OD.alloc (.cells #[.int .i64 mp, .int .i64 md] 56 (0, 0)))
  have HL0 := Lib.hid OL
  have HB0 := Lib.hid (below_al hB1 (.cells #[.int .i64 mp, .int .i64 md] 56 (0, 0)))
  have HHW := Lib.hid hH
  have HMW := Lib.hid hmx
  have HLV := Lib.hid lives23
  have HLD := Lib.hid (fun W (hB : Below w.heap.size w W) => lightdg_any (m := m) (hH.below hB))
  clear OD OL hB1 hmx
  rw [h] at HLD
  clear h
  obtain ⟨a0, cap, rfl, hnode, hlm, -⟩ := hH
  go_enter Tryd.func8, Tryd.ntmps8
  refine wp_hide fun Q1 hQ1 => ?_
  have HQ1 := Lib.hid hQ1
  clear hQ1
  go_wp2_with fail
  refine (HLV.out _ (HMW.out.below HB0.out HMW.out.1)).mono ?_
  rintro r w1 ⟨rfl, hb⟩
  have HD1 := Lib.hid (HD0.out.below hb HD0.out.lt)
  have HL1 := Lib.hid (HL0.out.below hb HL0.out.lt)
  have HB1 := Lib.hid (HB0.out.trans (hb.mono HB0.out.size))
  clear hb
  have hld := load_dg (v := .slice a0 hs.length cap) (m := m) HD1.out
  go_wp2_with fail
  refine (HLD.out _ HB1.out).mono ?_
  rintro r w2 ⟨rfl, hb⟩
  have HD2 := Lib.hid (HD1.out.below hb HD1.out.lt)
  have HL2 := Lib.hid (HL1.out.below hb HL1.out.lt)
  have HB2 := Lib.hid (HB1.out.trans (hb.mono HB1.out.size))
  clear hb hld
  go_wp2
  refine HQ1.out _ _ _ ?_
  go_ret
  exact ⟨rfl, HB2.out⟩
set_option maxRecDepth 100000 in
set_option maxHeartbeats 3200000 in
theorem snwrapBack_long {v : Value} {hs : List Hp} {m : Ms} (s : List UInt8) (mp md : Int) (more : UInt8) (cut : Int) {w : World} (hH : HopsAt w v hs) (hmx : Mx w) (h : lightD hs m = true) (hl : 400 < s.length) :
    Calls Tryd.prog 8 #[.agg (dgCs v m), .string ⟨s.toArray⟩, .agg #[.int .i64 mp, .int .i64 md], .int .u8 more.toNat, .int .i64 cut] w fun e w' => e = .returned (.bool true) ∧ Below w.heap.size w w' := by
  have OD := Obj?.new w (dgCs v m) 54
  have hB1 := below_al (Below.refl _ w) (.cells (dgCs v m) 54 (0, 0))
  have OL := Obj?.new (w.alloc (.cells (dgCs v m) 54 (0, 0))) #[.int .i64 mp, .int .i64 md] 56
  rw [World.size_alloc] at OL
  have HD0 := Lib.hid (OD.alloc (.cells #[.int .i64 mp, .int .i64 md] 56 (0, 0)))
  have HL0 := Lib.hid OL
  have HB0 := Lib.hid (below_al hB1 (.cells #[.int .i64 mp, .int .i64 md] 56 (0, 0)))
  have HHW := Lib.hid hH
  have HMW := Lib.hid hmx
  have HLV := Lib.hid lives23
  have HLD := Lib.hid (fun W (hB : Below w.heap.size w W) => lightdg_any (m := m) (hH.below hB))
  clear OD OL hB1 hmx
  rw [h] at HLD
  have d0 : (400 : Int) < s.length := by omega
  clear h
  obtain ⟨a0, cap, rfl, hnode, hlm, -⟩ := hH
  go_enter Tryd.func8, Tryd.ntmps8
  refine wp_hide fun Q1 hQ1 => ?_
  have HQ1 := Lib.hid hQ1
  clear hQ1
  go_wp2_with fail
  refine (HLV.out _ (HMW.out.below HB0.out HMW.out.1)).mono ?_
  rintro r w1 ⟨rfl, hb⟩
  have HD1 := Lib.hid (HD0.out.below hb HD0.out.lt)
  have HL1 := Lib.hid (HL0.out.below hb HL0.out.lt)
  have HB1 := Lib.hid (HB0.out.trans (hb.mono HB0.out.size))
  clear hb
  have hld := load_dg (v := .slice a0 hs.length cap) (m := m) HD1.out
  go_wp2_with fail
  refine (HLD.out _ HB1.out).mono ?_
  rintro r w2 ⟨rfl, hb⟩
  have HD2 := Lib.hid (HD1.out.below hb HD1.out.lt)
  have HL2 := Lib.hid (HL1.out.below hb HL1.out.lt)
  have HB2 := Lib.hid (HB1.out.trans (hb.mono HB1.out.size))
  clear hb hld
  go_wp2
  refine HQ1.out _ _ _ ?_
  go_ret
  exact ⟨rfl, HB2.out⟩
set_option maxRecDepth 100000 in
set_option maxHeartbeats 3200000 in
theorem snwrapBack_ok_got {v : Value} {hs : List Hp} {m : Ms} (s : List UInt8) (mp md : Int) (more : UInt8) (cut : Int) {w : World} (hH : HopsAt w v hs) (hmx : Mx w) (h : lightD hs m = true) (hl : s.length ≤ 400) (he : (wrapB hs m mp md).2 = 0) (hf : (wrapR s mp md).2.2 = 0) :
    Calls Tryd.prog 8 #[.agg (dgCs v m), .string ⟨s.toArray⟩, .agg #[.int .i64 mp, .int .i64 md], .int .u8 more.toNat, .int .i64 cut] w fun e w' => e = .returned (.bool true) ∧ Below w.heap.size w w' := by
  have hlm0 : lightM m = true := by simp only [lightD, Bool.and_eq_true] at h; exact h.1.2
  have hnd := light_len hlm0
  have OD := Obj?.new w (dgCs v m) 54
  have hB1 := below_al (Below.refl _ w) (.cells (dgCs v m) 54 (0, 0))
  have OL := Obj?.new (w.alloc (.cells (dgCs v m) 54 (0, 0))) #[.int .i64 mp, .int .i64 md] 56
  rw [World.size_alloc] at OL
  have HD0 := Lib.hid (OD.alloc (.cells #[.int .i64 mp, .int .i64 md] 56 (0, 0)))
  have HL0 := Lib.hid OL
  have HB0 := Lib.hid (below_al hB1 (.cells #[.int .i64 mp, .int .i64 md] 56 (0, 0)))
  have HHW := Lib.hid hH
  have HMW := Lib.hid hmx
  have HLV := Lib.hid lives23
  have HLD := Lib.hid (fun W (hB : Below w.heap.size w W) => lightdg_any (m := m) (hH.below hB))
  clear OD OL hB1 hmx
  rw [h] at HLD
  have d0 : (s.length : Int) ≤ 400 := by omega
  have HBy := Lib.hid (fun W (hB : Below w.heap.size w W) => wrapbytes_any (mp := mp) (md := md) (hH.below hB) (by omega : (m.name.length : Int) ≤ 100000) (by omega : (m.data.length : Int) ≤ 100000) (HMW.out.below hB HMW.out.1))
  have HCk := Lib.hid (fun W (hB : Below w.heap.size w W) => wrapcheck_any (mp := mp) (md := md) (hH.below hB) (by omega : (m.name.length : Int) ≤ 100000) (by omega : (m.data.length : Int) ≤ 100000) (HMW.out.below hB HMW.out.1))
  have HRs := Lib.hid (fun W (hB : Below w.heap.size w W) => wrapread_any s (by omega) mp md W (HMW.out.below hB HMW.out.1))
  clear h hlm0 hnd
  obtain ⟨o1, o2, o3, o4, o5, o6⟩ := wrapB_ok he
  have hmp : mp ≤ 1048576 := by simp only [limOk, decide_eq_true_eq] at o1; omega
  have hlen : (wrapB hs m mp md).1.length ≤ 1048576 ∧ ((wrapB hs m mp md).1.length : Int) ≤ mp := by rw [o6]; exact ⟨by simp only; omega, o5⟩
  have hpos : 0 < (wrapB hs m mp md).1.length := by have := bytesM_pos o4; rw [o6]; simp only [List.length_append]; omega
  have e1 := wrapR_bytes he
  have HR1 := Lib.hid (fun W (hB : Below w.heap.size w W) => wrapread_any (wrapB hs m mp md).1 (by omega) mp md W (HMW.out.below hB HMW.out.1))
  rw [e1] at HR1
  obtain ⟨j, hj⟩ : ∃ j : Nat, (j : Int) = cut % ((wrapB hs m mp md).1.length : Int) := ⟨(cut % ((wrapB hs m mp md).1.length : Int)).toNat, Int.toNat_of_nonneg (Int.emod_nonneg _ (by omega))⟩
  have hjl : j < (wrapB hs m mp md).1.length := by have := Int.emod_lt_of_pos cut (show (0 : Int) < ((wrapB hs m mp md).1.length : Int) by omega); omega
  have e2 := wrapR_cut he mp o1 (by omega) j hjl
  have HR2 := Lib.hid (fun W (hB : Below w.heap.size w W) => wrapread_any ((wrapB hs m mp md).1.take j) (by simp; omega) mp md W (HMW.out.below hB HMW.out.1))
  rw [e2] at HR2
  have HPk := Lib.hid (fun w => by have := pick_any cut ((wrapB hs m mp md).1.length : Int) (by omega) (by omega) w; rw [← hj] at this; exact this)
  have e3 := wrapR_more he more mp o1
  have HR3 := Lib.hid (fun W (hB : Below w.heap.size w W) => wrapread_any ((wrapB hs m mp md).1 ++ [more]) (by simp; omega) mp md W (HMW.out.below hB HMW.out.1))
  obtain ⟨e4a, e4b⟩ := wrapR_no (s := (wrapB hs m mp md).1 ++ [more]) (mp := mp) (md := md) (by rcases e3 with h | h <;> rw [h] <;> decide)
  rw [e4a, e4b] at HR3
  obtain ⟨E3, hE3⟩ : ∃ E3, E3 = (wrapR ((wrapB hs m mp md).1 ++ [more]) mp md).2.2 := ⟨_, rfl⟩
  rw [← hE3] at HR3 e3
  obtain ⟨B, hB⟩ : ∃ B, B = (wrapB hs m mp md).1 := ⟨_, rfl⟩
  rw [he] at HBy HCk
  rw [← hB] at HBy HR1 HR2 HR3 HPk hjl hlen hpos
  have hcut : (ByteArray.mk B.toArray).extract 0 j = ByteArray.mk (B.take j).toArray := by rw [ByteArray.extract_mk]; simp
  have hcat : ByteArray.mk B.toArray ++ ByteArray.mk #[more] = ByteArray.mk (B ++ [more]).toArray := ByteArray.mk_append_mk _ _
  have hun : UInt8.ofNat (more.toNat : Int).toNat = more := by simp
  have HCV := Lib.hid (fun w => conv_one (more.toNat : Int) w)
  rw [hun] at HCV
  have hji : (j : Int) ≤ B.length := by omega
  have hdE : (E3 == 3) = false ∧ (E3 != 5 && E3 != 4) = false := by rcases e3 with h | h <;> rw [h] <;> decide
  clear o1 o2 o3 o4 o5 o6 e1 e2 e4a e4b hE3 hB hj hun he
  have e5 := wrapR_back hf
  rw [hf] at HRs
  obtain ⟨XH, hXH⟩ : ∃ XH, XH = (wrapR s mp md).1 := ⟨_, rfl⟩
  obtain ⟨XM, hXM⟩ : ∃ XM, XM = (wrapR s mp md).2.1 := ⟨_, rfl⟩
  have hsm : (XM.name.length : Int) ≤ 100000 ∧ (XM.data.length : Int) ≤ 100000 := by rw [hXM]; exact wrapR_small s mp md
  rw [← hXH, ← hXM] at HRs e5
  have HE5 := Lib.hid e5
  have HSM' := Lib.hid hsm
  clear e5 hXH hXM hf hsm
  obtain ⟨a0, cap, rfl, hnode, hlm, -⟩ := hH
  go_enter Tryd.func8, Tryd.ntmps8
  refine wp_hide fun Q1 hQ1 => ?_
  have HQ1 := Lib.hid hQ1
  clear hQ1
  go_wp2_with fail
  refine (HLV.out _ (HMW.out.below HB0.out HMW.out.1)).mono ?_
  rintro r w1 ⟨rfl, hb⟩
  have HD1 := Lib.hid (HD0.out.below hb HD0.out.lt)
  have HL1 := Lib.hid (HL0.out.below hb HL0.out.lt)
  have HB1 := Lib.hid (HB0.out.trans (hb.mono HB0.out.size))
  clear hb
  have hld := load_dg (v := .slice a0 hs.length cap) (m := m) HD1.out
  go_wp2_with fail
  refine (HLD.out _ HB1.out).mono ?_
  rintro r w2 ⟨rfl, hb⟩
  have HD2 := Lib.hid (HD1.out.below hb HD1.out.lt)
  have HL2 := Lib.hid (HL1.out.below hb HL1.out.lt)
  have HB2 := Lib.hid (HB1.out.trans (hb.mono HB1.out.size))
  clear hb hld
  have hld := load_dg (v := .slice a0 hs.length cap) (m := m) HD2.out
  have kl := HL2.out.cells
  go_wp2_with fail
  refine (HBy.out _ HB2.out).mono ?_
  rintro r w3 ⟨rfl, hb⟩
  have HD3 := Lib.hid (HD2.out.below hb HD2.out.lt)
  have HL3 := Lib.hid (HL2.out.below hb HL2.out.lt)
  have HB3 := Lib.hid (HB2.out.trans (hb.mono HB2.out.size))
  clear hb hld kl
  have hld := load_dg (v := .slice a0 hs.length cap) (m := m) HD3.out
  have kl := HL3.out.cells
  go_wp2_with fail
  refine (HCk.out _ HB3.out).mono ?_
  rintro r w4 ⟨rfl, hb⟩
  have HD4 := Lib.hid (HD3.out.below hb HD3.out.lt)
  have HL4 := Lib.hid (HL3.out.below hb HL3.out.lt)
  have HB4 := Lib.hid (HB3.out.trans (hb.mono HB3.out.size))
  clear hb hld kl
  have kl := HL4.out.cells
  go_wp2_with fail
  refine (HR1.out _ HB4.out).mono ?_
  rintro r w5 ⟨v1, rfl, hH1, hb⟩
  have HD5 := Lib.hid (HD4.out.below hb HD4.out.lt)
  have HL5 := Lib.hid (HL4.out.below hb HL4.out.lt)
  have HB5 := Lib.hid (HB4.out.trans (hb.mono HB4.out.size))
  clear hb kl
  have hst := store_newdg w5 v1 m hH1.one
  have HX6 := Lib.hid (Obj?.new w5 (dgCs v1 m) 54)
  have HH1 := Lib.hid (hH1.alloc (.cells (dgCs v1 m) 54 (0, 0)))
  have HS6 := Lib.hid (show SBk w (.slice a0 hs.length cap) v1 m hs mp md w5.heap.size (w5.alloc (.cells (dgCs v1 m) 54 (0, 0))) from ⟨HD5.out.alloc _, HL5.out.alloc _, HX6.out, HH1.out, below_al HB5.out _, HX6.out.lt⟩)
  obtain ⟨W6, hW6⟩ : ∃ W6, W6 = w5.alloc (.cells (dgCs v1 m) 54 (0, 0)) := ⟨_, rfl⟩
  rw [← hW6] at hst HX6 HS6
  clear hW6 hH1 HH1 HX6
  have kl := HS6.out.2.1.cells
  go_wp2
  clear hst
  obtain ⟨b6, hb6⟩ : ∃ b6, b6 = w5.heap.size := ⟨_, rfl⟩
  rw [← hb6] at HS6 ⊢
  clear hb6
  have HA := Lib.hid HS6.out.drew
  have HBb := Lib.hid ((HS6.out.alloc (.cells #[.slice none 0 0, .int .i64 0, .bool false, .int .i64 0, .bool false, .bool false, .bool false, .int .i64 0, .int .i64 0, .int .i64 0, .int .i64 0, .bool false, .int .i64 0, .int .i64 0, .int .i64 0, .string ⟨#[]⟩, .string ⟨#[]⟩] 54 (0, 0))).drew)
  have HAB := Lib.hid HA.out.2.2.2.2.1
  have hlt6 : w.heap.size + 1 < W6.heap.size := HS6.out.2.1.lt
  have hne6 : ¬ (w.heap.size + 1 = W6.heap.size) := by omega
  have klB : ∀ j, (W6.alloc (.cells #[.slice none 0 0, .int .i64 0, .bool false, .int .i64 0, .bool false, .bool false, .bool false, .int .i64 0, .int .i64 0, .int .i64 0, .int .i64 0, .bool false, .int .i64 0, .int .i64 0, .int .i64 0, .string ⟨#[]⟩, .string ⟨#[]⟩] 54 (0, 0))).cell? ⟨w.heap.size + 1, j, none⟩ = _ := (HS6.out.2.1.alloc _).cells
  have HBB := Lib.hid HBb.out.2.2.2.2.1
  go_cut [15, 16] from 52 to 62 (fun (_ e16 : Value) (wx : World) => e16 = .int .i64 3 ∧ Hid (SBk w (.slice a0 hs.length cap) v1 m hs mp md b6 wx))
  case first =>
    go_region_with ((first
      | (go_at_call 17; refine (HPk.out _).mono ?_; rintro r w' ⟨rfl, hw⟩; subst hw)
      | (go_at_call 27; ((with_reducible refine (HR2.out _ HAB.out).mono ?_); (rintro r w7 ⟨v2, rfl, hH2, hb⟩; have hst := store_newdg w7 v2 ms0 hH2.one; have HS8 := Lib.hid ((HA.out.below hb).alloc (.cells (dgCs v2 ms0) 54 (0, 0))); clear hH2 hb)))
      | (go_at_call 27; ((with_reducible refine (HR2.out _ HBB.out).mono ?_); (rintro r w7 ⟨v2, rfl, hH2, hb⟩; have hst := store_dg (v0 := nilV) (m0 := ms0) (v := v2) (m := ms0) hH2.one (new_kept hb); have HS8 := Lib.hid (SBk.row (C := dgCs v2 ms0) HS6.out (Nat.le_refl _) (new_below hb)); clear hH2 hb)))))
    all_goals
      go_wp2_with fail
      go_meet
      exact ⟨rfl, HS8⟩
  case rest =>
  obtain ⟨rfl, HS8⟩ := hcut
  clear hlt6 hne6 klB kl HA HBb HAB HBB HS6
  have hcv := HCV.out wc
  have HS9 := Lib.hid (HS8.out.alloc (.cells #[.int .u8 more.toNat] 5 (0, 0)))
  have kl : ∀ j, (wc.alloc (.cells #[.int .u8 more.toNat] 5 (0, 0))).cell? ⟨w.heap.size + 1, j, none⟩ = _ := HS9.out.2.1.cells
  have hlt6 : w.heap.size + 1 < wc.heap.size := HS8.out.2.1.lt
  go_wp2_with fail
  refine (HR3.out _ HS9.out.2.2.2.2.1).mono ?_
  rintro r w10 ⟨v3, rfl, hH3, hb⟩
  have hst := store_newdg w10 v3 ms0 hH3.one
  have HS11 := Lib.hid ((HS9.out.below hb).alloc (.cells (dgCs v3 ms0) 54 (0, 0)))
  clear hcv kl hlt6 hb hH3
  obtain ⟨W11, hW11⟩ : ∃ W11, W11 = w10.alloc (.cells (dgCs v3 ms0) 54 (0, 0)) := ⟨_, rfl⟩
  rw [← hW11] at hst HS11
  clear hW11
  have hldx := load_dg HS11.out.2.2.1
  have hldd := load_dg HS11.out.1
  have HSM := same_eq m HS11.out.2.2.2.1 (HHW.out.below HS11.out.2.2.2.2.1)
  rw [decide_eq_true rfl] at HSM
  have HSAME := Lib.hid HSM
  clear HSM
  go_wp2_with fail
  refine HSAME.out.mono ?_
  rintro r w12 ⟨rfl, hb⟩
  have HLB := Lib.hid (And.intro (HS11.out.2.1.below hb HS11.out.2.1.lt) (HS11.out.2.2.2.2.1.trans (hb.mono HS11.out.2.2.2.2.1.size)))
  clear hst hldx hldd hb
  have kl := HLB.out.1.cells
  have hl2 := hlen.2
  rcases e3 with rfl | rfl
  all_goals
  go_wp2_with fail
  refine (HRs.out _ HLB.out.2).mono ?_
  rintro r w13 ⟨v5, rfl, hH5, hb⟩
  clear kl
  have hst := store_newdg w13 v5 XM hH5.one
  have HLC := Lib.hid (And.intro ((HLB.out.1.below hb HLB.out.1.lt).alloc (.cells (dgCs v5 XM) 54 (0, 0))) (And.intro (below_al (HLB.out.2.trans (hb.mono HLB.out.2.size)) (.cells (dgCs v5 XM) 54 (0, 0))) (And.intro (Obj?.new w13 (dgCs v5 XM) 54) (hH5.alloc (.cells (dgCs v5 XM) 54 (0, 0))))))
  clear hb hH5
  obtain ⟨W14, hW14⟩ : ∃ W14, W14 = w13.alloc (.cells (dgCs v5 XM) 54 (0, 0)) := ⟨_, rfl⟩
  rw [← hW14] at hst HLC
  clear hW14
  have kl := HLC.out.1.cells
  have hldx := load_dg HLC.out.2.2.1
  have HW := wrapbytes_any (mp := mp) (md := md) HLC.out.2.2.2 HSM'.out.1 HSM'.out.2 (HMW.out.below HLC.out.2.1 HMW.out.1)
  rw [HE5.out] at HW
  have HWB := Lib.hid HW
  clear HW
  go_wp2_with fail
  refine HWB.out.mono ?_
  rintro r w15 ⟨rfl, hb⟩
  have HLE := Lib.hid (And.intro (HLC.out.1.below hb HLC.out.1.lt) (And.intro (HLC.out.2.1.trans (hb.mono HLC.out.2.1.size)) (And.intro (HLC.out.2.2.1.below hb HLC.out.2.2.1.lt) (HLC.out.2.2.2.below hb))))
  clear kl hldx hst hb
  have kl := HLE.out.1.cells
  have hldx := load_dg HLE.out.2.2.1
  have HW := wrapcheck_any (mp := mp) (md := md) HLE.out.2.2.2 HSM'.out.1 HSM'.out.2 (HMW.out.below HLE.out.2.1 HMW.out.1)
  rw [HE5.out] at HW
  have HWC := Lib.hid HW
  clear HW
  go_wp2_with fail
  refine HWC.out.mono ?_
  rintro r w16 ⟨rfl, hb⟩
  have HBZ := Lib.hid (HLE.out.2.1.trans (hb.mono HLE.out.2.1.size))
  clear kl hldx hb
  go_wp2
  refine HQ1.out _ _ _ ?_
  go_ret
  exact ⟨rfl, HBZ.out⟩
set_option maxRecDepth 100000 in
set_option maxHeartbeats 3200000 in
theorem snwrapBack_ok_not {v : Value} {hs : List Hp} {m : Ms} (s : List UInt8) (mp md : Int) (more : UInt8) (cut : Int) {w : World} (hH : HopsAt w v hs) (hmx : Mx w) (h : lightD hs m = true) (hl : s.length ≤ 400) (he : (wrapB hs m mp md).2 = 0) (hf : (wrapR s mp md).2.2 ≠ 0) :
    Calls Tryd.prog 8 #[.agg (dgCs v m), .string ⟨s.toArray⟩, .agg #[.int .i64 mp, .int .i64 md], .int .u8 more.toNat, .int .i64 cut] w fun e w' => e = .returned (.bool true) ∧ Below w.heap.size w w' := by
  have hlm0 : lightM m = true := by simp only [lightD, Bool.and_eq_true] at h; exact h.1.2
  have hnd := light_len hlm0
  have OD := Obj?.new w (dgCs v m) 54
  have hB1 := below_al (Below.refl _ w) (.cells (dgCs v m) 54 (0, 0))
  have OL := Obj?.new (w.alloc (.cells (dgCs v m) 54 (0, 0))) #[.int .i64 mp, .int .i64 md] 56
  rw [World.size_alloc] at OL
  have HD0 := Lib.hid (OD.alloc (.cells #[.int .i64 mp, .int .i64 md] 56 (0, 0)))
  have HL0 := Lib.hid OL
  have HB0 := Lib.hid (below_al hB1 (.cells #[.int .i64 mp, .int .i64 md] 56 (0, 0)))
  have HHW := Lib.hid hH
  have HMW := Lib.hid hmx
  have HLV := Lib.hid lives23
  have HLD := Lib.hid (fun W (hB : Below w.heap.size w W) => lightdg_any (m := m) (hH.below hB))
  clear OD OL hB1 hmx
  rw [h] at HLD
  have d0 : (s.length : Int) ≤ 400 := by omega
  have HBy := Lib.hid (fun W (hB : Below w.heap.size w W) => wrapbytes_any (mp := mp) (md := md) (hH.below hB) (by omega : (m.name.length : Int) ≤ 100000) (by omega : (m.data.length : Int) ≤ 100000) (HMW.out.below hB HMW.out.1))
  have HCk := Lib.hid (fun W (hB : Below w.heap.size w W) => wrapcheck_any (mp := mp) (md := md) (hH.below hB) (by omega : (m.name.length : Int) ≤ 100000) (by omega : (m.data.length : Int) ≤ 100000) (HMW.out.below hB HMW.out.1))
  have HRs := Lib.hid (fun W (hB : Below w.heap.size w W) => wrapread_any s (by omega) mp md W (HMW.out.below hB HMW.out.1))
  clear h hlm0 hnd
  obtain ⟨o1, o2, o3, o4, o5, o6⟩ := wrapB_ok he
  have hmp : mp ≤ 1048576 := by simp only [limOk, decide_eq_true_eq] at o1; omega
  have hlen : (wrapB hs m mp md).1.length ≤ 1048576 ∧ ((wrapB hs m mp md).1.length : Int) ≤ mp := by rw [o6]; exact ⟨by simp only; omega, o5⟩
  have hpos : 0 < (wrapB hs m mp md).1.length := by have := bytesM_pos o4; rw [o6]; simp only [List.length_append]; omega
  have e1 := wrapR_bytes he
  have HR1 := Lib.hid (fun W (hB : Below w.heap.size w W) => wrapread_any (wrapB hs m mp md).1 (by omega) mp md W (HMW.out.below hB HMW.out.1))
  rw [e1] at HR1
  obtain ⟨j, hj⟩ : ∃ j : Nat, (j : Int) = cut % ((wrapB hs m mp md).1.length : Int) := ⟨(cut % ((wrapB hs m mp md).1.length : Int)).toNat, Int.toNat_of_nonneg (Int.emod_nonneg _ (by omega))⟩
  have hjl : j < (wrapB hs m mp md).1.length := by have := Int.emod_lt_of_pos cut (show (0 : Int) < ((wrapB hs m mp md).1.length : Int) by omega); omega
  have e2 := wrapR_cut he mp o1 (by omega) j hjl
  have HR2 := Lib.hid (fun W (hB : Below w.heap.size w W) => wrapread_any ((wrapB hs m mp md).1.take j) (by simp; omega) mp md W (HMW.out.below hB HMW.out.1))
  rw [e2] at HR2
  have HPk := Lib.hid (fun w => by have := pick_any cut ((wrapB hs m mp md).1.length : Int) (by omega) (by omega) w; rw [← hj] at this; exact this)
  have e3 := wrapR_more he more mp o1
  have HR3 := Lib.hid (fun W (hB : Below w.heap.size w W) => wrapread_any ((wrapB hs m mp md).1 ++ [more]) (by simp; omega) mp md W (HMW.out.below hB HMW.out.1))
  obtain ⟨e4a, e4b⟩ := wrapR_no (s := (wrapB hs m mp md).1 ++ [more]) (mp := mp) (md := md) (by rcases e3 with h | h <;> rw [h] <;> decide)
  rw [e4a, e4b] at HR3
  obtain ⟨E3, hE3⟩ : ∃ E3, E3 = (wrapR ((wrapB hs m mp md).1 ++ [more]) mp md).2.2 := ⟨_, rfl⟩
  rw [← hE3] at HR3 e3
  obtain ⟨B, hB⟩ : ∃ B, B = (wrapB hs m mp md).1 := ⟨_, rfl⟩
  rw [he] at HBy HCk
  rw [← hB] at HBy HR1 HR2 HR3 HPk hjl hlen hpos
  have hcut : (ByteArray.mk B.toArray).extract 0 j = ByteArray.mk (B.take j).toArray := by rw [ByteArray.extract_mk]; simp
  have hcat : ByteArray.mk B.toArray ++ ByteArray.mk #[more] = ByteArray.mk (B ++ [more]).toArray := ByteArray.mk_append_mk _ _
  have hun : UInt8.ofNat (more.toNat : Int).toNat = more := by simp
  have HCV := Lib.hid (fun w => conv_one (more.toNat : Int) w)
  rw [hun] at HCV
  have hji : (j : Int) ≤ B.length := by omega
  have hdE : (E3 == 3) = false ∧ (E3 != 5 && E3 != 4) = false := by rcases e3 with h | h <;> rw [h] <;> decide
  clear o1 o2 o3 o4 o5 o6 e1 e2 e4a e4b hE3 hB hj hun he
  obtain ⟨e5a, e5b⟩ := wrapR_no hf
  rw [e5a, e5b] at HRs
  obtain ⟨F, hF⟩ : ∃ F, F = (wrapR s mp md).2.2 := ⟨_, rfl⟩
  rw [← hF] at HRs hf
  have dF : (F == 0) = false := by simpa using hf
  have dF2 : (F != 0) = true := by simpa using hf
  clear e5a e5b hF hf
  obtain ⟨a0, cap, rfl, hnode, hlm, -⟩ := hH
  go_enter Tryd.func8, Tryd.ntmps8
  refine wp_hide fun Q1 hQ1 => ?_
  have HQ1 := Lib.hid hQ1
  clear hQ1
  go_wp2_with fail
  refine (HLV.out _ (HMW.out.below HB0.out HMW.out.1)).mono ?_
  rintro r w1 ⟨rfl, hb⟩
  have HD1 := Lib.hid (HD0.out.below hb HD0.out.lt)
  have HL1 := Lib.hid (HL0.out.below hb HL0.out.lt)
  have HB1 := Lib.hid (HB0.out.trans (hb.mono HB0.out.size))
  clear hb
  have hld := load_dg (v := .slice a0 hs.length cap) (m := m) HD1.out
  go_wp2_with fail
  refine (HLD.out _ HB1.out).mono ?_
  rintro r w2 ⟨rfl, hb⟩
  have HD2 := Lib.hid (HD1.out.below hb HD1.out.lt)
  have HL2 := Lib.hid (HL1.out.below hb HL1.out.lt)
  have HB2 := Lib.hid (HB1.out.trans (hb.mono HB1.out.size))
  clear hb hld
  have hld := load_dg (v := .slice a0 hs.length cap) (m := m) HD2.out
  have kl := HL2.out.cells
  go_wp2_with fail
  refine (HBy.out _ HB2.out).mono ?_
  rintro r w3 ⟨rfl, hb⟩
  have HD3 := Lib.hid (HD2.out.below hb HD2.out.lt)
  have HL3 := Lib.hid (HL2.out.below hb HL2.out.lt)
  have HB3 := Lib.hid (HB2.out.trans (hb.mono HB2.out.size))
  clear hb hld kl
  have hld := load_dg (v := .slice a0 hs.length cap) (m := m) HD3.out
  have kl := HL3.out.cells
  go_wp2_with fail
  refine (HCk.out _ HB3.out).mono ?_
  rintro r w4 ⟨rfl, hb⟩
  have HD4 := Lib.hid (HD3.out.below hb HD3.out.lt)
  have HL4 := Lib.hid (HL3.out.below hb HL3.out.lt)
  have HB4 := Lib.hid (HB3.out.trans (hb.mono HB3.out.size))
  clear hb hld kl
  have kl := HL4.out.cells
  go_wp2_with fail
  refine (HR1.out _ HB4.out).mono ?_
  rintro r w5 ⟨v1, rfl, hH1, hb⟩
  have HD5 := Lib.hid (HD4.out.below hb HD4.out.lt)
  have HL5 := Lib.hid (HL4.out.below hb HL4.out.lt)
  have HB5 := Lib.hid (HB4.out.trans (hb.mono HB4.out.size))
  clear hb kl
  have hst := store_newdg w5 v1 m hH1.one
  have HX6 := Lib.hid (Obj?.new w5 (dgCs v1 m) 54)
  have HH1 := Lib.hid (hH1.alloc (.cells (dgCs v1 m) 54 (0, 0)))
  have HS6 := Lib.hid (show SBk w (.slice a0 hs.length cap) v1 m hs mp md w5.heap.size (w5.alloc (.cells (dgCs v1 m) 54 (0, 0))) from ⟨HD5.out.alloc _, HL5.out.alloc _, HX6.out, HH1.out, below_al HB5.out _, HX6.out.lt⟩)
  obtain ⟨W6, hW6⟩ : ∃ W6, W6 = w5.alloc (.cells (dgCs v1 m) 54 (0, 0)) := ⟨_, rfl⟩
  rw [← hW6] at hst HX6 HS6
  clear hW6 hH1 HH1 HX6
  have kl := HS6.out.2.1.cells
  go_wp2
  clear hst
  obtain ⟨b6, hb6⟩ : ∃ b6, b6 = w5.heap.size := ⟨_, rfl⟩
  rw [← hb6] at HS6 ⊢
  clear hb6
  have HA := Lib.hid HS6.out.drew
  have HBb := Lib.hid ((HS6.out.alloc (.cells #[.slice none 0 0, .int .i64 0, .bool false, .int .i64 0, .bool false, .bool false, .bool false, .int .i64 0, .int .i64 0, .int .i64 0, .int .i64 0, .bool false, .int .i64 0, .int .i64 0, .int .i64 0, .string ⟨#[]⟩, .string ⟨#[]⟩] 54 (0, 0))).drew)
  have HAB := Lib.hid HA.out.2.2.2.2.1
  have hlt6 : w.heap.size + 1 < W6.heap.size := HS6.out.2.1.lt
  have hne6 : ¬ (w.heap.size + 1 = W6.heap.size) := by omega
  have klB : ∀ j, (W6.alloc (.cells #[.slice none 0 0, .int .i64 0, .bool false, .int .i64 0, .bool false, .bool false, .bool false, .int .i64 0, .int .i64 0, .int .i64 0, .int .i64 0, .bool false, .int .i64 0, .int .i64 0, .int .i64 0, .string ⟨#[]⟩, .string ⟨#[]⟩] 54 (0, 0))).cell? ⟨w.heap.size + 1, j, none⟩ = _ := (HS6.out.2.1.alloc _).cells
  have HBB := Lib.hid HBb.out.2.2.2.2.1
  go_cut [15, 16] from 52 to 62 (fun (_ e16 : Value) (wx : World) => e16 = .int .i64 3 ∧ Hid (SBk w (.slice a0 hs.length cap) v1 m hs mp md b6 wx))
  case first =>
    go_region_with ((first
      | (go_at_call 17; refine (HPk.out _).mono ?_; rintro r w' ⟨rfl, hw⟩; subst hw)
      | (go_at_call 27; ((with_reducible refine (HR2.out _ HAB.out).mono ?_); (rintro r w7 ⟨v2, rfl, hH2, hb⟩; have hst := store_newdg w7 v2 ms0 hH2.one; have HS8 := Lib.hid ((HA.out.below hb).alloc (.cells (dgCs v2 ms0) 54 (0, 0))); clear hH2 hb)))
      | (go_at_call 27; ((with_reducible refine (HR2.out _ HBB.out).mono ?_); (rintro r w7 ⟨v2, rfl, hH2, hb⟩; have hst := store_dg (v0 := nilV) (m0 := ms0) (v := v2) (m := ms0) hH2.one (new_kept hb); have HS8 := Lib.hid (SBk.row (C := dgCs v2 ms0) HS6.out (Nat.le_refl _) (new_below hb)); clear hH2 hb)))))
    all_goals
      go_wp2_with fail
      go_meet
      exact ⟨rfl, HS8⟩
  case rest =>
  obtain ⟨rfl, HS8⟩ := hcut
  clear hlt6 hne6 klB kl HA HBb HAB HBB HS6
  have hcv := HCV.out wc
  have HS9 := Lib.hid (HS8.out.alloc (.cells #[.int .u8 more.toNat] 5 (0, 0)))
  have kl : ∀ j, (wc.alloc (.cells #[.int .u8 more.toNat] 5 (0, 0))).cell? ⟨w.heap.size + 1, j, none⟩ = _ := HS9.out.2.1.cells
  have hlt6 : w.heap.size + 1 < wc.heap.size := HS8.out.2.1.lt
  go_wp2_with fail
  refine (HR3.out _ HS9.out.2.2.2.2.1).mono ?_
  rintro r w10 ⟨v3, rfl, hH3, hb⟩
  have hst := store_newdg w10 v3 ms0 hH3.one
  have HS11 := Lib.hid ((HS9.out.below hb).alloc (.cells (dgCs v3 ms0) 54 (0, 0)))
  clear hcv kl hlt6 hb hH3
  obtain ⟨W11, hW11⟩ : ∃ W11, W11 = w10.alloc (.cells (dgCs v3 ms0) 54 (0, 0)) := ⟨_, rfl⟩
  rw [← hW11] at hst HS11
  clear hW11
  have hldx := load_dg HS11.out.2.2.1
  have hldd := load_dg HS11.out.1
  have HSM := same_eq m HS11.out.2.2.2.1 (HHW.out.below HS11.out.2.2.2.2.1)
  rw [decide_eq_true rfl] at HSM
  have HSAME := Lib.hid HSM
  clear HSM
  go_wp2_with fail
  refine HSAME.out.mono ?_
  rintro r w12 ⟨rfl, hb⟩
  have HLB := Lib.hid (And.intro (HS11.out.2.1.below hb HS11.out.2.1.lt) (HS11.out.2.2.2.2.1.trans (hb.mono HS11.out.2.2.2.2.1.size)))
  clear hst hldx hldd hb
  have kl := HLB.out.1.cells
  have hl2 := hlen.2
  rcases e3 with rfl | rfl
  all_goals
  go_wp2_with fail
  refine (HRs.out _ HLB.out.2).mono ?_
  rintro r w13 ⟨v5, rfl, hH5, hb⟩
  clear kl
  have hst := store_newdg w13 v5 ms0 hH5.one
  have HLC := Lib.hid (And.intro ((HLB.out.1.below hb HLB.out.1.lt).alloc (.cells (dgCs v5 ms0) 54 (0, 0))) (And.intro (below_al (HLB.out.2.trans (hb.mono HLB.out.2.size)) (.cells (dgCs v5 ms0) 54 (0, 0))) (And.intro (Obj?.new w13 (dgCs v5 ms0) 54) (hH5.alloc (.cells (dgCs v5 ms0) 54 (0, 0))))))
  clear hb hH5
  obtain ⟨W14, hW14⟩ : ∃ W14, W14 = w13.alloc (.cells (dgCs v5 ms0) 54 (0, 0)) := ⟨_, rfl⟩
  rw [← hW14] at hst HLC
  clear hW14
  have kl := HLC.out.1.cells
  have hldx := load_dg HLC.out.2.2.1
  have HW := same_eq ms0 HLC.out.2.2.2 (hopsat_nil W14)
  rw [decide_eq_true rfl, show dgCs (.slice none 0 0) ms0 = #[.slice none 0 0, .int .i64 0, .bool false, .int .i64 0, .bool false, .bool false, .bool false, .int .i64 0, .int .i64 0, .int .i64 0, .int .i64 0, .bool false, .int .i64 0, .int .i64 0, .int .i64 0, .string ⟨#[]⟩, .string ⟨#[]⟩] from rfl] at HW
  have HWB := Lib.hid HW
  clear HW
  go_wp2_with fail
  refine HWB.out.mono ?_
  rintro r w16 ⟨rfl, hb⟩
  have HBZ := Lib.hid (HLC.out.2.1.trans (hb.mono HLC.out.2.1.size))
  clear kl hldx hb
  go_wp2
  refine HQ1.out _ _ _ ?_
  go_ret
  exact ⟨rfl, HBZ.out⟩
set_option maxRecDepth 100000 in
set_option maxHeartbeats 3200000 in
theorem snwrapBack_no_got {v : Value} {hs : List Hp} {m : Ms} (s : List UInt8) (mp md : Int) (more : UInt8) (cut : Int) {w : World} (hH : HopsAt w v hs) (hmx : Mx w) (h : lightD hs m = true) (hl : s.length ≤ 400) (he : (wrapB hs m mp md).2 ≠ 0) (hf : (wrapR s mp md).2.2 = 0) :
    Calls Tryd.prog 8 #[.agg (dgCs v m), .string ⟨s.toArray⟩, .agg #[.int .i64 mp, .int .i64 md], .int .u8 more.toNat, .int .i64 cut] w fun e w' => e = .returned (.bool true) ∧ Below w.heap.size w w' := by
  have hlm0 : lightM m = true := by simp only [lightD, Bool.and_eq_true] at h; exact h.1.2
  have hnd := light_len hlm0
  have OD := Obj?.new w (dgCs v m) 54
  have hB1 := below_al (Below.refl _ w) (.cells (dgCs v m) 54 (0, 0))
  have OL := Obj?.new (w.alloc (.cells (dgCs v m) 54 (0, 0))) #[.int .i64 mp, .int .i64 md] 56
  rw [World.size_alloc] at OL
  have HD0 := Lib.hid (OD.alloc (.cells #[.int .i64 mp, .int .i64 md] 56 (0, 0)))
  have HL0 := Lib.hid OL
  have HB0 := Lib.hid (below_al hB1 (.cells #[.int .i64 mp, .int .i64 md] 56 (0, 0)))
  have HHW := Lib.hid hH
  have HMW := Lib.hid hmx
  have HLV := Lib.hid lives23
  have HLD := Lib.hid (fun W (hB : Below w.heap.size w W) => lightdg_any (m := m) (hH.below hB))
  clear OD OL hB1 hmx
  rw [h] at HLD
  have d0 : (s.length : Int) ≤ 400 := by omega
  have HBy := Lib.hid (fun W (hB : Below w.heap.size w W) => wrapbytes_any (mp := mp) (md := md) (hH.below hB) (by omega : (m.name.length : Int) ≤ 100000) (by omega : (m.data.length : Int) ≤ 100000) (HMW.out.below hB HMW.out.1))
  have HCk := Lib.hid (fun W (hB : Below w.heap.size w W) => wrapcheck_any (mp := mp) (md := md) (hH.below hB) (by omega : (m.name.length : Int) ≤ 100000) (by omega : (m.data.length : Int) ≤ 100000) (HMW.out.below hB HMW.out.1))
  have HRs := Lib.hid (fun W (hB : Below w.heap.size w W) => wrapread_any s (by omega) mp md W (HMW.out.below hB HMW.out.1))
  clear h hlm0 hnd
  have hB := wrapB_no he
  rw [hB] at HBy
  obtain ⟨E, hE⟩ : ∃ E, E = (wrapB hs m mp md).2 := ⟨_, rfl⟩
  rw [← hE] at HBy HCk he
  have dE : (E == 0) = false := by simpa using he
  have dE2 : (E != 0) = true := by simpa using he
  have dEE : (E != E) = false := by simp
  clear hB hE he
  have e5 := wrapR_back hf
  rw [hf] at HRs
  obtain ⟨XH, hXH⟩ : ∃ XH, XH = (wrapR s mp md).1 := ⟨_, rfl⟩
  obtain ⟨XM, hXM⟩ : ∃ XM, XM = (wrapR s mp md).2.1 := ⟨_, rfl⟩
  have hsm : (XM.name.length : Int) ≤ 100000 ∧ (XM.data.length : Int) ≤ 100000 := by rw [hXM]; exact wrapR_small s mp md
  rw [← hXH, ← hXM] at HRs e5
  have HE5 := Lib.hid e5
  have HSM' := Lib.hid hsm
  clear e5 hXH hXM hf hsm
  obtain ⟨a0, cap, rfl, hnode, hlm, -⟩ := hH
  go_enter Tryd.func8, Tryd.ntmps8
  refine wp_hide fun Q1 hQ1 => ?_
  have HQ1 := Lib.hid hQ1
  clear hQ1
  go_wp2_with fail
  refine (HLV.out _ (HMW.out.below HB0.out HMW.out.1)).mono ?_
  rintro r w1 ⟨rfl, hb⟩
  have HD1 := Lib.hid (HD0.out.below hb HD0.out.lt)
  have HL1 := Lib.hid (HL0.out.below hb HL0.out.lt)
  have HB1 := Lib.hid (HB0.out.trans (hb.mono HB0.out.size))
  clear hb
  have hld := load_dg (v := .slice a0 hs.length cap) (m := m) HD1.out
  go_wp2_with fail
  refine (HLD.out _ HB1.out).mono ?_
  rintro r w2 ⟨rfl, hb⟩
  have HD2 := Lib.hid (HD1.out.below hb HD1.out.lt)
  have HL2 := Lib.hid (HL1.out.below hb HL1.out.lt)
  have HB2 := Lib.hid (HB1.out.trans (hb.mono HB1.out.size))
  clear hb hld
  have hld := load_dg (v := .slice a0 hs.length cap) (m := m) HD2.out
  have kl := HL2.out.cells
  go_wp2_with fail
  refine (HBy.out _ HB2.out).mono ?_
  rintro r w3 ⟨rfl, hb⟩
  have HD3 := Lib.hid (HD2.out.below hb HD2.out.lt)
  have HL3 := Lib.hid (HL2.out.below hb HL2.out.lt)
  have HB3 := Lib.hid (HB2.out.trans (hb.mono HB2.out.size))
  clear hb hld kl
  have hld := load_dg (v := .slice a0 hs.length cap) (m := m) HD3.out
  have kl := HL3.out.cells
  go_wp2_with fail
  refine (HCk.out _ HB3.out).mono ?_
  rintro r w4 ⟨rfl, hb⟩
  have HD4 := Lib.hid (HD3.out.below hb HD3.out.lt)
  have HL4 := Lib.hid (HL3.out.below hb HL3.out.lt)
  have HB4 := Lib.hid (HB3.out.trans (hb.mono HB3.out.size))
  clear hb hld kl
  have HLB := Lib.hid (And.intro HL4.out HB4.out)
  have kl := HLB.out.1.cells
  go_wp2_with fail
  refine (HRs.out _ HLB.out.2).mono ?_
  rintro r w13 ⟨v5, rfl, hH5, hb⟩
  clear kl
  have hst := store_newdg w13 v5 XM hH5.one
  have HLC := Lib.hid (And.intro ((HLB.out.1.below hb HLB.out.1.lt).alloc (.cells (dgCs v5 XM) 54 (0, 0))) (And.intro (below_al (HLB.out.2.trans (hb.mono HLB.out.2.size)) (.cells (dgCs v5 XM) 54 (0, 0))) (And.intro (Obj?.new w13 (dgCs v5 XM) 54) (hH5.alloc (.cells (dgCs v5 XM) 54 (0, 0))))))
  clear hb hH5
  obtain ⟨W14, hW14⟩ : ∃ W14, W14 = w13.alloc (.cells (dgCs v5 XM) 54 (0, 0)) := ⟨_, rfl⟩
  rw [← hW14] at hst HLC
  clear hW14
  have kl := HLC.out.1.cells
  have hldx := load_dg HLC.out.2.2.1
  have HW := wrapbytes_any (mp := mp) (md := md) HLC.out.2.2.2 HSM'.out.1 HSM'.out.2 (HMW.out.below HLC.out.2.1 HMW.out.1)
  rw [HE5.out] at HW
  have HWB := Lib.hid HW
  clear HW
  go_wp2_with fail
  refine HWB.out.mono ?_
  rintro r w15 ⟨rfl, hb⟩
  have HLE := Lib.hid (And.intro (HLC.out.1.below hb HLC.out.1.lt) (And.intro (HLC.out.2.1.trans (hb.mono HLC.out.2.1.size)) (And.intro (HLC.out.2.2.1.below hb HLC.out.2.2.1.lt) (HLC.out.2.2.2.below hb))))
  clear kl hldx hst hb
  have kl := HLE.out.1.cells
  have hldx := load_dg HLE.out.2.2.1
  have HW := wrapcheck_any (mp := mp) (md := md) HLE.out.2.2.2 HSM'.out.1 HSM'.out.2 (HMW.out.below HLE.out.2.1 HMW.out.1)
  rw [HE5.out] at HW
  have HWC := Lib.hid HW
  clear HW
  go_wp2_with fail
  refine HWC.out.mono ?_
  rintro r w16 ⟨rfl, hb⟩
  have HBZ := Lib.hid (HLE.out.2.1.trans (hb.mono HLE.out.2.1.size))
  clear kl hldx hb
  go_wp2
  refine HQ1.out _ _ _ ?_
  go_ret
  exact ⟨rfl, HBZ.out⟩
set_option maxRecDepth 100000 in
set_option maxHeartbeats 3200000 in
theorem snwrapBack_no_not {v : Value} {hs : List Hp} {m : Ms} (s : List UInt8) (mp md : Int) (more : UInt8) (cut : Int) {w : World} (hH : HopsAt w v hs) (hmx : Mx w) (h : lightD hs m = true) (hl : s.length ≤ 400) (he : (wrapB hs m mp md).2 ≠ 0) (hf : (wrapR s mp md).2.2 ≠ 0) :
    Calls Tryd.prog 8 #[.agg (dgCs v m), .string ⟨s.toArray⟩, .agg #[.int .i64 mp, .int .i64 md], .int .u8 more.toNat, .int .i64 cut] w fun e w' => e = .returned (.bool true) ∧ Below w.heap.size w w' := by
  have hlm0 : lightM m = true := by simp only [lightD, Bool.and_eq_true] at h; exact h.1.2
  have hnd := light_len hlm0
  have OD := Obj?.new w (dgCs v m) 54
  have hB1 := below_al (Below.refl _ w) (.cells (dgCs v m) 54 (0, 0))
  have OL := Obj?.new (w.alloc (.cells (dgCs v m) 54 (0, 0))) #[.int .i64 mp, .int .i64 md] 56
  rw [World.size_alloc] at OL
  have HD0 := Lib.hid (OD.alloc (.cells #[.int .i64 mp, .int .i64 md] 56 (0, 0)))
  have HL0 := Lib.hid OL
  have HB0 := Lib.hid (below_al hB1 (.cells #[.int .i64 mp, .int .i64 md] 56 (0, 0)))
  have HHW := Lib.hid hH
  have HMW := Lib.hid hmx
  have HLV := Lib.hid lives23
  have HLD := Lib.hid (fun W (hB : Below w.heap.size w W) => lightdg_any (m := m) (hH.below hB))
  clear OD OL hB1 hmx
  rw [h] at HLD
  have d0 : (s.length : Int) ≤ 400 := by omega
  have HBy := Lib.hid (fun W (hB : Below w.heap.size w W) => wrapbytes_any (mp := mp) (md := md) (hH.below hB) (by omega : (m.name.length : Int) ≤ 100000) (by omega : (m.data.length : Int) ≤ 100000) (HMW.out.below hB HMW.out.1))
  have HCk := Lib.hid (fun W (hB : Below w.heap.size w W) => wrapcheck_any (mp := mp) (md := md) (hH.below hB) (by omega : (m.name.length : Int) ≤ 100000) (by omega : (m.data.length : Int) ≤ 100000) (HMW.out.below hB HMW.out.1))
  have HRs := Lib.hid (fun W (hB : Below w.heap.size w W) => wrapread_any s (by omega) mp md W (HMW.out.below hB HMW.out.1))
  clear h hlm0 hnd
  have hB := wrapB_no he
  rw [hB] at HBy
  obtain ⟨E, hE⟩ : ∃ E, E = (wrapB hs m mp md).2 := ⟨_, rfl⟩
  rw [← hE] at HBy HCk he
  have dE : (E == 0) = false := by simpa using he
  have dE2 : (E != 0) = true := by simpa using he
  have dEE : (E != E) = false := by simp
  clear hB hE he
  obtain ⟨e5a, e5b⟩ := wrapR_no hf
  rw [e5a, e5b] at HRs
  obtain ⟨F, hF⟩ : ∃ F, F = (wrapR s mp md).2.2 := ⟨_, rfl⟩
  rw [← hF] at HRs hf
  have dF : (F == 0) = false := by simpa using hf
  have dF2 : (F != 0) = true := by simpa using hf
  clear e5a e5b hF hf
  obtain ⟨a0, cap, rfl, hnode, hlm, -⟩ := hH
  go_enter Tryd.func8, Tryd.ntmps8
  refine wp_hide fun Q1 hQ1 => ?_
  have HQ1 := Lib.hid hQ1
  clear hQ1
  go_wp2_with fail
  refine (HLV.out _ (HMW.out.below HB0.out HMW.out.1)).mono ?_
  rintro r w1 ⟨rfl, hb⟩
  have HD1 := Lib.hid (HD0.out.below hb HD0.out.lt)
  have HL1 := Lib.hid (HL0.out.below hb HL0.out.lt)
  have HB1 := Lib.hid (HB0.out.trans (hb.mono HB0.out.size))
  clear hb
  have hld := load_dg (v := .slice a0 hs.length cap) (m := m) HD1.out
  go_wp2_with fail
  refine (HLD.out _ HB1.out).mono ?_
  rintro r w2 ⟨rfl, hb⟩
  have HD2 := Lib.hid (HD1.out.below hb HD1.out.lt)
  have HL2 := Lib.hid (HL1.out.below hb HL1.out.lt)
  have HB2 := Lib.hid (HB1.out.trans (hb.mono HB1.out.size))
  clear hb hld
  have hld := load_dg (v := .slice a0 hs.length cap) (m := m) HD2.out
  have kl := HL2.out.cells
  go_wp2_with fail
  refine (HBy.out _ HB2.out).mono ?_
  rintro r w3 ⟨rfl, hb⟩
  have HD3 := Lib.hid (HD2.out.below hb HD2.out.lt)
  have HL3 := Lib.hid (HL2.out.below hb HL2.out.lt)
  have HB3 := Lib.hid (HB2.out.trans (hb.mono HB2.out.size))
  clear hb hld kl
  have hld := load_dg (v := .slice a0 hs.length cap) (m := m) HD3.out
  have kl := HL3.out.cells
  go_wp2_with fail
  refine (HCk.out _ HB3.out).mono ?_
  rintro r w4 ⟨rfl, hb⟩
  have HD4 := Lib.hid (HD3.out.below hb HD3.out.lt)
  have HL4 := Lib.hid (HL3.out.below hb HL3.out.lt)
  have HB4 := Lib.hid (HB3.out.trans (hb.mono HB3.out.size))
  clear hb hld kl
  have HLB := Lib.hid (And.intro HL4.out HB4.out)
  have kl := HLB.out.1.cells
  go_wp2_with fail
  refine (HRs.out _ HLB.out.2).mono ?_
  rintro r w13 ⟨v5, rfl, hH5, hb⟩
  clear kl
  have hst := store_newdg w13 v5 ms0 hH5.one
  have HLC := Lib.hid (And.intro ((HLB.out.1.below hb HLB.out.1.lt).alloc (.cells (dgCs v5 ms0) 54 (0, 0))) (And.intro (below_al (HLB.out.2.trans (hb.mono HLB.out.2.size)) (.cells (dgCs v5 ms0) 54 (0, 0))) (And.intro (Obj?.new w13 (dgCs v5 ms0) 54) (hH5.alloc (.cells (dgCs v5 ms0) 54 (0, 0))))))
  clear hb hH5
  obtain ⟨W14, hW14⟩ : ∃ W14, W14 = w13.alloc (.cells (dgCs v5 ms0) 54 (0, 0)) := ⟨_, rfl⟩
  rw [← hW14] at hst HLC
  clear hW14
  have kl := HLC.out.1.cells
  have hldx := load_dg HLC.out.2.2.1
  have HW := same_eq ms0 HLC.out.2.2.2 (hopsat_nil W14)
  rw [decide_eq_true rfl, show dgCs (.slice none 0 0) ms0 = #[.slice none 0 0, .int .i64 0, .bool false, .int .i64 0, .bool false, .bool false, .bool false, .int .i64 0, .int .i64 0, .int .i64 0, .int .i64 0, .bool false, .int .i64 0, .int .i64 0, .int .i64 0, .string ⟨#[]⟩, .string ⟨#[]⟩] from rfl] at HW
  have HWB := Lib.hid HW
  clear HW
  go_wp2_with fail
  refine HWB.out.mono ?_
  rintro r w16 ⟨rfl, hb⟩
  have HBZ := Lib.hid (HLC.out.2.1.trans (hb.mono HLC.out.2.1.size))
  clear kl hldx hb
  go_wp2
  refine HQ1.out _ _ _ ?_
  go_ret
  exact ⟨rfl, HBZ.out⟩
theorem snwrapBack_walk {v : Value} {hs : List Hp} {m : Ms} (s : List UInt8) (mp md : Int) (more : UInt8) (cut : Int) {w : World} (hH : HopsAt w v hs) (hmx : Mx w) :
    Calls Tryd.prog 8 #[.agg (dgCs v m), .string ⟨s.toArray⟩, .agg #[.int .i64 mp, .int .i64 md], .int .u8 more.toNat, .int .i64 cut] w fun e w' => e = .returned (.bool true) ∧ Below w.heap.size w w' := by
  cases h : lightD hs m with
  | false => exact snwrapBack_heavy s mp md more cut hH hmx h
  | true =>
    by_cases hl : 400 < s.length
    · exact snwrapBack_long s mp md more cut hH hmx h hl
    by_cases he : (wrapB hs m mp md).2 = 0 <;> by_cases hf : (wrapR s mp md).2.2 = 0
    · exact snwrapBack_ok_got s mp md more cut hH hmx h (by omega) he hf
    · exact snwrapBack_ok_not s mp md more cut hH hmx h (by omega) he hf
    · exact snwrapBack_no_got s mp md more cut hH hmx h (by omega) he hf
    · exact snwrapBack_no_not s mp md more cut hH hmx h (by omega) he hf
end Go.Proofs.YtbacnaplpfmpnaaDoor
