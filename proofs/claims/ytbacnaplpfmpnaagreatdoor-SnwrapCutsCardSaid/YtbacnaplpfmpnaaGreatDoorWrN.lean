/- SnwrapCuts: heavy, long, what is no datagram. SnwrapCuts: what is one (under way). -/
import Derived.Test.YtbacnaplpfmpnaaGreatDoorWrH
import Derived.Test.YtbacnaplpfmpnaaGreatDoorSnK
import Derived.Deep.RegionWith
import Derived.Deep.CutRange
import Derived.Test.YtbacnaplpfmpnaaGreatDoorRfN
import Derived.Test.YtbacnaplpfmpnaaGreatDoorWrP
namespace Go.Proofs.YtbacnaplpfmpnaaGreatDoor
open Go Go.RowKit Go.Shelf
set_option linter.unusedVariables false
set_option linter.unusedSimpArgs false
attribute [local go_sem ↓] load_Msg store_Msg load_Dg store_Dg
attribute [local irreducible] rowSem rowStore

set_option maxRecDepth 100000 in
set_option maxHeartbeats 3200000 in
theorem snwrapCuts_heavy {v : Value} {hs : List Hp} {m : Ms} (cut : Int) (more : UInt8) {w : World} (hH : HopsAt w v hs) (hmx : Mx w) (h : lightD hs m = false) :
    Calls Tryz.prog 5 #[.agg (dgCs v m), .int .i64 cut, .int .u8 more.toNat] w fun e w' => e = .returned (.bool true) ∧ Below w.heap.size w w' := by
  have OD := Obj?.new w (dgCs v m) 45
  have HD0 := Lib.hid OD
  have HB0 := Lib.hid (below_al (Below.refl _ w) (.cells (dgCs v m) 45 (0, 0)))
  have HMW := Lib.hid hmx
  have HLV := Lib.hid lives23
  have HLD := Lib.hid (fun W (hB : Below w.heap.size w W) => lightdg_any (m := m) (hH.below hB))
  clear OD hmx
  rw [h] at HLD
  clear h
  obtain ⟨a0, cap, rfl, hnode, hlm, -⟩ := hH
  go_enter Tryz.func5, Tryz.ntmps5
  refine wp_hide fun Q1 hQ1 => ?_
  have HQ1 := Lib.hid hQ1
  clear hQ1
  go_wp2_with fail
  refine (HLV.out _ (HMW.out.below HB0.out HMW.out.1)).mono ?_
  rintro r w1 ⟨rfl, hb⟩
  have HD1 := Lib.hid (HD0.out.below hb HD0.out.lt)
  have HB1 := Lib.hid (HB0.out.trans (hb.mono HB0.out.size))
  clear hb
  have hld := load_dg (v := .slice a0 hs.length cap) (m := m) HD1.out
  go_wp2_with fail
  refine (HLD.out _ HB1.out).mono ?_
  rintro r w2 ⟨rfl, hb⟩
  have HB2 := Lib.hid (HB1.out.trans (hb.mono HB1.out.size))
  clear hb hld
  go_wp2
  refine HQ1.out _ _ _ ?_
  go_ret
  exact ⟨rfl, HB2.out⟩
set_option maxRecDepth 100000 in
set_option maxHeartbeats 3200000 in
theorem snwrapCuts_long {v : Value} {hs : List Hp} {m : Ms} (cut : Int) (more : UInt8) {w : World} (hH : HopsAt w v hs) (hmx : Mx w) (h : lightD hs m = true) (hl : 2000 < m.name.length + m.data.length) :
    Calls Tryz.prog 5 #[.agg (dgCs v m), .int .i64 cut, .int .u8 more.toNat] w fun e w' => e = .returned (.bool true) ∧ Below w.heap.size w w' := by
  have hlm0 : lightM m = true := by simp only [lightD, Bool.and_eq_true] at h; exact h.1.2
  have hnd := light_len hlm0
  have OD := Obj?.new w (dgCs v m) 45
  have HD0 := Lib.hid OD
  have HB0 := Lib.hid (below_al (Below.refl _ w) (.cells (dgCs v m) 45 (0, 0)))
  have HMW := Lib.hid hmx
  have HLV := Lib.hid lives23
  have HLD := Lib.hid (fun W (hB : Below w.heap.size w W) => lightdg_any (m := m) (hH.below hB))
  have d1 : (2000 : Int) < (m.name.length : Int) + (m.data.length : Int) := by omega
  have d2 : (m.name.length : Int) ≤ 100000 := by omega
  have d3 : (m.data.length : Int) ≤ 100000 := by omega
  have d4 : IntKind.i64.wrap ((m.name.length : Int) + (m.data.length : Int)) = (m.name.length : Int) + (m.data.length : Int) := by rw [IntKind.wrap_i64]; omega
  clear OD hmx hlm0 hnd hl
  rw [h] at HLD
  clear h
  obtain ⟨a0, cap, rfl, hnode, hlm, -⟩ := hH
  go_enter Tryz.func5, Tryz.ntmps5
  refine wp_hide fun Q1 hQ1 => ?_
  have HQ1 := Lib.hid hQ1
  clear hQ1
  go_wp2_with fail
  refine (HLV.out _ (HMW.out.below HB0.out HMW.out.1)).mono ?_
  rintro r w1 ⟨rfl, hb⟩
  have HD1 := Lib.hid (HD0.out.below hb HD0.out.lt)
  have HB1 := Lib.hid (HB0.out.trans (hb.mono HB0.out.size))
  clear hb
  have hld := load_dg (v := .slice a0 hs.length cap) (m := m) HD1.out
  go_wp2_with fail
  refine (HLD.out _ HB1.out).mono ?_
  rintro r w2 ⟨rfl, hb⟩
  have HD2 := Lib.hid (HD1.out.below hb HD1.out.lt)
  have HB2 := Lib.hid (HB1.out.trans (hb.mono HB1.out.size))
  clear hb hld
  have kd := HD2.out.cells
  unfold dgCs at kd
  go_wp2
  refine HQ1.out _ _ _ ?_
  go_ret
  exact ⟨rfl, HB2.out⟩
set_option maxRecDepth 100000 in
set_option maxHeartbeats 3200000 in
theorem snwrapCuts_bad {v : Value} {hs : List Hp} {m : Ms} (cut : Int) (more : UInt8) {w : World} (hH : HopsAt w v hs) (hmx : Mx w) (h : lightD hs m = true) (hl : m.name.length + m.data.length ≤ 2000) (he : (wrapB hs m 4096 6).2 ≠ 0) :
    Calls Tryz.prog 5 #[.agg (dgCs v m), .int .i64 cut, .int .u8 more.toNat] w fun e w' => e = .returned (.bool true) ∧ Below w.heap.size w w' := by
  have hlm0 : lightM m = true := by simp only [lightD, Bool.and_eq_true] at h; exact h.1.2
  have hnd := light_len hlm0
  have OD := Obj?.new w (dgCs v m) 45
  have HD0 := Lib.hid OD
  have HB0 := Lib.hid (below_al (Below.refl _ w) (.cells (dgCs v m) 45 (0, 0)))
  have HMW := Lib.hid hmx
  have HLV := Lib.hid lives23
  have HLD := Lib.hid (fun W (hB : Below w.heap.size w W) => lightdg_any (m := m) (hH.below hB))
  have d1 : (m.name.length : Int) + (m.data.length : Int) ≤ 2000 := by omega
  have d1b : ¬ (2000 : Int) < (m.name.length : Int) + (m.data.length : Int) := by omega
  have HBy := Lib.hid (fun W (hB : Below w.heap.size w W) => wrapbytes_any (mp := 4096) (md := 6) (hH.below hB) (by omega : (m.name.length : Int) ≤ 100000) (by omega : (m.data.length : Int) ≤ 100000) (HMW.out.below hB HMW.out.1))
  rw [wrapB_no he] at HBy
  obtain ⟨e0, he0⟩ : ∃ e0, e0 = (wrapB hs m 4096 6).2 := ⟨_, rfl⟩
  rw [← he0] at HBy he
  have hde : (e0 != 0) = true := by simpa using he
  have hde2 : (e0 == 0) = false := by simpa using he
  have HDE := Lib.hid (And.intro hde hde2)
  clear he he0 hde hde2
  have d2 : (m.name.length : Int) ≤ 100000 := by omega
  have d3 : (m.data.length : Int) ≤ 100000 := by omega
  have d4 : IntKind.i64.wrap ((m.name.length : Int) + (m.data.length : Int)) = (m.name.length : Int) + (m.data.length : Int) := by rw [IntKind.wrap_i64]; omega
  clear OD hmx hlm0 hnd hl
  rw [h] at HLD
  clear h
  obtain ⟨a0, cap, rfl, hnode, hlm, -⟩ := hH
  go_enter Tryz.func5, Tryz.ntmps5
  refine wp_hide fun Q1 hQ1 => ?_
  have HQ1 := Lib.hid hQ1
  clear hQ1
  go_wp2_with fail
  refine (HLV.out _ (HMW.out.below HB0.out HMW.out.1)).mono ?_
  rintro r w1 ⟨rfl, hb⟩
  have HD1 := Lib.hid (HD0.out.below hb HD0.out.lt)
  have HB1 := Lib.hid (HB0.out.trans (hb.mono HB0.out.size))
  clear hb
  have hld := load_dg (v := .slice a0 hs.length cap) (m := m) HD1.out
  go_wp2_with fail
  refine (HLD.out _ HB1.out).mono ?_
  rintro r w2 ⟨rfl, hb⟩
  have HD2 := Lib.hid (HD1.out.below hb HD1.out.lt)
  have HB2 := Lib.hid (HB1.out.trans (hb.mono HB1.out.size))
  clear hb hld
  have kd := HD2.out.cells
  unfold dgCs at kd
  go_wp2_with fail
  refine (limits_any _).mono ?_
  rintro r w3 ⟨rfl, hb⟩
  have HD3 := Lib.hid (HD2.out.below hb HD2.out.lt)
  have HB3 := Lib.hid (HB2.out.trans (hb.mono HB2.out.size))
  clear hb kd
  have HD3a := Lib.hid (HD3.out.alloc (.cells #[.int .i64 4096, .int .i64 6] 56 (0, 0)))
  have HB3a := Lib.hid (below_al HB3.out (.cells #[.int .i64 4096, .int .i64 6] 56 (0, 0)))
  have kl := (Obj?.new w3 #[.int .i64 4096, .int .i64 6] 56).cells
  have hld := load_dg (v := .slice a0 hs.length cap) (m := m) HD3a.out
  go_wp2_with fail
  refine (HBy.out _ HB3a.out).mono ?_
  rintro r w4 ⟨rfl, hb⟩
  have HB4 := Lib.hid (HB3a.out.trans (hb.mono HB3a.out.size))
  clear kl
  clear hb hld
  have hde := HDE.out.1
  have hde2 := HDE.out.2
  go_wp2
  refine HQ1.out _ _ _ ?_
  go_ret
  exact ⟨rfl, HB4.out⟩
end Go.Proofs.YtbacnaplpfmpnaaGreatDoor
namespace Go.Proofs.YtbacnaplpfmpnaaGreatDoor
open Go Go.RowKit Go.Shelf
set_option linter.unusedVariables false
set_option linter.unusedSimpArgs false
attribute [local go_sem ↓] load_Msg store_Msg load_Dg store_Dg
attribute [local irreducible] rowSem rowStore

/-- What the walk keeps: the datagram, the limits. -/
def CCk (w : World) (v : Value) (m : Ms) (bl : Nat) (W : World) : Prop :=
  Obj? W w.heap.size (dgCs v m) 45 ∧ Obj? W bl #[.int .i64 4096, .int .i64 6] 56 ∧ Below w.heap.size w W
theorem CCk.below {w : World} {v : Value} {m : Ms} {bl : Nat} {A B : World} (h : CCk w v m bl A) (hb : Below A.heap.size A B) : CCk w v m bl B :=
  ⟨h.1.below hb h.1.lt, h.2.1.below hb h.2.1.lt, h.2.2.trans (hb.mono h.2.2.size)⟩
theorem CCk.alloc {w : World} {v : Value} {m : Ms} {bl : Nat} {A : World} (h : CCk w v m bl A) (o : Obj) : CCk w v m bl (A.alloc o) := h.below (below_al (Below.refl _ _) o)
theorem CCk.drew {w : World} {v : Value} {m : Ms} {bl : Nat} {A : World} (h : CCk w v m bl A) : CCk w v m bl A.drew := h.below (below_grown (quiet_grown ⟨1, rfl⟩ none))
theorem CCk.row {w : World} {v : Value} {m : Ms} {bl g : Nat} {A B : World} {C : Array Value} (h : CCk w v m bl A) (hg : A.heap.size ≤ g) (hb : Below A.heap.size A B) : CCk w v m bl (B.setRow g C) :=
  h.below (below_row hb hg C)
set_option maxRecDepth 100000 in
set_option maxHeartbeats 3200000 in
theorem snwrapCuts_ok {v : Value} {hs : List Hp} {m : Ms} (cut : Int) (more : UInt8) {w : World} (hH : HopsAt w v hs) (hmx : Mx w) (h : lightD hs m = true) (hl : m.name.length + m.data.length ≤ 2000) (he : (wrapB hs m 4096 6).2 = 0) :
    Calls Tryz.prog 5 #[.agg (dgCs v m), .int .i64 cut, .int .u8 more.toNat] w fun e w' => e = .returned (.bool true) ∧ Below w.heap.size w w' := by
  have hlm0 : lightM m = true := by simp only [lightD, Bool.and_eq_true] at h; exact h.1.2
  have hnd := light_len hlm0
  have OD := Obj?.new w (dgCs v m) 45
  have HD0 := Lib.hid OD
  have HB0 := Lib.hid (below_al (Below.refl _ w) (.cells (dgCs v m) 45 (0, 0)))
  have HMW := Lib.hid hmx
  have HLV := Lib.hid lives23
  have HLD := Lib.hid (fun W (hB : Below w.heap.size w W) => lightdg_any (m := m) (hH.below hB))
  have d1 : (m.name.length : Int) + (m.data.length : Int) ≤ 2000 := by omega
  have d1b : ¬ (2000 : Int) < (m.name.length : Int) + (m.data.length : Int) := by omega
  have HBy := Lib.hid (fun W (hB : Below w.heap.size w W) => wrapbytes_any (mp := 4096) (md := 6) (hH.below hB) (by omega : (m.name.length : Int) ≤ 100000) (by omega : (m.data.length : Int) ≤ 100000) (HMW.out.below hB HMW.out.1))
  obtain ⟨o1, o2, o3, o4, o5, o6⟩ := wrapB_ok he
  have HRB := Lib.hid (fun w => rbytes_any m (by omega) (by omega) w)
  have HBM := Lib.hid o4
  rw [he] at HBy
  obtain ⟨B, hB⟩ : ∃ B, B = (wrapB hs m 4096 6).1 := ⟨_, rfl⟩
  have hB6 : B = hopsL hs ++ (bytesM m).1 := by rw [hB, o6]
  have hlenB : B.length ≤ 4096 := by rw [hB6]; omega
  rw [← hB] at HBy
  have HB6 := Lib.hid hB6
  have HLB := Lib.hid hlenB
  have HOK := Lib.hid (fun k (hk : k < hs.length) => List.all_eq_true.1 o3 _ (List.getElem_mem hk))
  have HE := Lib.hid he
  have hn4 : hs.length ≤ 4 := o2
  have hpos : 0 < B.length := by have := bytesM_pos o4; rw [hB6]; simp only [List.length_append]; omega
  obtain ⟨j, hj⟩ : ∃ j : Nat, (j : Int) = cut % (B.length : Int) := ⟨(cut % (B.length : Int)).toNat, Int.toNat_of_nonneg (Int.emod_nonneg _ (by omega))⟩
  have hjl : j < B.length := by have := Int.emod_lt_of_pos cut (show (0 : Int) < (B.length : Int) by omega); omega
  have e2 := wrapR_cut he 4096 o1 (by omega) j (by rw [← hB]; exact hjl)
  rw [← hB] at e2
  have HR2 := Lib.hid (fun W (hB : Below w.heap.size w W) => wrapread_any (B.take j) (by simp; omega) 4096 6 W (HMW.out.below hB HMW.out.1))
  rw [e2] at HR2
  have HPk := Lib.hid (fun w => by have := pick_any cut (B.length : Int) (by omega) (by omega) w; rw [← hj] at this; exact this)
  have HJ := Lib.hid (And.intro hjl hpos)
  have hlA : 16 < B.length → limOk B.length 0 = true ∧ limOk ((B.length : Int) - 1) 0 = true := fun h => by constructor <;> (unfold limOk; simp; omega)
  have hA0 : 16 < B.length → (wrapB hs m B.length 0).2 = 0 := fun h => by rw [wrapB_of (hlA h).1 o2 o3 o4 (by rw [← hB6]; exact Int.le_refl _)]
  have hb0 : (bytesM m).2 = 0 := by unfold bytesM; rw [if_pos o4]
  have hA1 : 16 < B.length → (wrapB hs m ((B.length : Int) - 1) 0).2 = 4 := fun h => by
    unfold wrapB
    rw [if_neg (by rw [(hlA h).2]; simp), if_neg (by omega), if_neg (by rw [o3]; simp), if_neg (by rw [hb0]; simp), if_pos (by rw [← hB6]; omega)]
  have hA2 : 16 < B.length → wrapR B ((B.length : Int) - 1) 0 = ([], ms0, 4) := fun h => by
    unfold wrapR
    rw [if_neg (by rw [(hlA h).2]; simp), if_pos (by omega)]
  have HAA := Lib.hid (fun h => And.intro (hA0 h) (And.intro (hA1 h) (hA2 h)))
  clear hlA hA0 hA1 hA2 hb0
  have e3 := wrapR_more he more 4096 o1
  rw [← hB] at e3
  have HR3 := Lib.hid (fun W (hB : Below w.heap.size w W) => wrapread_any (B ++ [more]) (by simp; omega) 4096 6 W (HMW.out.below hB HMW.out.1))
  obtain ⟨E3, hE3⟩ : ∃ E3, E3 = (wrapR (B ++ [more]) 4096 6).2.2 := ⟨_, rfl⟩
  have hE0 : (E3 == 0) = false := by rw [hE3]; rcases e3 with h | h <;> rw [h] <;> decide
  rw [← hE3] at HR3
  have HE3 := Lib.hid hE0
  have hcat : ByteArray.mk B.toArray ++ ByteArray.mk #[more] = ByteArray.mk (B ++ [more]).toArray := ByteArray.mk_append_mk _ _
  have HCA := Lib.hid hcat
  have hun : UInt8.ofNat (more.toNat : Int).toNat = more := by simp
  have HCV := Lib.hid (fun w => conv_one (more.toNat : Int) w)
  rw [hun] at HCV
  clear e3 hE3 hE0 hcat hun
  clear hj hjl hpos e2
  clear hB hB6 o1 o2 o3 o4 o5 o6 he
  have d2 : (m.name.length : Int) ≤ 100000 := by omega
  have d3 : (m.data.length : Int) ≤ 100000 := by omega
  have d4 : IntKind.i64.wrap ((m.name.length : Int) + (m.data.length : Int)) = (m.name.length : Int) + (m.data.length : Int) := by rw [IntKind.wrap_i64]; omega
  clear OD hmx hlm0 hnd hl
  rw [h] at HLD
  clear h
  have HHW := Lib.hid hH
  obtain ⟨a0, cap, rfl, hnode, hlm, -⟩ := hH
  go_enter Tryz.func5, Tryz.ntmps5
  refine wp_hide fun Q1 hQ1 => ?_
  have HQ1 := Lib.hid hQ1
  clear hQ1
  go_wp2_with fail
  refine (HLV.out _ (HMW.out.below HB0.out HMW.out.1)).mono ?_
  rintro r w1 ⟨rfl, hb⟩
  have HD1 := Lib.hid (HD0.out.below hb HD0.out.lt)
  have HB1 := Lib.hid (HB0.out.trans (hb.mono HB0.out.size))
  clear hb
  have hld := load_dg (v := .slice a0 hs.length cap) (m := m) HD1.out
  go_wp2_with fail
  refine (HLD.out _ HB1.out).mono ?_
  rintro r w2 ⟨rfl, hb⟩
  have HD2 := Lib.hid (HD1.out.below hb HD1.out.lt)
  have HB2 := Lib.hid (HB1.out.trans (hb.mono HB1.out.size))
  clear hb hld
  have kd := HD2.out.cells
  unfold dgCs at kd
  go_wp2_with fail
  refine (limits_any _).mono ?_
  rintro r w3 ⟨rfl, hb⟩
  have HD3 := Lib.hid (HD2.out.below hb HD2.out.lt)
  have HB3 := Lib.hid (HB2.out.trans (hb.mono HB2.out.size))
  clear hb kd
  have HD3a := Lib.hid (HD3.out.alloc (.cells #[.int .i64 4096, .int .i64 6] 56 (0, 0)))
  have HB3a := Lib.hid (below_al HB3.out (.cells #[.int .i64 4096, .int .i64 6] 56 (0, 0)))
  have kl := (Obj?.new w3 #[.int .i64 4096, .int .i64 6] 56).cells
  have hld := load_dg (v := .slice a0 hs.length cap) (m := m) HD3a.out
  go_wp2_with fail
  refine (HBy.out _ HB3a.out).mono ?_
  rintro r w4 ⟨rfl, hb⟩
  have HB4 := Lib.hid (HB3a.out.trans (hb.mono HB3a.out.size))
  have HB34 := Lib.hid hb
  clear kl
  clear hb hld
  have HD4 := Lib.hid (HD3a.out.below (HB34.out) HD3a.out.lt)
  have kd := HD4.out.cells
  unfold dgCs at kd
  go_wp2
  go_loopw [10, 11] (fun s i wr => ∃ k : Nat, k ≤ hs.length ∧ i = .int .i64 k ∧ s = .int .i64 (((hopsL (hs.take k)).length : Nat) : Int) ∧ Hid (Below w4.heap.size w4 wr)) (fun _ i _ => hs.length - (intOf i).toNat)
  case atStart => exact ⟨0, Nat.zero_le _, rfl, rfl, Lib.hid (Below.refl _ _)⟩
  case round =>
    obtain ⟨k, hk, rfl, rfl, HL⟩ := hrel
    have kd := (HD4.out.below HL.out HD4.out.lt).cells
    unfold dgCs at kd
    by_cases hlt : k < hs.length
    · obtain ⟨a', cap', e1, -, -, hc⟩ := HHW.out
      obtain ⟨rfl, rfl⟩ : a' = a0 ∧ cap' = cap := by cases e1; exact ⟨rfl, rfl⟩
      obtain ⟨b, off, rfl, hlb, hc⟩ := hc.resolve_left (fun e => by rw [e] at hlt; cases hlt)
      obtain ⟨c0, c1⟩ := hc k hlt
      have hWr := HB4.out.trans (HL.out.mono HB4.out.size)
      have k1 := (hWr.cell (p := ⟨b, off + k * 2 + 1, none⟩) hlb).trans c1
      have hls := hopsL_snoc hs k hlt
      have hl1 := hopL_len (HOK.out k hlt)
      have hsum : (hopsL (hs.take (k + 1))).length = (hopsL (hs.take k)).length + 3 + hs[k].node.length := by rw [hls, List.length_append, hl1]; omega
      have hpre : (hopsL (hs.take (k + 1))).length ≤ 4096 := by
        have h1 : hopsL hs = hopsL (hs.take (k + 1)) ++ hopsL (hs.drop (k + 1)) := by
          unfold hopsL; rw [← List.flatMap_append, List.take_append_drop]
        have h2 := HLB.out
        rw [HB6.out, h1, List.length_append, List.length_append] at h2
        omega
      obtain ⟨x, hx⟩ : ∃ x, x = (hopsL (hs.take k)).length := ⟨_, rfl⟩
      obtain ⟨node, hnd⟩ : ∃ node, node = hs[k].node := ⟨_, rfl⟩
      have HS := Lib.hid hsum
      rw [← hx, ← hnd] at HS hsum
      rw [← hx]
      rw [← hnd] at k1
      have hq1 : (x : Int) + 3 + node.length ≤ 4096 := by omega
      have hki : (k : Int) < hs.length := by omega
      have d0 : decide ((k : Int) < hs.length) = true := decide_eq_true hki
      clear hx hnd hls hl1 hsum hpre hc c0 c1 e1
      go_wp2
      go_roundw
      case rel => exact ⟨k + 1, by omega, by go_num, congrArg (Value.int .i64) (by rw [HS.out]; omega), HL⟩
      case measure => simp [intOf]; omega
    · obtain rfl : k = hs.length := by omega
      have htk : hs.take hs.length = hs := List.take_length
      have hWr := Lib.hid (HB4.out.trans (HL.out.mono HB4.out.size))
      have HD5 := Lib.hid (HD4.out.below HL.out HD4.out.lt)
      have HRB0 := Lib.hid (show (bytesM m).2 = 0 from by unfold bytesM; rw [if_pos HBM.out])
      have HRC := HRB
      rw [HRB0.out] at HRC
      obtain ⟨M, hM⟩ : ∃ M, M = (bytesM m).1 := ⟨_, rfl⟩
      obtain ⟨H, hH0⟩ : ∃ H, H = hopsL hs := ⟨_, rfl⟩
      have hBB := HB6.out
      rw [← hM, ← hH0] at hBB
      rw [← hM] at HRC
      rw [htk, ← hH0]
      have hlB := HLB.out
      have hlH : H.length + M.length = B.length := by rw [hBB, List.length_append]
      have hcut : (ByteArray.mk B.toArray).extract H.length B.length = ByteArray.mk M.toArray := by
        rw [ByteArray.extract_mk, hBB]; simp
      have d5 : (H.length : Int) ≤ B.length := by omega
      have d5b : ¬ (B.length : Int) < H.length := by omega
      have d6 : (M == M) = true := by simp
      have d7 : (M != M) = false := by simp
      have HF := Lib.hid (And.intro hcut (And.intro d5 (And.intro d5b (And.intro d6 d7))))
      have d0 : ¬ ((hs.length : Int) < hs.length) := by omega
      clear hcut d5 d5b d6 d7 hBB hM hH0 hlt htk
      have hldm := load_dgmsg (v := .slice a0 hs.length cap) (m := m) HD5.out
      go_wp2_with fail
      refine (HRC.out _).mono ?_
      rintro r w5 ⟨rfl, hb⟩
      obtain ⟨hcut, d5, d5b, d6, d7⟩ := HF.out
      have d5c : decide (B.length < H.length) = false := decide_eq_false (by omega)
      clear kd hldm
      have HD6 := Lib.hid (HD5.out.below hb HD5.out.lt)
      have HB5 := Lib.hid (hWr.out.trans (hb.mono hWr.out.size))
      have OL4 := (Obj?.new w3 #[.int .i64 4096, .int .i64 6] 56).below HB34.out (Obj?.new w3 #[.int .i64 4096, .int .i64 6] 56).lt
      have OL5 := OL4.below HL.out OL4.lt
      have HL6 := Lib.hid (OL5.below hb OL5.lt)
      clear hb OL4 OL5
      go_upto_region 17 with fail
      clear hcut d5 d5b d5c d6 d7
      have kl := HL6.out.cells
      have hji : (j : Int) ≤ B.length := by have := HJ.out; omega
      have hcutj : (ByteArray.mk B.toArray).extract 0 j = ByteArray.mk (B.take j).toArray := by rw [ByteArray.extract_mk]; simp
      have HAB := Lib.hid (show Below w.heap.size w w5.drew from below_drewM HB5.out)
      have HS := Lib.hid (show CCk w (.slice a0 hs.length cap) m w3.heap.size w5 from ⟨HD6.out, HL6.out, HB5.out⟩)
      have HZ := Lib.hid (CCk.drew (HS.out.alloc (.cells #[.slice none 0 0, .int .i64 0, .bool false, .int .i64 0, .bool false, .bool false, .bool false, .int .i64 0, .int .i64 0, .int .i64 0, .int .i64 0, .bool false, .int .i64 0, .int .i64 0, .int .i64 0, .string ⟨#[]⟩, .string ⟨#[]⟩] 45 (0, 0))))
      have HA := Lib.hid HS.out.drew
      have HBB := Lib.hid HZ.out.2.2
      have klB : ∀ j, (w5.alloc (.cells #[.slice none 0 0, .int .i64 0, .bool false, .int .i64 0, .bool false, .bool false, .bool false, .int .i64 0, .int .i64 0, .int .i64 0, .int .i64 0, .bool false, .int .i64 0, .int .i64 0, .int .i64 0, .string ⟨#[]⟩, .string ⟨#[]⟩] 45 (0, 0))).cell? ⟨w3.heap.size, j, none⟩ = _ := (HL6.out.alloc _).cells
      have hlt6 : w3.heap.size < w5.heap.size := HL6.out.lt
      have hne6 : ¬ (w3.heap.size = w5.heap.size) := by omega
      go_cut [14, 15] from 89 to 99 (fun (_ e15 : Value) (wx : World) => e15 = .int .i64 3 ∧ Hid (CCk w (.slice a0 hs.length cap) m w3.heap.size wx))
      case first =>
        go_region_with ((first
          | (go_at_call 31; refine (HPk.out _).mono ?_; rintro r w' ⟨rfl, hw⟩; subst hw)
          | (go_at_call 30; ((with_reducible refine (HR2.out _ HAB.out).mono ?_); (rintro r w7 ⟨v2, rfl, hH2, hb⟩; have hst := store_newdg w7 v2 ms0 hH2.one; have HS8 := Lib.hid ((HA.out.below hb).alloc (.cells (dgCs v2 ms0) 45 (0, 0))); clear hH2 hb)))
          | (go_at_call 30; ((with_reducible refine (HR2.out _ HBB.out).mono ?_); (rintro r w7 ⟨v2, rfl, hH2, hb⟩; have hst := store_dg (v0 := nilV) (m0 := ms0) (v := v2) (m := ms0) hH2.one (new_kept hb); have HS8 := Lib.hid (CCk.row (C := dgCs v2 ms0) HS.out (Nat.le_refl _) (new_below hb)); clear hH2 hb)))))
        all_goals
          go_wp2_with fail
          go_meet
          exact ⟨rfl, HS8⟩
      case rest =>
      obtain ⟨rfl, hcc⟩ := hcut
      have HC1 := Lib.hid (hcc.out.alloc (.cells #[.int .u8 more.toNat] 5 (0, 0)))
      have kl := HC1.out.2.1.cells
      have hcv := HCV.out wc
      have hcat := HCA.out
      clear hlt6 hne6 klB
      go_wp2_with fail
      refine (HR3.out _ HC1.out.2.2).mono ?_
      rintro r w7 ⟨v3, rfl, hH3, hb⟩
      have hst := store_newdg w7 v3 (wrapR (B ++ [more]) 4096 6).2.1 hH3.one
      have HC8 := Lib.hid ((HC1.out.below hb).alloc (.cells (dgCs v3 (wrapR (B ++ [more]) 4096 6).2.1) 45 (0, 0)))
      have hE0 := HE3.out
      have hlb := HLB.out
      clear hb hH3 kl hcv hcat HC1
      by_cases h16 : B.length ≤ 16
      · have d8 : (B.length : Int) ≤ 16 := by omega
        go_wp2
        refine HQ1.out _ _ _ ?_
        go_ret
        exact ⟨rfl, HC8.out.2.2⟩
      · have d8 : ¬ (B.length : Int) ≤ 16 := by omega
        have d8b : (16 : Int) < B.length := by omega
        have HAZ := Lib.hid (HAA.out (by omega))
        obtain ⟨W8, hW8⟩ : ∃ W8, W8 = w7.alloc (.cells (dgCs v3 (wrapR (B ++ [more]) 4096 6).2.1) 45 (0, 0)) := ⟨_, rfl⟩
        rw [← hW8] at HC8 hst
        clear hW8
        have HR4 := Lib.hid (fun W (hB : Below w.heap.size w W) => wrapread_any B (by have := HLB.out; omega) ((B.length : Int) - 1) 0 W (HMW.out.below hB HMW.out.1))
        rw [HAZ.out.2.2] at HR4
        have HKA := Lib.hid (fun W (hB : Below w.heap.size w W) => wrapcheck_any (mp := B.length) (md := 0) (HHW.out.below hB) d2 d3 (HMW.out.below hB HMW.out.1))
        rw [HAZ.out.1] at HKA
        have HKB := Lib.hid (fun W (hB : Below w.heap.size w W) => wrapcheck_any (mp := (B.length : Int) - 1) (md := 0) (HHW.out.below hB) d2 d3 (HMW.out.below hB HMW.out.1))
        rw [HAZ.out.2.1] at HKB
        go_upto_region 25 with fail
        obtain ⟨W10, hW10⟩ : ∃ W10, W10 = (W8.alloc (.cells #[.int .i64 B.length, .int .i64 0] 56 (0, 0))).alloc (.cells #[.int .i64 ((B.length : Int) - 1), .int .i64 0] 56 (0, 0)) := ⟨_, rfl⟩
        have OA : Obj? W10 W8.heap.size #[.int .i64 B.length, .int .i64 0] 56 := by rw [hW10]; exact (Obj?.new W8 _ _).alloc _
        have OB : Obj? W10 (W8.heap.size + 1) #[.int .i64 ((B.length : Int) - 1), .int .i64 0] 56 := by
          have := Obj?.new (W8.alloc (.cells #[.int .i64 B.length, .int .i64 0] 56 (0, 0))) #[.int .i64 ((B.length : Int) - 1), .int .i64 0] 56
          rw [World.size_alloc] at this
          rw [hW10]; exact this
        have HC10 := Lib.hid (show CCk w (.slice a0 hs.length cap) m w3.heap.size W10 by rw [hW10]; exact (HC8.out.alloc _).alloc _)
        rw [← hW10]
        clear hW10 hst
        have HLM := Lib.hid (And.intro OA OB)
        have kb := OB.cells
        clear OA OB
        go_wp2_with fail
        refine (HR4.out _ HC10.out.2.2).mono ?_
        rintro r w11 ⟨v4, rfl, hH4, hb⟩
        have hst := store_newdg w11 v4 ms0 hH4.one
        have HC11 := Lib.hid ((HC10.out.below hb).alloc (.cells (dgCs v4 ms0) 45 (0, 0)))
        have HLM1 := Lib.hid (And.intro ((HLM.out.1.below hb HLM.out.1.lt).alloc (.cells (dgCs v4 ms0) 45 (0, 0))) ((HLM.out.2.below hb HLM.out.2.lt).alloc (.cells (dgCs v4 ms0) 45 (0, 0))))
        clear hb hH4 kb
        obtain ⟨W12, hW12⟩ : ∃ W12, W12 = w11.alloc (.cells (dgCs v4 ms0) 45 (0, 0)) := ⟨_, rfl⟩
        rw [← hW12] at hst HC11 HLM1
        clear hW12
        have hld := load_dg HC11.out.1
        have ka := HLM1.out.1.cells
        go_wp2_with fail
        refine (HKA.out _ HC11.out.2.2).mono ?_
        rintro r w13 ⟨rfl, hb⟩
        have HC13 := Lib.hid (HC11.out.below hb)
        have hld2 := load_dg HC13.out.1
        have kb := (HLM1.out.2.below hb HLM1.out.2.lt).cells
        clear hb hld ka hst
        go_wp2_with fail
        refine (HKB.out _ HC13.out.2.2).mono ?_
        rintro r w14 ⟨rfl, hb⟩
        have HBZ := Lib.hid (HC13.out.2.2.trans (hb.mono HC13.out.2.2.size))
        clear hb kb hld2
        go_wp2
        refine HQ1.out _ _ _ ?_
        go_ret
        exact ⟨rfl, HBZ.out⟩
theorem snwrapCuts_walk {v : Value} {hs : List Hp} {m : Ms} (cut : Int) (more : UInt8) {w : World} (hH : HopsAt w v hs) (hmx : Mx w) :
    Calls Tryz.prog 5 #[.agg (dgCs v m), .int .i64 cut, .int .u8 more.toNat] w fun e w' => e = .returned (.bool true) ∧ Below w.heap.size w w' := by
  cases h : lightD hs m with
  | false => exact snwrapCuts_heavy cut more hH hmx h
  | true =>
    by_cases hl : 2000 < m.name.length + m.data.length
    · exact snwrapCuts_long cut more hH hmx h hl
    by_cases he : (wrapB hs m 4096 6).2 = 0
    · exact snwrapCuts_ok cut more hH hmx h (by omega) he
    · exact snwrapCuts_bad cut more hH hmx h (by omega) he
end Go.Proofs.YtbacnaplpfmpnaaGreatDoor
