/- polyglotref23: a datagram's bytes, Check, Bytes. -/
import Derived.Test.YtbacnaplpfmpnaaGreatDoorWrV
import Derived.Test.YtbacnaplpfmpnaaGreatDoorRfN
import Derived.Test.YtbacnaplpfmpnaaGreatDoorSnK
import Derived.Deep.RegionHeld3
import Derived.Deep.LoopGhost
import Derived.BigQuiet
namespace Go.Proofs.YtbacnaplpfmpnaaGreatDoor
open Go Go.RowKit Go.Shelf
set_option linter.unusedVariables false
set_option linter.unusedSimpArgs false
attribute [local go_sem ↓] load_Msg store_Msg load_Dg store_Dg
attribute [local irreducible] rowSem rowStore

set_option maxRecDepth 100000 in
set_option maxHeartbeats 1600000 in
theorem rbytes23_any {v : Value} {hs : List Hp} {m : Ms} {w : World} (hH : HopsAt w v hs) (hn : (m.name.length : Int) ≤ 100000) (hd : (m.data.length : Int) ≤ 100000) (h2 : hs.length ≤ 4) (h3 : hs.all hopOk = true) :
    Calls Tryz.prog 83 #[.agg (dgCs v m)] w fun e w' => e = .returned (.string ⟨(hopsL hs ++ (bytesM m).1).toArray⟩) ∧ Below w.heap.size w w' := by
  have HD0 := Lib.hid (Obj?.new w (dgCs v m) 45)
  have HB0 := Lib.hid (below_al (Below.refl _ w) (.cells (dgCs v m) 45 (0, 0)))
  have HHW := Lib.hid hH
  have HBr := Lib.hid (fun W => rbytes_any m hn hd W)
  have hBl := bytesM_len m
  obtain ⟨B, hB⟩ : ∃ B, B = (bytesM m).1 := ⟨_, rfl⟩
  rw [← hB] at HBr hBl ⊢
  obtain ⟨E, hE⟩ : ∃ E, E = (bytesM m).2 := ⟨_, rfl⟩
  rw [← hE] at HBr
  have HOK := Lib.hid (fun (k : Nat) (hk : k < hs.length) => (show hopOk hs[k] = true from List.all_eq_true.1 h3 _ (List.getElem_mem hk)))
  have HTK := Lib.hid (fun (k : Nat) (hk : k ≤ hs.length) => (show (hopsL (hs.take k)).length ≤ 140 by
    have := hopsL_take_len (hs := hs.take k) (List.all_eq_true.2 fun x hx => List.all_eq_true.1 h3 x (List.mem_of_mem_take hx))
    rw [List.length_take] at this; omega))
  clear hB hE h3 hn hd
  unfold dgCs at HD0 HB0 ⊢
  obtain ⟨a0, cap, rfl, -, hlm, -⟩ := hH
  obtain ⟨n, hN⟩ : ∃ n, n = hs.length := ⟨_, rfl⟩
  have HN := Lib.hid hN
  have hn4 : n ≤ 4 := by omega
  rw [← hN] at HD0 HB0 ⊢
  clear hN hlm h2
  go_enter Tryz.func83, Tryz.ntmps83
  refine wp_hide fun Q1 hQ1 => ?_
  have HQ1 := Lib.hid hQ1
  clear hQ1
  go_wp2
  go_loopg [3, 4] (n + 1) (fun g s i wr => ∃ k : Nat, g + k = n + 1 ∧ k ≤ n ∧ i = .int .i64 k ∧ s = .string ⟨(hopsL (hs.take k)).toArray⟩ ∧ Hid (Below w.heap.size w wr ∧ Obj? wr w.heap.size (dgCs (.slice a0 n cap) m) 45))
  case atStart => exact ⟨0, by omega, by omega, rfl, rfl, Lib.hid ⟨HB0.out, HD0.out⟩⟩
  case round =>
    obtain ⟨k, hgk, hkn, rfl, rfl, HI⟩ := hrel
    have HGK := Lib.hid (And.intro hgk hkn)
    clear hgk
    have kd := HI.out.2.cells
    unfold dgCs at kd
    by_cases hlt : k < n
    · have hk' : k < hs.length := by rw [← HN.out]; exact hlt
      obtain ⟨b, off, rfl, hlb, c0, c1⟩ := hopat_cell HHW.out k hk'
      have k0 := (HI.out.1.cell (p := ⟨b, off + k * 2, none⟩) hlb).trans c0
      have k1 := (HI.out.1.cell (p := ⟨b, off + k * 2 + 1, none⟩) hlb).trans c1
      clear c0 c1
      have hok := HOK.out k hk'
      obtain ⟨T, hT3, hx1, hx2, -⟩ := hopB3 hok
      simp only [hopOk, decide_eq_true_eq] at hok
      obtain ⟨r0, r3, n1, n32⟩ := hok
      obtain ⟨S, hS⟩ : ∃ S, S = hopsL (hs.take k) := ⟨_, rfl⟩
      have hST : hopsL (hs.take (k + 1)) = S ++ hopL hs[k] := by rw [hS]; exact hopsL_snoc hs k hk'
      have lS : S.length ≤ 140 := by rw [hS]; exact HTK.out k (by omega)
      have HST := Lib.hid hST
      rw [← hS]
      obtain ⟨x, hx⟩ : ∃ x, x = hs[k] := ⟨_, rfl⟩
      rw [← hx] at k0 k1 hx1 hx2 r0 r3 n1 n32 HST
      have hx1 := hx1 S
      have hx2 := hx2 S
      clear hx hS hST hk'
      have d3 : decide ((k : Int) < n) = true := decide_eq_true (by omega)
      have hki : (k : Int) < n := by omega
      have y1 : ¬ (9223372036854775807 : Nat) < S.length + 3 := by omega
      have y2 : ¬ (9223372036854775807 : Nat) < (S ++ T).length + x.node.length := by rw [List.length_append]; omega
      have y3 : ¬ (9223372036854775807 : Nat) < S.length + T.length + x.node.length := by omega
      have kh := (Obj?.new wr #[.int .i64 x.rad, .string ⟨x.node.toArray⟩] 49).cells
      have hcv := conv_three ((x.node.length : Int) + 3) 254 x.rad (wr.alloc (.cells #[.int .i64 x.rad, .string ⟨x.node.toArray⟩] 49 (0, 0)))
      rw [World.size_alloc] at hcv
      have HN1 := Lib.hid (show Below w.heap.size w ((wr.alloc (.cells #[.int .i64 x.rad, .string ⟨x.node.toArray⟩] 49 (0, 0))).alloc (.cells #[.int .u8 ((x.node.length : Int) + 3), .int .u8 254, .int .u8 x.rad] 5 (0, 0))) ∧ Obj? ((wr.alloc (.cells #[.int .i64 x.rad, .string ⟨x.node.toArray⟩] 49 (0, 0))).alloc (.cells #[.int .u8 ((x.node.length : Int) + 3), .int .u8 254, .int .u8 x.rad] 5 (0, 0))) w.heap.size (dgCs (.slice (some ⟨b, off, none⟩) n cap) m) 45 from ⟨below_al (below_al HI.out.1 _) _, (HI.out.2.alloc _).alloc _⟩)
      clear hlt
      go_wp2
      go_roundg (gk - 1)
      case measure => have := HGK.out; omega
      case rel => exact ⟨k + 1, by have := HGK.out; omega, by omega, by go_num, by rw [HST.out], HN1⟩
    · obtain rfl : k = n := by omega
      have hT : hopsL (hs.take k) = hopsL hs := by rw [HN.out, List.take_length]
      have hHl : (hopsL (hs.take k)).length ≤ 140 := HTK.out k (by have := HN.out; omega)
      rw [hT] at hHl ⊢
      have hldm := load_dgmsg HI.out.2
      obtain ⟨H, hH'⟩ : ∃ H, H = hopsL hs := ⟨_, rfl⟩
      rw [← hH'] at hHl ⊢
      have hx : ByteArray.mk H.toArray ++ ByteArray.mk B.toArray = ByteArray.mk (H ++ B).toArray := ByteArray.mk_append_mk _ _
      have y1 : ¬ (9223372036854775807 : Nat) < H.length + B.length := by omega
      have hnj : ¬ ((k : Int) < k) := by omega
      have HHH := Lib.hid hH'
      clear hT hH'
      unfold Ms.cs at hldm HBr
      go_wp2_with fail
      refine (HBr.out _).mono ?_
      rintro r w2 ⟨rfl, hb⟩
      have HB2 := Lib.hid (HI.out.1.trans (hb.mono HI.out.1.size))
      clear hb hldm kd
      go_wp2
      refine HQ1.out _ _ _ ?_
      rw [← HHH.out]
      go_ret
      exact ⟨rfl, HB2.out⟩
set_option maxRecDepth 100000 in
set_option maxHeartbeats 1600000 in
theorem rcheck23_any {v : Value} {hs : List Hp} {m : Ms} {mp md : Int} {w : World} (hH : HopsAt w v hs) (hn : (m.name.length : Int) ≤ 100000) (hd : (m.data.length : Int) ≤ 100000) :
    Calls Tryz.prog 40 #[.agg (dgCs v m), .agg #[.int .i64 mp, .int .i64 md]] w fun e w' => e = .returned (.int .i64 (wrapB hs m mp md).2) ∧ Below w.heap.size w w' := by
  have OD := Obj?.new w (dgCs v m) 45
  have OL := Obj?.new (w.alloc (.cells (dgCs v m) 45 (0, 0))) #[.int .i64 mp, .int .i64 md] 56
  rw [World.size_alloc] at OL
  have HD0 := Lib.hid (OD.alloc (.cells #[.int .i64 mp, .int .i64 md] 56 (0, 0)))
  have HL0 := Lib.hid OL
  have HB0 := Lib.hid (below_al (below_al (Below.refl _ w) (.cells (dgCs v m) 45 (0, 0))) (.cells #[.int .i64 mp, .int .i64 md] 56 (0, 0)))
  have HHW := Lib.hid hH
  have HR := Lib.hid (fun w => right19_any mp md w)
  have HC := Lib.hid (fun W => rcheck_any m (by omega) (by omega) W)
  have HRB := Lib.hid (fun W (hB : Below w.heap.size w W) (h2 : hs.length ≤ 4) (h3 : hs.all hopOk = true) => rbytes23_any (hH.below hB) hn hd h2 h3)
  have HW := Lib.hid (show wrapB hs m mp md = if limOk mp md = false then ([], 2) else if 4 < hs.length then ([], 12) else if hs.all hopOk = false then ([], 2)
    else if checkM m ≠ 0 then ([], checkM m) else if mp < ((hopsL hs ++ (bytesM m).1).length : Int) then ([], 4) else (hopsL hs ++ (bytesM m).1, 0) by rw [← bytesM_e]; rfl)
  have HLN := Lib.hid (fun (h3 : hs.all hopOk = true) => hopsL_take_len h3)
  have HBl := Lib.hid (bytesM_len m)
  obtain ⟨B, hB⟩ : ∃ B, B = (bytesM m).1 := ⟨_, rfl⟩
  obtain ⟨E, hE⟩ : ∃ E, E = checkM m := ⟨_, rfl⟩
  obtain ⟨L, hL⟩ : ∃ L, L = limOk mp md := ⟨_, rfl⟩
  rw [← hB, ← hE, ← hL] at HW
  rw [← hB] at HRB HBl
  rw [← hE] at HC
  rw [← hL] at HR
  clear hB hE hL hn hd OD OL
  unfold dgCs at HD0 HL0 HB0 ⊢
  unfold Ms.cs at HC
  have HSM := Lib.hid hH.small
  obtain ⟨a0, cap, rfl, -, hlm, -⟩ := hH
  obtain ⟨n, hN⟩ : ∃ n, n = hs.length := ⟨_, rfl⟩
  have HN := Lib.hid hN
  rw [← hN] at HD0 HL0 HB0 HRB hlm ⊢
  clear hN
  go_enter Tryz.func40, Tryz.ntmps40
  refine wp_hide fun Q1 hQ1 => ?_
  have HQ1 := Lib.hid hQ1
  clear hQ1
  go_wp2_with fail
  refine (HR.out _).mono ?_
  rintro r w1 ⟨rfl, hb⟩
  have HB1 := Lib.hid (HB0.out.trans (hb.mono HB0.out.size))
  have HD1 := Lib.hid (HD0.out.below hb HD0.out.lt)
  have HL1 := Lib.hid (HL0.out.below hb HL0.out.lt)
  have kd := HD1.out.cells
  clear hb
  cases L with
  | false =>
    have HA := Lib.hid (show (wrapB hs m mp md).2 = 2 by rw [HW.out, if_pos rfl])
    go_wp2
    refine HQ1.out _ _ _ ?_
    rw [HA.out]
    go_ret
    exact ⟨rfl, HB1.out⟩
  | true =>
  by_cases h4 : 4 < n
  · have HA := Lib.hid (show (wrapB hs m mp md).2 = 12 by rw [HW.out, if_neg (by decide), if_pos (by rw [← HN.out]; exact h4)])
    have d4 : (4 : Int) < n := by omega
    clear h4
    go_wp2
    refine HQ1.out _ _ _ ?_
    rw [HA.out]
    go_ret
    exact ⟨rfl, HB1.out⟩
  have d4 : ¬ (4 : Int) < n := by omega
  have hn4 : n ≤ 4 := by omega
  clear h4
  go_wp2
  go_loopg [5] (n + 1) (fun g i wr => ∃ k : Nat, g + k = n + 1 ∧ k ≤ n ∧ i = .int .i64 k ∧ Hid ((hs.take k).all hopOk = true ∧ Below w1.heap.size w1 wr))
  case atStart => exact ⟨0, by omega, by omega, rfl, Lib.hid ⟨rfl, Below.refl _ _⟩⟩
  case round =>
    obtain ⟨k, hgk, hkn, rfl, HI⟩ := hrel
    have HGK := Lib.hid (And.intro hgk hkn)
    clear hgk
    clear kd
    have HBr := Lib.hid (HB1.out.trans (HI.out.2.mono HB1.out.size))
    have HDr := Lib.hid (HD1.out.below HI.out.2 HD1.out.lt)
    have HLr := Lib.hid (HL1.out.below HI.out.2 HL1.out.lt)
    have kd := HDr.out.cells
    by_cases hlt : k < n
    · have hk' : k < hs.length := by rw [← HN.out]; exact hlt
      obtain ⟨b, off, rfl, hlb, c0, c1⟩ := hopat_cell HHW.out k hk'
      have k0 := (HBr.out.cell (p := ⟨b, off + k * 2, none⟩) hlb).trans c0
      have k1 := (HBr.out.cell (p := ⟨b, off + k * 2 + 1, none⟩) hlb).trans c1
      clear c0 c1
      have htk : (hs.take (k + 1)).all hopOk = ((hs.take k).all hopOk && hopOk hs[k]) := by rw [List.take_succ_eq_append_getElem hk', List.all_append]; simp
      have hall : hopOk hs[k] = false → hs.all hopOk = false := fun q => by
        rw [List.all_eq_false]
        exact ⟨hs[k], List.getElem_mem hk', by rw [q]; decide⟩
      have HWh := Lib.hid (fun w => rhop_any hs[k] (HSM.out.1 _ (List.getElem_mem hk')) w)
      obtain ⟨x, hx⟩ : ∃ x, x = hs[k] := ⟨_, rfl⟩
      rw [← hx] at k0 k1 htk hall HWh
      have HT := Lib.hid (And.intro htk hall)
      clear hx htk hall hk'
      obtain ⟨q, hq⟩ : ∃ q, q = hopOk x := ⟨_, rfl⟩
      rw [← hq] at HWh HT
      have d3 : decide ((k : Int) < n) = true := decide_eq_true (by omega)
      have hki : (k : Int) < n := by omega
      clear hlt hq
      go_wp2_with fail
      refine (HWh.out _).mono ?_
      rintro r w2 ⟨rfl, hb⟩
      cases q with
      | false =>
        have HA := Lib.hid (show (wrapB hs m mp md).2 = 2 by rw [HW.out, if_neg (by decide), if_neg (by rw [← HN.out]; omega), if_pos (HT.out.2 rfl)])
        have HB2 := Lib.hid (HBr.out.trans (hb.mono HBr.out.size))
        clear hb
        go_wp2
        refine HQ1.out _ _ _ ?_
        rw [HA.out]
        go_ret
        exact ⟨rfl, HB2.out⟩
      | true =>
        have HNX := Lib.hid (show (hs.take (k + 1)).all hopOk = true ∧ Below w1.heap.size w1 w2 from ⟨by rw [HT.out.1, HI.out.1]; rfl, HI.out.2.trans (hb.mono HI.out.2.size)⟩)
        clear hb
        go_wp2
        go_roundg (gk - 1)
        case measure => have := HGK.out; omega
        case rel => exact ⟨k + 1, by have := HGK.out; omega, by omega, by go_num, HNX⟩
    · obtain rfl : k = n := by omega
      have hall : hs.all hopOk = true := by have := HI.out.1; rwa [HN.out, List.take_length] at this
      have hnj : ¬ ((k : Int) < k) := by omega
      have hldm := load_dgmsg HDr.out
      unfold Ms.cs at hldm
      have HAL := Lib.hid hall
      clear hall
      go_wp2_with fail
      refine (HC.out _).mono ?_
      rintro r w2 ⟨rfl, hb⟩
      have HB2 := Lib.hid (HBr.out.trans (hb.mono HBr.out.size))
      have HD2 := Lib.hid (HDr.out.below hb HDr.out.lt)
      have HL2 := Lib.hid (HLr.out.below hb HLr.out.lt)
      clear hb hldm kd
      by_cases hE : E = 0
      · subst hE
        have hld := load_dg HD2.out
        have kl := HL2.out.cells
        have HRc := Lib.hid (fun W (hB : Below w2.heap.size w2 W) => HRB.out W (HB2.out.trans (hB.mono HB2.out.size)) hn4 HAL.out)
        have hHl : (hopsL hs).length ≤ 140 := by have := HLN.out HAL.out; have := HN.out; omega
        have hBl := HBl.out
        obtain ⟨H, hH'⟩ : ∃ H, H = hopsL hs := ⟨_, rfl⟩
        obtain ⟨C, hC⟩ : ∃ C, C = H ++ B := ⟨_, rfl⟩
        rw [← hH'] at HRc hHl HW
        rw [← hC] at HRc HW
        have hCl : C.length ≤ 1000000 := by rw [hC, List.length_append]; omega
        clear hH' hC hHl hBl
        unfold dgCs at hld
        have hS0 : Below w2.heap.size w2 w2 ∧ (rowSem 45 ⟨w.heap.size, 0, none⟩).run Tryz.prog w2 = _ ∧ w2.cell? ⟨w.heap.size + 1, 0, none⟩ = some (.int .i64 mp) := ⟨Below.refl _ _, hld, HL2.out.cell 0 _ rfl⟩
        have HSF := Lib.hid (show ∀ W, Below w2.heap.size w2 W → Below w2.heap.size w2 W ∧ (rowSem 45 ⟨w.heap.size, 0, none⟩).run Tryz.prog W = _ ∧ W.cell? ⟨w.heap.size + 1, 0, none⟩ = some (.int .i64 mp) from fun W hW => ⟨hW, load_dg (HD2.out.below hW HD2.out.lt), (HL2.out.below hW HL2.out.lt).cell 0 _ rfl⟩)
        have hS1 := HSF.out w2.drew (below_grown (quiet_grown ⟨1, rfl⟩ none))
        unfold dgCs at HSF hS1 HRc
        clear kl
        by_cases h6 : mp < (C.length : Int)
        · have HA := Lib.hid (show (wrapB hs m mp md).2 = 4 by rw [HW.out, if_neg (by decide), if_neg (by rw [← HN.out]; omega), if_neg (by rw [HAL.out]; decide), if_neg (by simp), if_pos h6])
          go_upto_region 11 with fail
          go_region_held3 (fun W => Below w2.heap.size w2 W ∧ (rowSem 45 ⟨w.heap.size, 0, none⟩).run Tryz.prog W = .ok (.agg #[.slice a0 k cap, .int .i64 m.ty, .bool m.fl.dup, .int .i64 m.fl.q, .bool m.fl.retain, .bool m.fl.will, .bool m.fl.clean, .int .i64 m.fl.typ, .int .i64 m.gw, .int .i64 m.rad, .int .i64 m.time, .bool m.timed, .int .i64 m.tid, .int .i64 m.mid, .int .i64 m.code, .string ⟨m.name.toArray⟩, .string ⟨m.data.toArray⟩]) W ∧ W.cell? ⟨w.heap.size + 1, 0, none⟩ = some (.int .i64 mp))
            ((first | assumption | exact HSF.out _ (below_step (by assumption) (below_grown (quiet_grown ⟨1, rfl⟩ none)))))
            ((go_split_ands; first
              | (go_at_call 83; ((with_reducible refine (HRc.out _ (by assumption)).mono ?_); (rintro e w3 ⟨rfl, hb⟩; have hS := HSF.out _ (below_step (by assumption) hb))))))
          all_goals
            have HB3 := Lib.hid (HB2.out.trans (hS.1.mono HB2.out.size))
            clear hS
            go_wp2
            refine HQ1.out _ _ _ ?_
            rw [HA.out]
            go_ret
            exact ⟨rfl, HB3.out⟩
        · have HA := Lib.hid (show (wrapB hs m mp md).2 = 0 by rw [HW.out, if_neg (by decide), if_neg (by rw [← HN.out]; omega), if_neg (by rw [HAL.out]; decide), if_neg (by simp), if_neg h6])
          go_upto_region 11 with fail
          go_region_held3 (fun W => Below w2.heap.size w2 W ∧ (rowSem 45 ⟨w.heap.size, 0, none⟩).run Tryz.prog W = .ok (.agg #[.slice a0 k cap, .int .i64 m.ty, .bool m.fl.dup, .int .i64 m.fl.q, .bool m.fl.retain, .bool m.fl.will, .bool m.fl.clean, .int .i64 m.fl.typ, .int .i64 m.gw, .int .i64 m.rad, .int .i64 m.time, .bool m.timed, .int .i64 m.tid, .int .i64 m.mid, .int .i64 m.code, .string ⟨m.name.toArray⟩, .string ⟨m.data.toArray⟩]) W ∧ W.cell? ⟨w.heap.size + 1, 0, none⟩ = some (.int .i64 mp))
            ((first | assumption | exact HSF.out _ (below_step (by assumption) (below_grown (quiet_grown ⟨1, rfl⟩ none)))))
            ((go_split_ands; first
              | (go_at_call 83; ((with_reducible refine (HRc.out _ (by assumption)).mono ?_); (rintro e w3 ⟨rfl, hb⟩; have hS := HSF.out _ (below_step (by assumption) hb))))))
          all_goals
            have HB3 := Lib.hid (HB2.out.trans (hS.1.mono HB2.out.size))
            clear hS
            go_wp2
            refine HQ1.out _ _ _ ?_
            rw [HA.out]
            go_ret
            exact ⟨rfl, HB3.out⟩
      · have de : (E == 0) = false := by simpa using hE
        have HA := Lib.hid (show (wrapB hs m mp md).2 = E by rw [HW.out, if_neg (by decide), if_neg (by rw [← HN.out]; omega), if_neg (by rw [HAL.out]; decide), if_pos hE])
        go_upto_region 11 with fail
        go_quiet (fail)
        go_wp2
        refine HQ1.out _ _ _ ?_
        rw [HA.out]
        go_ret
        exact ⟨rfl, below_drewN HB2.out _⟩
set_option maxRecDepth 100000 in
set_option maxHeartbeats 1600000 in
theorem rwrapbytes_any {v : Value} {hs : List Hp} {m : Ms} {mp md : Int} {w : World} (hH : HopsAt w v hs) (hn : (m.name.length : Int) ≤ 100000) (hd : (m.data.length : Int) ≤ 100000) :
    Calls Tryz.prog 35 #[.agg (dgCs v m), .agg #[.int .i64 mp, .int .i64 md]] w fun e w' => e = .returned (.tuple #[.string ⟨(wrapB hs m mp md).1.toArray⟩, .int .i64 (wrapB hs m mp md).2]) ∧ Below w.heap.size w w' := by
  have OD := Obj?.new w (dgCs v m) 45
  have HD0 := Lib.hid (OD.alloc (.cells #[.int .i64 mp, .int .i64 md] 56 (0, 0)))
  have HB0 := Lib.hid (below_al (below_al (Below.refl _ w) (.cells (dgCs v m) 45 (0, 0))) (.cells #[.int .i64 mp, .int .i64 md] 56 (0, 0)))
  have hld := load_dg HD0.out
  have HC := Lib.hid (rcheck23_any (mp := mp) (md := md) (hH.below HB0.out) hn hd)
  have HRB := Lib.hid (fun W (hB : Below w.heap.size w W) (h2 : hs.length ≤ 4) (h3 : hs.all hopOk = true) => rbytes23_any (hH.below hB) hn hd h2 h3)
  have hno := fun h => wrapB_no (hs := hs) (m := m) (mp := mp) (md := md) h
  have hok := fun h => wrapB_ok (hs := hs) (m := m) (mp := mp) (md := md) h
  obtain ⟨⟨B, E⟩, hT⟩ : ∃ T, T = wrapB hs m mp md := ⟨_, rfl⟩
  rw [← hT] at HC hno hok ⊢
  simp only at HC hno hok ⊢
  have HN := Lib.hid hno
  have HK := Lib.hid hok
  clear hno hok hT OD
  unfold dgCs at hld HC HD0 HB0 HRB ⊢
  go_enter Tryz.func35, Tryz.ntmps35
  refine wp_hide fun Q1 hQ1 => ?_
  have HQ1 := Lib.hid hQ1
  clear hQ1
  go_wp2_with fail
  refine HC.out.mono ?_
  rintro r w1 ⟨rfl, hb⟩
  have HB1 := Lib.hid (HB0.out.trans (hb.mono HB0.out.size))
  have HD1 := Lib.hid (HD0.out.below hb HD0.out.lt)
  clear hb hld
  by_cases hE : E = 0
  · subst hE
    have hk := HK.out rfl
    have hld := load_dg (v := v) (m := m) HD1.out
    have HR := Lib.hid (HRB.out w1 HB1.out hk.2.1 hk.2.2.1)
    have HE := Lib.hid (show B = hopsL hs ++ (bytesM m).1 from congrArg Prod.fst hk.2.2.2.2.2)
    rw [← HE.out] at HR
    clear hk
    unfold dgCs at hld
    go_wp2_with fail
    refine HR.out.mono ?_
    rintro r w2 ⟨rfl, hb⟩
    have HB2 := Lib.hid (HB1.out.trans (hb.mono HB1.out.size))
    clear hb hld
    go_wp2
    refine HQ1.out _ _ _ ?_
    go_ret2
    exact ⟨rfl, HB2.out⟩
  · have de : (E == 0) = false := by simpa using hE
    have de2 : (E != 0) = true := by simpa using hE
    obtain rfl := HN.out hE
    go_wp2
    refine HQ1.out _ _ _ ?_
    go_ret2
    exact ⟨rfl, HB1.out⟩
end Go.Proofs.YtbacnaplpfmpnaaGreatDoor
