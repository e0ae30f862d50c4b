/- fromsn: To: a message with its name, by the types of its ids. -/
import Derived.Test.YtanofjmkkhocaaaGreatDoorTcR
set_option linter.unusedVariables false
set_option linter.unusedSimpArgs false
set_option maxRecDepth 100000
set_option maxHeartbeats 1600000
namespace Go.Proofs.YtanofjmkkhocaaaGreatDoor
open Go Go.RowKit Go.MapKept
attribute [local go_sem ↓] load_Msg store_Msg load_Dg store_Dg load_EvX store_EvX
attribute [local irreducible] rowSem rowStore
theorem to_pub2 {w : World} {rb : Nat} {v : Value} {hs : List Hp} {m : Ms} (n : List UInt8) (hH : HopsAt w v hs) (hn : (m.name.length : Int) ≤ 100000) (hd : (m.data.length : Int) ≤ 100000) (hmx : Mx w) {O : Nat → Own} {L : List UInt8 → Option (Nat × Cl)} (hG : RegAt w rb O L) (he0 : 0 = (wrapB hs m 1048576 32).2) (hl : hs.length ≤ 4) (hty : m.ty = 12) (h2 : m.fl.typ = 2) (s : List UInt8) (ok : Bool) (hs0 : ofC ((L n).map (·.2)) m.fl.typ m.tid = (s, ok)) :
  Calls Tryz.prog 442 #[.pointer (some ⟨rb, 0, none⟩), .string ⟨n.toArray⟩, .agg (dgCs v m)] w (ToSaid w (if ok = false then (none, 11) else (some ⟨some s, hs, m⟩, 0))) := by
 obtain ⟨X, hX⟩ : ∃ X, X = (if ok = false then ((none, 11) : Option Ev × Int) else (some ⟨some s, hs, m⟩, 0)) := ⟨_, rfl⟩
 rw [← hX]
 have HX := Lib.hid hX
 clear hX
 obtain ⟨W0, hW0⟩ : ∃ W0, W0 = (w.alloc (.cells (dgCs v m) 119 (0, 0))).alloc (.cells evZ 43 (0, 0)) := ⟨_, rfl⟩
 have hB1 := below_al (Below.refl _ w) (.cells (dgCs v m) 119 (0, 0))
 have hB2 := below_al hB1 (.cells evZ 43 (0, 0))
 have OD := (Obj?.new w (dgCs v m) 119).alloc (.cells evZ 43 (0, 0))
 have OE := Obj?.new (w.alloc (.cells (dgCs v m) 119 (0, 0))) evZ 43
 rw [World.size_alloc] at OE
 rw [← hW0] at hB2 OD OE
 have HC := Lib.hid (fun W (hW : Below W0.heap.size W0 W) => wrapcheck_any (mp := 1048576) (md := 32) (hH.below (hB2.trans (hW.mono hB2.size))) hn hd (hmx.below (hB2.trans (hW.mono hB2.size)) hmx.1))
 have HO := Lib.hid (And.intro OD (And.intro OE hB2))
 have HH := Lib.hid (fun W (hW : Below W0.heap.size W0 W) => hH.below (hB2.trans (hW.mono hB2.size)))
 rw [← he0] at HC
 have HL := Lib.hid (show hs.length ≤ 1000 by omega)
 have dT : (m.ty != 12) = false := by rw [hty]; rfl
 have hm : ∀ W : World, (method 603 492 (.agg #[]) "polyglot/fromsn.name").run Tryz.prog W = .ok (465, (.agg #[])) W := fun W => by kernel_rfl
 have HV := Lib.hid (show ofV rb n m.fl.typ = .iface 492 (.agg #[]) by unfold ofV; rw [if_pos h2])
 have hs1 : nameOfF m.tid = (s, ok) := by rw [← hs0]; unfold ofC; rw [if_pos h2]
 have HNm0 := Lib.hid (fun (W : World) (hW : Below w.heap.size w W) => show Calls Tryz.prog 465 #[(.agg #[]), .int .i64 m.tid] W fun e w' => e = .returned (.tuple #[.string ⟨s.toArray⟩, .bool ok]) ∧ Below W.heap.size W w' from by
  have h := shortname_any m.tid W
  rw [hs1] at h
  exact h)
 clear hl hty h2 hs0 hs1
 have HSF := Lib.hid (show ∀ W, Below W0.heap.size W0 W → Below W0.heap.size W0 W ∧ (rowSem 119 ⟨w.heap.size, 0, none⟩).run Tryz.prog W = .ok (.agg (dgCs v m)) W from fun W hW => ⟨hW, load_dg (OD.below hW OD.lt)⟩)
 have hS0 := HSF.out W0 (Below.refl _ _)
 have hS1 := HSF.out W0.drew (below_grown (quiet_grown ⟨1, rfl⟩ none))
 clear hB1 hB2 OD OE hH hn hd hmx he0
 unfold evZ dgCs at hW0
 unfold dgCs at hS0 hS1 HSF HC ⊢
 go_enter Tryz.func442, Tryz.ntmps442
 go_upto_region 3 with fail
 rw [← hW0]
 clear hW0
 go_region_held3 (fun W => Below W0.heap.size W0 W ∧ (rowSem 119 ⟨w.heap.size, 0, none⟩).run Tryz.prog W = .ok (.agg #[v, .int .i64 m.ty, .bool m.fl.dup, .int .i64 m.fl.q, .bool m.fl.retain, .bool m.fl.will, .bool m.fl.clean, .int .i64 m.fl.typ, .int .i64 m.gw, .int .i64 m.rad, .int .i64 m.time, .bool m.timed, .int .i64 m.tid, .int .i64 m.mid, .int .i64 m.code, .string ⟨m.name.toArray⟩, .string ⟨m.data.toArray⟩]) W)
  ((first | assumption | exact HSF.out _ (below_thn (by assumption) (below_grown (quiet_grown ⟨1, rfl⟩ none)))))
  ((go_split_ands; first
   | (go_at_call 446; ((with_reducible refine (sngreatest_any _).mono ?_); (rintro e w11 ⟨rfl, hb⟩; have hS := HSF.out _ (below_thn (by assumption) hb))))
   | (go_at_call 396; ((with_reducible refine (HC.out _ (by assumption)).mono ?_); (rintro e w12 ⟨rfl, hb⟩; have hS := HSF.out _ (below_thn (by assumption) hb))))))
 have HB := Lib.hid hS.1
 clear hS
 have k0 := (HO.out.1.below HB.out HO.out.1.lt).cell 0 v rfl
 go_wp2_with fail
 refine (hopsclone_any (HH.out _ HB.out) HL.out).mono ?_
 rintro e w6 ⟨hv, rfl, hR, hb⟩
 obtain ⟨ac, cc, rfl⟩ := owns_shape (by decide) hR
 have HR := Lib.hid (And.intro hR hb)
 have hZ := hb.size
 have OE6 := (HO.out.2.1.below (below_thn HB.out hb) HO.out.2.1.lt).alloc (.cells (evB (.slice ac hs.length cc)) 43 (0, 0))
 have OD6 := (HO.out.1.below (below_thn HB.out hb) HO.out.1.lt).alloc (.cells (evB (.slice ac hs.length cc)) 43 (0, 0))
 have ON6 := Obj?.new w6 (evB (.slice ac hs.length cc)) 43
 have hst := store_newevx (w := w6) (old := evZ) (cs := evB (.slice ac hs.length cc)) rfl rfl (evB_one rfl)
 have kd := OD6.cells
 have hN : w.heap.size + 1 < w6.heap.size := Nat.lt_of_lt_of_le HO.out.2.1.lt (Nat.le_trans HB.out.size hb.size)
 obtain ⟨W10, hW10⟩ : ∃ W10, W10 = (w6.alloc (.cells (evB (.slice ac hs.length cc)) 43 (0, 0))).alloc (.cells #[.bool m.fl.dup, .int .i64 m.fl.q, .bool m.fl.retain, .bool m.fl.will, .bool m.fl.clean, .int .i64 m.fl.typ] 36 (0, 0)) := ⟨_, rfl⟩
 have hB10 := below_al (below_al (HO.out.2.2.trans ((below_thn HB.out hb).mono HO.out.2.2.size)) (.cells (evB (.slice ac hs.length cc)) 43 (0, 0))) (.cells #[.bool m.fl.dup, .int .i64 m.fl.q, .bool m.fl.retain, .bool m.fl.will, .bool m.fl.clean, .int .i64 m.fl.typ] 36 (0, 0))
 have hR10 := ((row_less hR (show w.heap.size ≤ w12.heap.size from Nat.le_trans HO.out.2.2.size HB.out.size)).alloc (.cells (evB (.slice ac hs.length cc)) 43 (0, 0))).alloc (.cells #[.bool m.fl.dup, .int .i64 m.fl.q, .bool m.fl.retain, .bool m.fl.will, .bool m.fl.clean, .int .i64 m.fl.typ] 36 (0, 0))
 have OE10 := OE6.alloc (.cells #[.bool m.fl.dup, .int .i64 m.fl.q, .bool m.fl.retain, .bool m.fl.will, .bool m.fl.clean, .int .i64 m.fl.typ] 36 (0, 0))
 have OD10 := OD6.alloc (.cells #[.bool m.fl.dup, .int .i64 m.fl.q, .bool m.fl.retain, .bool m.fl.will, .bool m.fl.clean, .int .i64 m.fl.typ] 36 (0, 0))
 have ON10 := ON6.alloc (.cells #[.bool m.fl.dup, .int .i64 m.fl.q, .bool m.fl.retain, .bool m.fl.will, .bool m.fl.clean, .int .i64 m.fl.typ] 36 (0, 0))
 have OF10 := Obj?.new (w6.alloc (.cells (evB (.slice ac hs.length cc)) 43 (0, 0))) #[.bool m.fl.dup, .int .i64 m.fl.q, .bool m.fl.retain, .bool m.fl.will, .bool m.fl.clean, .int .i64 m.fl.typ] 36
 rw [World.size_alloc] at OF10
 rw [← hW10] at OE10 OD10 ON10 OF10 hB10 hR10
 have hx : ∀ k, (Value.slice ac hs.length cc).ownBlock = some k → w.heap.size + 1 < k ∧ k < w6.heap.size := fun k e => ⟨by have := (hR.lt k e).1; have := HO.out.2.1.lt; have := HB.out.size; omega, (hR.lt k e).2⟩
 have H10 := Lib.hid (And.intro OE10 (And.intro ON10 (And.intro hB10 (And.intro hR10 (And.intro hx (And.intro OD10 OF10))))))
 have HNm := Lib.hid (fun (W : World) (hW : Below W10.heap.size W10 W) => HNm0.out W (hB10.trans (hW.mono hB10.size)))
 have HSG := Lib.hid (show ∀ W, Below W10.heap.size W10 W → Below W10.heap.size W10 W ∧ (∀ j, W.cell? ⟨w6.heap.size + 1, j, none⟩ = (#[.bool m.fl.dup, .int .i64 m.fl.q, .bool m.fl.retain, .bool m.fl.will, .bool m.fl.clean, .int .i64 m.fl.typ] : Array Value)[j]?) ∧ (∀ j, W.cell? ⟨w.heap.size, j, none⟩ = (#[v, .int .i64 m.ty, .bool m.fl.dup, .int .i64 m.fl.q, .bool m.fl.retain, .bool m.fl.will, .bool m.fl.clean, .int .i64 m.fl.typ, .int .i64 m.gw, .int .i64 m.rad, .int .i64 m.time, .bool m.timed, .int .i64 m.tid, .int .i64 m.mid, .int .i64 m.code, .string ⟨m.name.toArray⟩, .string ⟨m.data.toArray⟩] : Array Value)[j]?) from fun W hW => ⟨hW, (OF10.below hW OF10.lt).cells, (OD10.below hW OD10.lt).cells⟩)
 have hQ0 := HSG.out W10 (Below.refl _ _)
 have hQ1 := HSG.out W10.drew (below_grown (quiet_grown ⟨1, rfl⟩ none))
 clear OE10 hB10 hR10 OD10 ON10 OF10 hx hG
 clear ON6 OD6 OE6 hb hR
 unfold dgCs at kd
 unfold evZ at hst
 unfold evB at hst kd hW10
 go_upto_region 11 with fail
 rw [← hW10]
 clear hW10 kd hst k0
 go_region_held3 (fun W => Below W10.heap.size W10 W ∧ (∀ j, W.cell? ⟨w6.heap.size + 1, j, none⟩ = (#[.bool m.fl.dup, .int .i64 m.fl.q, .bool m.fl.retain, .bool m.fl.will, .bool m.fl.clean, .int .i64 m.fl.typ] : Array Value)[j]?) ∧ (∀ j, W.cell? ⟨w.heap.size, j, none⟩ = (#[v, .int .i64 m.ty, .bool m.fl.dup, .int .i64 m.fl.q, .bool m.fl.retain, .bool m.fl.will, .bool m.fl.clean, .int .i64 m.fl.typ, .int .i64 m.gw, .int .i64 m.rad, .int .i64 m.time, .bool m.timed, .int .i64 m.tid, .int .i64 m.mid, .int .i64 m.code, .string ⟨m.name.toArray⟩, .string ⟨m.data.toArray⟩] : Array Value)[j]?))
  ((first | assumption | exact HSG.out _ (below_thn (by assumption) (below_grown (quiet_grown ⟨1, rfl⟩ none)))))
  ((go_split_ands; first
   | (go_at_call 447; ((with_reducible refine (of3_any _ _ _ _).mono ?_); (rintro e w13 ⟨rfl, hb⟩; rw [HV.out]; have hS := HSG.out _ (below_thn (by assumption) hb))))
   | (go_at_call 465; ((with_reducible refine (HNm.out _ (by assumption)).mono ?_); (rintro e w14 ⟨rfl, hb⟩; have hS := HSG.out _ (below_thn (by assumption) hb))))))
 all_goals
  have HB4 := Lib.hid hS.1
  have kf := hS.2.1
  have kd := hS.2.2
  have ON := H10.out.2.1.below HB4.out H10.out.2.1.lt
  clear hS
  cases ok with
  | false =>
   obtain ⟨O1, O2⟩ := st_row (H10.out.1.below HB4.out H10.out.1.lt) rfl rfl evZ_one
   have HO2 := Lib.hid O2
   clear O2 kf kd ON
   unfold evZ at O1
   go_wp2_with fail
   refine bodyPost_ret (results_row_tmp rfl _ _ _ _ _ _ rfl HO2.out Tryz.underlying43 rfl infoEvX) rfl ?_
   have hX : X = (none, 11) := HX.out
   rw [hX]
   exact ⟨evZ, rfl, below_row (H10.out.2.2.1.trans (HB4.out.mono H10.out.2.2.1.size)) (by omega) _, .inl ⟨rfl, rfl⟩⟩
  | true =>
   have HX2 := Lib.hid (show X = (some ⟨some s, hs, m⟩, 0) from HX.out)
   have OE := H10.out.1.below HB4.out H10.out.1.lt
   have OD := H10.out.2.2.2.2.2.1.below HB4.out H10.out.2.2.2.2.2.1.lt
   have OF := H10.out.2.2.2.2.2.2.below HB4.out H10.out.2.2.2.2.2.2.lt
   have hR4 := row_kp (S := fun _ => False) H10.out.2.2.2.1 (.of_below HB4.out) (fun _ _ e => e)
   have hB4 := H10.out.2.2.1.trans (HB4.out.mono H10.out.2.2.1.size)
   have HJ := Lib.hid (And.intro ON (And.intro OE (And.intro OD (And.intro OF (And.intro hR4 hB4)))))
   have kn := ON.cells
   have fn := ON.froz
   unfold evB at kn
   clear ON OE OD OF hR4 hB4
   go_upto_region 14 with fail
   go_region
   obtain ⟨W15, hW15⟩ : ∃ W15, W15 = (((w14.setCell ⟨w6.heap.size, 1, none⟩ (.int .i64 1)).setCell ⟨w6.heap.size, 2, none⟩ (.string ⟨s.toArray⟩)).setCell ⟨w6.heap.size, 3, none⟩ (.string ⟨m.data.toArray⟩)).drew := ⟨_, rfl⟩
   rw [← hW15]
   have hg15 : w14.grownBy W15 (some w6.heap.size) := by
    rw [hW15]
    exact grown_drew (grown_set (grown_set (grown_set (World.grownBy.refl _ _) (p := ⟨w6.heap.size, 1, none⟩) rfl _) (p := ⟨w6.heap.size, 2, none⟩) rfl _) (p := ⟨w6.heap.size, 3, none⟩) rfl _)
   have N15 : Obj? W15 w6.heap.size (evX 3 1 s m.data 0 false false 0 0 (.slice ac hs.length cc) ms0) 43 := by rw [hW15]; exact ((HJ.out.1.set 1 _).set 2 _).set 3 _
   have E15 := HJ.out.2.1.kept hg15 (fun e => by have := Option.some.inj e; omega)
   have D15 := HJ.out.2.2.1.kept hg15 (fun e => by have := Option.some.inj e; omega)
   have F15 := HJ.out.2.2.2.1.kept hg15 (fun e => by have := Option.some.inj e; omega)
   have R15 := own_far HJ.out.2.2.2.2.1 hg15 (fun k e => by have := (H10.out.2.2.2.2.1 k e).2; omega)
   have B15 := HJ.out.2.2.2.2.2.grown hg15 HJ.out.2.2.2.2.2.size (fun k e => by have := Option.some.inj e; omega)
   have HK := Lib.hid (And.intro N15 (And.intro E15 (And.intro D15 (And.intro F15 (And.intro R15 B15)))))
   clear hW15 kn fn kd kf HJ hg15
   have kn := N15.cells
   have fn := N15.froz
   have kf := F15.cells
   unfold evX at kn
   clear N15 E15 D15 F15 R15 B15
   go_upto_region 15 with fail
   go_region
   obtain ⟨W16, hW16⟩ : ∃ W16, W16 = ((((W15.setCell ⟨w6.heap.size, 4, none⟩ (.int .i64 m.fl.q)).setCell ⟨w6.heap.size, 5, none⟩ (.bool m.fl.retain)).setCell ⟨w6.heap.size, 6, none⟩ (.bool m.fl.dup)).setCell ⟨w6.heap.size, 9, none⟩ (.int .i64 m.fl.typ)).drew := ⟨_, rfl⟩
   rw [← hW16]
   have hg16 : W15.grownBy W16 (some w6.heap.size) := by
    rw [hW16]
    exact grown_drew (grown_set (grown_set (grown_set (grown_set (World.grownBy.refl _ _) (p := ⟨w6.heap.size, 4, none⟩) rfl _) (p := ⟨w6.heap.size, 5, none⟩) rfl _) (p := ⟨w6.heap.size, 6, none⟩) rfl _) (p := ⟨w6.heap.size, 9, none⟩) rfl _)
   have N16 : Obj? W16 w6.heap.size (evX 3 1 s m.data m.fl.q m.fl.retain m.fl.dup 0 m.fl.typ (.slice ac hs.length cc) ms0) 43 := by rw [hW16]; exact (((HK.out.1.set 4 _).set 5 _).set 6 _).set 9 _
   have E16 := HK.out.2.1.kept hg16 (fun e => by have := Option.some.inj e; omega)
   have D16 := HK.out.2.2.1.kept hg16 (fun e => by have := Option.some.inj e; omega)
   have R16 := own_far HK.out.2.2.2.2.1 hg16 (fun k e => by have := (H10.out.2.2.2.2.1 k e).2; omega)
   have B16 := HK.out.2.2.2.2.2.grown hg16 HK.out.2.2.2.2.2.size (fun k e => by have := Option.some.inj e; omega)
   have hg17 : W16.grownBy (W16.setCell ⟨w6.heap.size, 7, none⟩ (.int .i64 m.mid)) (some w6.heap.size) := grown_set (World.grownBy.refl _ _) (p := ⟨w6.heap.size, 7, none⟩) rfl _
   have N17 : Obj? (W16.setCell ⟨w6.heap.size, 7, none⟩ (.int .i64 m.mid)) w6.heap.size (evX 3 1 s m.data m.fl.q m.fl.retain m.fl.dup m.mid m.fl.typ (.slice ac hs.length cc) ms0) 43 := N16.set 7 _
   have E17 := E16.kept hg17 (fun e => by have := Option.some.inj e; omega)
   have R17 := own_far R16 hg17 (fun k e => by have := (H10.out.2.2.2.2.1 k e).2; omega)
   have B17 := B16.grown hg17 B16.size (fun k e => by have := Option.some.inj e; omega)
   have L17 := load_evx N17 rfl
   obtain ⟨S17, O17⟩ := st_row E17 rfl rfl (evX_one 3 1 s m.data m.fl.q m.fl.retain m.fl.dup m.mid m.fl.typ ms0 (hv := (.slice ac hs.length cc)) rfl)
   have R18 := own_far R17 (setRow_grown _ (w.heap.size + 1) (evX 3 1 s m.data m.fl.q m.fl.retain m.fl.dup m.mid m.fl.typ (.slice ac hs.length cc) ms0)) (fun k e => by have := (H10.out.2.2.2.2.1 k e).1; omega)
   have B18 := below_row B17 (show w.heap.size ≤ w.heap.size + 1 by omega) (evX 3 1 s m.data m.fl.q m.fl.retain m.fl.dup m.mid m.fl.typ (.slice ac hs.length cc) ms0)
   have HF := Lib.hid (And.intro O17 (And.intro B18 R18))
   have k7 : W16.cell? ⟨w6.heap.size, 7, none⟩ = some (.int .i64 0) := N16.cell 7 _ rfl
   have f7 := N16.frozen 7
   have kd7 : W16.cell? ⟨w.heap.size, 13, none⟩ = some (.int .i64 m.mid) := D16.cell 13 _ rfl
   clear hW16 kn fn kf hg16 hg17 N16 E16 D16 R16 B16 N17 E17 R17 B17 O17 R18 B18
   go_wp2_with fail
   refine bodyPost_ret (results_row_tmp rfl _ _ _ _ _ _ rfl HF.out.1 Tryz.underlying43 rfl infoEvX) rfl ?_
   have hX : X = (some ⟨some s, hs, m⟩, 0) := HX.out
   rw [hX]
   exact ⟨_, rfl, HF.out.2.1, .inr ⟨⟨some s, hs, m⟩, (.slice ac hs.length cc), rfl, rfl, HF.out.2.2⟩⟩
theorem to_pub1 {w : World} {rb : Nat} {v : Value} {hs : List Hp} {m : Ms} (n : List UInt8) (hH : HopsAt w v hs) (hn : (m.name.length : Int) ≤ 100000) (hd : (m.data.length : Int) ≤ 100000) (hmx : Mx w) {O : Nat → Own} {L : List UInt8 → Option (Nat × Cl)} (hG : RegAt w rb O L) (he0 : 0 = (wrapB hs m 1048576 32).2) (hl : hs.length ≤ 4) (hty : m.ty = 12) (h2 : m.fl.typ ≠ 2 ∧ m.fl.typ = 1) (s : List UInt8) (ok : Bool) (hs0 : ofC ((L n).map (·.2)) m.fl.typ m.tid = (s, ok)) :
  Calls Tryz.prog 442 #[.pointer (some ⟨rb, 0, none⟩), .string ⟨n.toArray⟩, .agg (dgCs v m)] w (ToSaid w (if ok = false then (none, 11) else (some ⟨some s, hs, m⟩, 0))) := by
 obtain ⟨X, hX⟩ : ∃ X, X = (if ok = false then ((none, 11) : Option Ev × Int) else (some ⟨some s, hs, m⟩, 0)) := ⟨_, rfl⟩
 rw [← hX]
 have HX := Lib.hid hX
 clear hX
 obtain ⟨W0, hW0⟩ : ∃ W0, W0 = (w.alloc (.cells (dgCs v m) 119 (0, 0))).alloc (.cells evZ 43 (0, 0)) := ⟨_, rfl⟩
 have hB1 := below_al (Below.refl _ w) (.cells (dgCs v m) 119 (0, 0))
 have hB2 := below_al hB1 (.cells evZ 43 (0, 0))
 have OD := (Obj?.new w (dgCs v m) 119).alloc (.cells evZ 43 (0, 0))
 have OE := Obj?.new (w.alloc (.cells (dgCs v m) 119 (0, 0))) evZ 43
 rw [World.size_alloc] at OE
 rw [← hW0] at hB2 OD OE
 have HC := Lib.hid (fun W (hW : Below W0.heap.size W0 W) => wrapcheck_any (mp := 1048576) (md := 32) (hH.below (hB2.trans (hW.mono hB2.size))) hn hd (hmx.below (hB2.trans (hW.mono hB2.size)) hmx.1))
 have HO := Lib.hid (And.intro OD (And.intro OE hB2))
 have HH := Lib.hid (fun W (hW : Below W0.heap.size W0 W) => hH.below (hB2.trans (hW.mono hB2.size)))
 rw [← he0] at HC
 have HL := Lib.hid (show hs.length ≤ 1000 by omega)
 have dT : (m.ty != 12) = false := by rw [hty]; rfl
 have hm : ∀ W : World, (method 603 494 (.agg #[.pointer (some ⟨rb, 0, none⟩), .string ⟨n.toArray⟩]) "polyglot/fromsn.name").run Tryz.prog W = .ok (467, (.agg #[.pointer (some ⟨rb, 0, none⟩), .string ⟨n.toArray⟩])) W := fun W => by kernel_rfl
 have HV := Lib.hid (show ofV rb n m.fl.typ = .iface 494 (.agg #[.pointer (some ⟨rb, 0, none⟩), .string ⟨n.toArray⟩]) by unfold ofV; rw [if_neg h2.1, if_pos h2.2])
 have hs1 : resC ((L n).map (·.2)) m.tid true = (s, ok) := by rw [← hs0]; unfold ofC; rw [if_neg h2.1, if_pos h2.2]
 have HNm0 := Lib.hid (fun (W : World) (hW : Below w.heap.size w W) => show Calls Tryz.prog 467 #[(.agg #[.pointer (some ⟨rb, 0, none⟩), .string ⟨n.toArray⟩]), .int .i64 m.tid] W fun e w' => e = .returned (.tuple #[.string ⟨s.toArray⟩, .bool ok]) ∧ Below W.heap.size W w' from by
  have h := fixedname_any (hG.below hW) n m.tid
  rw [hs1] at h
  exact h)
 clear hl hty h2 hs0 hs1
 have HSF := Lib.hid (show ∀ W, Below W0.heap.size W0 W → Below W0.heap.size W0 W ∧ (rowSem 119 ⟨w.heap.size, 0, none⟩).run Tryz.prog W = .ok (.agg (dgCs v m)) W from fun W hW => ⟨hW, load_dg (OD.below hW OD.lt)⟩)
 have hS0 := HSF.out W0 (Below.refl _ _)
 have hS1 := HSF.out W0.drew (below_grown (quiet_grown ⟨1, rfl⟩ none))
 clear hB1 hB2 OD OE hH hn hd hmx he0
 unfold evZ dgCs at hW0
 unfold dgCs at hS0 hS1 HSF HC ⊢
 go_enter Tryz.func442, Tryz.ntmps442
 go_upto_region 3 with fail
 rw [← hW0]
 clear hW0
 go_region_held3 (fun W => Below W0.heap.size W0 W ∧ (rowSem 119 ⟨w.heap.size, 0, none⟩).run Tryz.prog W = .ok (.agg #[v, .int .i64 m.ty, .bool m.fl.dup, .int .i64 m.fl.q, .bool m.fl.retain, .bool m.fl.will, .bool m.fl.clean, .int .i64 m.fl.typ, .int .i64 m.gw, .int .i64 m.rad, .int .i64 m.time, .bool m.timed, .int .i64 m.tid, .int .i64 m.mid, .int .i64 m.code, .string ⟨m.name.toArray⟩, .string ⟨m.data.toArray⟩]) W)
  ((first | assumption | exact HSF.out _ (below_thn (by assumption) (below_grown (quiet_grown ⟨1, rfl⟩ none)))))
  ((go_split_ands; first
   | (go_at_call 446; ((with_reducible refine (sngreatest_any _).mono ?_); (rintro e w11 ⟨rfl, hb⟩; have hS := HSF.out _ (below_thn (by assumption) hb))))
   | (go_at_call 396; ((with_reducible refine (HC.out _ (by assumption)).mono ?_); (rintro e w12 ⟨rfl, hb⟩; have hS := HSF.out _ (below_thn (by assumption) hb))))))
 have HB := Lib.hid hS.1
 clear hS
 have k0 := (HO.out.1.below HB.out HO.out.1.lt).cell 0 v rfl
 go_wp2_with fail
 refine (hopsclone_any (HH.out _ HB.out) HL.out).mono ?_
 rintro e w6 ⟨hv, rfl, hR, hb⟩
 obtain ⟨ac, cc, rfl⟩ := owns_shape (by decide) hR
 have HR := Lib.hid (And.intro hR hb)
 have hZ := hb.size
 have OE6 := (HO.out.2.1.below (below_thn HB.out hb) HO.out.2.1.lt).alloc (.cells (evB (.slice ac hs.length cc)) 43 (0, 0))
 have OD6 := (HO.out.1.below (below_thn HB.out hb) HO.out.1.lt).alloc (.cells (evB (.slice ac hs.length cc)) 43 (0, 0))
 have ON6 := Obj?.new w6 (evB (.slice ac hs.length cc)) 43
 have hst := store_newevx (w := w6) (old := evZ) (cs := evB (.slice ac hs.length cc)) rfl rfl (evB_one rfl)
 have kd := OD6.cells
 have hN : w.heap.size + 1 < w6.heap.size := Nat.lt_of_lt_of_le HO.out.2.1.lt (Nat.le_trans HB.out.size hb.size)
 obtain ⟨W10, hW10⟩ : ∃ W10, W10 = (w6.alloc (.cells (evB (.slice ac hs.length cc)) 43 (0, 0))).alloc (.cells #[.bool m.fl.dup, .int .i64 m.fl.q, .bool m.fl.retain, .bool m.fl.will, .bool m.fl.clean, .int .i64 m.fl.typ] 36 (0, 0)) := ⟨_, rfl⟩
 have hB10 := below_al (below_al (HO.out.2.2.trans ((below_thn HB.out hb).mono HO.out.2.2.size)) (.cells (evB (.slice ac hs.length cc)) 43 (0, 0))) (.cells #[.bool m.fl.dup, .int .i64 m.fl.q, .bool m.fl.retain, .bool m.fl.will, .bool m.fl.clean, .int .i64 m.fl.typ] 36 (0, 0))
 have hR10 := ((row_less hR (show w.heap.size ≤ w12.heap.size from Nat.le_trans HO.out.2.2.size HB.out.size)).alloc (.cells (evB (.slice ac hs.length cc)) 43 (0, 0))).alloc (.cells #[.bool m.fl.dup, .int .i64 m.fl.q, .bool m.fl.retain, .bool m.fl.will, .bool m.fl.clean, .int .i64 m.fl.typ] 36 (0, 0))
 have OE10 := OE6.alloc (.cells #[.bool m.fl.dup, .int .i64 m.fl.q, .bool m.fl.retain, .bool m.fl.will, .bool m.fl.clean, .int .i64 m.fl.typ] 36 (0, 0))
 have OD10 := OD6.alloc (.cells #[.bool m.fl.dup, .int .i64 m.fl.q, .bool m.fl.retain, .bool m.fl.will, .bool m.fl.clean, .int .i64 m.fl.typ] 36 (0, 0))
 have ON10 := ON6.alloc (.cells #[.bool m.fl.dup, .int .i64 m.fl.q, .bool m.fl.retain, .bool m.fl.will, .bool m.fl.clean, .int .i64 m.fl.typ] 36 (0, 0))
 have OF10 := Obj?.new (w6.alloc (.cells (evB (.slice ac hs.length cc)) 43 (0, 0))) #[.bool m.fl.dup, .int .i64 m.fl.q, .bool m.fl.retain, .bool m.fl.will, .bool m.fl.clean, .int .i64 m.fl.typ] 36
 rw [World.size_alloc] at OF10
 rw [← hW10] at OE10 OD10 ON10 OF10 hB10 hR10
 have hx : ∀ k, (Value.slice ac hs.length cc).ownBlock = some k → w.heap.size + 1 < k ∧ k < w6.heap.size := fun k e => ⟨by have := (hR.lt k e).1; have := HO.out.2.1.lt; have := HB.out.size; omega, (hR.lt k e).2⟩
 have H10 := Lib.hid (And.intro OE10 (And.intro ON10 (And.intro hB10 (And.intro hR10 (And.intro hx (And.intro OD10 OF10))))))
 have HNm := Lib.hid (fun (W : World) (hW : Below W10.heap.size W10 W) => HNm0.out W (hB10.trans (hW.mono hB10.size)))
 have HSG := Lib.hid (show ∀ W, Below W10.heap.size W10 W → Below W10.heap.size W10 W ∧ (∀ j, W.cell? ⟨w6.heap.size + 1, j, none⟩ = (#[.bool m.fl.dup, .int .i64 m.fl.q, .bool m.fl.retain, .bool m.fl.will, .bool m.fl.clean, .int .i64 m.fl.typ] : Array Value)[j]?) ∧ (∀ j, W.cell? ⟨w.heap.size, j, none⟩ = (#[v, .int .i64 m.ty, .bool m.fl.dup, .int .i64 m.fl.q, .bool m.fl.retain, .bool m.fl.will, .bool m.fl.clean, .int .i64 m.fl.typ, .int .i64 m.gw, .int .i64 m.rad, .int .i64 m.time, .bool m.timed, .int .i64 m.tid, .int .i64 m.mid, .int .i64 m.code, .string ⟨m.name.toArray⟩, .string ⟨m.data.toArray⟩] : Array Value)[j]?) from fun W hW => ⟨hW, (OF10.below hW OF10.lt).cells, (OD10.below hW OD10.lt).cells⟩)
 have hQ0 := HSG.out W10 (Below.refl _ _)
 have hQ1 := HSG.out W10.drew (below_grown (quiet_grown ⟨1, rfl⟩ none))
 clear OE10 hB10 hR10 OD10 ON10 OF10 hx hG
 clear ON6 OD6 OE6 hb hR
 unfold dgCs at kd
 unfold evZ at hst
 unfold evB at hst kd hW10
 go_upto_region 11 with fail
 rw [← hW10]
 clear hW10 kd hst k0
 go_region_held3 (fun W => Below W10.heap.size W10 W ∧ (∀ j, W.cell? ⟨w6.heap.size + 1, j, none⟩ = (#[.bool m.fl.dup, .int .i64 m.fl.q, .bool m.fl.retain, .bool m.fl.will, .bool m.fl.clean, .int .i64 m.fl.typ] : Array Value)[j]?) ∧ (∀ j, W.cell? ⟨w.heap.size, j, none⟩ = (#[v, .int .i64 m.ty, .bool m.fl.dup, .int .i64 m.fl.q, .bool m.fl.retain, .bool m.fl.will, .bool m.fl.clean, .int .i64 m.fl.typ, .int .i64 m.gw, .int .i64 m.rad, .int .i64 m.time, .bool m.timed, .int .i64 m.tid, .int .i64 m.mid, .int .i64 m.code, .string ⟨m.name.toArray⟩, .string ⟨m.data.toArray⟩] : Array Value)[j]?))
  ((first | assumption | exact HSG.out _ (below_thn (by assumption) (below_grown (quiet_grown ⟨1, rfl⟩ none)))))
  ((go_split_ands; first
   | (go_at_call 447; ((with_reducible refine (of3_any _ _ _ _).mono ?_); (rintro e w13 ⟨rfl, hb⟩; rw [HV.out]; have hS := HSG.out _ (below_thn (by assumption) hb))))
   | (go_at_call 467; ((with_reducible refine (HNm.out _ (by assumption)).mono ?_); (rintro e w14 ⟨rfl, hb⟩; have hS := HSG.out _ (below_thn (by assumption) hb))))))
 all_goals
  have HB4 := Lib.hid hS.1
  have kf := hS.2.1
  have kd := hS.2.2
  have ON := H10.out.2.1.below HB4.out H10.out.2.1.lt
  clear hS
  cases ok with
  | false =>
   obtain ⟨O1, O2⟩ := st_row (H10.out.1.below HB4.out H10.out.1.lt) rfl rfl evZ_one
   have HO2 := Lib.hid O2
   clear O2 kf kd ON
   unfold evZ at O1
   go_wp2_with fail
   refine bodyPost_ret (results_row_tmp rfl _ _ _ _ _ _ rfl HO2.out Tryz.underlying43 rfl infoEvX) rfl ?_
   have hX : X = (none, 11) := HX.out
   rw [hX]
   exact ⟨evZ, rfl, below_row (H10.out.2.2.1.trans (HB4.out.mono H10.out.2.2.1.size)) (by omega) _, .inl ⟨rfl, rfl⟩⟩
  | true =>
   have HX2 := Lib.hid (show X = (some ⟨some s, hs, m⟩, 0) from HX.out)
   have OE := H10.out.1.below HB4.out H10.out.1.lt
   have OD := H10.out.2.2.2.2.2.1.below HB4.out H10.out.2.2.2.2.2.1.lt
   have OF := H10.out.2.2.2.2.2.2.below HB4.out H10.out.2.2.2.2.2.2.lt
   have hR4 := row_kp (S := fun _ => False) H10.out.2.2.2.1 (.of_below HB4.out) (fun _ _ e => e)
   have hB4 := H10.out.2.2.1.trans (HB4.out.mono H10.out.2.2.1.size)
   have HJ := Lib.hid (And.intro ON (And.intro OE (And.intro OD (And.intro OF (And.intro hR4 hB4)))))
   have kn := ON.cells
   have fn := ON.froz
   unfold evB at kn
   clear ON OE OD OF hR4 hB4
   go_upto_region 14 with fail
   go_region
   obtain ⟨W15, hW15⟩ : ∃ W15, W15 = (((w14.setCell ⟨w6.heap.size, 1, none⟩ (.int .i64 1)).setCell ⟨w6.heap.size, 2, none⟩ (.string ⟨s.toArray⟩)).setCell ⟨w6.heap.size, 3, none⟩ (.string ⟨m.data.toArray⟩)).drew := ⟨_, rfl⟩
   rw [← hW15]
   have hg15 : w14.grownBy W15 (some w6.heap.size) := by
    rw [hW15]
    exact grown_drew (grown_set (grown_set (grown_set (World.grownBy.refl _ _) (p := ⟨w6.heap.size, 1, none⟩) rfl _) (p := ⟨w6.heap.size, 2, none⟩) rfl _) (p := ⟨w6.heap.size, 3, none⟩) rfl _)
   have N15 : Obj? W15 w6.heap.size (evX 3 1 s m.data 0 false false 0 0 (.slice ac hs.length cc) ms0) 43 := by rw [hW15]; exact ((HJ.out.1.set 1 _).set 2 _).set 3 _
   have E15 := HJ.out.2.1.kept hg15 (fun e => by have := Option.some.inj e; omega)
   have D15 := HJ.out.2.2.1.kept hg15 (fun e => by have := Option.some.inj e; omega)
   have F15 := HJ.out.2.2.2.1.kept hg15 (fun e => by have := Option.some.inj e; omega)
   have R15 := own_far HJ.out.2.2.2.2.1 hg15 (fun k e => by have := (H10.out.2.2.2.2.1 k e).2; omega)
   have B15 := HJ.out.2.2.2.2.2.grown hg15 HJ.out.2.2.2.2.2.size (fun k e => by have := Option.some.inj e; omega)
   have HK := Lib.hid (And.intro N15 (And.intro E15 (And.intro D15 (And.intro F15 (And.intro R15 B15)))))
   clear hW15 kn fn kd kf HJ hg15
   have kn := N15.cells
   have fn := N15.froz
   have kf := F15.cells
   unfold evX at kn
   clear N15 E15 D15 F15 R15 B15
   go_upto_region 15 with fail
   go_region
   obtain ⟨W16, hW16⟩ : ∃ W16, W16 = ((((W15.setCell ⟨w6.heap.size, 4, none⟩ (.int .i64 m.fl.q)).setCell ⟨w6.heap.size, 5, none⟩ (.bool m.fl.retain)).setCell ⟨w6.heap.size, 6, none⟩ (.bool m.fl.dup)).setCell ⟨w6.heap.size, 9, none⟩ (.int .i64 m.fl.typ)).drew := ⟨_, rfl⟩
   rw [← hW16]
   have hg16 : W15.grownBy W16 (some w6.heap.size) := by
    rw [hW16]
    exact grown_drew (grown_set (grown_set (grown_set (grown_set (World.grownBy.refl _ _) (p := ⟨w6.heap.size, 4, none⟩) rfl _) (p := ⟨w6.heap.size, 5, none⟩) rfl _) (p := ⟨w6.heap.size, 6, none⟩) rfl _) (p := ⟨w6.heap.size, 9, none⟩) rfl _)
   have N16 : Obj? W16 w6.heap.size (evX 3 1 s m.data m.fl.q m.fl.retain m.fl.dup 0 m.fl.typ (.slice ac hs.length cc) ms0) 43 := by rw [hW16]; exact (((HK.out.1.set 4 _).set 5 _).set 6 _).set 9 _
   have E16 := HK.out.2.1.kept hg16 (fun e => by have := Option.some.inj e; omega)
   have D16 := HK.out.2.2.1.kept hg16 (fun e => by have := Option.some.inj e; omega)
   have R16 := own_far HK.out.2.2.2.2.1 hg16 (fun k e => by have := (H10.out.2.2.2.2.1 k e).2; omega)
   have B16 := HK.out.2.2.2.2.2.grown hg16 HK.out.2.2.2.2.2.size (fun k e => by have := Option.some.inj e; omega)
   have hg17 : W16.grownBy (W16.setCell ⟨w6.heap.size, 7, none⟩ (.int .i64 m.mid)) (some w6.heap.size) := grown_set (World.grownBy.refl _ _) (p := ⟨w6.heap.size, 7, none⟩) rfl _
   have N17 : Obj? (W16.setCell ⟨w6.heap.size, 7, none⟩ (.int .i64 m.mid)) w6.heap.size (evX 3 1 s m.data m.fl.q m.fl.retain m.fl.dup m.mid m.fl.typ (.slice ac hs.length cc) ms0) 43 := N16.set 7 _
   have E17 := E16.kept hg17 (fun e => by have := Option.some.inj e; omega)
   have R17 := own_far R16 hg17 (fun k e => by have := (H10.out.2.2.2.2.1 k e).2; omega)
   have B17 := B16.grown hg17 B16.size (fun k e => by have := Option.some.inj e; omega)
   have L17 := load_evx N17 rfl
   obtain ⟨S17, O17⟩ := st_row E17 rfl rfl (evX_one 3 1 s m.data m.fl.q m.fl.retain m.fl.dup m.mid m.fl.typ ms0 (hv := (.slice ac hs.length cc)) rfl)
   have R18 := own_far R17 (setRow_grown _ (w.heap.size + 1) (evX 3 1 s m.data m.fl.q m.fl.retain m.fl.dup m.mid m.fl.typ (.slice ac hs.length cc) ms0)) (fun k e => by have := (H10.out.2.2.2.2.1 k e).1; omega)
   have B18 := below_row B17 (show w.heap.size ≤ w.heap.size + 1 by omega) (evX 3 1 s m.data m.fl.q m.fl.retain m.fl.dup m.mid m.fl.typ (.slice ac hs.length cc) ms0)
   have HF := Lib.hid (And.intro O17 (And.intro B18 R18))
   have k7 : W16.cell? ⟨w6.heap.size, 7, none⟩ = some (.int .i64 0) := N16.cell 7 _ rfl
   have f7 := N16.frozen 7
   have kd7 : W16.cell? ⟨w.heap.size, 13, none⟩ = some (.int .i64 m.mid) := D16.cell 13 _ rfl
   clear hW16 kn fn kf hg16 hg17 N16 E16 D16 R16 B16 N17 E17 R17 B17 O17 R18 B18
   go_wp2_with fail
   refine bodyPost_ret (results_row_tmp rfl _ _ _ _ _ _ rfl HF.out.1 Tryz.underlying43 rfl infoEvX) rfl ?_
   have hX : X = (some ⟨some s, hs, m⟩, 0) := HX.out
   rw [hX]
   exact ⟨_, rfl, HF.out.2.1, .inr ⟨⟨some s, hs, m⟩, (.slice ac hs.length cc), rfl, rfl, HF.out.2.2⟩⟩
theorem to_pub0 {w : World} {rb : Nat} {v : Value} {hs : List Hp} {m : Ms} (n : List UInt8) (hH : HopsAt w v hs) (hn : (m.name.length : Int) ≤ 100000) (hd : (m.data.length : Int) ≤ 100000) (hmx : Mx w) {O : Nat → Own} {L : List UInt8 → Option (Nat × Cl)} (hG : RegAt w rb O L) (he0 : 0 = (wrapB hs m 1048576 32).2) (hl : hs.length ≤ 4) (hty : m.ty = 12) (h2 : m.fl.typ ≠ 2 ∧ m.fl.typ ≠ 1) (s : List UInt8) (ok : Bool) (hs0 : ofC ((L n).map (·.2)) m.fl.typ m.tid = (s, ok)) :
  Calls Tryz.prog 442 #[.pointer (some ⟨rb, 0, none⟩), .string ⟨n.toArray⟩, .agg (dgCs v m)] w (ToSaid w (if ok = false then (none, 11) else (some ⟨some s, hs, m⟩, 0))) := by
 obtain ⟨X, hX⟩ : ∃ X, X = (if ok = false then ((none, 11) : Option Ev × Int) else (some ⟨some s, hs, m⟩, 0)) := ⟨_, rfl⟩
 rw [← hX]
 have HX := Lib.hid hX
 clear hX
 obtain ⟨W0, hW0⟩ : ∃ W0, W0 = (w.alloc (.cells (dgCs v m) 119 (0, 0))).alloc (.cells evZ 43 (0, 0)) := ⟨_, rfl⟩
 have hB1 := below_al (Below.refl _ w) (.cells (dgCs v m) 119 (0, 0))
 have hB2 := below_al hB1 (.cells evZ 43 (0, 0))
 have OD := (Obj?.new w (dgCs v m) 119).alloc (.cells evZ 43 (0, 0))
 have OE := Obj?.new (w.alloc (.cells (dgCs v m) 119 (0, 0))) evZ 43
 rw [World.size_alloc] at OE
 rw [← hW0] at hB2 OD OE
 have HC := Lib.hid (fun W (hW : Below W0.heap.size W0 W) => wrapcheck_any (mp := 1048576) (md := 32) (hH.below (hB2.trans (hW.mono hB2.size))) hn hd (hmx.below (hB2.trans (hW.mono hB2.size)) hmx.1))
 have HO := Lib.hid (And.intro OD (And.intro OE hB2))
 have HH := Lib.hid (fun W (hW : Below W0.heap.size W0 W) => hH.below (hB2.trans (hW.mono hB2.size)))
 rw [← he0] at HC
 have HL := Lib.hid (show hs.length ≤ 1000 by omega)
 have dT : (m.ty != 12) = false := by rw [hty]; rfl
 have hm : ∀ W : World, (method 603 495 (.agg #[.pointer (some ⟨rb, 0, none⟩), .string ⟨n.toArray⟩]) "polyglot/fromsn.name").run Tryz.prog W = .ok (472, (.agg #[.pointer (some ⟨rb, 0, none⟩), .string ⟨n.toArray⟩])) W := fun W => by kernel_rfl
 have HV := Lib.hid (show ofV rb n m.fl.typ = .iface 495 (.agg #[.pointer (some ⟨rb, 0, none⟩), .string ⟨n.toArray⟩]) by unfold ofV; rw [if_neg h2.1, if_neg h2.2])
 have hs1 : resC ((L n).map (·.2)) m.tid false = (s, ok) := by rw [← hs0]; unfold ofC; rw [if_neg h2.1, if_neg h2.2]
 have HNm0 := Lib.hid (fun (W : World) (hW : Below w.heap.size w W) => show Calls Tryz.prog 472 #[(.agg #[.pointer (some ⟨rb, 0, none⟩), .string ⟨n.toArray⟩]), .int .i64 m.tid] W fun e w' => e = .returned (.tuple #[.string ⟨s.toArray⟩, .bool ok]) ∧ Below W.heap.size W w' from by
  have h := normalname_any (hG.below hW) n m.tid
  rw [hs1] at h
  exact h)
 clear hl hty h2 hs0 hs1
 have HSF := Lib.hid (show ∀ W, Below W0.heap.size W0 W → Below W0.heap.size W0 W ∧ (rowSem 119 ⟨w.heap.size, 0, none⟩).run Tryz.prog W = .ok (.agg (dgCs v m)) W from fun W hW => ⟨hW, load_dg (OD.below hW OD.lt)⟩)
 have hS0 := HSF.out W0 (Below.refl _ _)
 have hS1 := HSF.out W0.drew (below_grown (quiet_grown ⟨1, rfl⟩ none))
 clear hB1 hB2 OD OE hH hn hd hmx he0
 unfold evZ dgCs at hW0
 unfold dgCs at hS0 hS1 HSF HC ⊢
 go_enter Tryz.func442, Tryz.ntmps442
 go_upto_region 3 with fail
 rw [← hW0]
 clear hW0
 go_region_held3 (fun W => Below W0.heap.size W0 W ∧ (rowSem 119 ⟨w.heap.size, 0, none⟩).run Tryz.prog W = .ok (.agg #[v, .int .i64 m.ty, .bool m.fl.dup, .int .i64 m.fl.q, .bool m.fl.retain, .bool m.fl.will, .bool m.fl.clean, .int .i64 m.fl.typ, .int .i64 m.gw, .int .i64 m.rad, .int .i64 m.time, .bool m.timed, .int .i64 m.tid, .int .i64 m.mid, .int .i64 m.code, .string ⟨m.name.toArray⟩, .string ⟨m.data.toArray⟩]) W)
  ((first | assumption | exact HSF.out _ (below_thn (by assumption) (below_grown (quiet_grown ⟨1, rfl⟩ none)))))
  ((go_split_ands; first
   | (go_at_call 446; ((with_reducible refine (sngreatest_any _).mono ?_); (rintro e w11 ⟨rfl, hb⟩; have hS := HSF.out _ (below_thn (by assumption) hb))))
   | (go_at_call 396; ((with_reducible refine (HC.out _ (by assumption)).mono ?_); (rintro e w12 ⟨rfl, hb⟩; have hS := HSF.out _ (below_thn (by assumption) hb))))))
 have HB := Lib.hid hS.1
 clear hS
 have k0 := (HO.out.1.below HB.out HO.out.1.lt).cell 0 v rfl
 go_wp2_with fail
 refine (hopsclone_any (HH.out _ HB.out) HL.out).mono ?_
 rintro e w6 ⟨hv, rfl, hR, hb⟩
 obtain ⟨ac, cc, rfl⟩ := owns_shape (by decide) hR
 have HR := Lib.hid (And.intro hR hb)
 have hZ := hb.size
 have OE6 := (HO.out.2.1.below (below_thn HB.out hb) HO.out.2.1.lt).alloc (.cells (evB (.slice ac hs.length cc)) 43 (0, 0))
 have OD6 := (HO.out.1.below (below_thn HB.out hb) HO.out.1.lt).alloc (.cells (evB (.slice ac hs.length cc)) 43 (0, 0))
 have ON6 := Obj?.new w6 (evB (.slice ac hs.length cc)) 43
 have hst := store_newevx (w := w6) (old := evZ) (cs := evB (.slice ac hs.length cc)) rfl rfl (evB_one rfl)
 have kd := OD6.cells
 have hN : w.heap.size + 1 < w6.heap.size := Nat.lt_of_lt_of_le HO.out.2.1.lt (Nat.le_trans HB.out.size hb.size)
 obtain ⟨W10, hW10⟩ : ∃ W10, W10 = (w6.alloc (.cells (evB (.slice ac hs.length cc)) 43 (0, 0))).alloc (.cells #[.bool m.fl.dup, .int .i64 m.fl.q, .bool m.fl.retain, .bool m.fl.will, .bool m.fl.clean, .int .i64 m.fl.typ] 36 (0, 0)) := ⟨_, rfl⟩
 have hB10 := below_al (below_al (HO.out.2.2.trans ((below_thn HB.out hb).mono HO.out.2.2.size)) (.cells (evB (.slice ac hs.length cc)) 43 (0, 0))) (.cells #[.bool m.fl.dup, .int .i64 m.fl.q, .bool m.fl.retain, .bool m.fl.will, .bool m.fl.clean, .int .i64 m.fl.typ] 36 (0, 0))
 have hR10 := ((row_less hR (show w.heap.size ≤ w12.heap.size from Nat.le_trans HO.out.2.2.size HB.out.size)).alloc (.cells (evB (.slice ac hs.length cc)) 43 (0, 0))).alloc (.cells #[.bool m.fl.dup, .int .i64 m.fl.q, .bool m.fl.retain, .bool m.fl.will, .bool m.fl.clean, .int .i64 m.fl.typ] 36 (0, 0))
 have OE10 := OE6.alloc (.cells #[.bool m.fl.dup, .int .i64 m.fl.q, .bool m.fl.retain, .bool m.fl.will, .bool m.fl.clean, .int .i64 m.fl.typ] 36 (0, 0))
 have OD10 := OD6.alloc (.cells #[.bool m.fl.dup, .int .i64 m.fl.q, .bool m.fl.retain, .bool m.fl.will, .bool m.fl.clean, .int .i64 m.fl.typ] 36 (0, 0))
 have ON10 := ON6.alloc (.cells #[.bool m.fl.dup, .int .i64 m.fl.q, .bool m.fl.retain, .bool m.fl.will, .bool m.fl.clean, .int .i64 m.fl.typ] 36 (0, 0))
 have OF10 := Obj?.new (w6.alloc (.cells (evB (.slice ac hs.length cc)) 43 (0, 0))) #[.bool m.fl.dup, .int .i64 m.fl.q, .bool m.fl.retain, .bool m.fl.will, .bool m.fl.clean, .int .i64 m.fl.typ] 36
 rw [World.size_alloc] at OF10
 rw [← hW10] at OE10 OD10 ON10 OF10 hB10 hR10
 have hx : ∀ k, (Value.slice ac hs.length cc).ownBlock = some k → w.heap.size + 1 < k ∧ k < w6.heap.size := fun k e => ⟨by have := (hR.lt k e).1; have := HO.out.2.1.lt; have := HB.out.size; omega, (hR.lt k e).2⟩
 have H10 := Lib.hid (And.intro OE10 (And.intro ON10 (And.intro hB10 (And.intro hR10 (And.intro hx (And.intro OD10 OF10))))))
 have HNm := Lib.hid (fun (W : World) (hW : Below W10.heap.size W10 W) => HNm0.out W (hB10.trans (hW.mono hB10.size)))
 have HSG := Lib.hid (show ∀ W, Below W10.heap.size W10 W → Below W10.heap.size W10 W ∧ (∀ j, W.cell? ⟨w6.heap.size + 1, j, none⟩ = (#[.bool m.fl.dup, .int .i64 m.fl.q, .bool m.fl.retain, .bool m.fl.will, .bool m.fl.clean, .int .i64 m.fl.typ] : Array Value)[j]?) ∧ (∀ j, W.cell? ⟨w.heap.size, j, none⟩ = (#[v, .int .i64 m.ty, .bool m.fl.dup, .int .i64 m.fl.q, .bool m.fl.retain, .bool m.fl.will, .bool m.fl.clean, .int .i64 m.fl.typ, .int .i64 m.gw, .int .i64 m.rad, .int .i64 m.time, .bool m.timed, .int .i64 m.tid, .int .i64 m.mid, .int .i64 m.code, .string ⟨m.name.toArray⟩, .string ⟨m.data.toArray⟩] : Array Value)[j]?) from fun W hW => ⟨hW, (OF10.below hW OF10.lt).cells, (OD10.below hW OD10.lt).cells⟩)
 have hQ0 := HSG.out W10 (Below.refl _ _)
 have hQ1 := HSG.out W10.drew (below_grown (quiet_grown ⟨1, rfl⟩ none))
 clear OE10 hB10 hR10 OD10 ON10 OF10 hx hG
 clear ON6 OD6 OE6 hb hR
 unfold dgCs at kd
 unfold evZ at hst
 unfold evB at hst kd hW10
 go_upto_region 11 with fail
 rw [← hW10]
 clear hW10 kd hst k0
 go_region_held3 (fun W => Below W10.heap.size W10 W ∧ (∀ j, W.cell? ⟨w6.heap.size + 1, j, none⟩ = (#[.bool m.fl.dup, .int .i64 m.fl.q, .bool m.fl.retain, .bool m.fl.will, .bool m.fl.clean, .int .i64 m.fl.typ] : Array Value)[j]?) ∧ (∀ j, W.cell? ⟨w.heap.size, j, none⟩ = (#[v, .int .i64 m.ty, .bool m.fl.dup, .int .i64 m.fl.q, .bool m.fl.retain, .bool m.fl.will, .bool m.fl.clean, .int .i64 m.fl.typ, .int .i64 m.gw, .int .i64 m.rad, .int .i64 m.time, .bool m.timed, .int .i64 m.tid, .int .i64 m.mid, .int .i64 m.code, .string ⟨m.name.toArray⟩, .string ⟨m.data.toArray⟩] : Array Value)[j]?))
  ((first | assumption | exact HSG.out _ (below_thn (by assumption) (below_grown (quiet_grown ⟨1, rfl⟩ none)))))
  ((go_split_ands; first
   | (go_at_call 447; ((with_reducible refine (of3_any _ _ _ _).mono ?_); (rintro e w13 ⟨rfl, hb⟩; rw [HV.out]; have hS := HSG.out _ (below_thn (by assumption) hb))))
   | (go_at_call 472; ((with_reducible refine (HNm.out _ (by assumption)).mono ?_); (rintro e w14 ⟨rfl, hb⟩; have hS := HSG.out _ (below_thn (by assumption) hb))))))
 all_goals
  have HB4 := Lib.hid hS.1
  have kf := hS.2.1
  have kd := hS.2.2
  have ON := H10.out.2.1.below HB4.out H10.out.2.1.lt
  clear hS
  cases ok with
  | false =>
   obtain ⟨O1, O2⟩ := st_row (H10.out.1.below HB4.out H10.out.1.lt) rfl rfl evZ_one
   have HO2 := Lib.hid O2
   clear O2 kf kd ON
   unfold evZ at O1
   go_wp2_with fail
   refine bodyPost_ret (results_row_tmp rfl _ _ _ _ _ _ rfl HO2.out Tryz.underlying43 rfl infoEvX) rfl ?_
   have hX : X = (none, 11) := HX.out
   rw [hX]
   exact ⟨evZ, rfl, below_row (H10.out.2.2.1.trans (HB4.out.mono H10.out.2.2.1.size)) (by omega) _, .inl ⟨rfl, rfl⟩⟩
  | true =>
   have HX2 := Lib.hid (show X = (some ⟨some s, hs, m⟩, 0) from HX.out)
   have OE := H10.out.1.below HB4.out H10.out.1.lt
   have OD := H10.out.2.2.2.2.2.1.below HB4.out H10.out.2.2.2.2.2.1.lt
   have OF := H10.out.2.2.2.2.2.2.below HB4.out H10.out.2.2.2.2.2.2.lt
   have hR4 := row_kp (S := fun _ => False) H10.out.2.2.2.1 (.of_below HB4.out) (fun _ _ e => e)
   have hB4 := H10.out.2.2.1.trans (HB4.out.mono H10.out.2.2.1.size)
   have HJ := Lib.hid (And.intro ON (And.intro OE (And.intro OD (And.intro OF (And.intro hR4 hB4)))))
   have kn := ON.cells
   have fn := ON.froz
   unfold evB at kn
   clear ON OE OD OF hR4 hB4
   go_upto_region 14 with fail
   go_region
   obtain ⟨W15, hW15⟩ : ∃ W15, W15 = (((w14.setCell ⟨w6.heap.size, 1, none⟩ (.int .i64 1)).setCell ⟨w6.heap.size, 2, none⟩ (.string ⟨s.toArray⟩)).setCell ⟨w6.heap.size, 3, none⟩ (.string ⟨m.data.toArray⟩)).drew := ⟨_, rfl⟩
   rw [← hW15]
   have hg15 : w14.grownBy W15 (some w6.heap.size) := by
    rw [hW15]
    exact grown_drew (grown_set (grown_set (grown_set (World.grownBy.refl _ _) (p := ⟨w6.heap.size, 1, none⟩) rfl _) (p := ⟨w6.heap.size, 2, none⟩) rfl _) (p := ⟨w6.heap.size, 3, none⟩) rfl _)
   have N15 : Obj? W15 w6.heap.size (evX 3 1 s m.data 0 false false 0 0 (.slice ac hs.length cc) ms0) 43 := by rw [hW15]; exact ((HJ.out.1.set 1 _).set 2 _).set 3 _
   have E15 := HJ.out.2.1.kept hg15 (fun e => by have := Option.some.inj e; omega)
   have D15 := HJ.out.2.2.1.kept hg15 (fun e => by have := Option.some.inj e; omega)
   have F15 := HJ.out.2.2.2.1.kept hg15 (fun e => by have := Option.some.inj e; omega)
   have R15 := own_far HJ.out.2.2.2.2.1 hg15 (fun k e => by have := (H10.out.2.2.2.2.1 k e).2; omega)
   have B15 := HJ.out.2.2.2.2.2.grown hg15 HJ.out.2.2.2.2.2.size (fun k e => by have := Option.some.inj e; omega)
   have HK := Lib.hid (And.intro N15 (And.intro E15 (And.intro D15 (And.intro F15 (And.intro R15 B15)))))
   clear hW15 kn fn kd kf HJ hg15
   have kn := N15.cells
   have fn := N15.froz
   have kf := F15.cells
   unfold evX at kn
   clear N15 E15 D15 F15 R15 B15
   go_upto_region 15 with fail
   go_region
   obtain ⟨W16, hW16⟩ : ∃ W16, W16 = ((((W15.setCell ⟨w6.heap.size, 4, none⟩ (.int .i64 m.fl.q)).setCell ⟨w6.heap.size, 5, none⟩ (.bool m.fl.retain)).setCell ⟨w6.heap.size, 6, none⟩ (.bool m.fl.dup)).setCell ⟨w6.heap.size, 9, none⟩ (.int .i64 m.fl.typ)).drew := ⟨_, rfl⟩
   rw [← hW16]
   have hg16 : W15.grownBy W16 (some w6.heap.size) := by
    rw [hW16]
    exact grown_drew (grown_set (grown_set (grown_set (grown_set (World.grownBy.refl _ _) (p := ⟨w6.heap.size, 4, none⟩) rfl _) (p := ⟨w6.heap.size, 5, none⟩) rfl _) (p := ⟨w6.heap.size, 6, none⟩) rfl _) (p := ⟨w6.heap.size, 9, none⟩) rfl _)
   have N16 : Obj? W16 w6.heap.size (evX 3 1 s m.data m.fl.q m.fl.retain m.fl.dup 0 m.fl.typ (.slice ac hs.length cc) ms0) 43 := by rw [hW16]; exact (((HK.out.1.set 4 _).set 5 _).set 6 _).set 9 _
   have E16 := HK.out.2.1.kept hg16 (fun e => by have := Option.some.inj e; omega)
   have D16 := HK.out.2.2.1.kept hg16 (fun e => by have := Option.some.inj e; omega)
   have R16 := own_far HK.out.2.2.2.2.1 hg16 (fun k e => by have := (H10.out.2.2.2.2.1 k e).2; omega)
   have B16 := HK.out.2.2.2.2.2.grown hg16 HK.out.2.2.2.2.2.size (fun k e => by have := Option.some.inj e; omega)
   have hg17 : W16.grownBy (W16.setCell ⟨w6.heap.size, 7, none⟩ (.int .i64 m.mid)) (some w6.heap.size) := grown_set (World.grownBy.refl _ _) (p := ⟨w6.heap.size, 7, none⟩) rfl _
   have N17 : Obj? (W16.setCell ⟨w6.heap.size, 7, none⟩ (.int .i64 m.mid)) w6.heap.size (evX 3 1 s m.data m.fl.q m.fl.retain m.fl.dup m.mid m.fl.typ (.slice ac hs.length cc) ms0) 43 := N16.set 7 _
   have E17 := E16.kept hg17 (fun e => by have := Option.some.inj e; omega)
   have R17 := own_far R16 hg17 (fun k e => by have := (H10.out.2.2.2.2.1 k e).2; omega)
   have B17 := B16.grown hg17 B16.size (fun k e => by have := Option.some.inj e; omega)
   have L17 := load_evx N17 rfl
   obtain ⟨S17, O17⟩ := st_row E17 rfl rfl (evX_one 3 1 s m.data m.fl.q m.fl.retain m.fl.dup m.mid m.fl.typ ms0 (hv := (.slice ac hs.length cc)) rfl)
   have R18 := own_far R17 (setRow_grown _ (w.heap.size + 1) (evX 3 1 s m.data m.fl.q m.fl.retain m.fl.dup m.mid m.fl.typ (.slice ac hs.length cc) ms0)) (fun k e => by have := (H10.out.2.2.2.2.1 k e).1; omega)
   have B18 := below_row B17 (show w.heap.size ≤ w.heap.size + 1 by omega) (evX 3 1 s m.data m.fl.q m.fl.retain m.fl.dup m.mid m.fl.typ (.slice ac hs.length cc) ms0)
   have HF := Lib.hid (And.intro O17 (And.intro B18 R18))
   have k7 : W16.cell? ⟨w6.heap.size, 7, none⟩ = some (.int .i64 0) := N16.cell 7 _ rfl
   have f7 := N16.frozen 7
   have kd7 : W16.cell? ⟨w.heap.size, 13, none⟩ = some (.int .i64 m.mid) := D16.cell 13 _ rfl
   clear hW16 kn fn kf hg16 hg17 N16 E16 D16 R16 B16 N17 E17 R17 B17 O17 R18 B18
   go_wp2_with fail
   refine bodyPost_ret (results_row_tmp rfl _ _ _ _ _ _ rfl HF.out.1 Tryz.underlying43 rfl infoEvX) rfl ?_
   have hX : X = (some ⟨some s, hs, m⟩, 0) := HX.out
   rw [hX]
   exact ⟨_, rfl, HF.out.2.1, .inr ⟨⟨some s, hs, m⟩, (.slice ac hs.length cc), rfl, rfl, HF.out.2.2⟩⟩
theorem to_any {w : World} {rb : Nat} {v : Value} {hs : List Hp} {m : Ms} (n : List UInt8) (hH : HopsAt w v hs) (hn : (m.name.length : Int) ≤ 100000) (hd : (m.data.length : Int) ≤ 100000) (hmx : Mx w) {O : Nat → Own} {L : List UInt8 → Option (Nat × Cl)} (hG : RegAt w rb O L) :
  Calls Tryz.prog 442 #[.pointer (some ⟨rb, 0, none⟩), .string ⟨n.toArray⟩, .agg (dgCs v m)] w (ToSaid w (toC ((L n).map (·.2)) hs m)) := by
 unfold toC
 by_cases hE : (wrapB hs m 1048576 32).2 ≠ 0
 ·rw [if_pos hE]
  exact to_err n hH hn hd hmx _ rfl hE
 rw [if_neg hE]
 have he0 : 0 = (wrapB hs m 1048576 32).2 := by omega
 have hl := hops4 he0.symm
 by_cases hty : m.ty ≠ 12
 ·rw [if_pos hty]
  exact to_oth n hH hn hd hmx he0 hl hty
 rw [if_neg hty]
 obtain ⟨s, ok, hs0⟩ : ∃ s ok, ofC ((L n).map (·.2)) m.fl.typ m.tid = (s, ok) := ⟨_, _, rfl⟩
 rw [hs0]
 have h12 : m.ty = 12 := by omega
 by_cases h2 : m.fl.typ = 2
 ·exact to_pub2 n hH hn hd hmx hG he0 hl h12 h2 s ok hs0
 by_cases h1 : m.fl.typ = 1
 ·exact to_pub1 n hH hn hd hmx hG he0 hl h12 ⟨h2, h1⟩ s ok hs0
 ·exact to_pub0 n hH hn hd hmx hG he0 hl h12 ⟨h2, h1⟩ s ok hs0
end Go.Proofs.YtanofjmkkhocaaaGreatDoor
