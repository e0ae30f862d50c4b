/- polyglotref23: Unwrap, Wrap. -/
import Derived.Test.YtbacnaplpfmpnaaGreatDoorWrV
import Derived.Laws.AppendOwnNone
namespace Go.Proofs.YtbacnaplpfmpnaaGreatDoor
open Go Go.RowKit Go.Shelf
set_option linter.unusedVariables false
set_option linter.unusedSimpArgs false
attribute [local go_sem ↓] load_Msg store_Msg load_Dg store_Dg
attribute [local irreducible] rowSem rowStore

set_option maxRecDepth 100000 in
set_option maxHeartbeats 1600000 in
theorem runwrap_none {v : Value} {m : Ms} {w : World} (hH : HopsAt w v []) : Calls Tryz.prog 37 #[.agg (dgCs v m)] w (UnwrapSaid w h0 [] ms0 false) := by
  obtain ⟨a, cap, rfl, -, -, -⟩ := hH
  show Calls Tryz.prog 37 #[.agg (dgCs (.slice a 0 cap) m)] w _
  have OD := ((Obj?.new w (dgCs (.slice a 0 cap) m) 45).alloc (.cells #[.int .i64 0, .string ⟨#[]⟩] 49 (0, 0))).alloc (.cells (dgCs nilV ms0) 45 (0, 0))
  have OH := (Obj?.new (w.alloc (.cells (dgCs (.slice a 0 cap) m) 45 (0, 0))) #[.int .i64 0, .string ⟨#[]⟩] 49).alloc (.cells (dgCs nilV ms0) 45 (0, 0))
  have OR := Obj?.new ((w.alloc (.cells (dgCs (.slice a 0 cap) m) 45 (0, 0))).alloc (.cells #[.int .i64 0, .string ⟨#[]⟩] 49 (0, 0))) (dgCs nilV ms0) 45
  rw [World.size_alloc] at OH OR
  rw [World.size_alloc] at OR
  have HB := Lib.hid (below_al (below_al (below_al (Below.refl _ w) (.cells (dgCs (.slice a 0 cap) m) 45 (0, 0))) (.cells #[.int .i64 0, .string ⟨#[]⟩] 49 (0, 0))) (.cells (dgCs nilV ms0) 45 (0, 0)))
  have kd := OD.cells
  have kh := OH.cells
  have fh := fun j => OH.frozen j
  have hst := store_dg (v0 := nilV) (m0 := ms0) (v := nilV) (m := ms0) rfl OR
  have HO := Lib.hid (And.intro OH OR)
  clear OD OH OR
  unfold dgCs ms0 Ms.bare fl0 at kd kh fh hst
  dsimp only at kd kh fh hst
  unfold dgCs
  go_enter Tryz.func37, Tryz.ntmps37
  go_wp2
  refine bodyPost_ret (results_cells2_tmp rfl _ _ ⟨w.heap.size + 1, 0, none⟩ ⟨w.heap.size + 1 + 1, 0, none⟩ (.agg #[.int .i64 h0.rad, .string ⟨h0.node.toArray⟩]) (.agg (dgCs nilV ms0)) rfl ?_ rfl ?_) rfl ?_
  · exact load_hop (h := h0) (HO.out.1.setRow_ne (by omega))
  · rw [load_Dg]; exact load_dg (HO.out.2.setRow _)
  · exact ⟨nilV, rfl, hopsat_nil _, ⟨none, 0, 0, rfl, Nat.le_refl _⟩, below_row HB.out (by omega) _⟩
set_option maxRecDepth 100000 in
set_option maxHeartbeats 12800000 in
theorem runwrap_some {v : Value} {h : Hp} {hs : List Hp} {m : Ms} {w : World} (hH : HopsAt w v (h :: hs)) (hcap : CapOk v) (hl : hs.length ≤ 1000) : Calls Tryz.prog 37 #[.agg (dgCs v m)] w (UnwrapSaid w h hs m true) := by
  obtain ⟨i0, hi, hz0, hz1, hz2⟩ := info_parts infoHop
  have HHW := Lib.hid hH
  obtain ⟨a, cap, rfl, hn, hll, hc⟩ := hH
  obtain ⟨b, off, rfl, hlt, hc2⟩ := hc.resolve_left (by simp)
  obtain ⟨c0, c1⟩ := hc2 0 (by simp)
  simp only [Nat.zero_mul, Nat.add_zero, List.getElem_cons_zero] at c0 c1
  have hcp : hs.length + 1 ≤ cap := by obtain ⟨a', n', c', e, hle⟩ := hcap; cases e; simpa using hle
  obtain ⟨N, hN⟩ : ∃ N, N = hs.length := ⟨_, rfl⟩
  obtain ⟨q, cq, hcq, hsl, htl⟩ := hop_tail (b := b) (off := off) (h := h) hN (by omega : N + 1 ≤ cap)
  have HTL := Lib.hid htl
  rw [List.length_cons, ← hN] at HHW ⊢
  have HN := Lib.hid (show N ≤ 1000 by omega)
  have HL := Lib.hid hl
  have OD := ((Obj?.new w (dgCs (.slice (some ⟨b, off, none⟩) (N + 1) cap) m) 45).alloc (.cells #[.int .i64 0, .string ⟨#[]⟩] 49 (0, 0))).alloc (.cells (dgCs nilV ms0) 45 (0, 0))
  have OH := (Obj?.new (w.alloc (.cells (dgCs (.slice (some ⟨b, off, none⟩) (N + 1) cap) m) 45 (0, 0))) #[.int .i64 0, .string ⟨#[]⟩] 49).alloc (.cells (dgCs nilV ms0) 45 (0, 0))
  have OR := Obj?.new ((w.alloc (.cells (dgCs (.slice (some ⟨b, off, none⟩) (N + 1) cap) m) 45 (0, 0))).alloc (.cells #[.int .i64 0, .string ⟨#[]⟩] 49 (0, 0))) (dgCs nilV ms0) 45
  rw [World.size_alloc] at OH OR
  rw [World.size_alloc] at OR
  have hB := below_al (below_al (below_al (Below.refl _ w) (.cells (dgCs (.slice (some ⟨b, off, none⟩) (N + 1) cap) m) 45 (0, 0))) (.cells #[.int .i64 0, .string ⟨#[]⟩] 49 (0, 0))) (.cells (dgCs nilV ms0) 45 (0, 0))
  have kd := OD.cells
  have HO := Lib.hid (And.intro OD (And.intro OH (And.intro OR hB)))
  have d1 : ((N : Int) + 1 == 0) = false := by simp; omega
  have HC := Lib.hid (And.intro c0 (And.intro c1 hlt))
  have HNN := Lib.hid hN
  clear OD OH OR hc hc2 hn hll htl hcap hN hl c0 c1 hB
  unfold dgCs ms0 Ms.bare fl0 at kd
  dsimp only at kd
  unfold dgCs
  go_enter Tryz.func37, Tryz.ntmps37
  go_upto_region 3 with fail
  obtain ⟨W1, hW1⟩ : ∃ W1, W1 = ((w.alloc (.cells (dgCs (.slice (some ⟨b, off, none⟩) (N + 1) cap) m) 45 (0, 0))).alloc (.cells #[.int .i64 0, .string ⟨#[]⟩] 49 (0, 0))).alloc (.cells (dgCs nilV ms0) 45 (0, 0)) := ⟨_, rfl⟩
  rw [← hW1] at HO
  have hW1' := hW1.symm
  unfold dgCs ms0 Ms.bare fl0 nilV at hW1'
  unfold nilV at kd
  dsimp only at hW1' kd
  rw [hW1'] at kd ⊢
  clear hW1 hW1'
  have c0 := (HO.out.2.2.2.cell (p := ⟨b, off, none⟩) HC.out.2.2).trans HC.out.1
  have c1 := (HO.out.2.2.2.cell (p := ⟨b, off + 1, none⟩) HC.out.2.2).trans HC.out.2.1
  have HE := Lib.hid (show Below w.heap.size w (W1.alloc (.cells #[] 49 (0, 0))).drew from below_drewM (below_al HO.out.2.2.2 _))
  have HHA := Lib.hid (HTL.out _ (HHW.out.below HE.out))
  have HSM := Lib.hid (HHA.out).small
  have HNW := Lib.hid (fun j u h => hopsat_cells (hs := hs) (by rw [← HNN.out]; exact HHA.out) j u h)
  have HD := Lib.hid (show Obj? (W1.alloc (.cells #[] 49 (0, 0))).drew w.heap.size (dgCs (.slice (some ⟨b, off, none⟩) (N + 1) cap) m) 45 from (show Obj? W1.drew w.heap.size (dgCs (.slice (some ⟨b, off, none⟩) (N + 1) cap) m) 45 from HO.out.1).alloc _)
  have HHp := Lib.hid (show Obj? (W1.alloc (.cells #[] 49 (0, 0))).drew (w.heap.size + 1) #[.int .i64 0, .string ⟨#[]⟩] 49 from (show Obj? W1.drew (w.heap.size + 1) #[.int .i64 0, .string ⟨#[]⟩] 49 from HO.out.2.1).alloc _)
  have HRs := Lib.hid (show Obj? (W1.alloc (.cells #[] 49 (0, 0))).drew (w.heap.size + 1 + 1) (dgCs nilV ms0) 45 from (show Obj? W1.drew (w.heap.size + 1 + 1) (dgCs nilV ms0) 45 from HO.out.2.2.1).alloc _)
  have hldm := load_dgmsg (v := .slice (some ⟨b, off, none⟩) (N + 1) cap) (m := m) (show Obj? W1.drew w.heap.size (dgCs (.slice (some ⟨b, off, none⟩) (N + 1) cap) m) 45 from HO.out.1)
  have hldE := load_dgmsg (v := .slice (some ⟨b, off, none⟩) (N + 1) cap) (m := m) HD.out
  have kdE : ∀ j, (W1.alloc (.cells #[] 49 (0, 0))).cell? ⟨w.heap.size, j, none⟩ = _ := HD.out.cells
  have e0 : (W1.alloc (.cells #[] 49 (0, 0))).cell? ⟨b, off, none⟩ = _ := (HE.out.cell (p := ⟨b, off, none⟩) HC.out.2.2).trans HC.out.1
  have e1 : (W1.alloc (.cells #[] 49 (0, 0))).cell? ⟨b, off + 1, none⟩ = _ := (HE.out.cell (p := ⟨b, off + 1, none⟩) HC.out.2.2).trans HC.out.2.1
  unfold dgCs at kdE
  unfold Ms.cs at hldm hldE
  have HNE := Lib.hid (show some (w.heap.size + 1) ≠ some (w.heap.size + 1 + 1) ∧ some (w.heap.size + 1) ≠ some w.heap.size by constructor <;> (intro e; have := Option.some.inj e; omega))
  have HMD := Lib.hid (show World.ownsRow (W1.alloc (.cells #[] 49 (0, 0))).drew W1.heap.size 49 2 (.slice (some ⟨W1.heap.size, 0, none⟩) 0 0) 0 [] from World.ownsRow_made W1.drew #[] 0 (Nat.le_refl _) (Nat.zero_le _) rfl)
  have HLT := Lib.hid (show b < W1.heap.size ∧ w.heap.size + 1 + 1 < W1.heap.size from ⟨Nat.lt_of_lt_of_le HC.out.2.2 HO.out.2.2.2.size, HO.out.2.2.1.lt⟩)
  have hN5 : N ≤ 1000 := HN.out
  have HNB := Lib.hid (show ∀ x, x < W1.heap.size → some x ≠ Value.ownBlock (.slice (some ⟨W1.heap.size, 0, none⟩) 0 0) from fun x hx e => by have h1 : x = W1.heap.size := Option.some.inj e; omega)
  have HLA := Lib.hid (show w.heap.size < W1.heap.size ∧ w.heap.size + 1 < W1.heap.size by have := HLT.out; omega)
  go_region_law ((refine step_append_own rfl _ _ _ rfl W1.heap.size 49 i0 (.agg #[.int .i64 0, .string ⟨#[]⟩]) 2 24 Tryz.underlying42 hi hz0 hz1 hz2 rfl (by decide) (.slice (some ⟨W1.heap.size, 0, none⟩) 0 0) 0 [] (by rfl) HMD.out q N cq (hopCells hs) (by rfl) (by rw [hopCells_len, HNN.out]) HNW.out (hopCells_one hs) (by unfold maxLen; omega) (by omega) (by simp) ?_; intro v' w2 hown2 hgrow2; rw [Nat.zero_add, List.nil_append] at hown2; obtain ⟨a2, cap2, rfl⟩ := owns_shape (by decide) hown2; have OD2 := HD.out.kept hgrow2 (HNB.out _ HLA.out.1).symm; have OH2 := HHp.out.kept hgrow2 (HNB.out _ HLA.out.2).symm; have OR2 := HRs.out.kept hgrow2 (HNB.out _ HLT.out.2).symm; have kd2 := OD2.cell 0 (.slice (some ⟨b, off, none⟩) (N + 1) cap) rfl; have hldm2 := load_dgmsg (v := .slice (some ⟨b, off, none⟩) (N + 1) cap) (m := m) OD2; have f0 := hgrow2.cell e0 (HNB.out _ HLT.out.1); have f1 := hgrow2.cell e1 (HNB.out _ HLT.out.1); have kh2 := OH2.cells; have fh2 := fun j => OH2.frozen j; have g3 := grown_set (grown_set (World.grownBy.refl w2 (some (w.heap.size + 1))) (p := ⟨w.heap.size + 1, 0, none⟩) rfl (.int .i64 h.rad)) (p := ⟨w.heap.size + 1, 1, none⟩) rfl (.string ⟨h.node.toArray⟩); have OR3 := OR2.kept g3 HNE.out.1; have hst := store_dg (v0 := nilV) (m0 := ms0) (v := .slice a2 N cap2) (m := m) rfl OR3; have hldm3 := load_dgmsg (v := .slice (some ⟨b, off, none⟩) (N + 1) cap) (m := m) (OD2.kept g3 HNE.out.2); unfold dgCs at hst; unfold Ms.cs at hldm2 hldm3; have HF := Lib.hid (And.intro ((OH2.set 0 (.int .i64 h.rad)).set 1 (.string ⟨h.node.toArray⟩)) (And.intro OR3 (And.intro hown2 (And.intro g3 hgrow2)))); clear OD2 OH2 OR2 OR3 g3 hown2 hgrow2))
  all_goals
    obtain ⟨q1, q2, q3, q4, q5⟩ := HF.out
    go_wp2
    refine bodyPost_ret (results_cells2_tmp rfl _ _ ⟨w.heap.size + 1, 0, none⟩ ⟨w.heap.size + 1 + 1, 0, none⟩ (.agg #[.int .i64 h.rad, .string ⟨h.node.toArray⟩]) (.agg (dgCs (.slice a2 N cap2) m)) rfl ?_ rfl ?_) rfl ?_
    · exact load_hop (h := h) (Obj?.setRow_ne q1 (by omega))
    · rw [load_Dg]; exact load_dg (Obj?.setRow q2 _)
    · refine ⟨_, rfl, hopsat_of_row (row_far (row_far (by rw [← HNN.out]; exact q3) q4 (fun j e => by obtain rfl := Option.some.inj e; exact HLA.out.2)) (setRow_grown _ _ _) (fun j e => by obtain rfl := Option.some.inj e; exact HLT.out.2)) HSM.out.1 HSM.out.2, cap_of_row q3, below_row ((HE.out.grown q5 HE.out.size (by intro j e; cases e; exact Nat.le_of_lt HLA.out.1)).grown q4 (Nat.le_trans HE.out.size q5.size) (by intro j e; cases e; omega)) (by omega) _⟩
set_option maxRecDepth 100000 in
set_option maxHeartbeats 1600000 in
theorem rwrap_bad (h : Hp) {v : Value} {hs : List Hp} {m : Ms} {w : World} (hn : (h.node.length : Int) ≤ 9223372036854775807) (hH : HopsAt w v hs) (hk : hopOk h = false) :
    Calls Tryz.prog 38 #[.agg #[.int .i64 h.rad, .string ⟨h.node.toArray⟩], .agg (dgCs v m)] w (WrapSaid w [] ms0 2) := by
  obtain ⟨W0, hW0, O1, O2, O3, hB⟩ := wrap_world h v m w
  have HHR := Lib.hid (fun w => rhop_any h hn w)
  rw [hk] at HHR
  have HO := Lib.hid (And.intro O2 (And.intro O3 hB))
  have k1 := O1.cells
  unfold dgCs ms0 Ms.bare fl0 nilV at hW0
  dsimp only at hW0
  clear O1 O2 O3 hB hk hH
  unfold dgCs
  go_enter Tryz.func38, Tryz.ntmps38
  go_upto_region 1 with fail
  (try rw [hW0])
  clear hW0
  go_wp2_with fail
  refine (HHR.out _).mono ?_
  rintro r w1 ⟨rfl, hb⟩
  have hst := store_dg (v0 := nilV) (m0 := ms0) (v := nilV) (m := ms0) rfl (HO.out.2.1.below hb HO.out.2.1.lt)
  have HF := Lib.hid (And.intro ((HO.out.2.1.below hb HO.out.2.1.lt).setRow (dgCs nilV ms0)) (below_row (HO.out.2.2.trans (hb.mono HO.out.2.2.size)) (by omega : w.heap.size ≤ w.heap.size + 1 + 1) (dgCs nilV ms0)))
  clear hb
  unfold dgCs ms0 Ms.bare fl0 nilV at hst
  dsimp only at hst
  go_wp2
  (try simp only [Exit.inBlock, Exit.then])
  refine bodyPost_ret (results_row_tmp rfl _ _ _ _ _ _ rfl HF.out.1 Tryz.underlying45 rfl infoDg) rfl ?_
  exact ⟨nilV, rfl, hopsat_nil _, World.ownsRow_nil _ _ _ _, HF.out.2⟩
set_option maxRecDepth 100000 in
set_option maxHeartbeats 1600000 in
theorem rwrap_full (h : Hp) {v : Value} {hs : List Hp} {m : Ms} {w : World} (hn : (h.node.length : Int) ≤ 9223372036854775807) (hH : HopsAt w v hs) (hk : hopOk h = true) (h4 : 4 ≤ hs.length) :
    Calls Tryz.prog 38 #[.agg #[.int .i64 h.rad, .string ⟨h.node.toArray⟩], .agg (dgCs v m)] w (WrapSaid w [] ms0 12) := by
  obtain ⟨W0, hW0, O1, O2, O3, hB⟩ := wrap_world h v m w
  have HHR := Lib.hid (fun w => rhop_any h hn w)
  rw [hk] at HHR
  have HO := Lib.hid (And.intro O2 (And.intro O3 hB))
  have k1 := O1.cells
  unfold dgCs ms0 Ms.bare fl0 nilV at hW0
  dsimp only at hW0
  obtain ⟨a, cap, rfl, -, -, -⟩ := hH
  have d4 : (4 : Int) ≤ hs.length := by omega
  clear O1 O2 O3 hB hk h4
  unfold dgCs
  go_enter Tryz.func38, Tryz.ntmps38
  go_upto_region 1 with fail
  (try rw [hW0])
  clear hW0
  go_wp2_with fail
  refine (HHR.out _).mono ?_
  rintro r w1 ⟨rfl, hb⟩
  have O2 := HO.out.1.below hb HO.out.1.lt
  have kd := O2.cells
  unfold dgCs at kd
  have hst := store_dg (v0 := nilV) (m0 := ms0) (v := nilV) (m := ms0) rfl (HO.out.2.1.below hb HO.out.2.1.lt)
  have HF := Lib.hid (And.intro ((HO.out.2.1.below hb HO.out.2.1.lt).setRow (dgCs nilV ms0)) (below_row (HO.out.2.2.trans (hb.mono HO.out.2.2.size)) (by omega : w.heap.size ≤ w.heap.size + 1 + 1) (dgCs nilV ms0)))
  clear hb O2
  unfold dgCs ms0 Ms.bare fl0 nilV at hst
  dsimp only at hst
  go_wp2
  (try simp only [Exit.inBlock, Exit.then])
  refine bodyPost_ret (results_row_tmp rfl _ _ _ _ _ _ rfl HF.out.1 Tryz.underlying45 rfl infoDg) rfl ?_
  exact ⟨nilV, rfl, hopsat_nil _, World.ownsRow_nil _ _ _ _, HF.out.2⟩
theorem run_append_nilcap {P : Program} {w : World} (base : Nat) (t ty e : TypeId) (i : TypeInfo) (size : Nat) (ht : P.underlying t = some (.slice e)) (hi : P.info? e = some i)
    (v : Value) (n : Nat) (xs : List Value) (c : Nat) (hown : w.ownsRow base e size v n xs) : (Builtin.append_ #[t, t] ty #[v, .slice none 0 c]).run P w = .ok v w := by
  rcases hown.2 with ⟨rfl, rfl⟩ | ⟨g, cap, cur, rfl, _, _, hnc, _⟩
  · simp [Builtin.append_, run_underlying ht, sizeOf, typeInfo, hi, Builtin.lenOf, Builtin.firstCells]
  · simp [Builtin.append_, run_underlying ht, sizeOf, typeInfo, hi, Builtin.lenOf, Builtin.firstCells, hnc, storeCells]
theorem step_append_own_none {P : Program} {w : World} {ops : Array Oper} {o : Oper} {a : Act} {K : Act → World → Prop} {Q : Exit → Act → World → Prop} {E : Prop} (hgd : o.guard = none) (s x : Operand) (t : TypeId)
    (ho : o.op = .call { callee := .builtin .append, args := #[s, x], argTypes := #[t, t] })
    (base : Nat) (e : TypeId) (i : TypeInfo) (size : Nat) (ht : P.underlying t = some (.slice e)) (hi : P.info? e = some i)
    (v : Value) (n : Nat) (xs : List Value) (c : Nat) (hs : a.eval s = v) (hown : w.ownsRow base e size v n xs) (hx : a.eval x = .slice none 0 c)
    (h : K (a.put o.dst v) w) :
    if Region.wanted o (yielded ops a.tmps) = true then Oper.wp P o a w K Q else E := by
  have hw : Region.wanted o (yielded ops a.tmps) = true := by simp [Region.wanted, hgd]
  rw [if_pos hw]
  have hrun := run_append_nilcap (P := P) (w := w) base t o.type e i size ht hi v n xs c hown
  unfold Oper.wp
  simp [execOp, ho, resolve, invoke, builtin, hs, hx, hrun, Result.andThen]
  exact h
set_option maxRecDepth 100000 in
set_option maxHeartbeats 3200000 in
theorem rwrap_ok (h : Hp) {v : Value} {hs : List Hp} {m : Ms} {w : World} (hn : (h.node.length : Int) ≤ 9223372036854775807) (hH : HopsAt w v hs) (hk : hopOk h = true) (h4 : hs.length < 4) :
    Calls Tryz.prog 38 #[.agg #[.int .i64 h.rad, .string ⟨h.node.toArray⟩], .agg (dgCs v m)] w (WrapSaid w (h :: hs) m 0) := by
  obtain ⟨i0, hi, hz0, hz1, hz2⟩ := info_parts infoHop
  obtain ⟨W0, hW0, O1, O2, O3, hB⟩ := wrap_world h v m w
  have HHR := Lib.hid (fun w => rhop_any h hn w)
  rw [hk] at HHR
  have HO := Lib.hid (And.intro O2 (And.intro O3 (And.intro O1 hB)))
  have k1 := O1.cells
  unfold dgCs ms0 Ms.bare fl0 nilV at hW0
  dsimp only at hW0
  have HHW := Lib.hid hH
  have HSM := Lib.hid hH.small
  have HN0 := Lib.hid hn
  obtain ⟨a, cap, rfl, -, -, hcc⟩ := hH
  obtain ⟨N, hN⟩ : ∃ N, N = hs.length := ⟨_, rfl⟩
  have hnil : a = none → N = 0 := fun e => by
    rcases hcc with h0 | ⟨b, off, e2, -⟩
    · rw [hN, h0]; rfl
    · rw [e] at e2; cases e2
  rw [← hN] at HHW h4 hW0 HO ⊢
  have HN := Lib.hid hN
  have d4 : ¬ (4 : Int) ≤ N := by omega
  have hN4 : N < 4 := h4
  clear O1 O2 O3 hB hk h4 hN hn hcc
  unfold dgCs
  go_enter Tryz.func38, Tryz.ntmps38
  refine wp_hide fun Q1 hQ1 => ?_
  have HQ1 := Lib.hid hQ1
  clear hQ1
  go_upto_region 1 with fail
  (try rw [hW0])
  clear hW0
  go_wp2_with fail
  refine (HHR.out _).mono ?_
  rintro r w1 ⟨rfl, hb⟩
  have O1 := HO.out.2.2.1.below hb HO.out.2.2.1.lt
  have O2 := HO.out.1.below hb HO.out.1.lt
  have kh := O1.cells
  have kd := O2.cells
  unfold dgCs at kd
  have HO1 := Lib.hid (And.intro O2 (And.intro (HO.out.2.1.below hb HO.out.2.1.lt) (And.intro O1 (HO.out.2.2.2.trans (hb.mono HO.out.2.2.2.size)))))
  clear hb O1 O2
  go_upto_region 5 with fail
  have HE := Lib.hid (show Below w.heap.size w (w1.alloc (.cells #[.int .i64 h.rad, .string ⟨h.node.toArray⟩] 49 (0, 0))).drew from below_drewM (below_al HO1.out.2.2.2 _))
  have HMD := Lib.hid (show World.ownsRow (w1.alloc (.cells #[.int .i64 h.rad, .string ⟨h.node.toArray⟩] 49 (0, 0))).drew w1.heap.size 49 2 (.slice (some ⟨w1.heap.size, 0, none⟩) 1 1) 1 [.int .i64 h.rad, .string ⟨h.node.toArray⟩] from
    ⟨rfl, .inr ⟨w1.heap.size, 1, #[.int .i64 h.rad, .string ⟨h.node.toArray⟩], rfl, Nat.le_refl _, heap_alloc_new w1 _, Nat.le_refl _, by unfold maxLen; omega, rfl, rfl⟩⟩)
  have HD := Lib.hid (show Obj? (w1.alloc (.cells #[.int .i64 h.rad, .string ⟨h.node.toArray⟩] 49 (0, 0))).drew (w.heap.size + 1) (dgCs (.slice a N cap) m) 45 from HO1.out.1.alloc _)
  have HRs := Lib.hid (show Obj? (w1.alloc (.cells #[.int .i64 h.rad, .string ⟨h.node.toArray⟩] 49 (0, 0))).drew (w.heap.size + 1 + 1) (dgCs nilV ms0) 45 from HO1.out.2.1.alloc _)
  have HLT := Lib.hid (show w.heap.size + 1 + 1 < w1.heap.size from HO1.out.2.1.lt)
  have HLA := Lib.hid (show w.heap.size + 1 < w1.heap.size by have := HLT.out; omega)
  have HNB := Lib.hid (show ∀ x, x < w1.heap.size → some x ≠ Value.ownBlock (.slice (some ⟨w1.heap.size, 0, none⟩) 1 1) from fun x hx e => by have h1 : x = w1.heap.size := Option.some.inj e; omega)
  have hldm := load_dgmsg (v := .slice a N cap) (m := m) (show Obj? w1.drew (w.heap.size + 1) (dgCs (.slice a N cap) m) 45 from HO1.out.1)
  have hldE := load_dgmsg (v := .slice a N cap) (m := m) HD.out
  have kdE : ∀ j, (w1.alloc (.cells #[.int .i64 h.rad, .string ⟨h.node.toArray⟩] 49 (0, 0))).cell? ⟨w.heap.size + 1, j, none⟩ = _ := HD.out.cells
  unfold dgCs at kdE
  unfold Ms.cs at hldm hldE
  have HNX := Lib.hid (show (∀ y ∈ h :: hs, (y.node.length : Int) ≤ 9223372036854775807) ∧ (((h :: hs).length : Nat) : Int) ≤ 9223372036854775807 from ⟨fun y hy => by
    rcases List.mem_cons.1 hy with rfl | h1
    · exact HN0.out
    · exact HSM.out.1 y h1, by have := HSM.out.2; have := HN.out; simp only [List.length_cons]; omega⟩)
  cases a with
  | none =>
    have hN0 : N = 0 := hnil rfl
    have hs0 : hs = [] := List.length_eq_zero_iff.1 (by rw [← HN.out]; exact hN0)
    subst hN0 hs0
    have hst := store_dg (v0 := nilV) (m0 := ms0) (v := .slice (some ⟨w1.heap.size, 0, none⟩) 1 1) (m := m) rfl HRs.out
    unfold dgCs at hst
    clear hnil
    go_region_law ((refine step_append_own_none rfl _ _ _ rfl w1.heap.size 49 i0 2 Tryz.underlying42 hi (.slice (some ⟨w1.heap.size, 0, none⟩) 1 1) 1 [.int .i64 h.rad, .string ⟨h.node.toArray⟩] cap (by rfl) HMD.out (by rfl) ?_))
    all_goals
      go_wp2
      refine HQ1.out _ _ _ ?_
      (try simp only [Exit.inBlock, Exit.then])
      refine bodyPost_ret (results_row_tmp rfl _ _ _ _ _ _ rfl (HRs.out.setRow _) Tryz.underlying45 rfl infoDg) rfl ?_
      have hrow := row_far HMD.out (setRow_grown _ (w.heap.size + 1 + 1) (dgCs (.slice (some ⟨w1.heap.size, 0, none⟩) 1 1) m)) (fun j e => by obtain rfl := Option.some.inj e; exact HLT.out)
      exact ⟨_, rfl, hopsat_of_row (hs := [h]) hrow HNX.out.1 HNX.out.2, row_mono hrow (by have := HLT.out; omega), below_row HE.out (by omega) _⟩
  | some p =>
    have HHE := Lib.hid (HHW.out.below HE.out)
    have HNW := Lib.hid (fun j u hj => hopsat_cells (hs := hs) (by rw [← HN.out]; exact HHE.out) j u hj)
    have HL1 := Lib.hid (show 1 + N = (h :: hs).length by rw [List.length_cons, ← HN.out]; omega)
    have HCN := Lib.hid (show [Value.int .i64 h.rad, Value.string ⟨h.node.toArray⟩] ++ hopCells hs = hopCells (h :: hs) from rfl)
    clear hnil
    go_region_law ((refine step_append_own rfl _ _ _ rfl w1.heap.size 49 i0 (.agg #[.int .i64 0, .string ⟨#[]⟩]) 2 24 Tryz.underlying42 hi hz0 hz1 hz2 rfl (by decide) (.slice (some ⟨w1.heap.size, 0, none⟩) 1 1) 1 [.int .i64 h.rad, .string ⟨h.node.toArray⟩] (by rfl) HMD.out p N cap (hopCells hs) (by rfl) (by rw [hopCells_len, HN.out]) HNW.out (hopCells_one hs) (by unfold maxLen; omega) (by omega) (by simp) ?_; intro v' w2 hown2 hgrow2; rw [HL1.out, HCN.out] at hown2; obtain ⟨a2, cap2, rfl⟩ := owns_shape (by decide) hown2; have OD2 := HD.out.kept hgrow2 (HNB.out _ HLA.out).symm; have OR2 := HRs.out.kept hgrow2 (HNB.out _ HLT.out).symm; have kd2 := OD2.cell 0 (.slice (some p) N cap) rfl; have hldm2 := load_dgmsg (v := .slice (some p) N cap) (m := m) OD2; have hst := store_dg (v0 := nilV) (m0 := ms0) (v := .slice a2 (h :: hs).length cap2) (m := m) rfl OR2; unfold dgCs at hst; rw [List.length_cons] at hst; unfold Ms.cs at hldm2; have HF := Lib.hid (And.intro OR2 (And.intro hown2 hgrow2)); clear OD2 OR2 hown2 hgrow2))
    all_goals
      obtain ⟨q1, q2, q3⟩ := HF.out
      go_wp2
      refine HQ1.out _ _ _ ?_
      (try simp only [Exit.inBlock, Exit.then])
      refine bodyPost_ret (results_row_tmp rfl _ _ _ _ _ _ rfl (q1.setRow _) Tryz.underlying45 rfl infoDg) rfl ?_
      have hrow := row_far q2 (setRow_grown w2 (w.heap.size + 1 + 1) (dgCs (.slice a2 (h :: hs).length cap2) m)) (fun j e => by obtain rfl := Option.some.inj e; exact HLT.out)
      exact ⟨_, rfl, hopsat_of_row hrow HNX.out.1 HNX.out.2, row_mono hrow (by have := HLT.out; omega), below_row (HE.out.grown q3 HE.out.size (by intro j e; cases e; have := HLT.out; show w.heap.size ≤ w1.heap.size; omega)) (by omega) _⟩
theorem rwrap_said (h : Hp) {v : Value} {hs : List Hp} {m : Ms} {w : World} (hn : (h.node.length : Int) ≤ 9223372036854775807) (hH : HopsAt w v hs) :
    Calls Tryz.prog 38 #[.agg #[.int .i64 h.rad, .string ⟨h.node.toArray⟩], .agg (dgCs v m)] w (if hopOk h = false then WrapSaid w [] ms0 2 else if 4 ≤ hs.length then WrapSaid w [] ms0 12 else WrapSaid w (h :: hs) m 0) := by
  cases hk : hopOk h with
  | false => rw [if_pos rfl]; exact rwrap_bad h hn hH hk
  | true =>
    rw [if_neg (by simp)]
    by_cases h4 : 4 ≤ hs.length
    · rw [if_pos h4]; exact rwrap_full h hn hH hk h4
    · rw [if_neg h4]; exact rwrap_ok h hn hH hk (by omega)
end Go.Proofs.YtbacnaplpfmpnaaGreatDoor
