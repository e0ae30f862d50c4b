/- SnwrapCalls. -/
import Derived.Test.YtbacnaplpfmpnaaGreatDoorWrX
import Derived.Test.YtbacnaplpfmpnaaGreatDoorWrW
import Derived.Deep.RegionHeld3
import Derived.Deep.CutRange
namespace Go.Proofs.YtbacnaplpfmpnaaGreatDoor
open Go Go.RowKit Go.Shelf
set_option linter.unusedVariables false
set_option linter.unusedSimpArgs false
attribute [local go_sem ↓] load_Msg store_Msg load_Dg store_Dg
attribute [local irreducible] rowSem rowStore

/-- What Unwrap answers. -/
def unwrapT (ds : List Hp) (m : Ms) : Hp × List Hp × Ms × Bool := match ds with
  | [] => (h0, [], ms0, false)
  | h :: r => (h, r, m, true)
theorem unwrap_any {v : Value} {ds : List Hp} {m : Ms} {w : World} (hH : HopsAt w v ds) (hc : CapOk v) (hl : ds.length ≤ 1000) : Calls Tryz.prog 26 #[.agg (dgCs v m)] w (UnwrapSaid w (unwrapT ds m).1 (unwrapT ds m).2.1 (unwrapT ds m).2.2.1 (unwrapT ds m).2.2.2) := by
  cases ds with
  | nil => exact unwrap_none hH
  | cons h r =>
    have hl2 : r.length ≤ 1000 := by simp at hl; omega
    exact unwrap_some hH hc hl2
theorem runwrap_any {v : Value} {ds : List Hp} {m : Ms} {w : World} (hH : HopsAt w v ds) (hc : CapOk v) (hl : ds.length ≤ 1000) : Calls Tryz.prog 37 #[.agg (dgCs v m)] w (UnwrapSaid w (unwrapT ds m).1 (unwrapT ds m).2.1 (unwrapT ds m).2.2.1 (unwrapT ds m).2.2.2) := by
  cases ds with
  | nil => exact runwrap_none hH
  | cons h r =>
    have hl2 : r.length ≤ 1000 := by simp at hl; omega
    exact runwrap_some hH hc hl2
/-- What Wrap answers. -/
def wrapT2 (x : Hp) (ds : List Hp) (m : Ms) : List Hp × Ms × Int := if hopOk x = false then ([], ms0, 2) else if 4 ≤ ds.length then ([], ms0, 12) else (x :: ds, m, 0)
theorem wrap_tri2 (x : Hp) {v : Value} {ds : List Hp} {m : Ms} {w : World} (hn : (x.node.length : Int) ≤ 9223372036854775807) (hH : HopsAt w v ds) :
    Calls Tryz.prog 25 #[.agg #[.int .i64 x.rad, .string ⟨x.node.toArray⟩], .agg (dgCs v m)] w (WrapSaid w (wrapT2 x ds m).1 (wrapT2 x ds m).2.1 (wrapT2 x ds m).2.2) := by
  have h := wrap_said x (m := m) hn hH
  unfold wrapT2
  by_cases h1 : hopOk x = false
  · rw [if_pos h1] at h ⊢; exact h
  · rw [if_neg h1] at h ⊢
    by_cases h2 : 4 ≤ ds.length
    · rw [if_pos h2] at h ⊢; exact h
    · rw [if_neg h2] at h ⊢; exact h
theorem rwrap_tri2 (x : Hp) {v : Value} {ds : List Hp} {m : Ms} {w : World} (hn : (x.node.length : Int) ≤ 9223372036854775807) (hH : HopsAt w v ds) :
    Calls Tryz.prog 38 #[.agg #[.int .i64 x.rad, .string ⟨x.node.toArray⟩], .agg (dgCs v m)] w (WrapSaid w (wrapT2 x ds m).1 (wrapT2 x ds m).2.1 (wrapT2 x ds m).2.2) := by
  have h := rwrap_said x (m := m) hn hH
  unfold wrapT2
  by_cases h1 : hopOk x = false
  · rw [if_pos h1] at h ⊢; exact h
  · rw [if_neg h1] at h ⊢
    by_cases h2 : 4 ≤ ds.length
    · rw [if_pos h2] at h ⊢; exact h
    · rw [if_neg h2] at h ⊢; exact h
theorem eql_hop (x : Hp) (w : World) : (binOp .eql 49 (.agg #[.int .i64 x.rad, .string ⟨x.node.toArray⟩]) (.agg #[.int .i64 x.rad, .string ⟨x.node.toArray⟩])).run Tryz.prog w = .ok (.bool true) w := by
  go_simp
/-- The arguments, boxed. -/
def ArgsAt (w : World) (v vx : Value) (m mx : Ms) (x : Hp) (mp md : Int) (W : World) : Prop :=
  Obj? W w.heap.size (dgCs v m) 45 ∧ Obj? W (w.heap.size + 1) (dgCs vx mx) 45 ∧ Obj? W (w.heap.size + 1 + 1) #[.int .i64 x.rad, .string ⟨x.node.toArray⟩] 49 ∧ Obj? W (w.heap.size + 1 + 1 + 1) #[.int .i64 mp, .int .i64 md] 56 ∧ Below w.heap.size w W
theorem ArgsAt.below {w : World} {v vx : Value} {m mx : Ms} {x : Hp} {mp md : Int} {A B : World} (h : ArgsAt w v vx m mx x mp md A) (hb : Below A.heap.size A B) : ArgsAt w v vx m mx x mp md B :=
  ⟨h.1.below hb h.1.lt, h.2.1.below hb h.2.1.lt, h.2.2.1.below hb h.2.2.1.lt, h.2.2.2.1.below hb h.2.2.2.1.lt, h.2.2.2.2.trans (hb.mono h.2.2.2.2.size)⟩
theorem args_world (v vx : Value) (m mx : Ms) (x : Hp) (mp md : Int) (w : World) : ∃ W0, (((w.alloc (.cells (dgCs v m) 45 (0, 0))).alloc (.cells (dgCs vx mx) 45 (0, 0))).alloc (.cells #[.int .i64 x.rad, .string ⟨x.node.toArray⟩] 49 (0, 0))).alloc (.cells #[.int .i64 mp, .int .i64 md] 56 (0, 0)) = W0 ∧ ArgsAt w v vx m mx x mp md W0 := by
  refine ⟨_, rfl, (((Obj?.new w _ _).alloc _).alloc _).alloc _, ?_, ?_, ?_, below_al (below_al (below_al (below_al (Below.refl _ w) _) _) _) _⟩
  · have := ((Obj?.new (w.alloc (.cells (dgCs v m) 45 (0, 0))) (dgCs vx mx) 45).alloc (.cells #[.int .i64 x.rad, .string ⟨x.node.toArray⟩] 49 (0, 0))).alloc (.cells #[.int .i64 mp, .int .i64 md] 56 (0, 0))
    rw [World.size_alloc] at this
    exact this
  · have := (Obj?.new ((w.alloc (.cells (dgCs v m) 45 (0, 0))).alloc (.cells (dgCs vx mx) 45 (0, 0))) #[.int .i64 x.rad, .string ⟨x.node.toArray⟩] 49).alloc (.cells #[.int .i64 mp, .int .i64 md] 56 (0, 0))
    rw [World.size_alloc, World.size_alloc] at this
    exact this
  · have := Obj?.new (((w.alloc (.cells (dgCs v m) 45 (0, 0))).alloc (.cells (dgCs vx mx) 45 (0, 0))).alloc (.cells #[.int .i64 x.rad, .string ⟨x.node.toArray⟩] 49 (0, 0))) #[.int .i64 mp, .int .i64 md] 56
    rw [World.size_alloc, World.size_alloc, World.size_alloc] at this
    exact this
/-- What the orders of the last region keep. -/
abbrev SCd (V w : World) (m mx : Ms) (va vb : Value) (mp md : Int) (RM : Ms) (vy vz : Value) (b1 b2 : Nat) (UX : Hp) (UM : Ms) (vk vo : Value) (bk bo : Nat) (TM : Ms) (vq vt : Value) (bq bt : Nat) (W : World) : Prop :=
  Below V.heap.size V W ∧ (rowSem 45 ⟨w.heap.size, 0, none⟩).run Tryz.prog W = .ok (.agg (dgCs va m)) W ∧ (rowSem 45 ⟨w.heap.size + 1, 0, none⟩).run Tryz.prog W = .ok (.agg (dgCs vb mx)) W ∧ (∀ j, W.cell? ⟨w.heap.size + 1 + 1 + 1, j, none⟩ = (#[.int .i64 mp, .int .i64 md] : Array Value)[j]?) ∧
    (rowSem 45 ⟨b1, 0, none⟩).run Tryz.prog W = .ok (.agg (dgCs vy RM)) W ∧ (rowSem 45 ⟨b2, 0, none⟩).run Tryz.prog W = .ok (.agg (dgCs vz RM)) W ∧ (rowSem 45 ⟨bk + 1, 0, none⟩).run Tryz.prog W = .ok (.agg (dgCs vk UM)) W ∧ (rowSem 45 ⟨bo + 1, 0, none⟩).run Tryz.prog W = .ok (.agg (dgCs vo UM)) W ∧
    (∀ j, W.cell? ⟨bk, j, none⟩ = (#[.int .i64 UX.rad, .string ⟨UX.node.toArray⟩] : Array Value)[j]?) ∧ (∀ j, W.cell? ⟨bo, j, none⟩ = (#[.int .i64 UX.rad, .string ⟨UX.node.toArray⟩] : Array Value)[j]?) ∧
    (rowSem 45 ⟨bq, 0, none⟩).run Tryz.prog W = .ok (.agg (dgCs vq TM)) W ∧ (rowSem 45 ⟨bt, 0, none⟩).run Tryz.prog W = .ok (.agg (dgCs vt TM)) W
set_option maxRecDepth 100000 in
set_option maxHeartbeats 3200000 in
theorem snwrapCalls_heavy {v vx : Value} {hs hx : List Hp} {m mx : Ms} (x : Hp) (s : List UInt8) (mp md : Int) {w : World} (hH : HopsAt w v hs) (hHx : HopsAt w vx hx) (hmx : Mx w) (hcv : CapOk v) (h : lightD hs m = false ∨ (lightD hs m = true ∧ lightD hx mx = false) ∨ (lightD hs m = true ∧ lightD hx mx = true ∧ 300 < x.node.length) ∨ (lightD hs m = true ∧ lightD hx mx = true ∧ x.node.length ≤ 300 ∧ 400 < s.length)) :
    Calls Tryz.prog 7 #[.agg (dgCs v m), .agg (dgCs vx mx), .agg #[.int .i64 x.rad, .string ⟨x.node.toArray⟩], .string ⟨s.toArray⟩, .agg #[.int .i64 mp, .int .i64 md]] w fun e w' => e = .returned (.bool true) ∧ Below w.heap.size w w' := by
  have HMW := Lib.hid hmx
  have HLV := Lib.hid lives23
  have HLD := Lib.hid (fun W (hB : Below w.heap.size w W) => lightdg_any (m := m) (hH.below hB))
  have HLX := Lib.hid (fun W (hB : Below w.heap.size w W) => lightdg_any (m := mx) (hHx.below hB))
  have HHW := Lib.hid (And.intro hH hHx)
  obtain ⟨W0, hW0, hA⟩ := args_world v vx m mx x mp md w
  have HA0 := Lib.hid hA
  obtain ⟨a0, cap, rfl, -, -, -⟩ := hH
  obtain ⟨a1, cap1, rfl, -, -, -⟩ := hHx
  clear hA hmx
  rcases h with h | ⟨h, h2⟩ | ⟨h, h2, h3⟩ | ⟨h, h2, h3, h4⟩
  case inl => 
    rw [h] at HLD
    clear h
    go_enter Tryz.func7, Tryz.ntmps7
    refine wp_hide fun Q1 hQ1 => ?_
    have HQ1 := Lib.hid hQ1
    clear hQ1
    go_upto_region 1 with fail
    (try rw [hW0])
    clear hW0
    go_wp2_with fail
    refine (HLV.out _ (HMW.out.below HA0.out.2.2.2.2 HMW.out.1)).mono ?_
    rintro r w1 ⟨rfl, hb⟩
    have HA1 := Lib.hid (HA0.out.below hb)
    have hld := load_dg HA1.out.1
    clear hb
    go_wp2_with fail
    refine (HLD.out _ HA1.out.2.2.2.2).mono ?_
    rintro r w2 ⟨rfl, hb⟩
    have HA2 := Lib.hid (HA1.out.below hb)
    clear hb hld
    go_wp2
    refine HQ1.out _ _ _ ?_
    go_ret
    exact ⟨rfl, HA2.out.2.2.2.2⟩
  case inr.inl =>
    rw [h] at HLD
    rw [h2] at HLX
    clear h h2
    go_enter Tryz.func7, Tryz.ntmps7
    refine wp_hide fun Q1 hQ1 => ?_
    have HQ1 := Lib.hid hQ1
    clear hQ1
    go_upto_region 1 with fail
    (try rw [hW0])
    clear hW0
    go_wp2_with fail
    refine (HLV.out _ (HMW.out.below HA0.out.2.2.2.2 HMW.out.1)).mono ?_
    rintro r w1 ⟨rfl, hb⟩
    have HA1 := Lib.hid (HA0.out.below hb)
    have hld := load_dg HA1.out.1
    clear hb
    go_wp2_with fail
    refine (HLD.out _ HA1.out.2.2.2.2).mono ?_
    rintro r w2 ⟨rfl, hb⟩
    have HA2 := Lib.hid (HA1.out.below hb)
    clear hb hld
    have hld := load_dg HA2.out.2.1
    go_wp2_with fail
    refine (HLX.out _ HA2.out.2.2.2.2).mono ?_
    rintro r w3 ⟨rfl, hb⟩
    have HA3 := Lib.hid (HA2.out.below hb)
    clear hb hld
    go_wp2
    refine HQ1.out _ _ _ ?_
    go_ret
    exact ⟨rfl, HA3.out.2.2.2.2⟩
  case inr.inr.inl =>
    rw [h] at HLD
    rw [h2] at HLX
    have d3 : (300 : Int) < x.node.length := by omega
    clear h h2 h3
    go_enter Tryz.func7, Tryz.ntmps7
    refine wp_hide fun Q1 hQ1 => ?_
    have HQ1 := Lib.hid hQ1
    clear hQ1
    go_upto_region 1 with fail
    (try rw [hW0])
    clear hW0
    go_wp2_with fail
    refine (HLV.out _ (HMW.out.below HA0.out.2.2.2.2 HMW.out.1)).mono ?_
    rintro r w1 ⟨rfl, hb⟩
    have HA1 := Lib.hid (HA0.out.below hb)
    have hld := load_dg HA1.out.1
    clear hb
    go_wp2_with fail
    refine (HLD.out _ HA1.out.2.2.2.2).mono ?_
    rintro r w2 ⟨rfl, hb⟩
    have HA2 := Lib.hid (HA1.out.below hb)
    clear hb hld
    have hld := load_dg HA2.out.2.1
    go_wp2_with fail
    refine (HLX.out _ HA2.out.2.2.2.2).mono ?_
    rintro r w3 ⟨rfl, hb⟩
    have HA3 := Lib.hid (HA2.out.below hb)
    clear hb hld
    have kh := HA3.out.2.2.1.cells
    go_wp2
    refine HQ1.out _ _ _ ?_
    go_ret
    exact ⟨rfl, HA3.out.2.2.2.2⟩
  case inr.inr.inr =>
    rw [h] at HLD
    rw [h2] at HLX
    have d3 : ¬ (300 : Int) < x.node.length := by omega
    have d4 : (400 : Int) < s.length := by omega
    clear h h2 h3 h4
    go_enter Tryz.func7, Tryz.ntmps7
    refine wp_hide fun Q1 hQ1 => ?_
    have HQ1 := Lib.hid hQ1
    clear hQ1
    go_upto_region 1 with fail
    (try rw [hW0])
    clear hW0
    go_wp2_with fail
    refine (HLV.out _ (HMW.out.below HA0.out.2.2.2.2 HMW.out.1)).mono ?_
    rintro r w1 ⟨rfl, hb⟩
    have HA1 := Lib.hid (HA0.out.below hb)
    have hld := load_dg HA1.out.1
    clear hb
    go_wp2_with fail
    refine (HLD.out _ HA1.out.2.2.2.2).mono ?_
    rintro r w2 ⟨rfl, hb⟩
    have HA2 := Lib.hid (HA1.out.below hb)
    clear hb hld
    have hld := load_dg HA2.out.2.1
    go_wp2_with fail
    refine (HLX.out _ HA2.out.2.2.2.2).mono ?_
    rintro r w3 ⟨rfl, hb⟩
    have HA3 := Lib.hid (HA2.out.below hb)
    clear hb hld
    have kh := HA3.out.2.2.1.cells
    go_wp2
    refine HQ1.out _ _ _ ?_
    go_ret
    exact ⟨rfl, HA3.out.2.2.2.2⟩
set_option maxRecDepth 100000 in
set_option maxHeartbeats 3200000 in
theorem snwrapCalls_go {v vx : Value} {hs hx : List Hp} {m mx : Ms} (x : Hp) (s : List UInt8) (mp md : Int) {w : World} (hH : HopsAt w v hs) (hHx : HopsAt w vx hx) (hmx : Mx w) (hcv : CapOk v) (h : lightD hs m = true) (h2 : lightD hx mx = true) (h3 : x.node.length ≤ 300) (h4 : s.length ≤ 400) :
    Calls Tryz.prog 7 #[.agg (dgCs v m), .agg (dgCs vx mx), .agg #[.int .i64 x.rad, .string ⟨x.node.toArray⟩], .string ⟨s.toArray⟩, .agg #[.int .i64 mp, .int .i64 md]] w fun e w' => e = .returned (.bool true) ∧ Below w.heap.size w w' := by
  have HMW := Lib.hid hmx
  have HLV := Lib.hid lives23
  have HLD := Lib.hid (fun W (hB : Below w.heap.size w W) => lightdg_any (m := m) (hH.below hB))
  have HLX := Lib.hid (fun W (hB : Below w.heap.size w W) => lightdg_any (m := mx) (hHx.below hB))
  have HHW := Lib.hid (And.intro hH hHx)
  obtain ⟨W0, hW0, hA⟩ := args_world v vx m mx x mp md w
  have HA0 := Lib.hid hA
  have hl : hs.length ≤ 8 ∧ m.name.length ≤ 70000 ∧ m.data.length ≤ 70000 := by
    simp only [lightD, Bool.and_eq_true, decide_eq_true_eq] at h
    exact ⟨h.1.1, light_len h.1.2⟩
  rw [h] at HLD
  rw [h2] at HLX
  have HBy := Lib.hid (fun W (hB : Below w.heap.size w W) => wrapbytes_any (mp := mp) (md := md) (m := m) (hH.below hB) (by omega) (by omega) (HMW.out.below hB HMW.out.1))
  have HBr := Lib.hid (fun W (hB : Below w.heap.size w W) => rwrapbytes_any (mp := mp) (md := md) (m := m) (hH.below hB) (by omega) (by omega))
  have HRd := Lib.hid (fun W (hB : Below w.heap.size w W) => wrapread_any s (by omega) mp md W (HMW.out.below hB HMW.out.1))
  have HRr := Lib.hid (fun W (hB : Below w.heap.size w W) => rwrapread_any s (by omega) mp md W)
  have HUn := Lib.hid (fun W (hB : Below w.heap.size w W) => unwrap_any (m := m) (hH.below hB) hcv (by omega))
  have HUr := Lib.hid (fun W (hB : Below w.heap.size w W) => runwrap_any (m := m) (hH.below hB) hcv (by omega))
  have HWr := Lib.hid (fun W (hB : Below w.heap.size w W) => wrap_tri2 x (m := m) (by omega) (hH.below hB))
  have HWw := Lib.hid (fun W (hB : Below w.heap.size w W) => rwrap_tri2 x (m := m) (by omega) (hH.below hB))
  have HCk := Lib.hid (fun W (hB : Below w.heap.size w W) => wrapcheck_any (mp := mp) (md := md) (m := m) (hH.below hB) (by omega) (by omega) (HMW.out.below hB HMW.out.1))
  have HCr := Lib.hid (fun W (hB : Below w.heap.size w W) => rcheck23_any (mp := mp) (md := md) (m := m) (hH.below hB) (by omega) (by omega))
  have HSm := Lib.hid (fun W (hB : Below w.heap.size w W) => same_any m mx (hH.below hB) (hHx.below hB))
  have HSr := Lib.hid (fun W (hB : Below w.heap.size w W) => rsame23_any m mx (hH.below hB) (hHx.below hB))
  obtain ⟨⟨B, E⟩, hT⟩ : ∃ T, T = wrapB hs m mp md := ⟨_, rfl⟩
  rw [← hT] at HBy HBr HCk HCr
  clear hT
  obtain ⟨⟨RH, RM, RE⟩, hT⟩ : ∃ T, T = wrapR s mp md := ⟨_, rfl⟩
  rw [← hT] at HRd HRr
  clear hT
  obtain ⟨⟨UX, UH, UM, UB⟩, hT⟩ : ∃ T, T = unwrapT hs m := ⟨_, rfl⟩
  rw [← hT] at HUn HUr
  clear hT
  obtain ⟨⟨TH, TM, TE⟩, hT⟩ : ∃ T, T = wrapT2 x hs m := ⟨_, rfl⟩
  rw [← hT] at HWr HWw
  clear hT
  obtain ⟨bs, hT⟩ : ∃ b, b = (decide (m = mx) && decide (hs = hx)) := ⟨_, rfl⟩
  rw [← hT] at HSm HSr
  clear hT
  simp only at HBy HBr HCk HCr HRd HRr HUn HUr HWr HWw
  have d3 : ¬ (300 : Int) < x.node.length := by omega
  have d4 : ¬ (400 : Int) < s.length := by omega
  have q1 : (B == B) = true := by simp
  have q2 : (E == E) = true := by simp
  have q3 : (RE == RE) = true := by simp
  have q4 : (TE == TE) = true := by simp
  have q5 : (UB == UB) = true := by simp
  have q6 : (bs == bs) = true := by simp
  have q7 := fun W => eql_hop UX W
  have HQQ := Lib.hid (And.intro q1 (And.intro q2 (And.intro q3 (And.intro q4 (And.intro q5 (And.intro q6 q7))))))
  clear q1 q2 q3 q4 q5 q6 q7
  obtain ⟨a0, cap, rfl, -, -, -⟩ := hH
  obtain ⟨a1, cap1, rfl, -, -, -⟩ := hHx
  clear hA hmx h h2 h3 h4 hl
  go_enter Tryz.func7, Tryz.ntmps7
  refine wp_hide fun Q1 hQ1 => ?_
  have HQ1 := Lib.hid hQ1
  clear hQ1
  go_upto_region 1 with fail
  (try rw [hW0])
  clear hW0
  go_wp2_with fail
  refine (HLV.out _ (HMW.out.below HA0.out.2.2.2.2 HMW.out.1)).mono ?_
  rintro r w1 ⟨rfl, hb⟩
  have HA1 := Lib.hid (HA0.out.below hb)
  have hld := load_dg HA1.out.1
  clear hb
  go_wp2_with fail
  refine (HLD.out _ HA1.out.2.2.2.2).mono ?_
  rintro r w2 ⟨rfl, hb⟩
  have HA2 := Lib.hid (HA1.out.below hb)
  clear hb hld
  have hld := load_dg HA2.out.2.1
  go_wp2_with fail
  refine (HLX.out _ HA2.out.2.2.2.2).mono ?_
  rintro r w3 ⟨rfl, hb⟩
  have HA3 := Lib.hid (HA2.out.below hb)
  clear hb hld HA0 HA1 HA2 HLD HLX HLV
  have kh := HA3.out.2.2.1.cells
  have hld := load_dg HA3.out.1
  have kl := HA3.out.2.2.2.1.cells
  go_wp2_with fail
  refine (HBy.out _ HA3.out.2.2.2.2).mono ?_
  rintro r w4 ⟨rfl, hb⟩
  have HA4 := Lib.hid (HA3.out.below hb)
  clear hb hld kh kl
  have hld := load_dg HA4.out.1
  have kl := HA4.out.2.2.2.1.cells
  go_wp2_with fail
  refine (HBr.out _ HA4.out.2.2.2.2).mono ?_
  rintro r w5 ⟨rfl, hb⟩
  have HA5 := Lib.hid (HA4.out.below hb)
  clear hb hld kl
  have kl := HA5.out.2.2.2.1.cells
  go_wp2_with fail
  refine (HRd.out _ HA5.out.2.2.2.2).mono ?_
  rintro r w6 ⟨vy, rfl, hHy, hb⟩
  have hst := store_newdg w6 vy RM hHy.one
  have HA6 := Lib.hid (HA5.out.below (below_al hb (.cells (dgCs vy RM) 45 (0, 0))))
  have HY6 := Lib.hid (And.intro (Obj?.new w6 (dgCs vy RM) 45) (hHy.below (below_al (Below.refl _ _) (.cells (dgCs vy RM) 45 (0, 0)))))
  clear hb kl hHy
  go_upto_region 8 with fail
  obtain ⟨V6, hV6⟩ : ∃ V6, V6 = w6.alloc (.cells (dgCs vy RM) 45 (0, 0)) := ⟨_, rfl⟩
  rw [← hV6] at HA6 HY6
  rw [← hV6]
  clear hV6 hst
  obtain ⟨by', hby⟩ : ∃ b, b = w6.heap.size := ⟨_, rfl⟩
  rw [← hby] at HY6
  rw [← hby]
  clear hby
  have kl := HA6.out.2.2.2.1.cells
  go_wp2_with fail
  refine (HRr.out _ HA6.out.2.2.2.2).mono ?_
  rintro r w7 ⟨vz, rfl, hHz, hb⟩
  have hst := store_newdg w7 vz RM hHz.one
  have HB7 := Lib.hid (below_al hb (.cells (dgCs vz RM) 45 (0, 0)))
  have HA7 := Lib.hid (HA6.out.below HB7.out)
  have HZ7 := Lib.hid (And.intro (Obj?.new w7 (dgCs vz RM) 45) (hHz.below (below_al (Below.refl _ _) (.cells (dgCs vz RM) 45 (0, 0)))))
  clear hb kl hHz
  go_upto_region 9 with fail
  obtain ⟨V7, hV7⟩ : ∃ V7, V7 = w7.alloc (.cells (dgCs vz RM) 45 (0, 0)) := ⟨_, rfl⟩
  rw [← hV7] at HA7 HB7 HZ7
  rw [← hV7]
  clear hV7 hst
  obtain ⟨bz, hbz⟩ : ∃ b, b = w7.heap.size := ⟨_, rfl⟩
  rw [← hbz] at HZ7
  rw [← hbz]
  clear hbz
  have hld := load_dg HA7.out.1
  go_wp2_with fail
  refine (HUn.out _ HA7.out.2.2.2.2).mono ?_
  rintro r w8 ⟨vk, rfl, hHk, -, hb⟩
  have hst := store_newdg (w8.alloc (.cells #[.int .i64 UX.rad, .string ⟨UX.node.toArray⟩] 49 (0, 0))) vk UM hHk.one
  rw [World.size_alloc] at hst
  have HB8 := Lib.hid (below_al (below_al hb (.cells #[.int .i64 UX.rad, .string ⟨UX.node.toArray⟩] 49 (0, 0))) (.cells (dgCs vk UM) 45 (0, 0)))
  have HA8 := Lib.hid (HA7.out.below HB8.out)
  have hO := Obj?.new (w8.alloc (.cells #[.int .i64 UX.rad, .string ⟨UX.node.toArray⟩] 49 (0, 0))) (dgCs vk UM) 45
  rw [World.size_alloc] at hO
  have HK8 := Lib.hid (And.intro hO (And.intro (hHk.below (below_al (below_al (Below.refl _ _) (.cells #[.int .i64 UX.rad, .string ⟨UX.node.toArray⟩] 49 (0, 0))) (.cells (dgCs vk UM) 45 (0, 0)))) ((Obj?.new w8 #[.int .i64 UX.rad, .string ⟨UX.node.toArray⟩] 49).alloc (.cells (dgCs vk UM) 45 (0, 0)))))
  clear hb hHk hO hld
  go_upto_region 10 with fail
  obtain ⟨V8, hV8⟩ : ∃ V8, V8 = (w8.alloc (.cells #[.int .i64 UX.rad, .string ⟨UX.node.toArray⟩] 49 (0, 0))).alloc (.cells (dgCs vk UM) 45 (0, 0)) := ⟨_, rfl⟩
  rw [← hV8] at HA8 HB8 HK8
  rw [← hV8]
  clear hV8 hst
  obtain ⟨bk, hbk⟩ : ∃ b, b = w8.heap.size := ⟨_, rfl⟩
  rw [← hbk] at HK8
  rw [← hbk]
  clear hbk
  have hld := load_dg HA8.out.1
  go_wp2_with fail
  refine (HUr.out _ HA8.out.2.2.2.2).mono ?_
  rintro r w9 ⟨vo, rfl, hHo, -, hb⟩
  have hst := store_newdg (w9.alloc (.cells #[.int .i64 UX.rad, .string ⟨UX.node.toArray⟩] 49 (0, 0))) vo UM hHo.one
  rw [World.size_alloc] at hst
  have HB9 := Lib.hid (below_al (below_al hb (.cells #[.int .i64 UX.rad, .string ⟨UX.node.toArray⟩] 49 (0, 0))) (.cells (dgCs vo UM) 45 (0, 0)))
  have HA9 := Lib.hid (HA8.out.below HB9.out)
  have hO := Obj?.new (w9.alloc (.cells #[.int .i64 UX.rad, .string ⟨UX.node.toArray⟩] 49 (0, 0))) (dgCs vo UM) 45
  rw [World.size_alloc] at hO
  have HK9 := Lib.hid (And.intro hO (And.intro (hHo.below (below_al (below_al (Below.refl _ _) (.cells #[.int .i64 UX.rad, .string ⟨UX.node.toArray⟩] 49 (0, 0))) (.cells (dgCs vo UM) 45 (0, 0)))) ((Obj?.new w9 #[.int .i64 UX.rad, .string ⟨UX.node.toArray⟩] 49).alloc (.cells (dgCs vo UM) 45 (0, 0)))))
  clear hb hHo hO hld
  go_upto_region 11 with fail
  obtain ⟨V9, hV9⟩ : ∃ V9, V9 = (w9.alloc (.cells #[.int .i64 UX.rad, .string ⟨UX.node.toArray⟩] 49 (0, 0))).alloc (.cells (dgCs vo UM) 45 (0, 0)) := ⟨_, rfl⟩
  rw [← hV9] at HA9 HB9 HK9
  rw [← hV9]
  clear hV9 hst
  obtain ⟨bo, hbo⟩ : ∃ b, b = w9.heap.size := ⟨_, rfl⟩
  rw [← hbo] at HK9
  rw [← hbo]
  clear hbo
  have hld := load_dg HA9.out.1
  have kh := HA9.out.2.2.1.cells
  go_wp2_with fail
  refine (HWr.out _ HA9.out.2.2.2.2).mono ?_
  rintro r w10 ⟨vq, rfl, hHq, -, hb⟩
  have hst := store_newdg w10 vq TM hHq.one
  have HB10 := Lib.hid (below_al hb (.cells (dgCs vq TM) 45 (0, 0)))
  have HA10 := Lib.hid (HA9.out.below HB10.out)
  have HQ10 := Lib.hid (And.intro (Obj?.new w10 (dgCs vq TM) 45) (hHq.below (below_al (Below.refl _ _) (.cells (dgCs vq TM) 45 (0, 0)))))
  clear hb hHq hld kh
  go_upto_region 12 with fail
  obtain ⟨V10, hV10⟩ : ∃ V10, V10 = w10.alloc (.cells (dgCs vq TM) 45 (0, 0)) := ⟨_, rfl⟩
  rw [← hV10] at HA10 HB10 HQ10
  rw [← hV10]
  clear hV10 hst
  obtain ⟨bq, hbq⟩ : ∃ b, b = w10.heap.size := ⟨_, rfl⟩
  rw [← hbq] at HQ10
  rw [← hbq]
  clear hbq
  have hld := load_dg HA10.out.1
  have kh := HA10.out.2.2.1.cells
  go_wp2_with fail
  refine (HWw.out _ HA10.out.2.2.2.2).mono ?_
  rintro r w11 ⟨vt, rfl, hHt, -, hb⟩
  have hst := store_newdg w11 vt TM hHt.one
  have HB11 := Lib.hid (below_al hb (.cells (dgCs vt TM) 45 (0, 0)))
  have HA11 := Lib.hid (HA10.out.below HB11.out)
  have HT11 := Lib.hid (And.intro (Obj?.new w11 (dgCs vt TM) 45) (hHt.below (below_al (Below.refl _ _) (.cells (dgCs vt TM) 45 (0, 0)))))
  clear hb hHt hld kh
  go_upto_region 13 with fail
  (try dsimp only [List.append])
  obtain ⟨V11, hV11⟩ : ∃ V11, V11 = w11.alloc (.cells (dgCs vt TM) 45 (0, 0)) := ⟨_, rfl⟩
  rw [← hV11] at HA11 HB11 HT11
  rw [← hV11]
  clear hV11 hst
  obtain ⟨bt, hbt⟩ : ∃ b, b = w11.heap.size := ⟨_, rfl⟩
  rw [← hbt] at HT11
  rw [← hbt]
  clear hbt
  have b11 := HB11.out
  have b10 := HB10.out.trans (b11.mono HB10.out.size)
  have b9 := HB9.out.trans (b10.mono HB9.out.size)
  have b8 := HB8.out.trans (b9.mono HB8.out.size)
  have b7 := HB7.out.trans (b8.mono HB7.out.size)
  have FY := And.intro (HY6.out.1.below b7 HY6.out.1.lt) (HY6.out.2.below b7)
  have FZ := And.intro (HZ7.out.1.below b8 HZ7.out.1.lt) (HZ7.out.2.below b8)
  have FK := And.intro (HK8.out.1.below b9 HK8.out.1.lt) (And.intro (HK8.out.2.1.below b9) (HK8.out.2.2.below b9 HK8.out.2.2.lt))
  have FO := And.intro (HK9.out.1.below b10 HK9.out.1.lt) (And.intro (HK9.out.2.1.below b10) (HK9.out.2.2.below b10 HK9.out.2.2.lt))
  have FQ := And.intro (HQ10.out.1.below b11 HQ10.out.1.lt) (HQ10.out.2.below b11)
  have FT := HT11.out
  have HFF := Lib.hid (And.intro FY (And.intro FZ (And.intro FK (And.intro FO (And.intro FQ FT)))))
  clear FY FZ FK FO FQ FT b7 b8 b9 b10 b11 HB7 HB8 HB9 HB10 HB11 HY6 HZ7 HK8 HK9 HQ10 HT11 HA10 HA9 HA8 HA7 HA6 HA5 HA4 HA3 HBy HBr HRd HRr HUn HUr HWr HWw
  have HSD1 := Lib.hid (show ∀ W, Below V11.heap.size V11 W → Calls Tryz.prog 39 #[.agg (dgCs vy RM), .agg (dgCs vz RM)] W fun e w' => e = .returned (.bool true) ∧ Below W.heap.size W w' from fun W hW => samedg_eq RM (HFF.out.1.2.below hW) (HFF.out.2.1.2.below hW))
  have HSD2 := Lib.hid (show ∀ W, Below V11.heap.size V11 W → Calls Tryz.prog 39 #[.agg (dgCs vk UM), .agg (dgCs vo UM)] W fun e w' => e = .returned (.bool true) ∧ Below W.heap.size W w' from fun W hW => samedg_eq UM (HFF.out.2.2.1.2.1.below hW) (HFF.out.2.2.2.1.2.1.below hW))
  have HSD3 := Lib.hid (show ∀ W, Below V11.heap.size V11 W → Calls Tryz.prog 39 #[.agg (dgCs vq TM), .agg (dgCs vt TM)] W fun e w' => e = .returned (.bool true) ∧ Below W.heap.size W w' from fun W hW => samedg_eq TM (HFF.out.2.2.2.2.1.2.below hW) (HFF.out.2.2.2.2.2.2.below hW))
  have HBW := Lib.hid (fun W (hW : Below V11.heap.size V11 W) => HA11.out.2.2.2.2.trans (hW.mono HA11.out.2.2.2.2.size))
  have HSF := Lib.hid (show ∀ W, Below V11.heap.size V11 W → SCd V11 w m mx (.slice a0 hs.length cap) (.slice a1 hx.length cap1) mp md RM vy vz by' bz UX UM vk vo bk bo TM vq vt bq bt W from fun W hW =>
    ⟨hW, load_dg (HA11.out.1.below hW HA11.out.1.lt), load_dg (HA11.out.2.1.below hW HA11.out.2.1.lt), (HA11.out.2.2.2.1.below hW HA11.out.2.2.2.1.lt).cells, load_dg (HFF.out.1.1.below hW HFF.out.1.1.lt), load_dg (HFF.out.2.1.1.below hW HFF.out.2.1.1.lt),
      load_dg (HFF.out.2.2.1.1.below hW HFF.out.2.2.1.1.lt), load_dg (HFF.out.2.2.2.1.1.below hW HFF.out.2.2.2.1.1.lt), (HFF.out.2.2.1.2.2.below hW HFF.out.2.2.1.2.2.lt).cells, (HFF.out.2.2.2.1.2.2.below hW HFF.out.2.2.2.1.2.2.lt).cells,
      load_dg (HFF.out.2.2.2.2.1.1.below hW HFF.out.2.2.2.2.1.1.lt), load_dg (HFF.out.2.2.2.2.2.1.below hW HFF.out.2.2.2.2.2.1.lt)⟩)
  obtain ⟨q1, q2, q3, q4, q5, q6, q7⟩ := HQQ.out
  have hS0 := HSF.out V11 (Below.refl _ _)
  have hS1 := HSF.out V11.drew (below_grown (quiet_grown ⟨1, rfl⟩ none))
  go_region_held3 (fun W => Below V11.heap.size V11 W ∧ (rowSem 45 ⟨w.heap.size, 0, none⟩).run Tryz.prog W = .ok (.agg (dgCs (.slice a0 hs.length cap) m)) W ∧ (rowSem 45 ⟨w.heap.size + 1, 0, none⟩).run Tryz.prog W = .ok (.agg (dgCs (.slice a1 hx.length cap1) mx)) W ∧ (∀ j, W.cell? ⟨w.heap.size + 1 + 1 + 1, j, none⟩ = (#[.int .i64 mp, .int .i64 md] : Array Value)[j]?) ∧
    (rowSem 45 ⟨by', 0, none⟩).run Tryz.prog W = .ok (.agg (dgCs vy RM)) W ∧ (rowSem 45 ⟨bz, 0, none⟩).run Tryz.prog W = .ok (.agg (dgCs vz RM)) W ∧ (rowSem 45 ⟨bk + 1, 0, none⟩).run Tryz.prog W = .ok (.agg (dgCs vk UM)) W ∧ (rowSem 45 ⟨bo + 1, 0, none⟩).run Tryz.prog W = .ok (.agg (dgCs vo UM)) W ∧
    (∀ j, W.cell? ⟨bk, j, none⟩ = (#[.int .i64 UX.rad, .string ⟨UX.node.toArray⟩] : Array Value)[j]?) ∧ (∀ j, W.cell? ⟨bo, j, none⟩ = (#[.int .i64 UX.rad, .string ⟨UX.node.toArray⟩] : Array Value)[j]?) ∧
    (rowSem 45 ⟨bq, 0, none⟩).run Tryz.prog W = .ok (.agg (dgCs vq TM)) W ∧ (rowSem 45 ⟨bt, 0, none⟩).run Tryz.prog W = .ok (.agg (dgCs vt TM)) W)
    ((first | assumption | exact HSF.out _ (below_step (by assumption) (below_grown (quiet_grown ⟨1, rfl⟩ none)))))
    ((go_split_ands; first
        | (go_at_call 32; ((with_reducible refine (HCk.out _ (HBW.out _ (by assumption))).mono ?_); (rintro e w' ⟨rfl, hb⟩; have hS := HSF.out _ (below_step (by assumption) hb))))
        | (go_at_call 40; ((with_reducible refine (HCr.out _ (HBW.out _ (by assumption))).mono ?_); (rintro e w' ⟨rfl, hb⟩; have hS := HSF.out _ (below_step (by assumption) hb))))
        | (go_at_call 27; ((with_reducible refine (HSm.out _ (HBW.out _ (by assumption))).mono ?_); (rintro e w' ⟨rfl, hb⟩; have hS := HSF.out _ (below_step (by assumption) hb))))
        | (go_at_call 41; ((with_reducible refine (HSr.out _ (HBW.out _ (by assumption))).mono ?_); (rintro e w' ⟨rfl, hb⟩; have hS := HSF.out _ (below_step (by assumption) hb))))
        | (go_at_call 39; ((with_reducible refine (HSD1.out _ (by assumption)).mono ?_); (rintro e w' ⟨rfl, hb⟩; have hS := HSF.out _ (below_step (by assumption) hb))))
        | (go_at_call 39; ((with_reducible refine (HSD2.out _ (by assumption)).mono ?_); (rintro e w' ⟨rfl, hb⟩; have hS := HSF.out _ (below_step (by assumption) hb))))
        | (go_at_call 39; ((with_reducible refine (HSD3.out _ (by assumption)).mono ?_); (rintro e w' ⟨rfl, hb⟩; have hS := HSF.out _ (below_step (by assumption) hb))))))
  all_goals
    go_wp2_with fail
    refine HQ1.out _ _ _ ?_
    go_ret
    exact ⟨rfl, HBW.out _ (by first | assumption | exact hS.1)⟩
theorem snwrapCalls_walk {v vx : Value} {hs hx : List Hp} {m mx : Ms} (x : Hp) (s : List UInt8) (mp md : Int) {w : World} (hH : HopsAt w v hs) (hHx : HopsAt w vx hx) (hmx : Mx w) (hcv : CapOk v) :
    Calls Tryz.prog 7 #[.agg (dgCs v m), .agg (dgCs vx mx), .agg #[.int .i64 x.rad, .string ⟨x.node.toArray⟩], .string ⟨s.toArray⟩, .agg #[.int .i64 mp, .int .i64 md]] w fun e w' => e = .returned (.bool true) ∧ Below w.heap.size w w' := by
  cases h : lightD hs m with
  | false => exact snwrapCalls_heavy x s mp md hH hHx hmx hcv (.inl h)
  | true =>
    cases h2 : lightD hx mx with
    | false => exact snwrapCalls_heavy x s mp md hH hHx hmx hcv (.inr (.inl ⟨h, h2⟩))
    | true =>
      by_cases h3 : 300 < x.node.length
      · exact snwrapCalls_heavy x s mp md hH hHx hmx hcv (.inr (.inr (.inl ⟨h, h2, h3⟩)))
      by_cases h4 : 400 < s.length
      · exact snwrapCalls_heavy x s mp md hH hHx hmx hcv (.inr (.inr (.inr ⟨h, h2, by omega, h4⟩)))
      · exact snwrapCalls_go x s mp md hH hHx hmx hcv h h2 (by omega) (by omega)
end Go.Proofs.YtbacnaplpfmpnaaGreatDoor
