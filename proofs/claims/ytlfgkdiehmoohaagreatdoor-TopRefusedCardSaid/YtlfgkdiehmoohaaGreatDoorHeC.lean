/- head.Copy. -/
import Derived.Test.YtlfgkdiehmoohaaGreatDoorHeB
namespace Go.Proofs.YtlfgkdiehmoohaaGreatDoor
open Go Go.RowKit
set_option linter.unusedVariables false
set_option linter.unusedSimpArgs false
attribute [local go_sem ↓] load_Pk store_Pk load_Wl
attribute [local irreducible] rowSem rowStore

theorem results_cell1 {fn : Func} {p : Tmp} {ty : TypeId} (h : fn.results = #[.cell p ty]) (tmps : Array Value) (P : Program) (w : World) :
    (results fn tmps).run P w = ((asAddr (tmps.getD p undef)).run P w).andThen fun a w₁ => (loadVar ty a).run P w₁ := by
  simp only [results, h]
  simp [Sem.run_bind, Result.andThen]
theorem results_row1 {P : Program} {fn : Func} {p : Tmp} {ty : TypeId} (h : fn.results = #[.cell p ty]) (tmps : Array Value) (w : World) (g : Nat) (t : TypeId) (cs : Array Value) (d : TypeDesc)
    (hp : tmps.getD p undef = .pointer (some ⟨g, 0, none⟩)) (hg : Obj? w g cs t)
    (hu : P.underlying ty = some d) (hd : (match d with | .struct _ | .array _ _ => true | _ => false) = true) (hi : (P.info? ty).map (·.size) = some cs.size) :
    (results fn tmps).run P w = .ok (.agg cs) w := by
  rw [results_cell1 h, hp]
  simp [asAddr, Result.andThen, run_loadVar_row w g t ty cs (0, 0) d hg hu hd hi]
theorem drew_stph {A B : World} (hb : Below A.drew.heap.size A.drew B) : Below A.heap.size A B := (below_grown (quiet_grown ⟨1, rfl⟩ none)).trans (hb.mono (Nat.le_refl _))
theorem below_thenh {w W w' : World} (h : Below w.heap.size w W) (hb : Below W.heap.size W w') : Below w.heap.size w w' := h.trans (hb.mono h.size)
theorem obj_set_ne {w : World} {b g j : Nat} {u : Value} {cs : Array Value} {t : TypeId} (h : Obj? w b cs t) (hne : b ≠ g) : Obj? (w.setCell ⟨g, j, none⟩ u) b cs t := by
  unfold Obj? at *
  rw [Below.heap_setCell w _ u b hne]
  exact h
/-- What Copy has at hand: the box, the result's place, and the memory before it as it was. -/
structure CopyAt (w : World) (p : Pk) (vw vc vf vp : Value) (W : World) : Prop where
  box : Obj? W w.heap.size (pkCs p vw vc vf vp) 55
  res : Obj? W (w.heap.size + 1) #[.int .i64 0, .bool false, .bool false, .int .i64 0, .int .i64 0, .string ⟨#[]⟩, .string ⟨#[]⟩, .bool false, .int .i64 0, .string ⟨#[]⟩, .bool false, .string ⟨#[]⟩, .bool false, .string ⟨#[]⟩, .bool false, .string ⟨#[]⟩, .string ⟨#[]⟩, .int .i64 0, .bool false, .slice none 0 0, .bool false, .int .i64 0, .slice none 0 0, .slice none 0 0, .slice none 0 0] 55
  bel : Below w.heap.size w W
theorem CopyAt.below {w : World} {p : Pk} {vw vc vf vp : Value} {A B : World} (h : CopyAt w p vw vc vf vp A) (hb : Below A.heap.size A B) : CopyAt w p vw vc vf vp B :=
  ⟨h.box.below hb h.box.lt, h.res.below hb h.res.lt, below_thenh h.bel hb⟩
theorem CopyAt.size {w : World} {p : Pk} {vw vc vf vp : Value} {W : World} (h : CopyAt w p vw vc vf vp W) : w.heap.size + 2 ≤ W.heap.size := h.res.lt
/-- A list in memory of its own. -/
def OwnL (w : World) {X : Type} (cs : X → Array Value) (z : Nat) (t : TypeId) (v : Value) (xs : List X) (W : World) : Prop := W.ownsRow (w.heap.size + 2) t z v xs.length (flatC cs xs)
theorem OwnL.below {w : World} {X : Type} {cs : X → Array Value} {z : Nat} {t : TypeId} {v : Value} {xs : List X} {A B : World} (h : OwnL w cs z t v xs A) (hb : Below A.heap.size A B) : OwnL w cs z t v xs B := row_belowh h hb
theorem OwnL.set {w : World} {X : Type} {cs : X → Array Value} {z : Nat} {t : TypeId} {v : Value} {xs : List X} {A : World} (h : OwnL w cs z t v xs A) (j : Nat) (u : Value) : OwnL w cs z t v xs (A.setCell ⟨w.heap.size, j, none⟩ u) := ownsRow_setCell_below (a := ⟨w.heap.size, j, none⟩) h (show w.heap.size < w.heap.size + 2 by omega) u
theorem OwnL.of {w : World} {X : Type} {cs : X → Array Value} {z : Nat} {t : TypeId} {v : Value} {xs : List X} {A W : World} (h : W.ownsRow A.heap.size t z v xs.length (flatC cs xs)) (hA : w.heap.size + 2 ≤ A.heap.size) : OwnL w cs z t v xs W := row_monoh h hA
theorem OwnL.one {w : World} {X : Type} {cs : X → Array Value} {z : Nat} {t : TypeId} {v : Value} {xs : List X} {A : World} (h : OwnL w cs z t v xs A) : v.oneCell' = true := by
  rcases h.2 with ⟨rfl, -⟩ | ⟨g, cap, cur, rfl, -⟩ <;> rfl
theorem OwnL.row {w : World} {X : Type} {cs : X → Array Value} {z : Nat} {t : TypeId} {v : Value} {xs : List X} {A : World} (h : OwnL w cs z t v xs A) (C : Array Value) : OwnL w cs z t v xs (A.setRow (w.heap.size + 1) C) := by
  rcases h with ⟨h0, ⟨rfl, h1⟩ | ⟨g, cap, cur, rfl, h2, h3, h4⟩⟩
  · exact ⟨h0, .inl ⟨rfl, h1⟩⟩
  · exact ⟨h0, .inr ⟨g, cap, cur, rfl, h2, by rw [setRow_other A (w.heap.size + 1) g C (by omega)]; exact h3, h4⟩⟩
/-- Two fields of the box are stored. -/
theorem CopyAt.two {w : World} {p : Pk} {vw vc vf vp : Value} {W : World} (h : CopyAt w p vw vc vf vp W) (vc' vf' : Value) : CopyAt w p vw vc' vf' vp ((W.setCell ⟨w.heap.size, 22, none⟩ vc').setCell ⟨w.heap.size, 23, none⟩ vf') :=
  ⟨(h.box.set 22 vc').set 23 vf', obj_set_ne (obj_set_ne h.res (by omega)) (by omega), (h.bel.setCell (Nat.le_refl _) _).setCell (Nat.le_refl _) _⟩
theorem CopyAt.two' {w : World} {p : Pk} {vw vc vf vp : Value} {W : World} (h : CopyAt w p vw vc vf vp W) (vc' vf' : Value) : CopyAt w p vw vc' vf' vp ((W.setCell ⟨w.heap.size, 23, none⟩ vf').setCell ⟨w.heap.size, 22, none⟩ vc') :=
  ⟨(h.box.set 23 vf').set 22 vc', obj_set_ne (obj_set_ne h.res (by omega)) (by omega), (h.bel.setCell (Nat.le_refl _) _).setCell (Nat.le_refl _) _⟩
theorem CopyAt.twp {w : World} {p : Pk} {vw vc vf vp : Value} {W : World} (h : CopyAt w p vw vc vf vp W) (vp' vw' : Value) : CopyAt w p vw' vc vf vp' ((W.setCell ⟨w.heap.size, 24, none⟩ vp').setCell ⟨w.heap.size, 19, none⟩ vw') :=
  ⟨(h.box.set 24 vp').set 19 vw', obj_set_ne (obj_set_ne h.res (by omega)) (by omega), (h.bel.setCell (Nat.le_refl _) _).setCell (Nat.le_refl _) _⟩
theorem CopyAt.twp' {w : World} {p : Pk} {vw vc vf vp : Value} {W : World} (h : CopyAt w p vw vc vf vp W) (vp' vw' : Value) : CopyAt w p vw' vc vf vp' ((W.setCell ⟨w.heap.size, 19, none⟩ vw').setCell ⟨w.heap.size, 24, none⟩ vp') :=
  ⟨(h.box.set 19 vw').set 24 vp', obj_set_ne (obj_set_ne h.res (by omega)) (by omega), (h.bel.setCell (Nat.le_refl _) _).setCell (Nat.le_refl _) _⟩
/-- What Copy answers. -/
def CopySaid (w : World) (p : Pk) (e : Ending) (w' : World) : Prop :=
  ∃ vw vc vf vp, e = .returned (.agg (pkCs p vw vc vf vp)) ∧ w'.ownsRow (w.heap.size + 2) 192 4 vw p.w.props.length (flatC Pp.cs p.w.props) ∧ PkAt w' p vw vc vf vp ∧ Below w.heap.size w w'
theorem copy_world (p : Pk) (vw vc vf vp : Value) (w : World) : ∃ W0, (w.alloc (.cells (pkCs p vw vc vf vp) 55 (0, 0))).alloc (.cells #[.int .i64 0, .bool false, .bool false, .int .i64 0, .int .i64 0, .string ⟨#[]⟩, .string ⟨#[]⟩, .bool false, .int .i64 0, .string ⟨#[]⟩, .bool false, .string ⟨#[]⟩, .bool false, .string ⟨#[]⟩, .bool false, .string ⟨#[]⟩, .string ⟨#[]⟩, .int .i64 0, .bool false, .slice none 0 0, .bool false, .int .i64 0, .slice none 0 0, .slice none 0 0, .slice none 0 0] 55 (0, 0)) = W0 ∧ CopyAt w p vw vc vf vp W0 := by
  refine ⟨_, rfl, (Obj?.new w _ _).alloc _, ?_, below_al (below_al (Below.refl _ w) _) _⟩
  have := Obj?.new (w.alloc (.cells (pkCs p vw vc vf vp) 55 (0, 0))) #[.int .i64 0, .bool false, .bool false, .int .i64 0, .int .i64 0, .string ⟨#[]⟩, .string ⟨#[]⟩, .bool false, .int .i64 0, .string ⟨#[]⟩, .bool false, .string ⟨#[]⟩, .bool false, .string ⟨#[]⟩, .bool false, .string ⟨#[]⟩, .string ⟨#[]⟩, .int .i64 0, .bool false, .slice none 0 0, .bool false, .int .i64 0, .slice none 0 0, .slice none 0 0, .slice none 0 0] 55
  rw [World.size_alloc] at this
  exact this
set_option maxRecDepth 100000 in
set_option maxHeartbeats 3200000 in
theorem copy_any {p : Pk} {vw vc vf vp : Value} {w : World} (hP : PkAt w p vw vc vf vp) (hs : PkSmall p) : Calls Tryz.prog 300 #[.agg (pkCs p vw vc vf vp)] w (CopySaid w p) := by
  obtain ⟨W0, hW0, hC0⟩ := copy_world p vw vc vf vp w
  have HC0 := Lib.hid hC0
  have HSm := Lib.hid hs
  have HCi := Lib.hid (fun W (h : Hid (CopyAt w p vw vc vf vp W)) => clone_in (hP.rc.below h.out.bel) hs.lc)
  have HCf := Lib.hid (fun W (h : Hid (CopyAt w p vw vc vf vp W)) => clone_ft (hP.rf.below h.out.bel) hs.lf)
  have HCp := Lib.hid (fun W (h : ∃ vc' vf', Hid (CopyAt w p vw vc' vf' vp W)) => clone_pp (hP.rp.below h.choose_spec.choose_spec.out.bel) hs.lp)
  have HCw := Lib.hid (fun W (h : ∃ vc' vf', Hid (CopyAt w p vw vc' vf' vp W)) => clone_pp (hP.rw'.below h.choose_spec.choose_spec.out.bel) hs.lw)
  clear hP hs hC0
  go_enter Tryz.func300, Tryz.ntmps300
  go_upto_region 1 with fail
  (try rw [hW0])
  clear hW0
  have HD0 := Lib.hid (HC0.out.below (below_grown (quiet_grown ⟨1, rfl⟩ none) : Below W0.heap.size W0 W0.drew))
  have k0 := HC0.out.box.cells
  unfold pkCs at k0
  go_cut [10] from 3 to 10 (fun (_ : Value) (wx : World) => ∃ vc' vf', Hid (CopyAt w p vw vc' vf' vp wx ∧ OwnL w intCs 1 3 vc' p.codes wx ∧ OwnL w Ft.cs 5 157 vf' p.filters wx))
  case first =>
    go_region_with ((first
      | (go_at_call 302; ((with_reducible refine (HCi.out _ HD0).mono ?_); (rintro r w2 ⟨vc', rfl, ho2, hb2⟩; obtain ⟨ac, cc, hvc⟩ := owns_shape (by decide) ho2; subst hvc; have HD2 := Lib.hid (HD0.out.below hb2); have HO2 := Lib.hid (OwnL.of ho2 HD0.out.size); have k2 := HD2.out.box.cells; unfold pkCs at k2; clear ho2 hb2)))
      | (go_at_call 303; ((with_reducible refine (HCf.out _ HD0).mono ?_); (rintro r w2 ⟨vf', rfl, ho2, hb2⟩; obtain ⟨af, cf, hvf⟩ := owns_shape (by decide) ho2; subst hvf; have HD2 := Lib.hid (HD0.out.below hb2); have HO2 := Lib.hid (OwnL.of ho2 HD0.out.size); have k2 := HD2.out.box.cells; unfold pkCs at k2; clear ho2 hb2)))
      | (go_at_call 302; ((with_reducible refine (HCi.out _ HD2).mono ?_); (rintro r w3 ⟨vc', rfl, ho3, hb3⟩; obtain ⟨ac, cc, hvc⟩ := owns_shape (by decide) ho3; subst hvc; have HD3 := Lib.hid (HD2.out.below hb3); have HO3 := Lib.hid (And.intro (OwnL.of ho3 HD2.out.size) (HO2.out.below hb3)); have k3 := HD3.out.box.cells; unfold pkCs at k3; have f3 := HD3.out.box.froz; have o4 : Obj? (w3.setCell ⟨w.heap.size, 22, none⟩ (.slice ac p.codes.length cc)) w.heap.size (pkCs p vw (.slice ac p.codes.length cc) vf vp) 55 := HD3.out.box.set 22 (.slice ac p.codes.length cc); have k4 := o4.cells; unfold pkCs at k4; have f4 := o4.froz; have o5 : Obj? (w3.setCell ⟨w.heap.size, 23, none⟩ (.slice af p.filters.length cf)) w.heap.size (pkCs p vw vc (.slice af p.filters.length cf) vp) 55 := HD3.out.box.set 23 (.slice af p.filters.length cf); have k5 := o5.cells; unfold pkCs at k5; have f5 := o5.froz; clear o4 o5; clear ho3 hb3)))
      | (go_at_call 303; ((with_reducible refine (HCf.out _ HD2).mono ?_); (rintro r w3 ⟨vf', rfl, ho3, hb3⟩; obtain ⟨af, cf, hvf⟩ := owns_shape (by decide) ho3; subst hvf; have HD3 := Lib.hid (HD2.out.below hb3); have HO3 := Lib.hid (And.intro (HO2.out.below hb3) (OwnL.of ho3 HD2.out.size)); have k3 := HD3.out.box.cells; unfold pkCs at k3; have f3 := HD3.out.box.froz; have o4 : Obj? (w3.setCell ⟨w.heap.size, 22, none⟩ (.slice ac p.codes.length cc)) w.heap.size (pkCs p vw (.slice ac p.codes.length cc) vf vp) 55 := HD3.out.box.set 22 (.slice ac p.codes.length cc); have k4 := o4.cells; unfold pkCs at k4; have f4 := o4.froz; have o5 : Obj? (w3.setCell ⟨w.heap.size, 23, none⟩ (.slice af p.filters.length cf)) w.heap.size (pkCs p vw vc (.slice af p.filters.length cf) vp) 55 := HD3.out.box.set 23 (.slice af p.filters.length cf); have k5 := o5.cells; unfold pkCs at k5; have f5 := o5.froz; clear o4 o5; clear ho3 hb3)))))
    all_goals
      go_wp2_with fail
      go_meet
      first
        | exact ⟨_, _, Lib.hid ⟨HD3.out.two _ _, (HO3.out.1.set 22 _).set 23 _, (HO3.out.2.set 22 _).set 23 _⟩⟩
        | exact ⟨_, _, Lib.hid ⟨HD3.out.two' _ _, (HO3.out.1.set 23 _).set 22 _, (HO3.out.2.set 23 _).set 22 _⟩⟩
  case rest =>
  obtain ⟨vc', vf', HA1⟩ := hcut
  have HC1 := Lib.hid HA1.out.1
  have HD1 := Lib.hid (HC1.out.below (below_grown (quiet_grown ⟨1, rfl⟩ none) : Below wc.heap.size wc wc.drew))
  have k1 := HC1.out.box.cells
  unfold pkCs at k1
  clear k0 HC0 HD0
  go_upto_region 2 with fail
  go_cut [20] from 11 to 20 (fun (_ : Value) (wx : World) => ∃ vp' vw', Hid (CopyAt w p vw' vc' vf' vp' wx ∧ OwnL w intCs 1 3 vc' p.codes wx ∧ OwnL w Ft.cs 5 157 vf' p.filters wx ∧ OwnL w Pp.cs 4 192 vp' p.props wx ∧ OwnL w Pp.cs 4 192 vw' p.w.props wx))
  case first =>
    go_region_with ((first
      | (go_at_call 298; ((with_reducible refine (HCp.out _ ⟨_, _, HD1⟩).mono ?_); (rintro r w2 ⟨vp', rfl, ho2, hb2⟩; obtain ⟨ap, cp, hvp⟩ := owns_shape (by decide) ho2; subst hvp; have HD2 := Lib.hid (HD1.out.below hb2); have HO2 := Lib.hid (OwnL.of ho2 HD1.out.size); have k2 := HD2.out.box.cells; unfold pkCs at k2; have HOO := Lib.hid (And.intro ((HA1.out.2.1.below (below_grown (quiet_grown ⟨1, rfl⟩ none) : Below wc.heap.size wc wc.drew)).below hb2) ((HA1.out.2.2.below (below_grown (quiet_grown ⟨1, rfl⟩ none) : Below wc.heap.size wc wc.drew)).below hb2)); clear ho2 hb2)))
      | (go_at_call 298; ((with_reducible refine (HCw.out _ ⟨_, _, HD1⟩).mono ?_); (rintro r w2 ⟨vw', rfl, ho2, hb2⟩; obtain ⟨aw, cw, hvw⟩ := owns_shape (by decide) ho2; subst hvw; have HD2 := Lib.hid (HD1.out.below hb2); have HO2 := Lib.hid (OwnL.of ho2 HD1.out.size); have k2 := HD2.out.box.cells; unfold pkCs at k2; have HOO := Lib.hid (And.intro ((HA1.out.2.1.below (below_grown (quiet_grown ⟨1, rfl⟩ none) : Below wc.heap.size wc wc.drew)).below hb2) ((HA1.out.2.2.below (below_grown (quiet_grown ⟨1, rfl⟩ none) : Below wc.heap.size wc wc.drew)).below hb2)); clear ho2 hb2)))
      | (go_at_call 298; ((with_reducible refine (HCp.out _ ⟨_, _, HD2⟩).mono ?_); (rintro r w3 ⟨vp', rfl, ho3, hb3⟩; obtain ⟨ap, cp, hvp⟩ := owns_shape (by decide) ho3; subst hvp; have HD3 := Lib.hid (HD2.out.below hb3); have HO3 := Lib.hid (And.intro (HOO.out.1.below hb3) (And.intro (HOO.out.2.below hb3) (And.intro (OwnL.of ho3 HD2.out.size) (HO2.out.below hb3)))); have k3 := HD3.out.box.cells; unfold pkCs at k3; have f3 := HD3.out.box.froz; have o4 : Obj? (w3.setCell ⟨w.heap.size, 24, none⟩ (.slice ap p.props.length cp)) w.heap.size (pkCs p vw vc' vf' (.slice ap p.props.length cp)) 55 := HD3.out.box.set 24 (.slice ap p.props.length cp); have k4 := o4.cells; unfold pkCs at k4; have f4 := o4.froz; have o5 : Obj? (w3.setCell ⟨w.heap.size, 19, none⟩ (.slice aw p.w.props.length cw)) w.heap.size (pkCs p (.slice aw p.w.props.length cw) vc' vf' vp) 55 := HD3.out.box.set 19 (.slice aw p.w.props.length cw); have k5 := o5.cells; unfold pkCs at k5; have f5 := o5.froz; clear o4 o5; clear ho3 hb3)))
      | (go_at_call 298; ((with_reducible refine (HCw.out _ ⟨_, _, HD2⟩).mono ?_); (rintro r w3 ⟨vw', rfl, ho3, hb3⟩; obtain ⟨aw, cw, hvw⟩ := owns_shape (by decide) ho3; subst hvw; have HD3 := Lib.hid (HD2.out.below hb3); have HO3 := Lib.hid (And.intro (HOO.out.1.below hb3) (And.intro (HOO.out.2.below hb3) (And.intro (HO2.out.below hb3) (OwnL.of ho3 HD2.out.size)))); have k3 := HD3.out.box.cells; unfold pkCs at k3; have f3 := HD3.out.box.froz; have o4 : Obj? (w3.setCell ⟨w.heap.size, 24, none⟩ (.slice ap p.props.length cp)) w.heap.size (pkCs p vw vc' vf' (.slice ap p.props.length cp)) 55 := HD3.out.box.set 24 (.slice ap p.props.length cp); have k4 := o4.cells; unfold pkCs at k4; have f4 := o4.froz; have o5 : Obj? (w3.setCell ⟨w.heap.size, 19, none⟩ (.slice aw p.w.props.length cw)) w.heap.size (pkCs p (.slice aw p.w.props.length cw) vc' vf' vp) 55 := HD3.out.box.set 19 (.slice aw p.w.props.length cw); have k5 := o5.cells; unfold pkCs at k5; have f5 := o5.froz; clear o4 o5; clear ho3 hb3)))))
    all_goals
      go_wp2_with fail
      go_meet
      first
        | exact ⟨_, _, Lib.hid ⟨HD3.out.twp _ _, (HO3.out.1.set 24 _).set 19 _, (HO3.out.2.1.set 24 _).set 19 _, (HO3.out.2.2.1.set 24 _).set 19 _, (HO3.out.2.2.2.set 24 _).set 19 _⟩⟩
        | exact ⟨_, _, Lib.hid ⟨HD3.out.twp' _ _, (HO3.out.1.set 19 _).set 24 _, (HO3.out.2.1.set 19 _).set 24 _, (HO3.out.2.2.1.set 19 _).set 24 _, (HO3.out.2.2.2.set 19 _).set 24 _⟩⟩
  case rest =>
  obtain ⟨vp', vw', HA2⟩ := hcut
  have hld := load_pk HA2.out.1.box
  have hst := store_pkres (p := p) (vw := vw') (vc := vc') (vf := vf') (vp := vp') HA2.out.1.res rfl (pk_one HA2.out.2.2.2.2.one HA2.out.2.1.one HA2.out.2.2.1.one HA2.out.2.2.2.1.one)
  have HSz := Lib.hid (And.intro (And.intro HSm.out.lw HSm.out.lc) (And.intro HSm.out.lf HSm.out.lp))
  clear k1 HC1 HD1 HA1
  go_wp2
  refine bodyPost_ret (results_row1 rfl _ _ _ _ _ _ rfl (HA2.out.1.res.setRow _) Tryz.underlying55 rfl infoPk5) rfl ?_
  refine ⟨vw', vc', vf', vp', rfl, HA2.out.2.2.2.2.row _, ⟨rowOf_of_owns (cs := Pp.cs) (z := 4) (fun x => rfl) (HA2.out.2.2.2.2.row _) (by have := HSz.out.1.1; omega), rowOf_of_owns (cs := intCs) (z := 1) (fun x => rfl) (HA2.out.2.1.row _) (by have := HSz.out.1.2; omega), rowOf_of_owns (cs := Ft.cs) (z := 5) (fun x => rfl) (HA2.out.2.2.1.row _) (by have := HSz.out.2.1; omega), rowOf_of_owns (cs := Pp.cs) (z := 4) (fun x => rfl) (HA2.out.2.2.2.1.row _) (by have := HSz.out.2.2; omega)⟩, below_row HA2.out.1.bel (by omega) _⟩
end Go.Proofs.YtlfgkdiehmoohaaGreatDoor
