/- event.Copy and frommqtt.To of a PINGREQ. -/
import Derived.Test.YtlfgkdiehmoohaaGreatDoorTrH
namespace Go.Proofs.YtlfgkdiehmoohaaGreatDoor
open Go Go.RowKit
set_option linter.unusedVariables false
set_option linter.unusedSimpArgs false
attribute [local go_sem ↓] load_Pk store_Pk load_Ev store_Ev
theorem set_same {cs : Array Value} {j : Nat} {v : Value} (h : cs[j]? = some v) : cs.setIfInBounds j v = cs := by
  have hj : j < cs.size := (Array.getElem?_eq_some_iff.1 h).1
  apply Array.ext
  · simp
  · intro i h1 h2
    by_cases hi : i = j
    · subst hi
      rw [Array.getElem_setIfInBounds_self]
      exact ((Array.getElem?_eq_some_iff.1 h).2).symm
    · rw [Array.getElem_setIfInBounds_ne (by simpa using h2) (by omega)]
theorem evN_8 : evN[8]? = some (.slice none 0 0) := rfl
theorem evN_10 : evN[10]? = some (.slice none 0 0) := rfl
theorem evN_56 : evN[56]? = some (.slice none 0 0) := rfl
theorem evP_56 (vw vc vf vp : Value) : (evP vw vc vf vp)[56]? = some (.slice none 0 0) := rfl
theorem evN_one : evN.all (·.oneCell') = true := evP_one rfl rfl rfl rfl
theorem load_evN {w : World} {b : Nat} (h : Obj? w b evN 64) : (rowSem 64 ⟨b, 0, none⟩).run Tryz.prog w = .ok (.agg evN) w := load_ev h
theorem store_newevN (w : World) : (rowStore 64 ⟨w.heap.size, 0, none⟩ (.agg evN)).run Tryz.prog (w.alloc (.cells #[.int .i64 0, .int .i64 0, .string ⟨#[]⟩, .string ⟨#[]⟩, .int .i64 0, .bool false, .bool false, .int .i64 0, .slice none 0 0, .int .i64 0, .slice none 0 0, .int .i64 0, .int .i64 0, .bool false, .bool false, .int .i64 0, .int .i64 0, .string ⟨#[]⟩, .string ⟨#[]⟩, .bool false, .int .i64 0, .string ⟨#[]⟩, .bool false, .string ⟨#[]⟩, .bool false, .string ⟨#[]⟩, .bool false, .string ⟨#[]⟩, .string ⟨#[]⟩, .int .i64 0, .bool false, .slice none 0 0, .bool false, .int .i64 0, .slice none 0 0, .slice none 0 0, .slice none 0 0, .int .i64 0, .bool false, .int .i64 0, .bool false, .bool false, .bool false, .int .i64 0, .int .i64 0, .int .i64 0, .int .i64 0, .bool false, .int .i64 0, .int .i64 0, .int .i64 0, .string ⟨#[]⟩, .string ⟨#[]⟩, .int .i64 0, .int .i64 0, .string ⟨#[]⟩, .slice none 0 0] 64 (0, 0))) = .ok () (w.alloc (.cells evN 64 (0, 0))) := store_newev evN_one
theorem evP_info (vw vc vf vp : Value) : (Tryz.prog.info? 64).map (·.size) = some (evP vw vc vf vp).size := infoEv
attribute [local irreducible] rowSem rowStore c12 evN evP
set_option maxRecDepth 100000 in
set_option maxHeartbeats 6400000 in
theorem ecopy_12 (w : World) : Calls Tryz.prog 296 #[.agg evN] w fun e w' => ∃ vw vc vf vp, e = .returned (.agg (evP vw vc vf vp)) ∧ Below w.heap.size w w' ∧ (evP vw vc vf vp).all (·.oneCell') = true := by
  have O0 := ((Obj?.new w evN 64).alloc (.cells #[.int .i64 0, .int .i64 0, .string ⟨#[]⟩, .string ⟨#[]⟩, .int .i64 0, .bool false, .bool false, .int .i64 0, .slice none 0 0, .int .i64 0, .slice none 0 0, .int .i64 0, .int .i64 0, .bool false, .bool false, .int .i64 0, .int .i64 0, .string ⟨#[]⟩, .string ⟨#[]⟩, .bool false, .int .i64 0, .string ⟨#[]⟩, .bool false, .string ⟨#[]⟩, .bool false, .string ⟨#[]⟩, .bool false, .string ⟨#[]⟩, .string ⟨#[]⟩, .int .i64 0, .bool false, .slice none 0 0, .bool false, .int .i64 0, .slice none 0 0, .slice none 0 0, .slice none 0 0, .int .i64 0, .bool false, .int .i64 0, .bool false, .bool false, .bool false, .int .i64 0, .int .i64 0, .int .i64 0, .int .i64 0, .bool false, .int .i64 0, .int .i64 0, .int .i64 0, .string ⟨#[]⟩, .string ⟨#[]⟩, .int .i64 0, .int .i64 0, .string ⟨#[]⟩, .slice none 0 0] 64 (0, 0)))
  have O2 := Obj?.new (w.alloc (.cells evN 64 (0, 0))) #[.int .i64 0, .int .i64 0, .string ⟨#[]⟩, .string ⟨#[]⟩, .int .i64 0, .bool false, .bool false, .int .i64 0, .slice none 0 0, .int .i64 0, .slice none 0 0, .int .i64 0, .int .i64 0, .bool false, .bool false, .int .i64 0, .int .i64 0, .string ⟨#[]⟩, .string ⟨#[]⟩, .bool false, .int .i64 0, .string ⟨#[]⟩, .bool false, .string ⟨#[]⟩, .bool false, .string ⟨#[]⟩, .bool false, .string ⟨#[]⟩, .string ⟨#[]⟩, .int .i64 0, .bool false, .slice none 0 0, .bool false, .int .i64 0, .slice none 0 0, .slice none 0 0, .slice none 0 0, .int .i64 0, .bool false, .int .i64 0, .bool false, .bool false, .bool false, .int .i64 0, .int .i64 0, .int .i64 0, .int .i64 0, .bool false, .int .i64 0, .int .i64 0, .int .i64 0, .string ⟨#[]⟩, .string ⟨#[]⟩, .int .i64 0, .int .i64 0, .string ⟨#[]⟩, .slice none 0 0] 64
  rw [World.size_alloc] at O2
  have hB2 := below_al (below_al (Below.refl _ w) (.cells evN 64 (0, 0))) (.cells #[.int .i64 0, .int .i64 0, .string ⟨#[]⟩, .string ⟨#[]⟩, .int .i64 0, .bool false, .bool false, .int .i64 0, .slice none 0 0, .int .i64 0, .slice none 0 0, .int .i64 0, .int .i64 0, .bool false, .bool false, .int .i64 0, .int .i64 0, .string ⟨#[]⟩, .string ⟨#[]⟩, .bool false, .int .i64 0, .string ⟨#[]⟩, .bool false, .string ⟨#[]⟩, .bool false, .string ⟨#[]⟩, .bool false, .string ⟨#[]⟩, .string ⟨#[]⟩, .int .i64 0, .bool false, .slice none 0 0, .bool false, .int .i64 0, .slice none 0 0, .slice none 0 0, .slice none 0 0, .int .i64 0, .bool false, .int .i64 0, .bool false, .bool false, .bool false, .int .i64 0, .int .i64 0, .int .i64 0, .int .i64 0, .bool false, .int .i64 0, .int .i64 0, .int .i64 0, .string ⟨#[]⟩, .string ⟨#[]⟩, .int .i64 0, .int .i64 0, .string ⟨#[]⟩, .slice none 0 0] 64 (0, 0))
  obtain ⟨W2, hW2⟩ : ∃ W, W = (w.alloc (.cells evN 64 (0, 0))).alloc (.cells #[.int .i64 0, .int .i64 0, .string ⟨#[]⟩, .string ⟨#[]⟩, .int .i64 0, .bool false, .bool false, .int .i64 0, .slice none 0 0, .int .i64 0, .slice none 0 0, .int .i64 0, .int .i64 0, .bool false, .bool false, .int .i64 0, .int .i64 0, .string ⟨#[]⟩, .string ⟨#[]⟩, .bool false, .int .i64 0, .string ⟨#[]⟩, .bool false, .string ⟨#[]⟩, .bool false, .string ⟨#[]⟩, .bool false, .string ⟨#[]⟩, .string ⟨#[]⟩, .int .i64 0, .bool false, .slice none 0 0, .bool false, .int .i64 0, .slice none 0 0, .slice none 0 0, .slice none 0 0, .int .i64 0, .bool false, .int .i64 0, .bool false, .bool false, .bool false, .int .i64 0, .int .i64 0, .int .i64 0, .int .i64 0, .bool false, .int .i64 0, .int .i64 0, .int .i64 0, .string ⟨#[]⟩, .string ⟨#[]⟩, .int .i64 0, .int .i64 0, .string ⟨#[]⟩, .slice none 0 0] 64 (0, 0)) := ⟨_, rfl⟩
  rw [← hW2] at O0 O2 hB2
  have hl2 := load_evN O0
  have hst2 := store_newevN W2
  have HO0 := Lib.hid (O0.alloc (.cells evN 64 (0, 0)))
  have HO2 := Lib.hid (O2.alloc (.cells evN 64 (0, 0)))
  have HO3 := Lib.hid (Obj?.new W2 evN 64)
  have HB3 := Lib.hid (below_al hB2 (.cells evN 64 (0, 0)))
  have HS2 := Lib.hid (show W2.heap.size = w.heap.size + 1 + 1 by rw [hW2]; simp)
  rw [hW2] at hl2 hst2
  simp only [World.size_alloc] at hl2 hst2
  clear O0 O2 hB2
  go_enter Tryz.func296, Tryz.ntmps296
  refine wp_hide fun Q1 hQ1 => ?_
  have HQ1 := Lib.hid hQ1
  clear hQ1
  go_upto_region 2 with fail
  rw [← hW2]
  obtain ⟨W3, hW3⟩ : ∃ W, W = W2.alloc (.cells evN 64 (0, 0)) := ⟨_, rfl⟩
  rw [← hW3] at HO0 HO2 HO3 HB3
  rw [← hW3]
  rw [HS2.out] at HO3
  clear hW3 hW2 hl2 hst2 HS2
  have a8 := HO0.out.cell 8 _ evN_8
  go_wp2_with fail
  refine (clone_pp0 _).mono ?_
  rintro e w3' ⟨rfl, hw⟩
  subst hw
  have f8 := HO3.out.frozen 8
  have k8 := HO3.out.cell 8 _ evN_8
  have HP3 := Lib.hid (show Obj? (w3'.setCell ⟨w.heap.size + 1 + 1, 8, none⟩ (.slice none 0 0)) (w.heap.size + 1 + 1) evN 64 from by have h := HO3.out.set 8 (.slice none 0 0); rwa [set_same evN_8] at h)
  have HP0 := Lib.hid (show Obj? (w3'.setCell ⟨w.heap.size + 1 + 1, 8, none⟩ (.slice none 0 0)) w.heap.size evN 64 from obj_set_ne HO0.out (by omega))
  have HP2 := Lib.hid (show Obj? (w3'.setCell ⟨w.heap.size + 1 + 1, 8, none⟩ (.slice none 0 0)) (w.heap.size + 1) #[.int .i64 0, .int .i64 0, .string ⟨#[]⟩, .string ⟨#[]⟩, .int .i64 0, .bool false, .bool false, .int .i64 0, .slice none 0 0, .int .i64 0, .slice none 0 0, .int .i64 0, .int .i64 0, .bool false, .bool false, .int .i64 0, .int .i64 0, .string ⟨#[]⟩, .string ⟨#[]⟩, .bool false, .int .i64 0, .string ⟨#[]⟩, .bool false, .string ⟨#[]⟩, .bool false, .string ⟨#[]⟩, .bool false, .string ⟨#[]⟩, .string ⟨#[]⟩, .int .i64 0, .bool false, .slice none 0 0, .bool false, .int .i64 0, .slice none 0 0, .slice none 0 0, .slice none 0 0, .int .i64 0, .bool false, .int .i64 0, .bool false, .bool false, .bool false, .int .i64 0, .int .i64 0, .int .i64 0, .int .i64 0, .bool false, .int .i64 0, .int .i64 0, .int .i64 0, .string ⟨#[]⟩, .string ⟨#[]⟩, .int .i64 0, .int .i64 0, .string ⟨#[]⟩, .slice none 0 0] 64 from obj_set_ne HO2.out (by omega))
  have HQ3 := Lib.hid (HB3.out.setCell (p := ⟨w.heap.size + 1 + 1, 8, none⟩) (show w.heap.size ≤ w.heap.size + 1 + 1 by omega) (.slice none 0 0))
  clear HO0 HO2 HO3 HB3 a8
  go_upto_region 3 with fail
  obtain ⟨W4, hW4⟩ : ∃ W, W = w3'.setCell ⟨w.heap.size + 1 + 1, 8, none⟩ (.slice none 0 0) := ⟨_, rfl⟩
  rw [← hW4] at HP0 HP2 HP3 HQ3
  rw [← hW4]
  clear hW4 f8 k8
  obtain ⟨HO0, HO2, HO3, HB3⟩ := And.intro HP0 (And.intro HP2 (And.intro HP3 HQ3))
  have a8 := HO0.out.cell 10 _ evN_10
  go_wp2_with fail
  refine (clone_hop0 _).mono ?_
  rintro e w4' ⟨rfl, hw⟩
  subst hw
  have f8 := HO3.out.frozen 10
  have k8 := HO3.out.cell 10 _ evN_10
  have HP3 := Lib.hid (show Obj? (w4'.setCell ⟨w.heap.size + 1 + 1, 10, none⟩ (.slice none 0 0)) (w.heap.size + 1 + 1) evN 64 from by have h := HO3.out.set 10 (.slice none 0 0); rwa [set_same evN_10] at h)
  have HP0 := Lib.hid (show Obj? (w4'.setCell ⟨w.heap.size + 1 + 1, 10, none⟩ (.slice none 0 0)) w.heap.size evN 64 from obj_set_ne HO0.out (by omega))
  have HP2 := Lib.hid (show Obj? (w4'.setCell ⟨w.heap.size + 1 + 1, 10, none⟩ (.slice none 0 0)) (w.heap.size + 1) #[.int .i64 0, .int .i64 0, .string ⟨#[]⟩, .string ⟨#[]⟩, .int .i64 0, .bool false, .bool false, .int .i64 0, .slice none 0 0, .int .i64 0, .slice none 0 0, .int .i64 0, .int .i64 0, .bool false, .bool false, .int .i64 0, .int .i64 0, .string ⟨#[]⟩, .string ⟨#[]⟩, .bool false, .int .i64 0, .string ⟨#[]⟩, .bool false, .string ⟨#[]⟩, .bool false, .string ⟨#[]⟩, .bool false, .string ⟨#[]⟩, .string ⟨#[]⟩, .int .i64 0, .bool false, .slice none 0 0, .bool false, .int .i64 0, .slice none 0 0, .slice none 0 0, .slice none 0 0, .int .i64 0, .bool false, .int .i64 0, .bool false, .bool false, .bool false, .int .i64 0, .int .i64 0, .int .i64 0, .int .i64 0, .bool false, .int .i64 0, .int .i64 0, .int .i64 0, .string ⟨#[]⟩, .string ⟨#[]⟩, .int .i64 0, .int .i64 0, .string ⟨#[]⟩, .slice none 0 0] 64 from obj_set_ne HO2.out (by omega))
  have HQ3 := Lib.hid (HB3.out.setCell (p := ⟨w.heap.size + 1 + 1, 10, none⟩) (show w.heap.size ≤ w.heap.size + 1 + 1 by omega) (.slice none 0 0))
  clear HO0 HO2 HO3 HB3 a8
  go_upto_region 4 with fail
  obtain ⟨W5, hW5⟩ : ∃ W, W = w4'.setCell ⟨w.heap.size + 1 + 1, 10, none⟩ (.slice none 0 0) := ⟨_, rfl⟩
  rw [← hW5] at HP0 HP2 HP3 HQ3
  rw [← hW5]
  clear hW5 f8 k8
  obtain ⟨HO0, HO2, HO3, HB3⟩ := And.intro HP0 (And.intro HP2 (And.intro HP3 HQ3))
  have a8 := load_evpk HO0.out
  go_wp2_with fail
  refine (copy_any (p12_at _) ⟨by decide, by decide, by decide, by decide⟩).mono ?_
  rintro e w6 ⟨vw, vc, vf, vp, rfl, -, hpk, hb⟩
  have hp1 := pk_one (p := p12) hpk.rw'.one hpk.rc.one hpk.rf.one hpk.rp.one
  have HE1 := Lib.hid (show (evP vw vc vf vp).all (·.oneCell') = true from evP_one hpk.rw'.one hpk.rc.one hpk.rf.one hpk.rp.one)
  obtain ⟨hst, hP3⟩ := store_evpk (HO3.out.below hb HO3.out.lt) hp1
  have HP3 := Lib.hid hP3
  have HG := Lib.hid (setCs_grown (w.heap.size + 1 + 1) (pkCs p12 vw vc vf vp).toList 12 w6)
  have HO0' := Lib.hid (Obj?.kept (HO0.out.below hb HO0.out.lt) HG.out (fun e => by have := Option.some.inj e; omega))
  have HO2' := Lib.hid (Obj?.kept (HO2.out.below hb HO2.out.lt) HG.out (fun e => by have := Option.some.inj e; omega))
  have HB6 := Lib.hid ((below_thenh HB3.out hb).grown HG.out (below_thenh HB3.out hb).size (fun k e => by have := Option.some.inj e; omega))
  clear a8 hpk hb HO0 HO2 HO3 HB3 hP3 hp1
  go_upto_region 5 with fail
  obtain ⟨W7, hW7⟩ : ∃ W, W = w6.setCells (w.heap.size + 1 + 1) 12 (pkCs p12 vw vc vf vp).toList := ⟨_, rfl⟩
  rw [← hW7] at HP3 HO0' HO2' HB6
  rw [← hW7]
  clear hW7 hst HG
  have f8 := HP3.out.frozen 56
  have k8 := HP3.out.cell 56 _ (evP_56 vw vc vf vp)
  have HP4 := Lib.hid (show Obj? (W7.setCell ⟨w.heap.size + 1 + 1, 56, none⟩ (.slice none 0 0)) (w.heap.size + 1 + 1) (evP vw vc vf vp) 64 from by have h := HP3.out.set 56 (.slice none 0 0); rwa [set_same (evP_56 vw vc vf vp)] at h)
  have HO04 := Lib.hid (show Obj? (W7.setCell ⟨w.heap.size + 1 + 1, 56, none⟩ (.slice none 0 0)) w.heap.size evN 64 from obj_set_ne HO0'.out (by omega))
  have HO24 := Lib.hid (show Obj? (W7.setCell ⟨w.heap.size + 1 + 1, 56, none⟩ (.slice none 0 0)) (w.heap.size + 1) #[.int .i64 0, .int .i64 0, .string ⟨#[]⟩, .string ⟨#[]⟩, .int .i64 0, .bool false, .bool false, .int .i64 0, .slice none 0 0, .int .i64 0, .slice none 0 0, .int .i64 0, .int .i64 0, .bool false, .bool false, .int .i64 0, .int .i64 0, .string ⟨#[]⟩, .string ⟨#[]⟩, .bool false, .int .i64 0, .string ⟨#[]⟩, .bool false, .string ⟨#[]⟩, .bool false, .string ⟨#[]⟩, .bool false, .string ⟨#[]⟩, .string ⟨#[]⟩, .int .i64 0, .bool false, .slice none 0 0, .bool false, .int .i64 0, .slice none 0 0, .slice none 0 0, .slice none 0 0, .int .i64 0, .bool false, .int .i64 0, .bool false, .bool false, .bool false, .int .i64 0, .int .i64 0, .int .i64 0, .int .i64 0, .bool false, .int .i64 0, .int .i64 0, .int .i64 0, .string ⟨#[]⟩, .string ⟨#[]⟩, .int .i64 0, .int .i64 0, .string ⟨#[]⟩, .slice none 0 0] 64 from obj_set_ne HO2'.out (by omega))
  have HB4 := Lib.hid (HB6.out.setCell (p := ⟨w.heap.size + 1 + 1, 56, none⟩) (show w.heap.size ≤ w.heap.size + 1 + 1 by omega) (.slice none 0 0))
  clear HO0' HO2' HP3 HB6
  go_upto_region 6 with fail
  obtain ⟨W8, hW8⟩ : ∃ W, W = W7.setCell ⟨w.heap.size + 1 + 1, 56, none⟩ (.slice none 0 0) := ⟨_, rfl⟩
  rw [← hW8] at HP4 HO04 HO24 HB4
  rw [← hW8]
  clear hW8 f8 k8
  have a8 := HO04.out.cell 56 _ evN_56
  have hl := load_ev HP4.out
  have hst := store_ev (vw := vw) (vc := vc) (vf := vf) (vp := vp) HO24.out rfl HE1.out
  go_wp2_with fail
  refine wp_loop_rounds 1 ?_
  rw [rounds_succ]
  go_wp2_with fail
  refine HQ1.out _ _ _ ?_
  refine bodyPost_ret (results_row1 rfl _ _ _ _ _ _ rfl (HO24.out.setRow (evP vw vc vf vp)) Tryz.underlying64 rfl (evP_info vw vc vf vp)) rfl ?_
  exact ⟨vw, vc, vf, vp, rfl, below_row HB4.out (by omega) _, HE1.out⟩
end Go.Proofs.YtlfgkdiehmoohaaGreatDoor
