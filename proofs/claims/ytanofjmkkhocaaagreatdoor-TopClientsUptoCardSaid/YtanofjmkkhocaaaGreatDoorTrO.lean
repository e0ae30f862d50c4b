/- frommqtt.To and a session's feed of a PINGREQ. A session of MQTT 3.1.1, fed a PINGREQ. A session of MQTT 3.1.1, fed a PINGREQ; lives. -/
import Derived.Test.YtanofjmkkhocaaaGreatDoorTrL
import Derived.Test.YtanofjmkkhocaaaGreatDoorTrK
set_option linter.unusedVariables false
set_option linter.unusedSimpArgs false
set_option maxRecDepth 100000
set_option maxHeartbeats 6400000
namespace Go.Proofs.YtanofjmkkhocaaaGreatDoor
open Go Go.RowKit
attribute [local go_sem ↓] load_Pk store_Pk load_Ev store_Ev
theorem evP_1 (vw vc vf vp : Value) : (evP vw vc vf vp)[1]? = some (.int .i64 2) := rfl
theorem evP_12 (vw vc vf vp : Value) : (evP vw vc vf vp)[12]? = some (.int .i64 12) := rfl
theorem evP_len (vw vc vf vp : Value) : (evP vw vc vf vp).toList.length = 57 := rfl
theorem infoZEv : (Tryz.prog.info? 43).map (fun i => (i.zero, i.size, i.bytes)) = some (some (.agg #[.int .i64 0, .int .i64 0, .string ⟨#[]⟩, .string ⟨#[]⟩, .int .i64 0, .bool false, .bool false, .int .i64 0, .slice none 0 0, .int .i64 0, .slice none 0 0, .int .i64 0, .int .i64 0, .bool false, .bool false, .int .i64 0, .int .i64 0, .string ⟨#[]⟩, .string ⟨#[]⟩, .bool false, .int .i64 0, .string ⟨#[]⟩, .bool false, .string ⟨#[]⟩, .bool false, .string ⟨#[]⟩, .bool false, .string ⟨#[]⟩, .string ⟨#[]⟩, .int .i64 0, .bool false, .slice none 0 0, .bool false, .int .i64 0, .slice none 0 0, .slice none 0 0, .slice none 0 0, .int .i64 0, .bool false, .int .i64 0, .bool false, .bool false, .bool false, .int .i64 0, .int .i64 0, .int .i64 0, .int .i64 0, .bool false, .int .i64 0, .int .i64 0, .int .i64 0, .string ⟨#[]⟩, .string ⟨#[]⟩, .int .i64 0, .int .i64 0, .string ⟨#[]⟩, .slice none 0 0]), 57, 632) := by kernel_rfl
theorem builtEv (vw vc vf vp : Value) : Tryz.prog.builtSlice 43 1 [(0, .agg (evP vw vc vf vp))] = some (evP vw vc vf vp) := by unfold evP; kernel_rfl
theorem evP_mem {vw vc vf vp : Value} (h : (evP vw vc vf vp).all (·.oneCell') = true) : ∀ u ∈ (evP vw vc vf vp).toList, u.oneCell' = true := by
 intro u hu
 rw [Array.all_eq_true] at h
 obtain ⟨i, hi, rfl⟩ := List.getElem_of_mem hu
 exact h i (by simpa using hi)
theorem newsEv (vw vc vf vp : Value) (w : World) : ∀ j u, (evP vw vc vf vp).toList[j]? = some u → (w.alloc (.cells (evP vw vc vf vp) 43 (0, 0))).cell? ((⟨w.heap.size, 0, none⟩ : Addr).add j) = some u := by
 intro j u hj
 have h := (Obj?.new w (evP vw vc vf vp) 43).cell j u (by simpa using hj)
 rw [addr_add]
 exact h
attribute [local irreducible] rowSem rowStore c12 c00 evN evP
theorem to_12 (w : World) : Calls Tryz.prog 183 #[.int .i64 4, .agg c12] w fun e w' => ∃ vw vc vf vp, e = .returned (.tuple #[.agg (evP vw vc vf vp), .int .i64 0]) ∧ Below w.heap.size w w' ∧ (evP vw vc vf vp).all (·.oneCell') = true := by
 have O0 := (Obj?.new w c12 34).alloc (.cells #[.int .i64 0, .int .i64 0, .string ⟨#[]⟩, .string ⟨#[]⟩, .int .i64 0, .bool false, .bool false, .int .i64 0, .slice none 0 0, .int .i64 0, .slice none 0 0, .int .i64 0, .int .i64 0, .bool false, .bool false, .int .i64 0, .int .i64 0, .string ⟨#[]⟩, .string ⟨#[]⟩, .bool false, .int .i64 0, .string ⟨#[]⟩, .bool false, .string ⟨#[]⟩, .bool false, .string ⟨#[]⟩, .bool false, .string ⟨#[]⟩, .string ⟨#[]⟩, .int .i64 0, .bool false, .slice none 0 0, .bool false, .int .i64 0, .slice none 0 0, .slice none 0 0, .slice none 0 0, .int .i64 0, .bool false, .int .i64 0, .bool false, .bool false, .bool false, .int .i64 0, .int .i64 0, .int .i64 0, .int .i64 0, .bool false, .int .i64 0, .int .i64 0, .int .i64 0, .string ⟨#[]⟩, .string ⟨#[]⟩, .int .i64 0, .int .i64 0, .string ⟨#[]⟩, .slice none 0 0] 43 (0, 0))
 have O4 := Obj?.new (w.alloc (.cells c12 34 (0, 0))) #[.int .i64 0, .int .i64 0, .string ⟨#[]⟩, .string ⟨#[]⟩, .int .i64 0, .bool false, .bool false, .int .i64 0, .slice none 0 0, .int .i64 0, .slice none 0 0, .int .i64 0, .int .i64 0, .bool false, .bool false, .int .i64 0, .int .i64 0, .string ⟨#[]⟩, .string ⟨#[]⟩, .bool false, .int .i64 0, .string ⟨#[]⟩, .bool false, .string ⟨#[]⟩, .bool false, .string ⟨#[]⟩, .bool false, .string ⟨#[]⟩, .string ⟨#[]⟩, .int .i64 0, .bool false, .slice none 0 0, .bool false, .int .i64 0, .slice none 0 0, .slice none 0 0, .slice none 0 0, .int .i64 0, .bool false, .int .i64 0, .bool false, .bool false, .bool false, .int .i64 0, .int .i64 0, .int .i64 0, .int .i64 0, .bool false, .int .i64 0, .int .i64 0, .int .i64 0, .string ⟨#[]⟩, .string ⟨#[]⟩, .int .i64 0, .int .i64 0, .string ⟨#[]⟩, .slice none 0 0] 43
 rw [World.size_alloc] at O4
 have HB0 := Lib.hid (below_al (below_al (Below.refl _ w) (.cells c12 34 (0, 0))) (.cells #[.int .i64 0, .int .i64 0, .string ⟨#[]⟩, .string ⟨#[]⟩, .int .i64 0, .bool false, .bool false, .int .i64 0, .slice none 0 0, .int .i64 0, .slice none 0 0, .int .i64 0, .int .i64 0, .bool false, .bool false, .int .i64 0, .int .i64 0, .string ⟨#[]⟩, .string ⟨#[]⟩, .bool false, .int .i64 0, .string ⟨#[]⟩, .bool false, .string ⟨#[]⟩, .bool false, .string ⟨#[]⟩, .bool false, .string ⟨#[]⟩, .string ⟨#[]⟩, .int .i64 0, .bool false, .slice none 0 0, .bool false, .int .i64 0, .slice none 0 0, .slice none 0 0, .slice none 0 0, .int .i64 0, .bool false, .int .i64 0, .bool false, .bool false, .bool false, .int .i64 0, .int .i64 0, .int .i64 0, .int .i64 0, .bool false, .int .i64 0, .int .i64 0, .int .i64 0, .string ⟨#[]⟩, .string ⟨#[]⟩, .int .i64 0, .int .i64 0, .string ⟨#[]⟩, .slice none 0 0] 43 (0, 0)))
 have l0 := load_12 O0
 have HO0 := Lib.hid O0
 have HO4 := Lib.hid O4
 clear O0 O4
 go_enter Tryz.func183, Tryz.ntmps183
 go_wp2_with fail
 refine (proto_4 _).mono ?_
 rintro e w1 ⟨rfl, hw⟩
 subst hw
 go_wp2_with fail
 refine (mvalid_12 _).mono ?_
 rintro e w2 ⟨rfl, hb⟩
 have HB2 := Lib.hid (below_thenh HB0.out hb)
 have HO2 := Lib.hid (HO0.out.below hb HO0.out.lt)
 have HO42 := Lib.hid (HO4.out.below hb HO4.out.lt)
 clear hb l0 HB0 HO0 HO4
 have l2 := load_12 HO2.out
 have a0 := HO2.out.cell 0 _ c12_0
 go_wp2_with fail
 refine (other_12 _).mono ?_
 rintro e w3 ⟨rfl, hb⟩
 have HB3 := Lib.hid (below_thenh HB2.out hb)
 have HO43 := Lib.hid (HO42.out.below hb HO42.out.lt)
 clear hb l2 a0 HB2 HO2 HO42
 go_wp2_with fail
 refine (ecopy_12 _).mono ?_
 rintro e w4 ⟨vw, vc, vf, vp, rfl, hb, h1⟩
 have HB4 := Lib.hid (below_thenh HB3.out hb)
 have HO44 := Lib.hid (HO43.out.below hb HO43.out.lt)
 have HE := Lib.hid h1
 have hst := store_ev HO44.out rfl h1
 clear hb HB3 HO43 h1
 go_wp2_with fail
 refine bodyPost_ret (results_rowT rfl _ _ _ _ _ _ rfl (HO44.out.setRow (evP vw vc vf vp)) Tryz.underlying43 rfl (evP_info vw vc vf vp)) rfl ?_
 exact ⟨vw, vc, vf, vp, rfl, below_row HB4.out (by omega) _, HE.out⟩
def omC (sp : Nat) : Array Value := #[.int .i64 1, .int .i64 4096, .int .i64 6, .string ⟨#[]⟩, .int .i64 4, .pointer (some ⟨sp, 0, none⟩)]
theorem omfeed_12 {w : World} {sp : Nat} (hO : Obj? w sp (stC 4 4096 (.slice none 0 0) 0 0 0) 135) :
  Calls Tryz.prog 179 #[.agg (omC sp), .string ⟨#[192, 0]⟩] w fun r w' => ∃ g c, r = .returned (.tuple #[.slice (some ⟨g, 0, none⟩) 1 c, .int .i64 0]) ∧ w.grownBy w' (some sp) ∧ g < w'.heap.size ∧ w'.cell? ⟨g, 1, none⟩ = some (.int .i64 2) ∧ w'.cell? ⟨g, 12, none⟩ = some (.int .i64 12) := by
 obtain ⟨i1, hj, hy0, hy1, hy2⟩ := info_parts infoZEv
 have HO0 := Lib.hid (Obj?.new w (omC sp) 92)
 have HS0 := Lib.hid (hO.alloc (.cells (omC sp) 92 (0, 0)))
 have HG0 := Lib.hid (World.grownBy_alloc w (.cells (omC sp) 92 (0, 0)) (some sp))
 have HLt := Lib.hid hO.lt
 have a5 := HO0.out.cell 5 (.pointer (some ⟨sp, 0, none⟩)) rfl
 clear hO
 go_enter Tryz.func179, Tryz.ntmps179
 refine wp_hide fun Q1 hQ1 => ?_
 have HQ1 := Lib.hid hQ1
 clear hQ1
 go_wp2_with fail
 refine (feed_12 HS0.out).mono ?_
 rintro r w1 ⟨g, c, rfl, hg, hgl, hcs⟩
 have HG1 := Lib.hid (HG0.out.trans hg)
 have HO1 := Lib.hid (HO0.out.kept hg (fun e => by have := Option.some.inj e; have := HLt.out; omega))
 have hl := rowSem_mid (P := Tryz.prog) w1 g 0 34 c12 _ (fun j v hj => by rw [Nat.zero_add]; exact hcs j v hj) Tryz.underlying34 rfl c12_info
 have a4 := HO1.out.cell 4 (.int .i64 4) rfl
 have hst := store_new12c w1
 clear hg hgl hcs HG0 HO0 HS0 a5
 go_wp2_with fail
 refine wp_loop_rounds 2 ?_
 rw [rounds_succ]
 have a4' := (HO1.out.alloc (.cells c12 34 (0, 0))).cell 4 (.int .i64 4) rfl
 have hl2 := load_12 (Obj?.new w1 c12 34)
 go_wp2_with fail
 refine (to_12 _).mono ?_
 rintro r w2 ⟨vw, vc, vf, vp, rfl, hb, h1⟩
 have HG2 := Lib.hid ((HG1.out.trans (World.grownBy_alloc w1 (.cells c12 34 (0, 0)) (some sp))).trans (grown_below hb (some sp)))
 have hst := store_newev (w := w2) h1
 have HE := Lib.hid h1
 clear hb h1 hl a4 a4' hl2 HO1 HG1
 go_upto_region 9 with fail
 obtain ⟨W3, hW3⟩ : ∃ W, W = w2.alloc (.cells (evP vw vc vf vp) 43 (0, 0)) := ⟨_, rfl⟩
 have hl3 := load_ev (show Obj? W3 w2.heap.size (evP vw vc vf vp) 43 by rw [hW3]; exact Obj?.new w2 _ _)
 have HG3 := Lib.hid (show w.grownBy W3 (some sp) by rw [hW3]; exact HG2.out.trans (World.grownBy_alloc _ _ _))
 rw [← hW3]
 clear hW3 hst HG2
 have hown3 := World.ownsRow_nil (W3.alloc (.cells (evP vw vc vf vp) 43 (0, 0))) 0 43 57
 have HG4 := Lib.hid (HG3.out.trans (World.grownBy_alloc W3 (.cells (evP vw vc vf vp) 43 (0, 0)) (some sp)))
 go_wp2_with (first
  | (refine Great.wpList_buildSliceTo rfl 62 43 1 _ rfl W3.heap.size rfl (some 39) rfl Tryz.underlying62 (evP vw vc vf vp) (Eq.trans (congrArg (Tryz.prog.builtSlice 43 1) (a₂ := [(0, .agg (evP vw vc vf vp))]) (by kernel_rfl)) (builtEv vw vc vf vp)) ?_)
  | (at_builtin; refine wpList_append_own _ rfl _ _ 62 rfl 0 43 i1 (.agg #[.int .i64 0, .int .i64 0, .string ⟨#[]⟩, .string ⟨#[]⟩, .int .i64 0, .bool false, .bool false, .int .i64 0, .slice none 0 0, .int .i64 0, .slice none 0 0, .int .i64 0, .int .i64 0, .bool false, .bool false, .int .i64 0, .int .i64 0, .string ⟨#[]⟩, .string ⟨#[]⟩, .bool false, .int .i64 0, .string ⟨#[]⟩, .bool false, .string ⟨#[]⟩, .bool false, .string ⟨#[]⟩, .bool false, .string ⟨#[]⟩, .string ⟨#[]⟩, .int .i64 0, .bool false, .slice none 0 0, .bool false, .int .i64 0, .slice none 0 0, .slice none 0 0, .slice none 0 0, .int .i64 0, .bool false, .int .i64 0, .bool false, .bool false, .bool false, .int .i64 0, .int .i64 0, .int .i64 0, .int .i64 0, .bool false, .int .i64 0, .int .i64 0, .int .i64 0, .string ⟨#[]⟩, .string ⟨#[]⟩, .int .i64 0, .int .i64 0, .string ⟨#[]⟩, .slice none 0 0]) 57 632 Tryz.underlying62 hj hy0 hy1 hy2 rfl (by decide) _ 0 [] rfl hown3 ⟨W3.heap.size, 0, none⟩ 1 1 (evP vw vc vf vp).toList rfl (by rw [evP_len]) (newsEv vw vc vf vp W3) (evP_mem HE.out) (by decide) (by decide) (Nat.zero_le _) ?_; intro v5 w5 hown5 hgrow5 _; obtain ⟨g5, cap5, rfl⟩ := owns_succ hown5; have HG5 := Lib.hid (HG4.out.trans (grown_sp (sp := sp) hgrow5 (.inl rfl))); have HW5 := Lib.hid hown5; clear hown5 hgrow5 hown3))
 rw [rounds_succ]
 go_wp2_with fail
 refine HQ1.out _ _ _ ?_
 go_ret2
 exact ⟨g5, cap5, rfl, HG5.out, (HW5.out.lt g5 rfl).2, by rw [← addr_add]; exact HW5.out.cells (g := g5) rfl 1 _ (by simpa using evP_1 vw vc vf vp), by rw [← addr_add]; exact HW5.out.cells (g := g5) rfl 12 _ (by simpa using evP_12 vw vc vf vp)⟩
end Go.Proofs.YtanofjmkkhocaaaGreatDoor
namespace Go.Proofs.YtanofjmkkhocaaaGreatDoor
open Go Go.RowKit
attribute [local go_sem ↓] load_Pk store_Pk load_Ev store_Ev
attribute [local irreducible] rowSem rowStore c12 c00 evN evP
theorem sright_any (w : World) : Calls Tryz.prog 22 #[.agg #[.int .i64 4096, .int .i64 6]] w fun e w' => e = .returned (.bool true) ∧ Below w.heap.size w w' := by
 have HB := Lib.hid (below_al (Below.refl _ w) (.cells #[.int .i64 4096, .int .i64 6] 53 (0, 0)))
 go_enter Tryz.func22, Tryz.ntmps22
 go_wp2
 go_ret
 exact ⟨rfl, HB.out⟩
theorem fversion_1 (w : World) : Calls Tryz.prog 23 #[.int .i64 1] w fun e w' => e = .returned (.tuple #[.int .i64 4, .bool true]) ∧ w' = w := by
 go_enter Tryz.func23, Tryz.ntmps23
 go_wp2
 go_ret2
 exact ⟨rfl, rfl⟩
theorem limits_any (w : World) : Calls Tryz.prog 8 #[] w fun e w' => e = .returned (.agg #[.int .i64 4096, .int .i64 6]) ∧ Below w.heap.size w w' := by
 have HB := Lib.hid (below_al (Below.refl _ w) (.cells #[.int .i64 4096, .int .i64 6] 53 (0, 0)))
 have HO := Lib.hid (Obj?.new w #[.int .i64 4096, .int .i64 6] 53)
 go_enter Tryz.func8, Tryz.ntmps8
 go_wp2_with fail
 refine bodyPost_ret (results_row1 rfl _ _ _ _ _ _ rfl HO.out Tryz.underlying53 rfl (by kernel_rfl)) rfl ?_
 exact ⟨rfl, HB.out⟩
theorem store_func {P : Program} {w : World} {a : Addr} {m : Mode} (fn : Fn) (x y : Array Value) : (store a (.func fn x y) m).run P w = stored P w a (.func fn x y) m := run_store P w a _ m rfl
attribute [local go_sem] store_func
def ssC (d f : Value) (e t : Int) : Array Value := #[.int .i64 1, .int .i64 4096, .int .i64 6, .string ⟨#[]⟩, d, f, .int .i64 e, .int .i64 t]
theorem snew_3 (w : World) : Calls Tryz.prog 9 #[.agg #[.int .i64 1, .int .i64 4096, .int .i64 6, .string ⟨#[]⟩], .pointer none] w fun e w' => ∃ ss sp, e = .returned (.tuple #[.pointer (some ⟨ss, 0, none⟩), .int .i64 0]) ∧ Below w.heap.size w w' ∧ w.heap.size ≤ ss ∧ ss < sp ∧
  Obj? w' ss (ssC (.iface 92 (.agg (omC sp))) (.func (.method "polyglot/session.feed") #[.iface 92 (.agg (omC sp))] #[]) 0 0) 85 ∧ Obj? w' sp (stC 4 4096 (.slice none 0 0) 0 0 0) 135 := by
 have hmf := mkfun
 have HO0 := Lib.hid (Obj?.new w #[.int .i64 1, .int .i64 4096, .int .i64 6, .string ⟨#[]⟩] 56)
 have HB0 := Lib.hid (below_al (Below.refl _ w) (.cells #[.int .i64 1, .int .i64 4096, .int .i64 6, .string ⟨#[]⟩] 56 (0, 0)))
 go_enter Tryz.func9, Tryz.ntmps9
 refine wp_hide fun Q1 hQ1 => ?_
 have HQ1 := Lib.hid hQ1
 clear hQ1
 go_wp2_with fail
 refine (sright_any _).mono ?_
 rintro e w1 ⟨rfl, hb⟩
 have HB1 := Lib.hid (below_thenh HB0.out hb)
 have HO1 := Lib.hid (HO0.out.below hb HO0.out.lt)
 have k1 := HO1.out.cells
 have k2 := (HO1.out.alloc (.cells (ssC .nilIface .nilFunc 0 0) 85 (0, 0))).cells
 have HS1 := Lib.hid (Obj?.new w1 (ssC .nilIface .nilFunc 0 0) 85)
 have HO2 := Lib.hid (HO1.out.alloc (.cells (ssC .nilIface .nilFunc 0 0) 85 (0, 0)))
 have HB2 := Lib.hid (below_al HB1.out (.cells (ssC .nilIface .nilFunc 0 0) 85 (0, 0)))
 have HZ := Lib.hid (show w.heap.size ≤ w1.heap.size from HB1.out.size)
 unfold ssC at k2
 clear hb HB0 HO0
 go_wp2_with fail
 refine (fversion_1 _).mono ?_
 rintro e w2 ⟨rfl, hw⟩
 subst hw
 go_wp2_with fail
 refine (mnew_ok 4 4096 6 (.inl rfl) (by decide) _).mono ?_
 rintro e w3 ⟨rfl, hb, hO⟩
 obtain ⟨sp, hsp⟩ : ∃ sp, sp = (w1.alloc (.cells #[.int .i64 1, .int .i64 4096, .int .i64 6, .string ⟨#[]⟩, .nilIface, .nilFunc, .int .i64 0, .int .i64 0] 85 (0, 0))).heap.size + 1 := ⟨_, rfl⟩
 have HSp := Lib.hid (show w1.heap.size < sp by rw [hsp]; simp; omega)
 rw [← hsp] at hO
 rw [← hsp]
 clear hsp k1 k2
 have HT3 := Lib.hid hO
 have HB3 := Lib.hid (below_thenh HB2.out hb)
 have HO3 := Lib.hid (HO2.out.below hb HO2.out.lt)
 have HS3 := Lib.hid (HS1.out.below hb HS1.out.lt)
 have k3 := HO3.out.cells
 have ks := HS3.out.cells
 have f4 := HS3.out.frozen 4
 have HS4 := Lib.hid (HS3.out.set 4 (.iface 92 (.agg (omC sp))))
 have f5 := HS4.out.frozen 5
 have c5 := HS4.out.cell 5 .nilFunc rfl
 have c4 := HS4.out.cell 4 (.iface 92 (.agg (omC sp))) rfl
 have HS5 := Lib.hid (HS4.out.set 5 (.func (.method "polyglot/session.feed") #[.iface 92 (.agg (omC sp))] #[]))
 have HT5 := Lib.hid (obj_set_ne (obj_set_ne HT3.out (show sp ≠ w1.heap.size from fun e => by have := HSp.out; omega) (j := 4) (u := (.iface 92 (.agg (omC sp))))) (show sp ≠ w1.heap.size from fun e => by have := HSp.out; omega) (j := 5) (u := (.func (.method "polyglot/session.feed") #[.iface 92 (.agg (omC sp))] #[])))
 have HB5 := Lib.hid ((HB3.out.setCell (p := ⟨w1.heap.size, 4, none⟩) HZ.out (.iface 92 (.agg (omC sp)))).setCell (p := ⟨w1.heap.size, 5, none⟩) HZ.out (.func (.method "polyglot/session.feed") #[.iface 92 (.agg (omC sp))] #[]))
 unfold omC at f5 c5 c4 HS5 HT5 HB5
 unfold ssC at ks
 clear hb hO HB2 HO2 HS1 HB1 HO1 HO3 HS3 HS4 HB3 HT3
 go_wp2_with fail
 refine HQ1.out _ _ _ ?_
 go_ret2
 exact ⟨w1.heap.size, sp, rfl, HB5.out, HZ.out, HSp.out, HS5.out, HT5.out⟩
end Go.Proofs.YtanofjmkkhocaaaGreatDoor
namespace Go.Proofs.YtanofjmkkhocaaaGreatDoor
open Go Go.RowKit
attribute [local go_sem ↓] load_Pk store_Pk load_Ev store_Ev
attribute [local irreducible] rowSem rowStore c12 c00 evN evP
attribute [local go_sem] store_func
theorem cell_set_ne {w : World} {p q : Addr} {u : Value} (h : q.block ≠ p.block) : (w.setCell p u).cell? q = w.cell? q := by
 unfold World.cell?
 rw [Below.heap_setCell w p u q.block h]
theorem sfeed_3 {w : World} {ss sp : Nat} (hS : Obj? w ss (ssC (.iface 92 (.agg (omC sp))) (.func (.method "polyglot/session.feed") #[.iface 92 (.agg (omC sp))] #[]) 0 0) 85) (hT : Obj? w sp (stC 4 4096 (.slice none 0 0) 0 0 0) 135) (hlt : ss < sp) :
  Calls Tryz.prog 10 #[.pointer (some ⟨ss, 0, none⟩), .string ⟨#[192, 0]⟩] w fun r w' => ∃ g c, r = .returned (.tuple #[.slice (some ⟨g, 0, none⟩) 1 c, .int .i64 0]) ∧ Below ss w w' ∧ g < w'.heap.size ∧ w'.cell? ⟨g, 1, none⟩ = some (.int .i64 2) ∧ w'.cell? ⟨g, 12, none⟩ = some (.int .i64 12) := by
 have hq : ∀ W : World, (binOp .eql 64 (.func (.method "polyglot/session.feed") #[.iface 92 (.agg (omC sp))] #[]) .nilFunc).run Tryz.prog W = .ok (.bool false) W := fun W => by kernel_rfl
 have hm : ∀ (W : World), (method 603 92 (.agg (omC sp)) "polyglot/session.feed").run Tryz.prog W = .ok (179, .agg (omC sp)) W := fun W => by kernel_rfl
 have c5 := hS.cell 5 (.func (.method "polyglot/session.feed") #[.iface 92 (.agg (omC sp))] #[]) rfl
 have c6 := hS.cell 6 (.int .i64 0) rfl
 have HS := Lib.hid hS
 have HT := Lib.hid hT
 clear hS hT
 go_enter Tryz.func10, Tryz.ntmps10
 refine wp_hide fun Q1 hQ1 => ?_
 have HQ1 := Lib.hid hQ1
 clear hQ1
 go_wp2_with fail
 refine (omfeed_12 HT.out).mono ?_
 rintro r w1 ⟨g, c, rfl, hg, hgl, h1, h12⟩
 have HS1 := Lib.hid (HS.out.kept hg (fun e => by have := Option.some.inj e; omega))
 have HB1 := Lib.hid (show Below ss w w1 from (Below.refl ss w).grown hg (Nat.le_of_lt HS.out.lt) (fun k e => by have := Option.some.inj e; omega))
 have e7 := HS1.out.cell 7 (.int .i64 0) rfl
 have e6 := HS1.out.cell 6 (.int .i64 0) rfl
 have f7 := HS1.out.frozen 7
 have f6 := HS1.out.frozen 6
 have HGn := Lib.hid (And.intro hgl (And.intro h1 h12))
 clear hg hgl h1 h12 hm c5 c6 hq
 go_wp2_with fail
 have hne : g ≠ ss := by
  rintro rfl
  have h := HS1.out.cells 12
  rw [HGn.out.2.2] at h
  cases h
 refine HQ1.out _ _ _ ?_
 go_ret2
 refine ⟨g, c, rfl, (HB1.out.setCell (p := ⟨ss, 7, none⟩) (Nat.le_refl ss) _).setCell (p := ⟨ss, 6, none⟩) (Nat.le_refl ss) _, ?_, ?_, ?_⟩
 ·exact Nat.lt_of_lt_of_le HGn.out.1 (((Below.refl ss w1).setCell (p := ⟨ss, 7, none⟩) (Nat.le_refl ss) _).setCell (p := ⟨ss, 6, none⟩) (Nat.le_refl ss) _).size
 ·rw [cell_set_ne (q := ⟨g, 1, none⟩) hne, cell_set_ne (q := ⟨g, 1, none⟩) hne]; exact HGn.out.2.1
 ·rw [cell_set_ne (q := ⟨g, 12, none⟩) hne, cell_set_ne (q := ⟨g, 12, none⟩) hne]; exact HGn.out.2.2
theorem livesT (w : World) : Calls Tryz.prog 4 #[] w fun e w' => e = .returned (.bool true) ∧ Below w.heap.size w w' := by
 go_enter Tryz.func4, Tryz.ntmps4
 refine wp_hide fun Q1 hQ1 => ?_
 have HQ1 := Lib.hid hQ1
 clear hQ1
 go_wp2_with fail
 refine (limits_any _).mono ?_
 rintro e w1 ⟨rfl, hb⟩
 have HB1 := Lib.hid hb
 clear hb
 go_wp2_with fail
 refine (snew_3 _).mono ?_
 rintro e w2 ⟨ss, sp, rfl, hb, hle, hlt, hS, hT⟩
 have HB2 := Lib.hid (below_thenh HB1.out hb)
 have HS := Lib.hid (And.intro hS (And.intro hT (And.intro hlt (Nat.le_trans HB1.out.size hle))))
 clear hb hle hlt hS hT HB1
 go_wp2_with fail
 refine (sfeed_3 HS.out.1 HS.out.2.1 HS.out.2.2.1).mono ?_
 rintro r w3 ⟨g, c, rfl, hb, hgl, h1, h12⟩
 have HB3 := Lib.hid (HB2.out.trans (hb.mono HS.out.2.2.2))
 clear hb HB2 HS
 go_wp2_with fail
 refine HQ1.out _ _ _ ?_
 go_ret
 exact ⟨rfl, HB3.out⟩
end Go.Proofs.YtanofjmkkhocaaaGreatDoor
