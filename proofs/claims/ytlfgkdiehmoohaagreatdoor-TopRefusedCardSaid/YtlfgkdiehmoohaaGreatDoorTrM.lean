/- frommqtt.To and a session's feed of a PINGREQ. -/
import Derived.Test.YtlfgkdiehmoohaaGreatDoorTrL
import Derived.Test.YtlfgkdiehmoohaaGreatDoorTrK
namespace Go.Proofs.YtlfgkdiehmoohaaGreatDoor
open Go Go.RowKit
set_option linter.unusedVariables false
set_option linter.unusedSimpArgs false
attribute [local go_sem ↓] load_Pk store_Pk load_Ev store_Ev
theorem evP_1 (vw vc vf vp : Value) : (evP vw vc vf vp)[1]? = some (.int .i64 2) := rfl
theorem evP_12 (vw vc vf vp : Value) : (evP vw vc vf vp)[12]? = some (.int .i64 12) := rfl
theorem evP_len (vw vc vf vp : Value) : (evP vw vc vf vp).toList.length = 57 := rfl
theorem infoZEv : (Tryz.prog.info? 64).map (fun i => (i.zero, i.size, i.bytes)) = some (some (.agg #[.int .i64 0, .int .i64 0, .string ⟨#[]⟩, .string ⟨#[]⟩, .int .i64 0, .bool false, .bool false, .int .i64 0, .slice none 0 0, .int .i64 0, .slice none 0 0, .int .i64 0, .int .i64 0, .bool false, .bool false, .int .i64 0, .int .i64 0, .string ⟨#[]⟩, .string ⟨#[]⟩, .bool false, .int .i64 0, .string ⟨#[]⟩, .bool false, .string ⟨#[]⟩, .bool false, .string ⟨#[]⟩, .bool false, .string ⟨#[]⟩, .string ⟨#[]⟩, .int .i64 0, .bool false, .slice none 0 0, .bool false, .int .i64 0, .slice none 0 0, .slice none 0 0, .slice none 0 0, .int .i64 0, .bool false, .int .i64 0, .bool false, .bool false, .bool false, .int .i64 0, .int .i64 0, .int .i64 0, .int .i64 0, .bool false, .int .i64 0, .int .i64 0, .int .i64 0, .string ⟨#[]⟩, .string ⟨#[]⟩, .int .i64 0, .int .i64 0, .string ⟨#[]⟩, .slice none 0 0]), 57, 632) := by kernel_rfl
theorem builtEv (vw vc vf vp : Value) : Tryz.prog.builtSlice 64 1 [(0, .agg (evP vw vc vf vp))] = some (evP vw vc vf vp) := by unfold evP; kernel_rfl
theorem evP_mem {vw vc vf vp : Value} (h : (evP vw vc vf vp).all (·.oneCell') = true) : ∀ u ∈ (evP vw vc vf vp).toList, u.oneCell' = true := by
  intro u hu
  rw [Array.all_eq_true] at h
  obtain ⟨i, hi, rfl⟩ := List.getElem_of_mem hu
  exact h i (by simpa using hi)
theorem newsEv (vw vc vf vp : Value) (w : World) : ∀ j u, (evP vw vc vf vp).toList[j]? = some u → (w.alloc (.cells (evP vw vc vf vp) 64 (0, 0))).cell? ((⟨w.heap.size, 0, none⟩ : Addr).add j) = some u := by
  intro j u hj
  have h := (Obj?.new w (evP vw vc vf vp) 64).cell j u (by simpa using hj)
  rw [addr_add]
  exact h
attribute [local irreducible] rowSem rowStore c12 c00 evN evP
set_option maxRecDepth 100000 in
set_option maxHeartbeats 3200000 in
theorem to_12 (w : World) : Calls Tryz.prog 291 #[.int .i64 4, .agg c12] w fun e w' => ∃ vw vc vf vp, e = .returned (.tuple #[.agg (evP vw vc vf vp), .int .i64 0]) ∧ Below w.heap.size w w' ∧ (evP vw vc vf vp).all (·.oneCell') = true := by
  have O0 := (Obj?.new w c12 55).alloc (.cells #[.int .i64 0, .int .i64 0, .string ⟨#[]⟩, .string ⟨#[]⟩, .int .i64 0, .bool false, .bool false, .int .i64 0, .slice none 0 0, .int .i64 0, .slice none 0 0, .int .i64 0, .int .i64 0, .bool false, .bool false, .int .i64 0, .int .i64 0, .string ⟨#[]⟩, .string ⟨#[]⟩, .bool false, .int .i64 0, .string ⟨#[]⟩, .bool false, .string ⟨#[]⟩, .bool false, .string ⟨#[]⟩, .bool false, .string ⟨#[]⟩, .string ⟨#[]⟩, .int .i64 0, .bool false, .slice none 0 0, .bool false, .int .i64 0, .slice none 0 0, .slice none 0 0, .slice none 0 0, .int .i64 0, .bool false, .int .i64 0, .bool false, .bool false, .bool false, .int .i64 0, .int .i64 0, .int .i64 0, .int .i64 0, .bool false, .int .i64 0, .int .i64 0, .int .i64 0, .string ⟨#[]⟩, .string ⟨#[]⟩, .int .i64 0, .int .i64 0, .string ⟨#[]⟩, .slice none 0 0] 64 (0, 0))
  have O4 := Obj?.new (w.alloc (.cells c12 55 (0, 0))) #[.int .i64 0, .int .i64 0, .string ⟨#[]⟩, .string ⟨#[]⟩, .int .i64 0, .bool false, .bool false, .int .i64 0, .slice none 0 0, .int .i64 0, .slice none 0 0, .int .i64 0, .int .i64 0, .bool false, .bool false, .int .i64 0, .int .i64 0, .string ⟨#[]⟩, .string ⟨#[]⟩, .bool false, .int .i64 0, .string ⟨#[]⟩, .bool false, .string ⟨#[]⟩, .bool false, .string ⟨#[]⟩, .bool false, .string ⟨#[]⟩, .string ⟨#[]⟩, .int .i64 0, .bool false, .slice none 0 0, .bool false, .int .i64 0, .slice none 0 0, .slice none 0 0, .slice none 0 0, .int .i64 0, .bool false, .int .i64 0, .bool false, .bool false, .bool false, .int .i64 0, .int .i64 0, .int .i64 0, .int .i64 0, .bool false, .int .i64 0, .int .i64 0, .int .i64 0, .string ⟨#[]⟩, .string ⟨#[]⟩, .int .i64 0, .int .i64 0, .string ⟨#[]⟩, .slice none 0 0] 64
  rw [World.size_alloc] at O4
  have HB0 := Lib.hid (below_al (below_al (Below.refl _ w) (.cells c12 55 (0, 0))) (.cells #[.int .i64 0, .int .i64 0, .string ⟨#[]⟩, .string ⟨#[]⟩, .int .i64 0, .bool false, .bool false, .int .i64 0, .slice none 0 0, .int .i64 0, .slice none 0 0, .int .i64 0, .int .i64 0, .bool false, .bool false, .int .i64 0, .int .i64 0, .string ⟨#[]⟩, .string ⟨#[]⟩, .bool false, .int .i64 0, .string ⟨#[]⟩, .bool false, .string ⟨#[]⟩, .bool false, .string ⟨#[]⟩, .bool false, .string ⟨#[]⟩, .string ⟨#[]⟩, .int .i64 0, .bool false, .slice none 0 0, .bool false, .int .i64 0, .slice none 0 0, .slice none 0 0, .slice none 0 0, .int .i64 0, .bool false, .int .i64 0, .bool false, .bool false, .bool false, .int .i64 0, .int .i64 0, .int .i64 0, .int .i64 0, .bool false, .int .i64 0, .int .i64 0, .int .i64 0, .string ⟨#[]⟩, .string ⟨#[]⟩, .int .i64 0, .int .i64 0, .string ⟨#[]⟩, .slice none 0 0] 64 (0, 0)))
  have l0 := load_12 O0
  have HO0 := Lib.hid O0
  have HO4 := Lib.hid O4
  clear O0 O4
  go_enter Tryz.func291, Tryz.ntmps291
  go_wp2_with fail
  refine (proto_4 _).mono ?_
  rintro e w1 ⟨rfl, hw⟩
  subst hw
  go_wp2_with fail
  refine (mvalid_12 _).mono ?_
  rintro e w2 ⟨rfl, hb⟩
  have HB2 := Lib.hid (below_thenh HB0.out hb)
  have HO2 := Lib.hid (HO0.out.below hb HO0.out.lt)
  have HO42 := Lib.hid (HO4.out.below hb HO4.out.lt)
  clear hb l0 HB0 HO0 HO4
  have l2 := load_12 HO2.out
  have a0 := HO2.out.cell 0 _ c12_0
  go_wp2_with fail
  refine (other_12 _).mono ?_
  rintro e w3 ⟨rfl, hb⟩
  have HB3 := Lib.hid (below_thenh HB2.out hb)
  have HO43 := Lib.hid (HO42.out.below hb HO42.out.lt)
  clear hb l2 a0 HB2 HO2 HO42
  go_wp2_with fail
  refine (ecopy_12 _).mono ?_
  rintro e w4 ⟨vw, vc, vf, vp, rfl, hb, h1⟩
  have HB4 := Lib.hid (below_thenh HB3.out hb)
  have HO44 := Lib.hid (HO43.out.below hb HO43.out.lt)
  have HE := Lib.hid h1
  have hst := store_ev HO44.out rfl h1
  clear hb HB3 HO43 h1
  go_wp2_with fail
  refine bodyPost_ret (results_rowT rfl _ _ _ _ _ _ rfl (HO44.out.setRow (evP vw vc vf vp)) Tryz.underlying64 rfl (evP_info vw vc vf vp)) rfl ?_
  exact ⟨vw, vc, vf, vp, rfl, below_row HB4.out (by omega) _, HE.out⟩
def omC (sp : Nat) : Array Value := #[.int .i64 1, .int .i64 4096, .int .i64 6, .string ⟨#[]⟩, .int .i64 4, .pointer (some ⟨sp, 0, none⟩)]
set_option maxRecDepth 100000 in
set_option maxHeartbeats 6400000 in
theorem omfeed_12 {w : World} {sp : Nat} (hO : Obj? w sp (stC 4 4096 (.slice none 0 0) 0 0 0) 67) :
    Calls Tryz.prog 288 #[.agg (omC sp), .string ⟨#[192, 0]⟩] w fun r w' => ∃ g c, r = .returned (.tuple #[.slice (some ⟨g, 0, none⟩) 1 c, .int .i64 0]) ∧ w.grownBy w' (some sp) ∧ g < w'.heap.size ∧ w'.cell? ⟨g, 1, none⟩ = some (.int .i64 2) ∧ w'.cell? ⟨g, 12, none⟩ = some (.int .i64 12) := by
  obtain ⟨i1, hj, hy0, hy1, hy2⟩ := info_parts infoZEv
  have HO0 := Lib.hid (Obj?.new w (omC sp) 83)
  have HS0 := Lib.hid (hO.alloc (.cells (omC sp) 83 (0, 0)))
  have HG0 := Lib.hid (World.grownBy_alloc w (.cells (omC sp) 83 (0, 0)) (some sp))
  have HLt := Lib.hid hO.lt
  have a5 := HO0.out.cell 5 (.pointer (some ⟨sp, 0, none⟩)) rfl
  clear hO
  go_enter Tryz.func288, Tryz.ntmps288
  refine wp_hide fun Q1 hQ1 => ?_
  have HQ1 := Lib.hid hQ1
  clear hQ1
  go_wp2_with fail
  refine (feed_12 HS0.out).mono ?_
  rintro r w1 ⟨g, c, rfl, hg, hgl, hcs⟩
  have HG1 := Lib.hid (HG0.out.trans hg)
  have HO1 := Lib.hid (HO0.out.kept hg (fun e => by have := Option.some.inj e; have := HLt.out; omega))
  have hl := rowSem_mid (P := Tryz.prog) w1 g 0 55 c12 _ (fun j v hj => by rw [Nat.zero_add]; exact hcs j v hj) Tryz.underlying55 rfl c12_info
  have a4 := HO1.out.cell 4 (.int .i64 4) rfl
  have hst := store_new12c w1
  clear hg hgl hcs HG0 HO0 HS0 a5
  go_wp2_with fail
  refine wp_loop_rounds 2 ?_
  rw [rounds_succ]
  have a4' := (HO1.out.alloc (.cells c12 55 (0, 0))).cell 4 (.int .i64 4) rfl
  have hl2 := load_12 (Obj?.new w1 c12 55)
  go_wp2_with fail
  refine (to_12 _).mono ?_
  rintro r w2 ⟨vw, vc, vf, vp, rfl, hb, h1⟩
  have HG2 := Lib.hid ((HG1.out.trans (World.grownBy_alloc w1 (.cells c12 55 (0, 0)) (some sp))).trans (grown_below hb (some sp)))
  have hst := store_newev (w := w2) h1
  have HE := Lib.hid h1
  clear hb h1 hl a4 a4' hl2 HO1 HG1
  go_upto_region 9 with fail
  obtain ⟨W3, hW3⟩ : ∃ W, W = w2.alloc (.cells (evP vw vc vf vp) 64 (0, 0)) := ⟨_, rfl⟩
  have hl3 := load_ev (show Obj? W3 w2.heap.size (evP vw vc vf vp) 64 by rw [hW3]; exact Obj?.new w2 _ _)
  have HG3 := Lib.hid (show w.grownBy W3 (some sp) by rw [hW3]; exact HG2.out.trans (World.grownBy_alloc _ _ _))
  rw [← hW3]
  clear hW3 hst HG2
  have hown3 := World.ownsRow_nil (W3.alloc (.cells (evP vw vc vf vp) 64 (0, 0))) 0 64 57
  have HG4 := Lib.hid (HG3.out.trans (World.grownBy_alloc W3 (.cells (evP vw vc vf vp) 64 (0, 0)) (some sp)))
  go_wp2_with (first
    | (refine Great.wpList_buildSliceTo rfl 45 64 1 _ rfl W3.heap.size rfl (some 39) rfl Tryz.underlying45 (evP vw vc vf vp) (Eq.trans (congrArg (Tryz.prog.builtSlice 64 1) (a₂ := [(0, .agg (evP vw vc vf vp))]) (by kernel_rfl)) (builtEv vw vc vf vp)) ?_)
    | (at_builtin; refine wpList_append_own _ rfl _ _ 45 rfl 0 64 i1 (.agg #[.int .i64 0, .int .i64 0, .string ⟨#[]⟩, .string ⟨#[]⟩, .int .i64 0, .bool false, .bool false, .int .i64 0, .slice none 0 0, .int .i64 0, .slice none 0 0, .int .i64 0, .int .i64 0, .bool false, .bool false, .int .i64 0, .int .i64 0, .string ⟨#[]⟩, .string ⟨#[]⟩, .bool false, .int .i64 0, .string ⟨#[]⟩, .bool false, .string ⟨#[]⟩, .bool false, .string ⟨#[]⟩, .bool false, .string ⟨#[]⟩, .string ⟨#[]⟩, .int .i64 0, .bool false, .slice none 0 0, .bool false, .int .i64 0, .slice none 0 0, .slice none 0 0, .slice none 0 0, .int .i64 0, .bool false, .int .i64 0, .bool false, .bool false, .bool false, .int .i64 0, .int .i64 0, .int .i64 0, .int .i64 0, .bool false, .int .i64 0, .int .i64 0, .int .i64 0, .string ⟨#[]⟩, .string ⟨#[]⟩, .int .i64 0, .int .i64 0, .string ⟨#[]⟩, .slice none 0 0]) 57 632 Tryz.underlying45 hj hy0 hy1 hy2 rfl (by decide) _ 0 [] rfl hown3 ⟨W3.heap.size, 0, none⟩ 1 1 (evP vw vc vf vp).toList rfl (by rw [evP_len]) (newsEv vw vc vf vp W3) (evP_mem HE.out) (by decide) (by decide) (Nat.zero_le _) ?_; intro v5 w5 hown5 hgrow5 _; obtain ⟨g5, cap5, rfl⟩ := owns_succ hown5; have HG5 := Lib.hid (HG4.out.trans (grown_sp (sp := sp) hgrow5 (.inl rfl))); have HW5 := Lib.hid hown5; clear hown5 hgrow5 hown3))
  rw [rounds_succ]
  go_wp2_with fail
  refine HQ1.out _ _ _ ?_
  go_ret2
  exact ⟨g5, cap5, rfl, HG5.out, (HW5.out.lt g5 rfl).2, by rw [← addr_add]; exact HW5.out.cells (g := g5) rfl 1 _ (by simpa using evP_1 vw vc vf vp), by rw [← addr_add]; exact HW5.out.cells (g := g5) rfl 12 _ (by simpa using evP_12 vw vc vf vp)⟩
end Go.Proofs.YtlfgkdiehmoohaaGreatDoor
