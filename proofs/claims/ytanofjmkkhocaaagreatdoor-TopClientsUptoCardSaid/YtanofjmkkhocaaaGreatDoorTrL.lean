/- mqtt.body and Valid of a PINGREQ. frommqtt.To of a PINGREQ. event.Copy and frommqtt.To of a PINGREQ. -/
import Derived.Test.YtanofjmkkhocaaaGreatDoorTrF
import Derived.Lib.SliceRun
import Derived.LoopN
set_option linter.unusedVariables false
set_option linter.unusedSimpArgs false
set_option maxRecDepth 100000
set_option maxHeartbeats 6400000
namespace Go.Proofs.YtanofjmkkhocaaaGreatDoor
open Go Go.RowKit
attribute [local go_sem ↓] load_Pk store_Pk load_HdT store_HdT load_Ch store_Ch
attribute [local irreducible] rowSem rowStore c12
theorem cs10 : ∀ i : Nat, i < 10 → (i = 0 ∨ i = 1 ∨ i = 2 ∨ i = 3 ∨ i = 4 ∨ i = 5 ∨ i = 6 ∨ i = 7 ∨ i = 8 ∨ i = 9) := by decide +kernel
theorem c12_size : c12.size = 25 := by unfold c12; rfl
theorem build_d12 : Array.foldl (fun (cs : Array Value) (x : Value × Nat) => cs.setIfInBounds (1 + x.snd) x.fst) #[.int .i64 4, .int .i64 0, .bool false, .bool false, .int .i64 0, .int .i64 0, .string ⟨#[]⟩, .string ⟨#[]⟩, .bool false, .int .i64 0, .string ⟨#[]⟩, .bool false, .string ⟨#[]⟩, .bool false, .string ⟨#[]⟩, .bool false, .string ⟨#[]⟩, .string ⟨#[]⟩, .int .i64 0, .bool false, .slice none 0 0, .bool false, .int .i64 0, .slice none 0 0, .slice none 0 0, .slice none 0 0] c12.zipIdx 0 25 = #[.int .i64 4] ++ c12 := by unfold c12; kernel_rfl
theorem mbody_12 (w : World) : Calls Tryz.prog 193 #[.int .i64 4, .agg c12] w fun e w' => e = .returned (.tuple #[.string ⟨#[]⟩, .int .i64 0]) ∧ Below w.heap.size w w' := by
 go_enter Tryz.func193, Tryz.ntmps193
 refine wp_hide fun Q1 hQ1 => ?_
 have HQ1 := Lib.hid hQ1
 clear hQ1
 go_upto_region 3 with fail
 obtain ⟨w0, hw0⟩ : ∃ W, W = w.alloc (.cells c12 34 (0, 0)) := ⟨_, rfl⟩
 have HB0 := Lib.hid (show Below w.heap.size w w0 from by rw [hw0]; exact below_al (Below.refl _ _) _)
 have HO0 := Lib.hid (show Obj? w0 w.heap.size c12 34 from by rw [hw0]; exact Obj?.new w _ _)
 rw [← hw0]
 clear hw0
 refine region_inv2 rfl (by kernel_rfl) (InvG 10 [undef, .pointer (some ⟨w.heap.size, 0, none⟩), .int .i64 12, .tuple #[.agg #[.func (.func 211) #[] #[], .func (.func 212) #[] #[]], .bool true], .tuple #[.agg #[.func (.func 211) #[] #[], .func (.func 212) #[] #[]], .bool true], .agg #[.func (.func 211) #[] #[], .func (.func 212) #[] #[]], .bool true, undef, undef, .bool true] [0, 7, 8] (PairR (w.heap.size + 1) w0 (MapE 0 w.heap.size c12 34) 7 8 301 #[.nilFunc, .nilFunc] #[.func (.func 211) #[] #[], .func (.func 212) #[] #[]]) (fun x => ⟨((.int .i64 4) :: (.agg c12) :: (undef) :: (.pointer (some ⟨w.heap.size, 0, none⟩)) :: (.string ⟨#[]⟩) :: (.int .i64 0) :: x 7 :: x 9 :: (undef) :: (undef) :: (.int .i64 4) :: (.bool false) :: (.bool false) :: (undef) :: (undef) :: (.bool false) :: x 4 :: x 0 :: x 1 :: x 2 :: x 3 :: x 5 :: x 6 :: (undef) :: (undef) :: (undef) :: (undef) :: (undef) :: (undef) :: (undef) :: (undef) :: (undef) :: (undef) :: (undef) :: (undef) :: (undef) :: (undef) :: (undef) :: (undef) :: (undef) :: (undef) :: (undef) :: (undef) :: (undef) :: (undef) :: (undef) :: (undef) :: (undef) :: (undef) :: (undef) :: []).toArray, []⟩)) ?_ ?_ ?_
 ·exact ⟨fun i => undef, by kernel_rfl, PairR.start HO0.out.lt (below_drewB _ _) _ _ (MapE.start HO0.out.drew _ _), fun i hi hs h => absurd h (by rw [getD_repl]; decide)⟩
 ·as_aux_lemma =>
  rintro L a wz hsz ⟨x, rfl, HR, hΦ⟩ i o ho hn hd
  have hlt : i < 10 := (Array.getElem?_eq_some_iff.1 ho).1
  replace hsz : L.size = 10 := hsz
  rcases cs10 i hlt with rfl | rfl | rfl | rfl | rfl | rfl | rfl | rfl | rfl | rfl
  all_goals
   have ho' := ho
   simp only [List.getElem?_toArray, List.getElem?_cons_zero, List.getElem?_cons_succ, Option.some.injEq] at ho'
   subst ho'
   clear hlt
  ·as_aux_lemma =>
   refine wpOp_yes ho rfl (fun K' hK => ?_)
   have HK := Lib.hid hK
   clear hK ho
   go_simp
   go_at_call 199
   refine (chapters_any _).mono ?_
   rintro e w1 ⟨rfl, hb, hm⟩
   (try dsimp only)
   refine HK.out _ _ (InvG.next 0 _ hΦ rfl ?_ (HR.pure 0 _ (by decide) (by decide) hb (HR.ex.here (by rw [hsz]; decide) hm hb)) (.inl (by decide)))
   kernel_rfl
  ·as_aux_lemma =>
   refine wpOp_yes ho rfl (fun K' hK => ?_)
   have HK := Lib.hid hK
   clear hK ho
   go_simp
   refine HK.out _ _ (InvG.next 1 _ hΦ rfl ?_ (HR.pure 1 _ (by decide) (by decide) (Below.refl _ _) (HR.ex.keep 1 _ (by decide) (Below.refl _ _))) (.inr rfl))
   kernel_rfl
  ·as_aux_lemma =>
   refine wpOp_yes ho rfl (fun K' hK => ?_)
   have HK := Lib.hid hK
   clear hK ho
   have e1 := (show x 1 = .pointer (some ⟨w.heap.size, 0, none⟩) from hΦ 1 (by decide) (by decide) (dep_of hd _ rfl))
   have c0 := HR.ex.kept.cell 0 _ c12_0
   go_simp
   refine HK.out _ _ (InvG.next 2 _ hΦ (upds1 e1) ?_ (HR.pure 2 _ (by decide) (by decide) (Below.refl _ _) (HR.ex.keep 2 _ (by decide) (Below.refl _ _))) (.inr rfl))
   kernel_rfl
  ·as_aux_lemma =>
   refine wpOp_yes ho rfl (fun K' hK => ?_)
   have HK := Lib.hid hK
   clear hK ho
   have e2 := (show x 2 = .int .i64 12 from hΦ 2 (by decide) (by decide) (dep_of hd _ rfl))
   obtain ⟨bm, e0, hm⟩ := HR.ex.mp (dep_of hd _ rfl)
   have hlk := run_lookupI_ok (P := Tryz.prog) (T := 302) (k := 12) (i := 11) (v := .agg #[.func (.func 211) #[] #[], .func (.func 212) #[] #[]]) Tryz.underlying302 Tryz.underlying3 hm rfl
   go_simp
   refine HK.out _ _ (InvG.next 3 _ hΦ (upds2 e0 e2) ?_ (HR.pure 3 _ (by decide) (by decide) (Below.refl _ _) (HR.ex.keep 3 _ (by decide) (Below.refl _ _))) (.inr rfl))
   kernel_rfl
  ·as_aux_lemma =>
   refine wpOp_yes ho rfl (fun K' hK => ?_)
   have HK := Lib.hid hK
   clear hK ho
   have e3 := (show x 3 = .tuple #[.agg #[.func (.func 211) #[] #[], .func (.func 212) #[] #[]], .bool true] from hΦ 3 (by decide) (by decide) (dep_of hd _ rfl))
   go_simp
   refine HK.out _ _ (InvG.next 4 _ hΦ (upds1 e3) ?_ (HR.pure 4 _ (by decide) (by decide) (Below.refl _ _) (HR.ex.keep 4 _ (by decide) (Below.refl _ _))) (.inr rfl))
   kernel_rfl
  ·as_aux_lemma =>
   refine wpOp_yes ho rfl (fun K' hK => ?_)
   have HK := Lib.hid hK
   clear hK ho
   have e4 := (show x 4 = .tuple #[.agg #[.func (.func 211) #[] #[], .func (.func 212) #[] #[]], .bool true] from hΦ 4 (by decide) (by decide) (dep_of hd _ rfl))
   go_simp
   refine HK.out _ _ (InvG.next 5 _ hΦ (upds1 e4) ?_ (HR.pure 5 _ (by decide) (by decide) (Below.refl _ _) (HR.ex.keep 5 _ (by decide) (Below.refl _ _))) (.inr rfl))
   kernel_rfl
  ·as_aux_lemma =>
   refine wpOp_yes ho rfl (fun K' hK => ?_)
   have HK := Lib.hid hK
   clear hK ho
   have e4 := (show x 4 = .tuple #[.agg #[.func (.func 211) #[] #[], .func (.func 212) #[] #[]], .bool true] from hΦ 4 (by decide) (by decide) (dep_of hd _ rfl))
   go_simp
   refine HK.out _ _ (InvG.next 6 _ hΦ (upds1 e4) ?_ (HR.pure 6 _ (by decide) (by decide) (Below.refl _ _) (HR.ex.keep 6 _ (by decide) (Below.refl _ _))) (.inr rfl))
   kernel_rfl
  ·as_aux_lemma =>
   refine wpOp_yes ho rfl (fun K' hK => ?_)
   have HK := Lib.hid hK
   clear hK ho
   go_simp
   refine HK.out _ _ (InvG.next 7 _ hΦ rfl ?_ (HR.alloc (by decide) (by rw [hsz]; decide) hn (Nat.le_trans HR.low HR.bel.size) (HR.ex.keep 7 _ (by decide) (below_al (Below.refl _ wz) _))) (.inl (by decide)))
   kernel_rfl
  ·as_aux_lemma =>
   refine wpOp_yes ho rfl (fun K' hK => ?_)
   have HK := Lib.hid hK
   clear hK ho
   have e5 := (show x 5 = .agg #[.func (.func 211) #[] #[], .func (.func 212) #[] #[]] from hΦ 5 (by decide) (by decide) (dep_of hd _ rfl))
   obtain ⟨b, e7, hBb, hO⟩ := HR.open' (dep_of hd _ rfl) hn
   have hst := rowStore_run (P := Tryz.prog) wz b 301 301 _ #[.func (.func 211) #[] #[], .func (.func 212) #[] #[]] hO infoCh rfl (by simp [Value.oneCell'])
   have HNe := Lib.hid (show w.heap.size < b ∨ b < w.heap.size from .inl hBb)
   go_simp
   refine HK.out _ _ (InvG.next 8 undef hΦ (upds2 e7 e5) ?_ (HR.store undef (by decide) (by rw [hsz]; decide) e7 (dep_of hd _ rfl) hBb hO (HR.ex.store 8 undef (by decide) hO HNe.out)) (.inl (by decide)))
   kernel_rfl
  ·as_aux_lemma =>
   refine wpOp_yes ho rfl (fun K' hK => ?_)
   have HK := Lib.hid hK
   clear hK ho
   have e6 := (show x 6 = .bool true from hΦ 6 (by decide) (by decide) (dep_of hd _ rfl))
   go_simp
   refine HK.out _ _ (InvG.next 9 _ hΦ (upds1 e6) ?_ (HR.pure 9 _ (by decide) (by decide) (Below.refl _ _) (HR.ex.keep 9 _ (by decide) (Below.refl _ _))) (.inr rfl))
   kernel_rfl
 ·as_aux_lemma =>
  rintro L a wz ⟨x, rfl, HR, hΦ⟩ hall
  have e9 := (show x 9 = .bool true from hΦ 9 (by decide) (by decide) (hall 9 (by decide)))
  obtain ⟨b, e7, hBb, hOb⟩ := HR.done (hall 7 (by decide)) (hall 8 (by decide))
  have HOb := Lib.hid hOb
  have HO := Lib.hid HR.ex.kept
  have HB := Lib.hid (HB0.out.trans (HR.bel.mono (Nat.le_succ _)))
  clear HR hΦ hall hOb
  dsimp only
  rw [e7, e9]
  have hl := load_12 HO.out
  have hs12 := c12_size
  have c0 := HO.out.cell 0 _ c12_0
  have cf := HOb.out.cell 0 (.func (.func 211) #[] #[]) rfl
  go_wp2_with fail
  rw [build_d12]
  refine (dcontrol_12 _).mono ?_
  rintro e w2 ⟨rfl, hb⟩
  have HB2 := Lib.hid (below_thenh HB.out hb)
  clear hb hl c0 cf
  go_wp2_with fail
  refine HQ1.out _ _ _ ?_
  go_ret2
  exact ⟨rfl, HB2.out⟩
theorem mvalid_12 (w : World) : Calls Tryz.prog 187 #[.int .i64 4, .agg c12] w fun e w' => e = .returned (.int .i64 0) ∧ Below w.heap.size w w' := by
 have HB0 := Lib.hid (below_al (Below.refl _ w) (.cells c12 34 (0, 0)))
 have l0 := load_12 (Obj?.new w c12 34)
 go_enter Tryz.func187, Tryz.ntmps187
 go_wp2_with fail
 refine (mbody_12 _).mono ?_
 rintro e w1 ⟨rfl, hb⟩
 have HB1 := Lib.hid (below_thenh HB0.out hb)
 clear hb HB0 l0
 go_wp2_with fail
 go_ret
 exact ⟨rfl, HB1.out⟩
end Go.Proofs.YtanofjmkkhocaaaGreatDoor
namespace Go.Proofs.YtanofjmkkhocaaaGreatDoor
open Go Go.RowKit
def evP (vw vc vf vp : Value) : Array Value := #[.int .i64 1, .int .i64 2, .string ⟨#[]⟩, .string ⟨#[]⟩, .int .i64 0, .bool false, .bool false, .int .i64 0, .slice none 0 0, .int .i64 0, .slice none 0 0, .int .i64 0, .int .i64 12, .bool false, .bool false, .int .i64 0, .int .i64 0, .string ⟨#[]⟩, .string ⟨#[]⟩, .bool false, .int .i64 0, .string ⟨#[]⟩, .bool false, .string ⟨#[]⟩, .bool false, .string ⟨#[]⟩, .bool false, .string ⟨#[]⟩, .string ⟨#[]⟩, .int .i64 0, .bool false, vw, .bool false, .int .i64 0, vc, vf, vp, .int .i64 0, .bool false, .int .i64 0, .bool false, .bool false, .bool false, .int .i64 0, .int .i64 0, .int .i64 0, .int .i64 0, .bool false, .int .i64 0, .int .i64 0, .int .i64 0, .string ⟨#[]⟩, .string ⟨#[]⟩, .int .i64 0, .int .i64 0, .string ⟨#[]⟩, .slice none 0 0]
def evN : Array Value := evP (.slice none 0 0) (.slice none 0 0) (.slice none 0 0) (.slice none 0 0)
theorem infoEv : (Tryz.prog.info? 43).map (·.size) = some 57 := by kernel_rfl
theorem evN_info : (Tryz.prog.info? 43).map (·.size) = some evN.size := infoEv
theorem load_Ev (a : Addr) : loadVar 43 a = rowSem 43 a := rfl
theorem store_Ev (a : Addr) (v : Value) : storeVar 43 a v = rowStore 43 a v := rfl
theorem evP_size (vw vc vf vp : Value) : (evP vw vc vf vp).size = 57 := rfl
theorem evP_one {vw vc vf vp : Value} (h1 : vw.oneCell' = true) (h2 : vc.oneCell' = true) (h3 : vf.oneCell' = true) (h4 : vp.oneCell' = true) : (evP vw vc vf vp).all (·.oneCell') = true := by
 simp [evP, Value.oneCell']
 exact ⟨h1, h2, h3, h4⟩
theorem load_ev {w : World} {b : Nat} {vw vc vf vp : Value} (h : Obj? w b (evP vw vc vf vp) 43) : (rowSem 43 ⟨b, 0, none⟩).run Tryz.prog w = .ok (.agg (evP vw vc vf vp)) w :=
 rowSem_run w b 43 43 _ _ h Tryz.underlying43 rfl (by rw [evP_size]; exact infoEv)
theorem store_ev {w : World} {b : Nat} {cs : Array Value} {vw vc vf vp : Value} (h : Obj? w b cs 43) (hs : cs.size = 57) (h1 : (evP vw vc vf vp).all (·.oneCell') = true) : (rowStore 43 ⟨b, 0, none⟩ (.agg (evP vw vc vf vp))).run Tryz.prog w = .ok () (w.setRow b (evP vw vc vf vp)) :=
 rowStore_run (P := Tryz.prog) _ b 43 43 _ _ h (by rw [evP_size]; exact infoEv) (by rw [hs]; rfl) h1
theorem store_newev {w : World} {vw vc vf vp : Value} (h1 : (evP vw vc vf vp).all (·.oneCell') = true) : (rowStore 43 ⟨w.heap.size, 0, none⟩ (.agg (evP vw vc vf vp))).run Tryz.prog (w.alloc (.cells #[.int .i64 0, .int .i64 0, .string ⟨#[]⟩, .string ⟨#[]⟩, .int .i64 0, .bool false, .bool false, .int .i64 0, .slice none 0 0, .int .i64 0, .slice none 0 0, .int .i64 0, .int .i64 0, .bool false, .bool false, .int .i64 0, .int .i64 0, .string ⟨#[]⟩, .string ⟨#[]⟩, .bool false, .int .i64 0, .string ⟨#[]⟩, .bool false, .string ⟨#[]⟩, .bool false, .string ⟨#[]⟩, .bool false, .string ⟨#[]⟩, .string ⟨#[]⟩, .int .i64 0, .bool false, .slice none 0 0, .bool false, .int .i64 0, .slice none 0 0, .slice none 0 0, .slice none 0 0, .int .i64 0, .bool false, .int .i64 0, .bool false, .bool false, .bool false, .int .i64 0, .int .i64 0, .int .i64 0, .int .i64 0, .bool false, .int .i64 0, .int .i64 0, .int .i64 0, .string ⟨#[]⟩, .string ⟨#[]⟩, .int .i64 0, .int .i64 0, .string ⟨#[]⟩, .slice none 0 0] 43 (0, 0))) = .ok () (w.alloc (.cells (evP vw vc vf vp) 43 (0, 0))) := by
 have h := store_ev (vw := vw) (vc := vc) (vf := vf) (vp := vp) (Obj?.new w #[.int .i64 0, .int .i64 0, .string ⟨#[]⟩, .string ⟨#[]⟩, .int .i64 0, .bool false, .bool false, .int .i64 0, .slice none 0 0, .int .i64 0, .slice none 0 0, .int .i64 0, .int .i64 0, .bool false, .bool false, .int .i64 0, .int .i64 0, .string ⟨#[]⟩, .string ⟨#[]⟩, .bool false, .int .i64 0, .string ⟨#[]⟩, .bool false, .string ⟨#[]⟩, .bool false, .string ⟨#[]⟩, .bool false, .string ⟨#[]⟩, .string ⟨#[]⟩, .int .i64 0, .bool false, .slice none 0 0, .bool false, .int .i64 0, .slice none 0 0, .slice none 0 0, .slice none 0 0, .int .i64 0, .bool false, .int .i64 0, .bool false, .bool false, .bool false, .int .i64 0, .int .i64 0, .int .i64 0, .int .i64 0, .bool false, .int .i64 0, .int .i64 0, .int .i64 0, .string ⟨#[]⟩, .string ⟨#[]⟩, .int .i64 0, .int .i64 0, .string ⟨#[]⟩, .slice none 0 0] 43) rfl h1
 rw [World.setRow_alloc_new] at h
 exact h
theorem build_e12 : Array.foldl (fun (cs : Array Value) (x : Value × Nat) => cs.setIfInBounds (12 + x.snd) x.fst) #[.int .i64 1, .int .i64 2, .string ⟨#[]⟩, .string ⟨#[]⟩, .int .i64 0, .bool false, .bool false, .int .i64 0, .slice none 0 0, .int .i64 0, .slice none 0 0, .int .i64 0, .int .i64 0, .bool false, .bool false, .int .i64 0, .int .i64 0, .string ⟨#[]⟩, .string ⟨#[]⟩, .bool false, .int .i64 0, .string ⟨#[]⟩, .bool false, .string ⟨#[]⟩, .bool false, .string ⟨#[]⟩, .bool false, .string ⟨#[]⟩, .string ⟨#[]⟩, .int .i64 0, .bool false, .slice none 0 0, .bool false, .int .i64 0, .slice none 0 0, .slice none 0 0, .slice none 0 0, .int .i64 0, .bool false, .int .i64 0, .bool false, .bool false, .bool false, .int .i64 0, .int .i64 0, .int .i64 0, .int .i64 0, .bool false, .int .i64 0, .int .i64 0, .int .i64 0, .string ⟨#[]⟩, .string ⟨#[]⟩, .int .i64 0, .int .i64 0, .string ⟨#[]⟩, .slice none 0 0] c12.zipIdx 0 25 = evN := by unfold c12 evN evP; kernel_rfl
theorem store_built (w : World) : (rowStore 43 ⟨w.heap.size, 0, none⟩ (.agg (Array.foldl (fun (cs : Array Value) (x : Value × Nat) => cs.setIfInBounds (12 + x.snd) x.fst) #[.int .i64 1, .int .i64 2, .string ⟨#[]⟩, .string ⟨#[]⟩, .int .i64 0, .bool false, .bool false, .int .i64 0, .slice none 0 0, .int .i64 0, .slice none 0 0, .int .i64 0, .int .i64 0, .bool false, .bool false, .int .i64 0, .int .i64 0, .string ⟨#[]⟩, .string ⟨#[]⟩, .bool false, .int .i64 0, .string ⟨#[]⟩, .bool false, .string ⟨#[]⟩, .bool false, .string ⟨#[]⟩, .bool false, .string ⟨#[]⟩, .string ⟨#[]⟩, .int .i64 0, .bool false, .slice none 0 0, .bool false, .int .i64 0, .slice none 0 0, .slice none 0 0, .slice none 0 0, .int .i64 0, .bool false, .int .i64 0, .bool false, .bool false, .bool false, .int .i64 0, .int .i64 0, .int .i64 0, .int .i64 0, .bool false, .int .i64 0, .int .i64 0, .int .i64 0, .string ⟨#[]⟩, .string ⟨#[]⟩, .int .i64 0, .int .i64 0, .string ⟨#[]⟩, .slice none 0 0] c12.zipIdx 0 25))).run Tryz.prog (w.alloc (.cells #[.int .i64 0, .int .i64 0, .string ⟨#[]⟩, .string ⟨#[]⟩, .int .i64 0, .bool false, .bool false, .int .i64 0, .slice none 0 0, .int .i64 0, .slice none 0 0, .int .i64 0, .int .i64 0, .bool false, .bool false, .int .i64 0, .int .i64 0, .string ⟨#[]⟩, .string ⟨#[]⟩, .bool false, .int .i64 0, .string ⟨#[]⟩, .bool false, .string ⟨#[]⟩, .bool false, .string ⟨#[]⟩, .bool false, .string ⟨#[]⟩, .string ⟨#[]⟩, .int .i64 0, .bool false, .slice none 0 0, .bool false, .int .i64 0, .slice none 0 0, .slice none 0 0, .slice none 0 0, .int .i64 0, .bool false, .int .i64 0, .bool false, .bool false, .bool false, .int .i64 0, .int .i64 0, .int .i64 0, .int .i64 0, .bool false, .int .i64 0, .int .i64 0, .int .i64 0, .string ⟨#[]⟩, .string ⟨#[]⟩, .int .i64 0, .int .i64 0, .string ⟨#[]⟩, .slice none 0 0] 43 (0, 0))) = .ok () (w.alloc (.cells evN 43 (0, 0))) := by
 rw [build_e12]
 exact store_newev (evP_one rfl rfl rfl rfl)
def putCs (cs : Array Value) (o : Nat) : List Value → Array Value
 | [] => cs
 | v :: vs => putCs (cs.setIfInBounds o v) (o + 1) vs
theorem Obj?.setCs {b : Nat} {t : TypeId} : ∀ (vs : List Value) (o : Nat) (w : World) (cs : Array Value), Obj? w b cs t → Obj? (w.setCells b o vs) b (putCs cs o vs) t
 | [], o, w, cs, h => h
 | v :: vs, o, w, cs, h => Obj?.setCs vs (o + 1) _ _ (h.set o v)
theorem setCs_grown (b : Nat) : ∀ (vs : List Value) (o : Nat) (w : World), w.grownBy (w.setCells b o vs) (some b)
 | [], o, w => World.grownBy.refl _ _
 | v :: vs, o, w => by
  have h1 := grown_set (World.grownBy.refl w (some b)) (p := ⟨b, o, none⟩) rfl v
  have h2 := setCs_grown b vs (o + 1) (w.setCell ⟨b, o, none⟩ v)
  exact ⟨h2.os.trans h1.os, h2.tape.trans h1.tape, h2.output.trans h1.output, Nat.le_trans h1.size h2.size, fun k hk hne => (h2.block k (Nat.lt_of_lt_of_le hk h1.size) hne).trans (h1.block k hk hne)⟩
theorem put_ev (vw vc vf vp : Value) : putCs evN 12 (pkCs p12 vw vc vf vp).toList = evP vw vc vf vp := by kernel_rfl
theorem pk12_info (vw vc vf vp : Value) : (Tryz.prog.info? 34).map (·.size) = some (pkCs p12 vw vc vf vp).size := by rw [infoPk5]; rfl
theorem store_evpk {w : World} {b : Nat} {vw vc vf vp : Value} (h : Obj? w b evN 43) (h1 : (pkCs p12 vw vc vf vp).all (·.oneCell') = true) :
  (rowStore 34 ⟨b, 12, none⟩ (.agg (pkCs p12 vw vc vf vp))).run Tryz.prog w = .ok () (w.setCells b 12 (pkCs p12 vw vc vf vp).toList) ∧ Obj? (w.setCells b 12 (pkCs p12 vw vc vf vp).toList) b (evP vw vc vf vp) 43 := by
 have s1 : (pkCs p12 vw vc vf vp).size = 25 := rfl
 have s2 : evN.size = 57 := rfl
 have hr := run_storeVar_mid (P := Tryz.prog) w b 12 34 (pkCs p12 vw vc vf vp) (fun j hj => ⟨by rw [h.cell (12 + j) _ (Array.getElem?_eq_getElem (show 12 + j < evN.size by omega))]; rfl, h.frozen _⟩) (pk12_info vw vc vf vp) h1
 rw [store_Pk] at hr
 refine ⟨hr, ?_⟩
 have := Obj?.setCs (pkCs p12 vw vc vf vp).toList 12 w _ h
 rw [put_ev] at this
 exact this
theorem load_evpk {w : World} {b : Nat} (h : Obj? w b evN 43) : (rowSem 34 ⟨b, 12, none⟩).run Tryz.prog w = .ok (.agg (pkCs p12 (.slice none 0 0) (.slice none 0 0) (.slice none 0 0) (.slice none 0 0))) w := by
 have hx : ∀ j v, (pkCs p12 (.slice none 0 0) (.slice none 0 0) (.slice none 0 0) (.slice none 0 0))[j]? = some v → evN[12 + j]? = some v := by
  intro j v hj
  have hlt : j < 25 := (Array.getElem?_eq_some_iff.1 hj).1
  rw [← hj]
  have : ∀ j : Fin 25, evN[12 + j.1]? = (pkCs p12 (.slice none 0 0) (.slice none 0 0) (.slice none 0 0) (.slice none 0 0))[j.1]? := by
   intro j
   match j with
   | ⟨0, _⟩ => rfl
   | ⟨1, _⟩ => rfl
   | ⟨2, _⟩ => rfl
   | ⟨3, _⟩ => rfl
   | ⟨4, _⟩ => rfl
   | ⟨5, _⟩ => rfl
   | ⟨6, _⟩ => rfl
   | ⟨7, _⟩ => rfl
   | ⟨8, _⟩ => rfl
   | ⟨9, _⟩ => rfl
   | ⟨10, _⟩ => rfl
   | ⟨11, _⟩ => rfl
   | ⟨12, _⟩ => rfl
   | ⟨13, _⟩ => rfl
   | ⟨14, _⟩ => rfl
   | ⟨15, _⟩ => rfl
   | ⟨16, _⟩ => rfl
   | ⟨17, _⟩ => rfl
   | ⟨18, _⟩ => rfl
   | ⟨19, _⟩ => rfl
   | ⟨20, _⟩ => rfl
   | ⟨21, _⟩ => rfl
   | ⟨22, _⟩ => rfl
   | ⟨23, _⟩ => rfl
   | ⟨24, _⟩ => rfl
   | ⟨n + 25, h⟩ => exact absurd h (by omega)
  exact this ⟨j, hlt⟩
 exact rowSem_mid (P := Tryz.prog) w b 12 34 _ _ (fun j v hj => h.cell (12 + j) v (hx j v hj)) Tryz.underlying34 rfl (pk12_info _ _ _ _)
theorem clone_pp0 (w : World) : Calls Tryz.prog 194 #[.slice none 0 0] w fun e w' => e = .returned (.slice none 0 0) ∧ w' = w := by
 have qT : ∀ (w : World) (a : Option Addr) (n c n' c' : Nat), (binOp .eql 27 (.slice a n c) (.slice none n' c')).run Tryz.prog w = .ok (.bool a.isNone) w := fun w a n c n' c' => Lib.run_eql_slice_nil w _ _ a n c n' c' Tryz.underlying27
 go_enter Tryz.func194, Tryz.ntmps194
 go_wp2
 go_ret
 exact ⟨rfl, rfl⟩
theorem clone_hop0 (w : World) : Calls Tryz.prog 195 #[.slice none 0 0] w fun e w' => e = .returned (.slice none 0 0) ∧ w' = w := by
 have qT : ∀ (w : World) (a : Option Addr) (n c n' c' : Nat), (binOp .eql 28 (.slice a n c) (.slice none n' c')).run Tryz.prog w = .ok (.bool a.isNone) w := fun w a n c n' c' => Lib.run_eql_slice_nil w _ _ a n c n' c' Tryz.underlying28
 go_enter Tryz.func195, Tryz.ntmps195
 go_wp2
 go_ret
 exact ⟨rfl, rfl⟩
attribute [local go_sem ↓] load_Pk store_Pk load_Ev store_Ev
attribute [local irreducible] rowSem rowStore c12 evN evP
theorem proto_4 (w : World) : Calls Tryz.prog 186 #[.int .i64 4] w fun e w' => e = .returned (.tuple #[.int .i64 1, .bool true]) ∧ w' = w := by
 go_enter Tryz.func186, Tryz.ntmps186
 go_wp2
 go_ret2
 exact ⟨rfl, rfl⟩
theorem other_12 (w : World) : Calls Tryz.prog 188 #[.int .i64 1, .agg c12] w fun e w' => e = .returned (.agg evN) ∧ Below w.heap.size w w' := by
 have hs12 := c12_size
 have HB := Lib.hid (below_al (below_al (Below.refl _ w) (.cells c12 34 (0, 0))) (.cells evN 43 (0, 0)))
 have HO := Lib.hid (Obj?.new (w.alloc (.cells c12 34 (0, 0))) evN 43)
 have hl := load_12 ((Obj?.new w c12 34).alloc (.cells #[.int .i64 0, .int .i64 0, .string ⟨#[]⟩, .string ⟨#[]⟩, .int .i64 0, .bool false, .bool false, .int .i64 0, .slice none 0 0, .int .i64 0, .slice none 0 0, .int .i64 0, .int .i64 0, .bool false, .bool false, .int .i64 0, .int .i64 0, .string ⟨#[]⟩, .string ⟨#[]⟩, .bool false, .int .i64 0, .string ⟨#[]⟩, .bool false, .string ⟨#[]⟩, .bool false, .string ⟨#[]⟩, .bool false, .string ⟨#[]⟩, .string ⟨#[]⟩, .int .i64 0, .bool false, .slice none 0 0, .bool false, .int .i64 0, .slice none 0 0, .slice none 0 0, .slice none 0 0, .int .i64 0, .bool false, .int .i64 0, .bool false, .bool false, .bool false, .int .i64 0, .int .i64 0, .int .i64 0, .int .i64 0, .bool false, .int .i64 0, .int .i64 0, .int .i64 0, .string ⟨#[]⟩, .string ⟨#[]⟩, .int .i64 0, .int .i64 0, .string ⟨#[]⟩, .slice none 0 0] 43 (0, 0)))
 have hst := store_built (w.alloc (.cells c12 34 (0, 0)))
 rw [World.size_alloc] at hst HO
 go_enter Tryz.func188, Tryz.ntmps188
 go_wp2_with fail
 refine bodyPost_ret (results_row1 rfl _ _ _ _ _ _ rfl HO.out Tryz.underlying43 rfl evN_info) rfl ?_
 exact ⟨rfl, HB.out⟩
end Go.Proofs.YtanofjmkkhocaaaGreatDoor
namespace Go.Proofs.YtanofjmkkhocaaaGreatDoor
open Go Go.RowKit
attribute [local go_sem ↓] load_Pk store_Pk load_Ev store_Ev
theorem set_same {cs : Array Value} {j : Nat} {v : Value} (h : cs[j]? = some v) : cs.setIfInBounds j v = cs := by
 have hj : j < cs.size := (Array.getElem?_eq_some_iff.1 h).1
 apply Array.ext
 ·simp
 ·intro i h1 h2
  by_cases hi : i = j
  ·subst hi
   rw [Array.getElem_setIfInBounds_self]
   exact ((Array.getElem?_eq_some_iff.1 h).2).symm
  ·rw [Array.getElem_setIfInBounds_ne (by simpa using h2) (by omega)]
theorem evN_8 : evN[8]? = some (.slice none 0 0) := rfl
theorem evN_10 : evN[10]? = some (.slice none 0 0) := rfl
theorem evN_56 : evN[56]? = some (.slice none 0 0) := rfl
theorem evP_56 (vw vc vf vp : Value) : (evP vw vc vf vp)[56]? = some (.slice none 0 0) := rfl
theorem evN_one : evN.all (·.oneCell') = true := evP_one rfl rfl rfl rfl
theorem load_evN {w : World} {b : Nat} (h : Obj? w b evN 43) : (rowSem 43 ⟨b, 0, none⟩).run Tryz.prog w = .ok (.agg evN) w := load_ev h
theorem store_newevN (w : World) : (rowStore 43 ⟨w.heap.size, 0, none⟩ (.agg evN)).run Tryz.prog (w.alloc (.cells #[.int .i64 0, .int .i64 0, .string ⟨#[]⟩, .string ⟨#[]⟩, .int .i64 0, .bool false, .bool false, .int .i64 0, .slice none 0 0, .int .i64 0, .slice none 0 0, .int .i64 0, .int .i64 0, .bool false, .bool false, .int .i64 0, .int .i64 0, .string ⟨#[]⟩, .string ⟨#[]⟩, .bool false, .int .i64 0, .string ⟨#[]⟩, .bool false, .string ⟨#[]⟩, .bool false, .string ⟨#[]⟩, .bool false, .string ⟨#[]⟩, .string ⟨#[]⟩, .int .i64 0, .bool false, .slice none 0 0, .bool false, .int .i64 0, .slice none 0 0, .slice none 0 0, .slice none 0 0, .int .i64 0, .bool false, .int .i64 0, .bool false, .bool false, .bool false, .int .i64 0, .int .i64 0, .int .i64 0, .int .i64 0, .bool false, .int .i64 0, .int .i64 0, .int .i64 0, .string ⟨#[]⟩, .string ⟨#[]⟩, .int .i64 0, .int .i64 0, .string ⟨#[]⟩, .slice none 0 0] 43 (0, 0))) = .ok () (w.alloc (.cells evN 43 (0, 0))) := store_newev evN_one
theorem evP_info (vw vc vf vp : Value) : (Tryz.prog.info? 43).map (·.size) = some (evP vw vc vf vp).size := infoEv
attribute [local irreducible] rowSem rowStore c12 evN evP
theorem ecopy_12 (w : World) : Calls Tryz.prog 190 #[.agg evN] w fun e w' => ∃ vw vc vf vp, e = .returned (.agg (evP vw vc vf vp)) ∧ Below w.heap.size w w' ∧ (evP vw vc vf vp).all (·.oneCell') = true := by
 have O0 := ((Obj?.new w evN 43).alloc (.cells #[.int .i64 0, .int .i64 0, .string ⟨#[]⟩, .string ⟨#[]⟩, .int .i64 0, .bool false, .bool false, .int .i64 0, .slice none 0 0, .int .i64 0, .slice none 0 0, .int .i64 0, .int .i64 0, .bool false, .bool false, .int .i64 0, .int .i64 0, .string ⟨#[]⟩, .string ⟨#[]⟩, .bool false, .int .i64 0, .string ⟨#[]⟩, .bool false, .string ⟨#[]⟩, .bool false, .string ⟨#[]⟩, .bool false, .string ⟨#[]⟩, .string ⟨#[]⟩, .int .i64 0, .bool false, .slice none 0 0, .bool false, .int .i64 0, .slice none 0 0, .slice none 0 0, .slice none 0 0, .int .i64 0, .bool false, .int .i64 0, .bool false, .bool false, .bool false, .int .i64 0, .int .i64 0, .int .i64 0, .int .i64 0, .bool false, .int .i64 0, .int .i64 0, .int .i64 0, .string ⟨#[]⟩, .string ⟨#[]⟩, .int .i64 0, .int .i64 0, .string ⟨#[]⟩, .slice none 0 0] 43 (0, 0)))
 have O2 := Obj?.new (w.alloc (.cells evN 43 (0, 0))) #[.int .i64 0, .int .i64 0, .string ⟨#[]⟩, .string ⟨#[]⟩, .int .i64 0, .bool false, .bool false, .int .i64 0, .slice none 0 0, .int .i64 0, .slice none 0 0, .int .i64 0, .int .i64 0, .bool false, .bool false, .int .i64 0, .int .i64 0, .string ⟨#[]⟩, .string ⟨#[]⟩, .bool false, .int .i64 0, .string ⟨#[]⟩, .bool false, .string ⟨#[]⟩, .bool false, .string ⟨#[]⟩, .bool false, .string ⟨#[]⟩, .string ⟨#[]⟩, .int .i64 0, .bool false, .slice none 0 0, .bool false, .int .i64 0, .slice none 0 0, .slice none 0 0, .slice none 0 0, .int .i64 0, .bool false, .int .i64 0, .bool false, .bool false, .bool false, .int .i64 0, .int .i64 0, .int .i64 0, .int .i64 0, .bool false, .int .i64 0, .int .i64 0, .int .i64 0, .string ⟨#[]⟩, .string ⟨#[]⟩, .int .i64 0, .int .i64 0, .string ⟨#[]⟩, .slice none 0 0] 43
 rw [World.size_alloc] at O2
 have hB2 := below_al (below_al (Below.refl _ w) (.cells evN 43 (0, 0))) (.cells #[.int .i64 0, .int .i64 0, .string ⟨#[]⟩, .string ⟨#[]⟩, .int .i64 0, .bool false, .bool false, .int .i64 0, .slice none 0 0, .int .i64 0, .slice none 0 0, .int .i64 0, .int .i64 0, .bool false, .bool false, .int .i64 0, .int .i64 0, .string ⟨#[]⟩, .string ⟨#[]⟩, .bool false, .int .i64 0, .string ⟨#[]⟩, .bool false, .string ⟨#[]⟩, .bool false, .string ⟨#[]⟩, .bool false, .string ⟨#[]⟩, .string ⟨#[]⟩, .int .i64 0, .bool false, .slice none 0 0, .bool false, .int .i64 0, .slice none 0 0, .slice none 0 0, .slice none 0 0, .int .i64 0, .bool false, .int .i64 0, .bool false, .bool false, .bool false, .int .i64 0, .int .i64 0, .int .i64 0, .int .i64 0, .bool false, .int .i64 0, .int .i64 0, .int .i64 0, .string ⟨#[]⟩, .string ⟨#[]⟩, .int .i64 0, .int .i64 0, .string ⟨#[]⟩, .slice none 0 0] 43 (0, 0))
 obtain ⟨W2, hW2⟩ : ∃ W, W = (w.alloc (.cells evN 43 (0, 0))).alloc (.cells #[.int .i64 0, .int .i64 0, .string ⟨#[]⟩, .string ⟨#[]⟩, .int .i64 0, .bool false, .bool false, .int .i64 0, .slice none 0 0, .int .i64 0, .slice none 0 0, .int .i64 0, .int .i64 0, .bool false, .bool false, .int .i64 0, .int .i64 0, .string ⟨#[]⟩, .string ⟨#[]⟩, .bool false, .int .i64 0, .string ⟨#[]⟩, .bool false, .string ⟨#[]⟩, .bool false, .string ⟨#[]⟩, .bool false, .string ⟨#[]⟩, .string ⟨#[]⟩, .int .i64 0, .bool false, .slice none 0 0, .bool false, .int .i64 0, .slice none 0 0, .slice none 0 0, .slice none 0 0, .int .i64 0, .bool false, .int .i64 0, .bool false, .bool false, .bool false, .int .i64 0, .int .i64 0, .int .i64 0, .int .i64 0, .bool false, .int .i64 0, .int .i64 0, .int .i64 0, .string ⟨#[]⟩, .string ⟨#[]⟩, .int .i64 0, .int .i64 0, .string ⟨#[]⟩, .slice none 0 0] 43 (0, 0)) := ⟨_, rfl⟩
 rw [← hW2] at O0 O2 hB2
 have hl2 := load_evN O0
 have hst2 := store_newevN W2
 have HO0 := Lib.hid (O0.alloc (.cells evN 43 (0, 0)))
 have HO2 := Lib.hid (O2.alloc (.cells evN 43 (0, 0)))
 have HO3 := Lib.hid (Obj?.new W2 evN 43)
 have HB3 := Lib.hid (below_al hB2 (.cells evN 43 (0, 0)))
 have HS2 := Lib.hid (show W2.heap.size = w.heap.size + 1 + 1 by rw [hW2]; simp)
 rw [hW2] at hl2 hst2
 simp only [World.size_alloc] at hl2 hst2
 clear O0 O2 hB2
 go_enter Tryz.func190, Tryz.ntmps190
 refine wp_hide fun Q1 hQ1 => ?_
 have HQ1 := Lib.hid hQ1
 clear hQ1
 go_upto_region 2 with fail
 rw [← hW2]
 obtain ⟨W3, hW3⟩ : ∃ W, W = W2.alloc (.cells evN 43 (0, 0)) := ⟨_, rfl⟩
 rw [← hW3] at HO0 HO2 HO3 HB3
 rw [← hW3]
 rw [HS2.out] at HO3
 clear hW3 hW2 hl2 hst2 HS2
 have a8 := HO0.out.cell 8 _ evN_8
 go_wp2_with fail
 refine (clone_pp0 _).mono ?_
 rintro e w3' ⟨rfl, hw⟩
 subst hw
 have f8 := HO3.out.frozen 8
 have k8 := HO3.out.cell 8 _ evN_8
 have HP3 := Lib.hid (show Obj? (w3'.setCell ⟨w.heap.size + 1 + 1, 8, none⟩ (.slice none 0 0)) (w.heap.size + 1 + 1) evN 43 from by have h := HO3.out.set 8 (.slice none 0 0); rwa [set_same evN_8] at h)
 have HP0 := Lib.hid (show Obj? (w3'.setCell ⟨w.heap.size + 1 + 1, 8, none⟩ (.slice none 0 0)) w.heap.size evN 43 from obj_set_ne HO0.out (by omega))
 have HP2 := Lib.hid (show Obj? (w3'.setCell ⟨w.heap.size + 1 + 1, 8, none⟩ (.slice none 0 0)) (w.heap.size + 1) #[.int .i64 0, .int .i64 0, .string ⟨#[]⟩, .string ⟨#[]⟩, .int .i64 0, .bool false, .bool false, .int .i64 0, .slice none 0 0, .int .i64 0, .slice none 0 0, .int .i64 0, .int .i64 0, .bool false, .bool false, .int .i64 0, .int .i64 0, .string ⟨#[]⟩, .string ⟨#[]⟩, .bool false, .int .i64 0, .string ⟨#[]⟩, .bool false, .string ⟨#[]⟩, .bool false, .string ⟨#[]⟩, .bool false, .string ⟨#[]⟩, .string ⟨#[]⟩, .int .i64 0, .bool false, .slice none 0 0, .bool false, .int .i64 0, .slice none 0 0, .slice none 0 0, .slice none 0 0, .int .i64 0, .bool false, .int .i64 0, .bool false, .bool false, .bool false, .int .i64 0, .int .i64 0, .int .i64 0, .int .i64 0, .bool false, .int .i64 0, .int .i64 0, .int .i64 0, .string ⟨#[]⟩, .string ⟨#[]⟩, .int .i64 0, .int .i64 0, .string ⟨#[]⟩, .slice none 0 0] 43 from obj_set_ne HO2.out (by omega))
 have HQ3 := Lib.hid (HB3.out.setCell (p := ⟨w.heap.size + 1 + 1, 8, none⟩) (show w.heap.size ≤ w.heap.size + 1 + 1 by omega) (.slice none 0 0))
 clear HO0 HO2 HO3 HB3 a8
 go_upto_region 3 with fail
 obtain ⟨W4, hW4⟩ : ∃ W, W = w3'.setCell ⟨w.heap.size + 1 + 1, 8, none⟩ (.slice none 0 0) := ⟨_, rfl⟩
 rw [← hW4] at HP0 HP2 HP3 HQ3
 rw [← hW4]
 clear hW4 f8 k8
 obtain ⟨HO0, HO2, HO3, HB3⟩ := And.intro HP0 (And.intro HP2 (And.intro HP3 HQ3))
 have a8 := HO0.out.cell 10 _ evN_10
 go_wp2_with fail
 refine (clone_hop0 _).mono ?_
 rintro e w4' ⟨rfl, hw⟩
 subst hw
 have f8 := HO3.out.frozen 10
 have k8 := HO3.out.cell 10 _ evN_10
 have HP3 := Lib.hid (show Obj? (w4'.setCell ⟨w.heap.size + 1 + 1, 10, none⟩ (.slice none 0 0)) (w.heap.size + 1 + 1) evN 43 from by have h := HO3.out.set 10 (.slice none 0 0); rwa [set_same evN_10] at h)
 have HP0 := Lib.hid (show Obj? (w4'.setCell ⟨w.heap.size + 1 + 1, 10, none⟩ (.slice none 0 0)) w.heap.size evN 43 from obj_set_ne HO0.out (by omega))
 have HP2 := Lib.hid (show Obj? (w4'.setCell ⟨w.heap.size + 1 + 1, 10, none⟩ (.slice none 0 0)) (w.heap.size + 1) #[.int .i64 0, .int .i64 0, .string ⟨#[]⟩, .string ⟨#[]⟩, .int .i64 0, .bool false, .bool false, .int .i64 0, .slice none 0 0, .int .i64 0, .slice none 0 0, .int .i64 0, .int .i64 0, .bool false, .bool false, .int .i64 0, .int .i64 0, .string ⟨#[]⟩, .string ⟨#[]⟩, .bool false, .int .i64 0, .string ⟨#[]⟩, .bool false, .string ⟨#[]⟩, .bool false, .string ⟨#[]⟩, .bool false, .string ⟨#[]⟩, .string ⟨#[]⟩, .int .i64 0, .bool false, .slice none 0 0, .bool false, .int .i64 0, .slice none 0 0, .slice none 0 0, .slice none 0 0, .int .i64 0, .bool false, .int .i64 0, .bool false, .bool false, .bool false, .int .i64 0, .int .i64 0, .int .i64 0, .int .i64 0, .bool false, .int .i64 0, .int .i64 0, .int .i64 0, .string ⟨#[]⟩, .string ⟨#[]⟩, .int .i64 0, .int .i64 0, .string ⟨#[]⟩, .slice none 0 0] 43 from obj_set_ne HO2.out (by omega))
 have HQ3 := Lib.hid (HB3.out.setCell (p := ⟨w.heap.size + 1 + 1, 10, none⟩) (show w.heap.size ≤ w.heap.size + 1 + 1 by omega) (.slice none 0 0))
 clear HO0 HO2 HO3 HB3 a8
 go_upto_region 4 with fail
 obtain ⟨W5, hW5⟩ : ∃ W, W = w4'.setCell ⟨w.heap.size + 1 + 1, 10, none⟩ (.slice none 0 0) := ⟨_, rfl⟩
 rw [← hW5] at HP0 HP2 HP3 HQ3
 rw [← hW5]
 clear hW5 f8 k8
 obtain ⟨HO0, HO2, HO3, HB3⟩ := And.intro HP0 (And.intro HP2 (And.intro HP3 HQ3))
 have a8 := load_evpk HO0.out
 go_wp2_with fail
 refine (copy_any (p12_at _) ⟨by decide, by decide, by decide, by decide⟩).mono ?_
 rintro e w6 ⟨vw, vc, vf, vp, rfl, -, hpk, hb⟩
 have hp1 := pk_one (p := p12) hpk.rw'.one hpk.rc.one hpk.rf.one hpk.rp.one
 have HE1 := Lib.hid (show (evP vw vc vf vp).all (·.oneCell') = true from evP_one hpk.rw'.one hpk.rc.one hpk.rf.one hpk.rp.one)
 obtain ⟨hst, hP3⟩ := store_evpk (HO3.out.below hb HO3.out.lt) hp1
 have HP3 := Lib.hid hP3
 have HG := Lib.hid (setCs_grown (w.heap.size + 1 + 1) (pkCs p12 vw vc vf vp).toList 12 w6)
 have HO0' := Lib.hid (Obj?.kept (HO0.out.below hb HO0.out.lt) HG.out (fun e => by have := Option.some.inj e; omega))
 have HO2' := Lib.hid (Obj?.kept (HO2.out.below hb HO2.out.lt) HG.out (fun e => by have := Option.some.inj e; omega))
 have HB6 := Lib.hid ((below_thenh HB3.out hb).grown HG.out (below_thenh HB3.out hb).size (fun k e => by have := Option.some.inj e; omega))
 clear a8 hpk hb HO0 HO2 HO3 HB3 hP3 hp1
 go_upto_region 5 with fail
 obtain ⟨W7, hW7⟩ : ∃ W, W = w6.setCells (w.heap.size + 1 + 1) 12 (pkCs p12 vw vc vf vp).toList := ⟨_, rfl⟩
 rw [← hW7] at HP3 HO0' HO2' HB6
 rw [← hW7]
 clear hW7 hst HG
 have f8 := HP3.out.frozen 56
 have k8 := HP3.out.cell 56 _ (evP_56 vw vc vf vp)
 have HP4 := Lib.hid (show Obj? (W7.setCell ⟨w.heap.size + 1 + 1, 56, none⟩ (.slice none 0 0)) (w.heap.size + 1 + 1) (evP vw vc vf vp) 43 from by have h := HP3.out.set 56 (.slice none 0 0); rwa [set_same (evP_56 vw vc vf vp)] at h)
 have HO04 := Lib.hid (show Obj? (W7.setCell ⟨w.heap.size + 1 + 1, 56, none⟩ (.slice none 0 0)) w.heap.size evN 43 from obj_set_ne HO0'.out (by omega))
 have HO24 := Lib.hid (show Obj? (W7.setCell ⟨w.heap.size + 1 + 1, 56, none⟩ (.slice none 0 0)) (w.heap.size + 1) #[.int .i64 0, .int .i64 0, .string ⟨#[]⟩, .string ⟨#[]⟩, .int .i64 0, .bool false, .bool false, .int .i64 0, .slice none 0 0, .int .i64 0, .slice none 0 0, .int .i64 0, .int .i64 0, .bool false, .bool false, .int .i64 0, .int .i64 0, .string ⟨#[]⟩, .string ⟨#[]⟩, .bool false, .int .i64 0, .string ⟨#[]⟩, .bool false, .string ⟨#[]⟩, .bool false, .string ⟨#[]⟩, .bool false, .string ⟨#[]⟩, .string ⟨#[]⟩, .int .i64 0, .bool false, .slice none 0 0, .bool false, .int .i64 0, .slice none 0 0, .slice none 0 0, .slice none 0 0, .int .i64 0, .bool false, .int .i64 0, .bool false, .bool false, .bool false, .int .i64 0, .int .i64 0, .int .i64 0, .int .i64 0, .bool false, .int .i64 0, .int .i64 0, .int .i64 0, .string ⟨#[]⟩, .string ⟨#[]⟩, .int .i64 0, .int .i64 0, .string ⟨#[]⟩, .slice none 0 0] 43 from obj_set_ne HO2'.out (by omega))
 have HB4 := Lib.hid (HB6.out.setCell (p := ⟨w.heap.size + 1 + 1, 56, none⟩) (show w.heap.size ≤ w.heap.size + 1 + 1 by omega) (.slice none 0 0))
 clear HO0' HO2' HP3 HB6
 go_upto_region 6 with fail
 obtain ⟨W8, hW8⟩ : ∃ W, W = W7.setCell ⟨w.heap.size + 1 + 1, 56, none⟩ (.slice none 0 0) := ⟨_, rfl⟩
 rw [← hW8] at HP4 HO04 HO24 HB4
 rw [← hW8]
 clear hW8 f8 k8
 have a8 := HO04.out.cell 56 _ evN_56
 have hl := load_ev HP4.out
 have hst := store_ev (vw := vw) (vc := vc) (vf := vf) (vp := vp) HO24.out rfl HE1.out
 go_wp2_with fail
 refine wp_loop_rounds 1 ?_
 rw [rounds_succ]
 go_wp2_with fail
 refine HQ1.out _ _ _ ?_
 refine bodyPost_ret (results_row1 rfl _ _ _ _ _ _ rfl (HO24.out.setRow (evP vw vc vf vp)) Tryz.underlying43 rfl (evP_info vw vc vf vp)) rfl ?_
 exact ⟨vw, vc, vf, vp, rfl, below_row HB4.out (by omega) _, HE1.out⟩
end Go.Proofs.YtanofjmkkhocaaaGreatDoor
