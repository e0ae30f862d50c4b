/- mqtt.body and Valid of a PINGREQ. -/
import Derived.Test.YtlfgkdiehmoohaaGreatDoorTrF
namespace Go.Proofs.YtlfgkdiehmoohaaGreatDoor
open Go Go.RowKit
set_option linter.unusedVariables false
set_option linter.unusedSimpArgs false
attribute [local go_sem ↓] load_Pk store_Pk load_HdT store_HdT load_Ch store_Ch
attribute [local irreducible] rowSem rowStore c12
theorem cs10 : ∀ i : Nat, i < 10 → (i = 0 ∨ i = 1 ∨ i = 2 ∨ i = 3 ∨ i = 4 ∨ i = 5 ∨ i = 6 ∨ i = 7 ∨ i = 8 ∨ i = 9) := by decide +kernel
theorem c12_size : c12.size = 25 := by unfold c12; rfl
theorem build_d12 : Array.foldl (fun (cs : Array Value) (x : Value × Nat) => cs.setIfInBounds (1 + x.snd) x.fst) #[.int .i64 4, .int .i64 0, .bool false, .bool false, .int .i64 0, .int .i64 0, .string ⟨#[]⟩, .string ⟨#[]⟩, .bool false, .int .i64 0, .string ⟨#[]⟩, .bool false, .string ⟨#[]⟩, .bool false, .string ⟨#[]⟩, .bool false, .string ⟨#[]⟩, .string ⟨#[]⟩, .int .i64 0, .bool false, .slice none 0 0, .bool false, .int .i64 0, .slice none 0 0, .slice none 0 0, .slice none 0 0] c12.zipIdx 0 25 = #[.int .i64 4] ++ c12 := by unfold c12; kernel_rfl
set_option maxRecDepth 100000 in
set_option maxHeartbeats 3200000 in
theorem mbody_12 (w : World) : Calls Tryz.prog 297 #[.int .i64 4, .agg c12] w fun e w' => e = .returned (.tuple #[.string ⟨#[]⟩, .int .i64 0]) ∧ Below w.heap.size w w' := by
  go_enter Tryz.func297, Tryz.ntmps297
  refine wp_hide fun Q1 hQ1 => ?_
  have HQ1 := Lib.hid hQ1
  clear hQ1
  go_upto_region 3 with fail
  obtain ⟨w0, hw0⟩ : ∃ W, W = w.alloc (.cells c12 55 (0, 0)) := ⟨_, rfl⟩
  have HB0 := Lib.hid (show Below w.heap.size w w0 from by rw [hw0]; exact below_al (Below.refl _ _) _)
  have HO0 := Lib.hid (show Obj? w0 w.heap.size c12 55 from by rw [hw0]; exact Obj?.new w _ _)
  rw [← hw0]
  clear hw0
  refine region_inv2 rfl (by kernel_rfl) (InvG 10 [undef, .pointer (some ⟨w.heap.size, 0, none⟩), .int .i64 12, .tuple #[.agg #[.func (.func 47) #[] #[], .func (.func 48) #[] #[]], .bool true], .tuple #[.agg #[.func (.func 47) #[] #[], .func (.func 48) #[] #[]], .bool true], .agg #[.func (.func 47) #[] #[], .func (.func 48) #[] #[]], .bool true, undef, undef, .bool true] [0, 7, 8] (PairR (w.heap.size + 1) w0 (MapE 0 w.heap.size c12 55) 7 8 104 #[.nilFunc, .nilFunc] #[.func (.func 47) #[] #[], .func (.func 48) #[] #[]]) (fun x => ⟨((.int .i64 4) :: (.agg c12) :: (undef) :: (.pointer (some ⟨w.heap.size, 0, none⟩)) :: (.string ⟨#[]⟩) :: (.int .i64 0) :: x 7 :: x 9 :: (undef) :: (undef) :: (.int .i64 4) :: (.bool false) :: (.bool false) :: (undef) :: (undef) :: (.bool false) :: x 4 :: x 0 :: x 1 :: x 2 :: x 3 :: x 5 :: x 6 :: (undef) :: (undef) :: (undef) :: (undef) :: (undef) :: (undef) :: (undef) :: (undef) :: (undef) :: (undef) :: (undef) :: (undef) :: (undef) :: (undef) :: (undef) :: (undef) :: (undef) :: (undef) :: (undef) :: (undef) :: (undef) :: (undef) :: (undef) :: (undef) :: (undef) :: (undef) :: (undef) :: []).toArray, []⟩)) ?_ ?_ ?_
  · exact ⟨fun i => undef, by kernel_rfl, PairR.start HO0.out.lt (below_drewB _ _) _ _ (MapE.start HO0.out.drew _ _), fun i hi hs h => absurd h (by rw [getD_repl]; decide)⟩
  · as_aux_lemma =>
    rintro L a wz hsz ⟨x, rfl, HR, hΦ⟩ i o ho hn hd
    have hlt : i < 10 := (Array.getElem?_eq_some_iff.1 ho).1
    replace hsz : L.size = 10 := hsz
    rcases cs10 i hlt with rfl | rfl | rfl | rfl | rfl | rfl | rfl | rfl | rfl | rfl
    all_goals
      have ho' := ho
      simp only [List.getElem?_toArray, List.getElem?_cons_zero, List.getElem?_cons_succ, Option.some.injEq] at ho'
      subst ho'
      clear hlt
    · as_aux_lemma =>
      refine wpOp_yes ho rfl (fun K' hK => ?_)
      have HK := Lib.hid hK
      clear hK ho
      go_simp
      go_at_call 31
      refine (chapters_any _).mono ?_
      rintro e w1 ⟨rfl, hb, hm⟩
      (try dsimp only)
      refine HK.out _ _ (InvG.next 0 _ hΦ rfl ?_ (HR.pure 0 _ (by decide) (by decide) hb (HR.ex.here (by rw [hsz]; decide) hm hb)) (.inl (by decide)))
      kernel_rfl
    · as_aux_lemma =>
      refine wpOp_yes ho rfl (fun K' hK => ?_)
      have HK := Lib.hid hK
      clear hK ho
      go_simp
      refine HK.out _ _ (InvG.next 1 _ hΦ rfl ?_ (HR.pure 1 _ (by decide) (by decide) (Below.refl _ _) (HR.ex.keep 1 _ (by decide) (Below.refl _ _))) (.inr rfl))
      kernel_rfl
    · as_aux_lemma =>
      refine wpOp_yes ho rfl (fun K' hK => ?_)
      have HK := Lib.hid hK
      clear hK ho
      have e1 := (show x 1 = .pointer (some ⟨w.heap.size, 0, none⟩) from hΦ 1 (by decide) (by decide) (by first | exact hd _ (Array.getElem_mem (i := 0) (by decide)) rfl | exact hd _ (Array.getElem_mem (i := 1) (by decide)) rfl | exact hd _ (Array.getElem_mem (i := 2) (by decide)) rfl | exact hd _ (Array.getElem_mem (i := 3) (by decide)) rfl | exact hd _ (Array.getElem_mem (i := 4) (by decide)) rfl | exact hd _ (Array.getElem_mem (i := 5) (by decide)) rfl | exact hd _ (Array.getElem_mem (i := 6) (by decide)) rfl | exact hd _ (Array.getElem_mem (i := 7) (by decide)) rfl | exact hd _ (Array.getElem_mem (i := 8) (by decide)) rfl))
      have c0 := HR.ex.kept.cell 0 _ c12_0
      go_simp
      refine HK.out _ _ (InvG.next 2 _ hΦ (upds1 e1) ?_ (HR.pure 2 _ (by decide) (by decide) (Below.refl _ _) (HR.ex.keep 2 _ (by decide) (Below.refl _ _))) (.inr rfl))
      kernel_rfl
    · as_aux_lemma =>
      refine wpOp_yes ho rfl (fun K' hK => ?_)
      have HK := Lib.hid hK
      clear hK ho
      have e2 := (show x 2 = .int .i64 12 from hΦ 2 (by decide) (by decide) (by first | exact hd _ (Array.getElem_mem (i := 0) (by decide)) rfl | exact hd _ (Array.getElem_mem (i := 1) (by decide)) rfl | exact hd _ (Array.getElem_mem (i := 2) (by decide)) rfl | exact hd _ (Array.getElem_mem (i := 3) (by decide)) rfl | exact hd _ (Array.getElem_mem (i := 4) (by decide)) rfl | exact hd _ (Array.getElem_mem (i := 5) (by decide)) rfl | exact hd _ (Array.getElem_mem (i := 6) (by decide)) rfl | exact hd _ (Array.getElem_mem (i := 7) (by decide)) rfl | exact hd _ (Array.getElem_mem (i := 8) (by decide)) rfl))
      obtain ⟨bm, e0, hm⟩ := HR.ex.mp (by first | exact hd _ (Array.getElem_mem (i := 0) (by decide)) rfl | exact hd _ (Array.getElem_mem (i := 1) (by decide)) rfl | exact hd _ (Array.getElem_mem (i := 2) (by decide)) rfl | exact hd _ (Array.getElem_mem (i := 3) (by decide)) rfl | exact hd _ (Array.getElem_mem (i := 4) (by decide)) rfl | exact hd _ (Array.getElem_mem (i := 5) (by decide)) rfl | exact hd _ (Array.getElem_mem (i := 6) (by decide)) rfl | exact hd _ (Array.getElem_mem (i := 7) (by decide)) rfl | exact hd _ (Array.getElem_mem (i := 8) (by decide)) rfl)
      have hlk := run_lookupI_ok (P := Tryz.prog) (T := 105) (k := 12) (i := 11) (v := .agg #[.func (.func 47) #[] #[], .func (.func 48) #[] #[]]) Tryz.underlying105 Tryz.underlying3 hm rfl
      go_simp
      refine HK.out _ _ (InvG.next 3 _ hΦ (upds2 e0 e2) ?_ (HR.pure 3 _ (by decide) (by decide) (Below.refl _ _) (HR.ex.keep 3 _ (by decide) (Below.refl _ _))) (.inr rfl))
      kernel_rfl
    · as_aux_lemma =>
      refine wpOp_yes ho rfl (fun K' hK => ?_)
      have HK := Lib.hid hK
      clear hK ho
      have e3 := (show x 3 = .tuple #[.agg #[.func (.func 47) #[] #[], .func (.func 48) #[] #[]], .bool true] from hΦ 3 (by decide) (by decide) (by first | exact hd _ (Array.getElem_mem (i := 0) (by decide)) rfl | exact hd _ (Array.getElem_mem (i := 1) (by decide)) rfl | exact hd _ (Array.getElem_mem (i := 2) (by decide)) rfl | exact hd _ (Array.getElem_mem (i := 3) (by decide)) rfl | exact hd _ (Array.getElem_mem (i := 4) (by decide)) rfl | exact hd _ (Array.getElem_mem (i := 5) (by decide)) rfl | exact hd _ (Array.getElem_mem (i := 6) (by decide)) rfl | exact hd _ (Array.getElem_mem (i := 7) (by decide)) rfl | exact hd _ (Array.getElem_mem (i := 8) (by decide)) rfl))
      go_simp
      refine HK.out _ _ (InvG.next 4 _ hΦ (upds1 e3) ?_ (HR.pure 4 _ (by decide) (by decide) (Below.refl _ _) (HR.ex.keep 4 _ (by decide) (Below.refl _ _))) (.inr rfl))
      kernel_rfl
    · as_aux_lemma =>
      refine wpOp_yes ho rfl (fun K' hK => ?_)
      have HK := Lib.hid hK
      clear hK ho
      have e4 := (show x 4 = .tuple #[.agg #[.func (.func 47) #[] #[], .func (.func 48) #[] #[]], .bool true] from hΦ 4 (by decide) (by decide) (by first | exact hd _ (Array.getElem_mem (i := 0) (by decide)) rfl | exact hd _ (Array.getElem_mem (i := 1) (by decide)) rfl | exact hd _ (Array.getElem_mem (i := 2) (by decide)) rfl | exact hd _ (Array.getElem_mem (i := 3) (by decide)) rfl | exact hd _ (Array.getElem_mem (i := 4) (by decide)) rfl | exact hd _ (Array.getElem_mem (i := 5) (by decide)) rfl | exact hd _ (Array.getElem_mem (i := 6) (by decide)) rfl | exact hd _ (Array.getElem_mem (i := 7) (by decide)) rfl | exact hd _ (Array.getElem_mem (i := 8) (by decide)) rfl))
      go_simp
      refine HK.out _ _ (InvG.next 5 _ hΦ (upds1 e4) ?_ (HR.pure 5 _ (by decide) (by decide) (Below.refl _ _) (HR.ex.keep 5 _ (by decide) (Below.refl _ _))) (.inr rfl))
      kernel_rfl
    · as_aux_lemma =>
      refine wpOp_yes ho rfl (fun K' hK => ?_)
      have HK := Lib.hid hK
      clear hK ho
      have e4 := (show x 4 = .tuple #[.agg #[.func (.func 47) #[] #[], .func (.func 48) #[] #[]], .bool true] from hΦ 4 (by decide) (by decide) (by first | exact hd _ (Array.getElem_mem (i := 0) (by decide)) rfl | exact hd _ (Array.getElem_mem (i := 1) (by decide)) rfl | exact hd _ (Array.getElem_mem (i := 2) (by decide)) rfl | exact hd _ (Array.getElem_mem (i := 3) (by decide)) rfl | exact hd _ (Array.getElem_mem (i := 4) (by decide)) rfl | exact hd _ (Array.getElem_mem (i := 5) (by decide)) rfl | exact hd _ (Array.getElem_mem (i := 6) (by decide)) rfl | exact hd _ (Array.getElem_mem (i := 7) (by decide)) rfl | exact hd _ (Array.getElem_mem (i := 8) (by decide)) rfl))
      go_simp
      refine HK.out _ _ (InvG.next 6 _ hΦ (upds1 e4) ?_ (HR.pure 6 _ (by decide) (by decide) (Below.refl _ _) (HR.ex.keep 6 _ (by decide) (Below.refl _ _))) (.inr rfl))
      kernel_rfl
    · as_aux_lemma =>
      refine wpOp_yes ho rfl (fun K' hK => ?_)
      have HK := Lib.hid hK
      clear hK ho
      go_simp
      refine HK.out _ _ (InvG.next 7 _ hΦ rfl ?_ (HR.alloc (by decide) (by rw [hsz]; decide) hn (Nat.le_trans HR.low HR.bel.size) (HR.ex.keep 7 _ (by decide) (below_al (Below.refl _ wz) _))) (.inl (by decide)))
      kernel_rfl
    · as_aux_lemma =>
      refine wpOp_yes ho rfl (fun K' hK => ?_)
      have HK := Lib.hid hK
      clear hK ho
      have e5 := (show x 5 = .agg #[.func (.func 47) #[] #[], .func (.func 48) #[] #[]] from hΦ 5 (by decide) (by decide) (by first | exact hd _ (Array.getElem_mem (i := 0) (by decide)) rfl | exact hd _ (Array.getElem_mem (i := 1) (by decide)) rfl | exact hd _ (Array.getElem_mem (i := 2) (by decide)) rfl | exact hd _ (Array.getElem_mem (i := 3) (by decide)) rfl | exact hd _ (Array.getElem_mem (i := 4) (by decide)) rfl | exact hd _ (Array.getElem_mem (i := 5) (by decide)) rfl | exact hd _ (Array.getElem_mem (i := 6) (by decide)) rfl | exact hd _ (Array.getElem_mem (i := 7) (by decide)) rfl | exact hd _ (Array.getElem_mem (i := 8) (by decide)) rfl))
      obtain ⟨b, e7, hBb, hO⟩ := HR.open' (by first | exact hd _ (Array.getElem_mem (i := 0) (by decide)) rfl | exact hd _ (Array.getElem_mem (i := 1) (by decide)) rfl | exact hd _ (Array.getElem_mem (i := 2) (by decide)) rfl | exact hd _ (Array.getElem_mem (i := 3) (by decide)) rfl | exact hd _ (Array.getElem_mem (i := 4) (by decide)) rfl | exact hd _ (Array.getElem_mem (i := 5) (by decide)) rfl | exact hd _ (Array.getElem_mem (i := 6) (by decide)) rfl | exact hd _ (Array.getElem_mem (i := 7) (by decide)) rfl | exact hd _ (Array.getElem_mem (i := 8) (by decide)) rfl) hn
      have hst := rowStore_run (P := Tryz.prog) wz b 104 104 _ #[.func (.func 47) #[] #[], .func (.func 48) #[] #[]] hO infoCh rfl (by simp [Value.oneCell'])
      have HNe := Lib.hid (show w.heap.size < b ∨ b < w.heap.size from .inl hBb)
      go_simp
      refine HK.out _ _ (InvG.next 8 undef hΦ (upds2 e7 e5) ?_ (HR.store undef (by decide) (by rw [hsz]; decide) e7 (by first | exact hd _ (Array.getElem_mem (i := 0) (by decide)) rfl | exact hd _ (Array.getElem_mem (i := 1) (by decide)) rfl | exact hd _ (Array.getElem_mem (i := 2) (by decide)) rfl | exact hd _ (Array.getElem_mem (i := 3) (by decide)) rfl | exact hd _ (Array.getElem_mem (i := 4) (by decide)) rfl | exact hd _ (Array.getElem_mem (i := 5) (by decide)) rfl | exact hd _ (Array.getElem_mem (i := 6) (by decide)) rfl | exact hd _ (Array.getElem_mem (i := 7) (by decide)) rfl | exact hd _ (Array.getElem_mem (i := 8) (by decide)) rfl) hBb hO (HR.ex.store 8 undef (by decide) hO HNe.out)) (.inl (by decide)))
      kernel_rfl
    · as_aux_lemma =>
      refine wpOp_yes ho rfl (fun K' hK => ?_)
      have HK := Lib.hid hK
      clear hK ho
      have e6 := (show x 6 = .bool true from hΦ 6 (by decide) (by decide) (by first | exact hd _ (Array.getElem_mem (i := 0) (by decide)) rfl | exact hd _ (Array.getElem_mem (i := 1) (by decide)) rfl | exact hd _ (Array.getElem_mem (i := 2) (by decide)) rfl | exact hd _ (Array.getElem_mem (i := 3) (by decide)) rfl | exact hd _ (Array.getElem_mem (i := 4) (by decide)) rfl | exact hd _ (Array.getElem_mem (i := 5) (by decide)) rfl | exact hd _ (Array.getElem_mem (i := 6) (by decide)) rfl | exact hd _ (Array.getElem_mem (i := 7) (by decide)) rfl | exact hd _ (Array.getElem_mem (i := 8) (by decide)) rfl))
      go_simp
      refine HK.out _ _ (InvG.next 9 _ hΦ (upds1 e6) ?_ (HR.pure 9 _ (by decide) (by decide) (Below.refl _ _) (HR.ex.keep 9 _ (by decide) (Below.refl _ _))) (.inr rfl))
      kernel_rfl
  · as_aux_lemma =>
    rintro L a wz ⟨x, rfl, HR, hΦ⟩ hall
    have e9 := (show x 9 = .bool true from hΦ 9 (by decide) (by decide) (hall 9 (by decide)))
    obtain ⟨b, e7, hBb, hOb⟩ := HR.done (hall 7 (by decide)) (hall 8 (by decide))
    have HOb := Lib.hid hOb
    have HO := Lib.hid HR.ex.kept
    have HB := Lib.hid (HB0.out.trans (HR.bel.mono (Nat.le_succ _)))
    clear HR hΦ hall hOb
    dsimp only
    rw [e7, e9]
    have hl := load_12 HO.out
    have hs12 := c12_size
    have c0 := HO.out.cell 0 _ c12_0
    have cf := HOb.out.cell 0 (.func (.func 47) #[] #[]) rfl
    go_wp2_with fail
    rw [build_d12]
    refine (dcontrol_12 _).mono ?_
    rintro e w2 ⟨rfl, hb⟩
    have HB2 := Lib.hid (below_thenh HB.out hb)
    clear hb hl c0 cf
    go_wp2_with fail
    refine HQ1.out _ _ _ ?_
    go_ret2
    exact ⟨rfl, HB2.out⟩
theorem mvalid_12 (w : World) : Calls Tryz.prog 293 #[.int .i64 4, .agg c12] w fun e w' => e = .returned (.int .i64 0) ∧ Below w.heap.size w w' := by
  have HB0 := Lib.hid (below_al (Below.refl _ w) (.cells c12 55 (0, 0)))
  have l0 := load_12 (Obj?.new w c12 55)
  go_enter Tryz.func293, Tryz.ntmps293
  go_wp2_with fail
  refine (mbody_12 _).mono ?_
  rintro e w1 ⟨rfl, hb⟩
  have HB1 := Lib.hid (below_thenh HB0.out hb)
  clear hb HB0 l0
  go_wp2_with fail
  go_ret
  exact ⟨rfl, HB1.out⟩
end Go.Proofs.YtlfgkdiehmoohaaGreatDoor
