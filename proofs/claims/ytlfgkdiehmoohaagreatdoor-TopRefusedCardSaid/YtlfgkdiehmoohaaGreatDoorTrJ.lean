/- A stream's next, drop and Feed at a PINGREQ. -/
import Derived.Test.YtlfgkdiehmoohaaGreatDoorTrI
import Derived.Test.YtlfgkdiehmoohaaGreatDoorTrF
import Derived.Great.BuildSlice
namespace Go.Proofs.YtlfgkdiehmoohaaGreatDoor
open Go Go.RowKit
set_option linter.unusedVariables false
set_option linter.unusedSimpArgs false
attribute [local go_sem ↓] load_Pk store_Pk
attribute [local irreducible] rowSem rowStore c12 c00
set_option maxRecDepth 100000 in
set_option maxHeartbeats 3200000 in
theorem next_12 {w : World} {sp : Nat} {a t : Int} {al : Option Addr} {c : Nat} (hO : Obj? w sp (stC 4 4096 (.slice al 2 c) a t 0) 67) (hnc : 2 ≤ c) (hR : Reads w (.slice al 2 c) [192, 0]) :
    Calls Tryz.prog 20 #[.pointer (some ⟨sp, 0, none⟩)] w fun r w' => r = .returned (.tuple #[.agg c12, .int .i64 2, .int .i64 0]) ∧ Below w.heap.size w w' := by
  have HB0 := Lib.hid (below_al (Below.refl _ w) (.cells #[.int .i64 0, .bool false, .bool false, .int .i64 0, .int .i64 0, .string ⟨#[]⟩, .string ⟨#[]⟩, .bool false, .int .i64 0, .string ⟨#[]⟩, .bool false, .string ⟨#[]⟩, .bool false, .string ⟨#[]⟩, .bool false, .string ⟨#[]⟩, .string ⟨#[]⟩, .int .i64 0, .bool false, .slice none 0 0, .bool false, .int .i64 0, .slice none 0 0, .slice none 0 0, .slice none 0 0] 55 (0, 0)))
  have HP0 := Lib.hid (Obj?.new w #[.int .i64 0, .bool false, .bool false, .int .i64 0, .int .i64 0, .string ⟨#[]⟩, .string ⟨#[]⟩, .bool false, .int .i64 0, .string ⟨#[]⟩, .bool false, .string ⟨#[]⟩, .bool false, .string ⟨#[]⟩, .bool false, .string ⟨#[]⟩, .string ⟨#[]⟩, .int .i64 0, .bool false, .slice none 0 0, .bool false, .int .i64 0, .slice none 0 0, .slice none 0 0, .slice none 0 0] 55)
  have HO0 := Lib.hid (hO.alloc (.cells #[.int .i64 0, .bool false, .bool false, .int .i64 0, .int .i64 0, .string ⟨#[]⟩, .string ⟨#[]⟩, .bool false, .int .i64 0, .string ⟨#[]⟩, .bool false, .string ⟨#[]⟩, .bool false, .string ⟨#[]⟩, .bool false, .string ⟨#[]⟩, .string ⟨#[]⟩, .int .i64 0, .bool false, .slice none 0 0, .bool false, .int .i64 0, .slice none 0 0, .slice none 0 0, .slice none 0 0] 55 (0, 0)))
  have HS := Lib.hid (size_ok (hO.alloc (.cells #[.int .i64 0, .bool false, .bool false, .int .i64 0, .int .i64 0, .string ⟨#[]⟩, .string ⟨#[]⟩, .bool false, .int .i64 0, .string ⟨#[]⟩, .bool false, .string ⟨#[]⟩, .bool false, .string ⟨#[]⟩, .bool false, .string ⟨#[]⟩, .string ⟨#[]⟩, .int .i64 0, .bool false, .slice none 0 0, .bool false, .int .i64 0, .slice none 0 0, .slice none 0 0, .slice none 0 0] 55 (0, 0))) (by decide) hnc (by decide) (hR.below (below_al (Below.refl _ w) _)) (show rdH 4 [192, 0] = (12, 0, 0, 2, 0) by decide) (by decide))
  have HRa := Lib.hid hR
  have hc2 : (2 : Int) ≤ (c : Int) := by omega
  have HLt := Lib.hid hO.lt
  clear hO hR
  go_enter Tryz.func20, Tryz.ntmps20
  go_wp2_with fail
  refine HS.out.mono ?_
  rintro r w1 ⟨rfl, hb⟩
  have HB := Lib.hid (below_thenh HB0.out hb)
  have HP1 := Lib.hid (HP0.out.below hb HP0.out.lt)
  have HO1 := Lib.hid (HO0.out.below hb HO0.out.lt)
  have c1 := HO1.out.cell 1 (.int .i64 4096) rfl
  have c2 := HO1.out.cell 2 (.slice al 2 c) rfl
  have HOs := Lib.hid (fun W (hW : Below w.heap.size w1 W) => HO1.out.below hW HLt.out)
  have HRd := Lib.hid (fun W (hW : Below w.heap.size w1 W) => HRa.out W (HB.out.trans hW))
  clear hb HS HB0 HP0 HO0
  go_upto_region 8 with fail
  have hBb : w.heap.size ≤ w.heap.size := Nat.le_refl _
  clear c1 c2
  refine region_inv2 rfl (by kernel_rfl) (InvG 18 [.pointer (some ⟨sp, 0, none⟩), .pointer (some ⟨sp, 0, none⟩), .pointer (some ⟨sp, 0, none⟩), .int .i64 4, .pointer (some ⟨sp, 0, none⟩), .pointer (some ⟨sp, 0, none⟩), .pointer (some ⟨sp, 2, none⟩), .slice al 2 c, .int .i64 2, .slice al 2 c, .string ⟨#[192, 0]⟩, .tuple #[.agg c12, .int .i64 2, .int .i64 0], .agg c12, .int .i64 2, .int .i64 0, undef, .int .i64 2, .int .i64 0] [15] (FixR w.heap.size w1 (fun _ _ _ => True) 15 w.heap.size 55 #[.int .i64 0, .bool false, .bool false, .int .i64 0, .int .i64 0, .string ⟨#[]⟩, .string ⟨#[]⟩, .bool false, .int .i64 0, .string ⟨#[]⟩, .bool false, .string ⟨#[]⟩, .bool false, .string ⟨#[]⟩, .bool false, .string ⟨#[]⟩, .string ⟨#[]⟩, .int .i64 0, .bool false, .slice none 0 0, .bool false, .int .i64 0, .slice none 0 0, .slice none 0 0, .slice none 0 0] c12) (fun x => ⟨((.pointer (some ⟨sp, 0, none⟩)) :: (undef) :: (.pointer (some ⟨w.heap.size, 0, none⟩)) :: x 16 :: x 17 :: (.int .i64 2) :: (.int .i64 0) :: (.tuple #[.int .i64 2, .int .i64 0]) :: (.pointer (some ⟨sp, 0, none⟩)) :: (.tuple #[.int .i64 2, .int .i64 0]) :: (.int .i64 2) :: (.int .i64 0) :: (.int .i64 0) :: (.bool false) :: (undef) :: (undef) :: (.int .i64 2) :: (.pointer (some ⟨sp, 0, none⟩)) :: (.pointer (some ⟨sp, 0, none⟩)) :: (.pointer (some ⟨sp, 1, none⟩)) :: (.int .i64 4096) :: (.bool false) :: (undef) :: (.int .i64 2) :: (.pointer (some ⟨sp, 0, none⟩)) :: (.pointer (some ⟨sp, 0, none⟩)) :: (.pointer (some ⟨sp, 2, none⟩)) :: (.slice al 2 c) :: (.int .i64 2) :: (.bool false) :: (undef) :: x 0 :: x 1 :: x 2 :: x 3 :: x 4 :: x 5 :: x 6 :: x 7 :: x 8 :: x 9 :: x 10 :: x 11 :: x 12 :: x 13 :: x 14 :: []).toArray, []⟩)) ?_ ?_ ?_
  · exact ⟨fun i => if i = 16 then .int .i64 0 else if i = 17 then .int .i64 0 else undef, by kernel_rfl, FixR.start HB.out.size (below_drewB _ _) HP1.out.drew _ _ trivial, fun i hi hs h => absurd h (by rw [getD_repl]; decide)⟩
  · as_aux_lemma =>
    rintro L a wz hsz ⟨x, rfl, HR, hΦ⟩ i o ho hn hd
    have hlt : i < 18 := (Array.getElem?_eq_some_iff.1 ho).1
    replace hsz : L.size = 18 := hsz
    rcases cs18 i hlt with rfl | rfl | rfl | rfl | rfl | rfl | rfl | rfl | rfl | rfl | rfl | rfl | rfl | rfl | rfl | rfl | rfl | rfl
    all_goals
      have ho' := ho
      simp only [List.getElem?_toArray, List.getElem?_cons_zero, List.getElem?_cons_succ, Option.some.injEq] at ho'
      subst ho'
      clear hlt
    · as_aux_lemma =>
      refine wpOp_yes ho rfl (fun K' hK => ?_)
      have HK := Lib.hid hK
      clear hK ho
      go_simp
      refine HK.out _ _ (InvG.next 0 _ hΦ rfl ?_ (HR.pure 0 _ (by decide) (Below.refl _ _) trivial) (.inr rfl))
      kernel_rfl
    · as_aux_lemma =>
      refine wpOp_yes ho rfl (fun K' hK => ?_)
      have HK := Lib.hid hK
      clear hK ho
      have e0 := (show x 0 = .pointer (some ⟨sp, 0, none⟩) from hΦ 0 (by decide) (by decide) (by first | exact hd _ (Array.getElem_mem (i := 0) (by decide)) rfl | exact hd _ (Array.getElem_mem (i := 1) (by decide)) rfl | exact hd _ (Array.getElem_mem (i := 2) (by decide)) rfl | exact hd _ (Array.getElem_mem (i := 3) (by decide)) rfl | exact hd _ (Array.getElem_mem (i := 4) (by decide)) rfl | exact hd _ (Array.getElem_mem (i := 5) (by decide)) rfl | exact hd _ (Array.getElem_mem (i := 6) (by decide)) rfl | exact hd _ (Array.getElem_mem (i := 7) (by decide)) rfl | exact hd _ (Array.getElem_mem (i := 8) (by decide)) rfl))
      go_simp
      refine HK.out _ _ (InvG.next 1 _ hΦ (upds1 e0) ?_ (HR.pure 1 _ (by decide) (Below.refl _ _) trivial) (.inr rfl))
      kernel_rfl
    · as_aux_lemma =>
      refine wpOp_yes ho rfl (fun K' hK => ?_)
      have HK := Lib.hid hK
      clear hK ho
      have e1 := (show x 1 = .pointer (some ⟨sp, 0, none⟩) from hΦ 1 (by decide) (by decide) (by first | exact hd _ (Array.getElem_mem (i := 0) (by decide)) rfl | exact hd _ (Array.getElem_mem (i := 1) (by decide)) rfl | exact hd _ (Array.getElem_mem (i := 2) (by decide)) rfl | exact hd _ (Array.getElem_mem (i := 3) (by decide)) rfl | exact hd _ (Array.getElem_mem (i := 4) (by decide)) rfl | exact hd _ (Array.getElem_mem (i := 5) (by decide)) rfl | exact hd _ (Array.getElem_mem (i := 6) (by decide)) rfl | exact hd _ (Array.getElem_mem (i := 7) (by decide)) rfl | exact hd _ (Array.getElem_mem (i := 8) (by decide)) rfl))
      go_simp
      refine HK.out _ _ (InvG.next 2 _ hΦ (upds1 e1) ?_ (HR.pure 2 _ (by decide) (Below.refl _ _) trivial) (.inr rfl))
      kernel_rfl
    · as_aux_lemma =>
      refine wpOp_yes ho rfl (fun K' hK => ?_)
      have HK := Lib.hid hK
      clear hK ho
      have e2 := (show x 2 = .pointer (some ⟨sp, 0, none⟩) from hΦ 2 (by decide) (by decide) (by first | exact hd _ (Array.getElem_mem (i := 0) (by decide)) rfl | exact hd _ (Array.getElem_mem (i := 1) (by decide)) rfl | exact hd _ (Array.getElem_mem (i := 2) (by decide)) rfl | exact hd _ (Array.getElem_mem (i := 3) (by decide)) rfl | exact hd _ (Array.getElem_mem (i := 4) (by decide)) rfl | exact hd _ (Array.getElem_mem (i := 5) (by decide)) rfl | exact hd _ (Array.getElem_mem (i := 6) (by decide)) rfl | exact hd _ (Array.getElem_mem (i := 7) (by decide)) rfl | exact hd _ (Array.getElem_mem (i := 8) (by decide)) rfl))
      have c0 := (HOs.out wz HR.bel).cell 0 (.int .i64 4) rfl
      go_simp
      refine HK.out _ _ (InvG.next 3 _ hΦ (upds1 e2) ?_ (HR.pure 3 _ (by decide) (Below.refl _ _) trivial) (.inr rfl))
      kernel_rfl
    · as_aux_lemma =>
      refine wpOp_yes ho rfl (fun K' hK => ?_)
      have HK := Lib.hid hK
      clear hK ho
      go_simp
      refine HK.out _ _ (InvG.next 4 _ hΦ rfl ?_ (HR.pure 4 _ (by decide) (Below.refl _ _) trivial) (.inr rfl))
      kernel_rfl
    · as_aux_lemma =>
      refine wpOp_yes ho rfl (fun K' hK => ?_)
      have HK := Lib.hid hK
      clear hK ho
      have e4 := (show x 4 = .pointer (some ⟨sp, 0, none⟩) from hΦ 4 (by decide) (by decide) (by first | exact hd _ (Array.getElem_mem (i := 0) (by decide)) rfl | exact hd _ (Array.getElem_mem (i := 1) (by decide)) rfl | exact hd _ (Array.getElem_mem (i := 2) (by decide)) rfl | exact hd _ (Array.getElem_mem (i := 3) (by decide)) rfl | exact hd _ (Array.getElem_mem (i := 4) (by decide)) rfl | exact hd _ (Array.getElem_mem (i := 5) (by decide)) rfl | exact hd _ (Array.getElem_mem (i := 6) (by decide)) rfl | exact hd _ (Array.getElem_mem (i := 7) (by decide)) rfl | exact hd _ (Array.getElem_mem (i := 8) (by decide)) rfl))
      go_simp
      refine HK.out _ _ (InvG.next 5 _ hΦ (upds1 e4) ?_ (HR.pure 5 _ (by decide) (Below.refl _ _) trivial) (.inr rfl))
      kernel_rfl
    · as_aux_lemma =>
      refine wpOp_yes ho rfl (fun K' hK => ?_)
      have HK := Lib.hid hK
      clear hK ho
      have e5 := (show x 5 = .pointer (some ⟨sp, 0, none⟩) from hΦ 5 (by decide) (by decide) (by first | exact hd _ (Array.getElem_mem (i := 0) (by decide)) rfl | exact hd _ (Array.getElem_mem (i := 1) (by decide)) rfl | exact hd _ (Array.getElem_mem (i := 2) (by decide)) rfl | exact hd _ (Array.getElem_mem (i := 3) (by decide)) rfl | exact hd _ (Array.getElem_mem (i := 4) (by decide)) rfl | exact hd _ (Array.getElem_mem (i := 5) (by decide)) rfl | exact hd _ (Array.getElem_mem (i := 6) (by decide)) rfl | exact hd _ (Array.getElem_mem (i := 7) (by decide)) rfl | exact hd _ (Array.getElem_mem (i := 8) (by decide)) rfl))
      go_simp
      refine HK.out _ _ (InvG.next 6 _ hΦ (upds1 e5) ?_ (HR.pure 6 _ (by decide) (Below.refl _ _) trivial) (.inr rfl))
      kernel_rfl
    · as_aux_lemma =>
      refine wpOp_yes ho rfl (fun K' hK => ?_)
      have HK := Lib.hid hK
      clear hK ho
      have e6 := (show x 6 = .pointer (some ⟨sp, 2, none⟩) from hΦ 6 (by decide) (by decide) (by first | exact hd _ (Array.getElem_mem (i := 0) (by decide)) rfl | exact hd _ (Array.getElem_mem (i := 1) (by decide)) rfl | exact hd _ (Array.getElem_mem (i := 2) (by decide)) rfl | exact hd _ (Array.getElem_mem (i := 3) (by decide)) rfl | exact hd _ (Array.getElem_mem (i := 4) (by decide)) rfl | exact hd _ (Array.getElem_mem (i := 5) (by decide)) rfl | exact hd _ (Array.getElem_mem (i := 6) (by decide)) rfl | exact hd _ (Array.getElem_mem (i := 7) (by decide)) rfl | exact hd _ (Array.getElem_mem (i := 8) (by decide)) rfl))
      have c2 := (HOs.out wz HR.bel).cell 2 (.slice al 2 c) rfl
      go_simp
      refine HK.out _ _ (InvG.next 7 _ hΦ (upds1 e6) ?_ (HR.pure 7 _ (by decide) (Below.refl _ _) trivial) (.inr rfl))
      kernel_rfl
    · as_aux_lemma =>
      refine wpOp_yes ho rfl (fun K' hK => ?_)
      have HK := Lib.hid hK
      clear hK ho
      go_simp
      refine HK.out _ _ (InvG.next 8 _ hΦ rfl ?_ (HR.pure 8 _ (by decide) (Below.refl _ _) trivial) (.inr rfl))
      kernel_rfl
    · as_aux_lemma =>
      refine wpOp_yes ho rfl (fun K' hK => ?_)
      have HK := Lib.hid hK
      clear hK ho
      have e7 := (show x 7 = .slice al 2 c from hΦ 7 (by decide) (by decide) (by first | exact hd _ (Array.getElem_mem (i := 0) (by decide)) rfl | exact hd _ (Array.getElem_mem (i := 1) (by decide)) rfl | exact hd _ (Array.getElem_mem (i := 2) (by decide)) rfl | exact hd _ (Array.getElem_mem (i := 3) (by decide)) rfl | exact hd _ (Array.getElem_mem (i := 4) (by decide)) rfl | exact hd _ (Array.getElem_mem (i := 5) (by decide)) rfl | exact hd _ (Array.getElem_mem (i := 6) (by decide)) rfl | exact hd _ (Array.getElem_mem (i := 7) (by decide)) rfl | exact hd _ (Array.getElem_mem (i := 8) (by decide)) rfl))
      have e8 := (show x 8 = .int .i64 2 from hΦ 8 (by decide) (by decide) (by first | exact hd _ (Array.getElem_mem (i := 0) (by decide)) rfl | exact hd _ (Array.getElem_mem (i := 1) (by decide)) rfl | exact hd _ (Array.getElem_mem (i := 2) (by decide)) rfl | exact hd _ (Array.getElem_mem (i := 3) (by decide)) rfl | exact hd _ (Array.getElem_mem (i := 4) (by decide)) rfl | exact hd _ (Array.getElem_mem (i := 5) (by decide)) rfl | exact hd _ (Array.getElem_mem (i := 6) (by decide)) rfl | exact hd _ (Array.getElem_mem (i := 7) (by decide)) rfl | exact hd _ (Array.getElem_mem (i := 8) (by decide)) rfl))
      go_simp
      refine HK.out _ _ (InvG.next 9 _ hΦ (upds2 e7 e8) ?_ (HR.pure 9 _ (by decide) (Below.refl _ _) trivial) (.inr rfl))
      kernel_rfl
    · as_aux_lemma =>
      refine wpOp_yes ho rfl (fun K' hK => ?_)
      have HK := Lib.hid hK
      clear hK ho
      have e9 := (show x 9 = .slice al 2 c from hΦ 9 (by decide) (by decide) (by first | exact hd _ (Array.getElem_mem (i := 0) (by decide)) rfl | exact hd _ (Array.getElem_mem (i := 1) (by decide)) rfl | exact hd _ (Array.getElem_mem (i := 2) (by decide)) rfl | exact hd _ (Array.getElem_mem (i := 3) (by decide)) rfl | exact hd _ (Array.getElem_mem (i := 4) (by decide)) rfl | exact hd _ (Array.getElem_mem (i := 5) (by decide)) rfl | exact hd _ (Array.getElem_mem (i := 6) (by decide)) rfl | exact hd _ (Array.getElem_mem (i := 7) (by decide)) rfl | exact hd _ (Array.getElem_mem (i := 8) (by decide)) rfl))
      have hcv := HRd.out wz HR.bel
      go_simp
      refine HK.out _ _ (InvG.next 10 _ hΦ (upds1 e9) ?_ (HR.pure 10 _ (by decide) (Below.refl _ _) trivial) (.inr rfl))
      kernel_rfl
    · as_aux_lemma =>
      refine wpOp_yes ho rfl (fun K' hK => ?_)
      have HK := Lib.hid hK
      clear hK ho
      have e3 := (show x 3 = .int .i64 4 from hΦ 3 (by decide) (by decide) (by first | exact hd _ (Array.getElem_mem (i := 0) (by decide)) rfl | exact hd _ (Array.getElem_mem (i := 1) (by decide)) rfl | exact hd _ (Array.getElem_mem (i := 2) (by decide)) rfl | exact hd _ (Array.getElem_mem (i := 3) (by decide)) rfl | exact hd _ (Array.getElem_mem (i := 4) (by decide)) rfl | exact hd _ (Array.getElem_mem (i := 5) (by decide)) rfl | exact hd _ (Array.getElem_mem (i := 6) (by decide)) rfl | exact hd _ (Array.getElem_mem (i := 7) (by decide)) rfl | exact hd _ (Array.getElem_mem (i := 8) (by decide)) rfl))
      have e10 := (show x 10 = .string ⟨#[192, 0]⟩ from hΦ 10 (by decide) (by decide) (by first | exact hd _ (Array.getElem_mem (i := 0) (by decide)) rfl | exact hd _ (Array.getElem_mem (i := 1) (by decide)) rfl | exact hd _ (Array.getElem_mem (i := 2) (by decide)) rfl | exact hd _ (Array.getElem_mem (i := 3) (by decide)) rfl | exact hd _ (Array.getElem_mem (i := 4) (by decide)) rfl | exact hd _ (Array.getElem_mem (i := 5) (by decide)) rfl | exact hd _ (Array.getElem_mem (i := 6) (by decide)) rfl | exact hd _ (Array.getElem_mem (i := 7) (by decide)) rfl | exact hd _ (Array.getElem_mem (i := 8) (by decide)) rfl))
      go_simp
      go_at_call 27
      refine (mread_12 _).mono ?_
      rintro e w1 ⟨rfl, hb⟩
      (try dsimp only)
      refine HK.out _ _ (InvG.next 11 _ hΦ (upds2 e3 e10) ?_ (HR.pure 11 _ (by decide) hb trivial) (.inr rfl))
      kernel_rfl
    · as_aux_lemma =>
      refine wpOp_yes ho rfl (fun K' hK => ?_)
      have HK := Lib.hid hK
      clear hK ho
      have e11 := (show x 11 = .tuple #[.agg c12, .int .i64 2, .int .i64 0] from hΦ 11 (by decide) (by decide) (by first | exact hd _ (Array.getElem_mem (i := 0) (by decide)) rfl | exact hd _ (Array.getElem_mem (i := 1) (by decide)) rfl | exact hd _ (Array.getElem_mem (i := 2) (by decide)) rfl | exact hd _ (Array.getElem_mem (i := 3) (by decide)) rfl | exact hd _ (Array.getElem_mem (i := 4) (by decide)) rfl | exact hd _ (Array.getElem_mem (i := 5) (by decide)) rfl | exact hd _ (Array.getElem_mem (i := 6) (by decide)) rfl | exact hd _ (Array.getElem_mem (i := 7) (by decide)) rfl | exact hd _ (Array.getElem_mem (i := 8) (by decide)) rfl))
      go_simp
      refine HK.out _ _ (InvG.next 12 _ hΦ (upds1 e11) ?_ (HR.pure 12 _ (by decide) (Below.refl _ _) trivial) (.inr rfl))
      kernel_rfl
    · as_aux_lemma =>
      refine wpOp_yes ho rfl (fun K' hK => ?_)
      have HK := Lib.hid hK
      clear hK ho
      have e11 := (show x 11 = .tuple #[.agg c12, .int .i64 2, .int .i64 0] from hΦ 11 (by decide) (by decide) (by first | exact hd _ (Array.getElem_mem (i := 0) (by decide)) rfl | exact hd _ (Array.getElem_mem (i := 1) (by decide)) rfl | exact hd _ (Array.getElem_mem (i := 2) (by decide)) rfl | exact hd _ (Array.getElem_mem (i := 3) (by decide)) rfl | exact hd _ (Array.getElem_mem (i := 4) (by decide)) rfl | exact hd _ (Array.getElem_mem (i := 5) (by decide)) rfl | exact hd _ (Array.getElem_mem (i := 6) (by decide)) rfl | exact hd _ (Array.getElem_mem (i := 7) (by decide)) rfl | exact hd _ (Array.getElem_mem (i := 8) (by decide)) rfl))
      go_simp
      refine HK.out _ _ (InvG.next 13 _ hΦ (upds1 e11) ?_ (HR.pure 13 _ (by decide) (Below.refl _ _) trivial) (.inr rfl))
      kernel_rfl
    · as_aux_lemma =>
      refine wpOp_yes ho rfl (fun K' hK => ?_)
      have HK := Lib.hid hK
      clear hK ho
      have e11 := (show x 11 = .tuple #[.agg c12, .int .i64 2, .int .i64 0] from hΦ 11 (by decide) (by decide) (by first | exact hd _ (Array.getElem_mem (i := 0) (by decide)) rfl | exact hd _ (Array.getElem_mem (i := 1) (by decide)) rfl | exact hd _ (Array.getElem_mem (i := 2) (by decide)) rfl | exact hd _ (Array.getElem_mem (i := 3) (by decide)) rfl | exact hd _ (Array.getElem_mem (i := 4) (by decide)) rfl | exact hd _ (Array.getElem_mem (i := 5) (by decide)) rfl | exact hd _ (Array.getElem_mem (i := 6) (by decide)) rfl | exact hd _ (Array.getElem_mem (i := 7) (by decide)) rfl | exact hd _ (Array.getElem_mem (i := 8) (by decide)) rfl))
      go_simp
      refine HK.out _ _ (InvG.next 14 _ hΦ (upds1 e11) ?_ (HR.pure 14 _ (by decide) (Below.refl _ _) trivial) (.inr rfl))
      kernel_rfl
    · as_aux_lemma =>
      refine wpOp_yes ho rfl (fun K' hK => ?_)
      have HK := Lib.hid hK
      clear hK ho
      have e12 := (show x 12 = .agg c12 from hΦ 12 (by decide) (by decide) (by first | exact hd _ (Array.getElem_mem (i := 0) (by decide)) rfl | exact hd _ (Array.getElem_mem (i := 1) (by decide)) rfl | exact hd _ (Array.getElem_mem (i := 2) (by decide)) rfl | exact hd _ (Array.getElem_mem (i := 3) (by decide)) rfl | exact hd _ (Array.getElem_mem (i := 4) (by decide)) rfl | exact hd _ (Array.getElem_mem (i := 5) (by decide)) rfl | exact hd _ (Array.getElem_mem (i := 6) (by decide)) rfl | exact hd _ (Array.getElem_mem (i := 7) (by decide)) rfl | exact hd _ (Array.getElem_mem (i := 8) (by decide)) rfl))
      have hO := HR.open' hn
      have hst := store_12 hO
      go_simp
      refine HK.out _ _ (InvG.next 15 undef hΦ (upds1 e12) ?_ (HR.store undef (by rw [hsz]; decide) hn hBb trivial) (.inl (by decide)))
      kernel_rfl
    · as_aux_lemma =>
      refine wpOp_yes ho rfl (fun K' hK => ?_)
      have HK := Lib.hid hK
      clear hK ho
      have e13 := (show x 13 = .int .i64 2 from hΦ 13 (by decide) (by decide) (by first | exact hd _ (Array.getElem_mem (i := 0) (by decide)) rfl | exact hd _ (Array.getElem_mem (i := 1) (by decide)) rfl | exact hd _ (Array.getElem_mem (i := 2) (by decide)) rfl | exact hd _ (Array.getElem_mem (i := 3) (by decide)) rfl | exact hd _ (Array.getElem_mem (i := 4) (by decide)) rfl | exact hd _ (Array.getElem_mem (i := 5) (by decide)) rfl | exact hd _ (Array.getElem_mem (i := 6) (by decide)) rfl | exact hd _ (Array.getElem_mem (i := 7) (by decide)) rfl | exact hd _ (Array.getElem_mem (i := 8) (by decide)) rfl))
      go_simp
      refine HK.out _ _ (InvG.next 16 _ hΦ (upds1 e13) ?_ (HR.pure 16 _ (by decide) (Below.refl _ _) trivial) (.inr rfl))
      kernel_rfl
    · as_aux_lemma =>
      refine wpOp_yes ho rfl (fun K' hK => ?_)
      have HK := Lib.hid hK
      clear hK ho
      have e14 := (show x 14 = .int .i64 0 from hΦ 14 (by decide) (by decide) (by first | exact hd _ (Array.getElem_mem (i := 0) (by decide)) rfl | exact hd _ (Array.getElem_mem (i := 1) (by decide)) rfl | exact hd _ (Array.getElem_mem (i := 2) (by decide)) rfl | exact hd _ (Array.getElem_mem (i := 3) (by decide)) rfl | exact hd _ (Array.getElem_mem (i := 4) (by decide)) rfl | exact hd _ (Array.getElem_mem (i := 5) (by decide)) rfl | exact hd _ (Array.getElem_mem (i := 6) (by decide)) rfl | exact hd _ (Array.getElem_mem (i := 7) (by decide)) rfl | exact hd _ (Array.getElem_mem (i := 8) (by decide)) rfl))
      go_simp
      refine HK.out _ _ (InvG.next 17 _ hΦ (upds1 e14) ?_ (HR.pure 17 _ (by decide) (Below.refl _ _) trivial) (.inr rfl))
      kernel_rfl
  · as_aux_lemma =>
    rintro L a wz ⟨x, rfl, HR, hΦ⟩ hall
    have e16 := (show x 16 = .int .i64 2 from hΦ 16 (by decide) (by decide) (hall 16 (by decide)))
    have e17 := (show x 17 = .int .i64 0 from hΦ 17 (by decide) (by decide) (hall 17 (by decide)))
    have HO := Lib.hid (HR.done (hall 15 (by decide)))
    have HBz := Lib.hid (HB.out.trans HR.bel)
    clear HR hΦ hall
    dsimp only
    rw [e16, e17]
    go_wp2_with fail
    refine bodyPost_ret (results_row_tmp2 rfl _ _ _ _ _ _ rfl HO.out Tryz.underlying55 rfl c12_info) rfl ?_
    exact ⟨rfl, HBz.out⟩
set_option maxRecDepth 100000 in
set_option maxHeartbeats 1600000 in
theorem drop_2 {w : World} {sp g c : Nat} {v m e : Int} (hO : Obj? w sp (stC v m (.slice (some ⟨g, 0, none⟩) 2 c) 0 0 e) 67) (hc : 2 ≤ c) :
    Calls Tryz.prog 21 #[.pointer (some ⟨sp, 0, none⟩), .int .i64 2] w fun r w' => r = .returned (.tuple #[]) ∧ w' = (((w.setCell ⟨sp, 2, none⟩ (.slice (some ⟨g, 0, none⟩) 0 0)).setCell ⟨sp, 3, none⟩ (.int .i64 2)).setCell ⟨sp, 4, none⟩ (.int .i64 1)) := by
  have c2 := hO.cell 2 (.slice (some ⟨g, 0, none⟩) 2 c) rfl
  have c3 := hO.cell 3 (.int .i64 0) rfl
  have c4 := hO.cell 4 (.int .i64 0) rfl
  have f2 := hO.frozen 2
  have f3 := hO.frozen 3
  have f4 := hO.frozen 4
  clear hO
  go_enter Tryz.func21, Tryz.ntmps21
  go_wp2_with fail
  go_end0
  exact ⟨rfl, rfl⟩
end Go.Proofs.YtlfgkdiehmoohaaGreatDoor
