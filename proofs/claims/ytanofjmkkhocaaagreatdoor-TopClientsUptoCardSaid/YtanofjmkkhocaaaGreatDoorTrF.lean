/- mqtt.Read and Valid of a PINGREQ. -/
import Derived.Test.YtanofjmkkhocaaaGreatDoorTrC
import Derived.Test.YtanofjmkkhocaaaGreatDoorTrE
set_option linter.unusedVariables false
set_option linter.unusedSimpArgs false
set_option maxRecDepth 100000
set_option maxHeartbeats 3200000
namespace Go.Proofs.YtanofjmkkhocaaaGreatDoor
open Go Go.RowKit
attribute [local go_sem ↓] load_Pk store_Pk load_HdT store_HdT load_Ch store_Ch
attribute [local irreducible] rowSem rowStore c12
theorem below_drewB (B : Nat) (w : World) : Below B w w.drew := ⟨rfl, rfl, rfl, Nat.le_refl _, fun _ _ => rfl⟩
structure MapE (i0 b7 : Nat) (cs : Array Value) (T : TypeId) (L : Array Bool) (x : Nat → Value) (w : World) : Prop where
 mp : L.getD i0 false = true → ∃ b, x i0 = .map (some b) ∧ w.heap[b]? = some (mapO chL)
 kept : Obj? w b7 cs T
section mape
variable {i0 b7 : Nat} {cs : Array Value} {T : TypeId} {L : Array Bool} {x : Nat → Value} {w w' : World}
theorem MapE.start (h : Obj? w b7 cs T) (n : Nat) (x : Nat → Value) : MapE i0 b7 cs T (Array.replicate n false) x w := ⟨fun h => (by rw [getD_repl] at h; cases h), h⟩
theorem MapE.keep (h : MapE i0 b7 cs T L x w) (i : Nat) (v : Value) (hi : i ≠ i0) (hb : Below w.heap.size w w') : MapE i0 b7 cs T (L.setIfInBounds i true) (updS x i v) w' :=
 ⟨fun hd => by
  rw [getD_set_ne (Ne.symm hi)] at hd
  obtain ⟨b, e, hm⟩ := h.mp hd
  exact ⟨b, by rw [upd_ne (Ne.symm hi)]; exact e, by rw [hb.block b (Array.getElem?_eq_some_iff.1 hm).1]; exact hm⟩, h.kept.below hb h.kept.lt⟩
theorem MapE.here (h : MapE i0 b7 cs T L x w) (hL : i0 < L.size) {b : Nat} (hm : w'.heap[b]? = some (mapO chL)) (hb : Below w.heap.size w w') : MapE i0 b7 cs T (L.setIfInBounds i0 true) (updS x i0 (.map (some b))) w' :=
 ⟨fun _ => ⟨b, upd_at, hm⟩, h.kept.below hb h.kept.lt⟩
theorem MapE.store (h : MapE i0 b7 cs T L x w) (i : Nat) (v : Value) (hi : i ≠ i0) {g : Nat} {z C : Array Value} {T' : TypeId} (hO : Obj? w g z T') (hne : b7 < g ∨ g < b7) : MapE i0 b7 cs T (L.setIfInBounds i true) (updS x i v) (w.setRow g C) :=
 ⟨fun hd => by
  rw [getD_set_ne (Ne.symm hi)] at hd
  obtain ⟨b, e, hm⟩ := h.mp hd
  refine ⟨b, by rw [upd_ne (Ne.symm hi)]; exact e, ?_⟩
  have hbg : b ≠ g := by
   rintro rfl
   unfold Obj? at hO
   rw [hO] at hm
   cases hm
  rw [setRow_other w g b C hbg]
  exact hm, h.kept.setRow_ne (by omega)⟩
end mape
theorem cs18 : ∀ i : Nat, i < 18 → (i = 0 ∨ i = 1 ∨ i = 2 ∨ i = 3 ∨ i = 4 ∨ i = 5 ∨ i = 6 ∨ i = 7 ∨ i = 8 ∨ i = 9 ∨ i = 10 ∨ i = 11 ∨ i = 12 ∨ i = 13 ∨ i = 14 ∨ i = 15 ∨ i = 16 ∨ i = 17) := by decide +kernel
theorem mread_12 (w : World) : Calls Tryz.prog 192 #[.int .i64 4, .string ⟨#[192, 0]⟩] w fun e w' => e = .returned (.tuple #[.agg c12, .int .i64 2, .int .i64 0]) ∧ Below w.heap.size w w' := by
 have HH := Lib.hid (fun W => hdread_any 4 [192, 0] (by decide) W)
 rw [show rdH 4 [192, 0] = (12, 0, 0, 2, 0) by decide] at HH
 have HB0 := Lib.hid (below_al (Below.refl _ w) (.cells #[.int .i64 0, .bool false, .bool false, .int .i64 0, .int .i64 0, .string ⟨#[]⟩, .string ⟨#[]⟩, .bool false, .int .i64 0, .string ⟨#[]⟩, .bool false, .string ⟨#[]⟩, .bool false, .string ⟨#[]⟩, .bool false, .string ⟨#[]⟩, .string ⟨#[]⟩, .int .i64 0, .bool false, .slice none 0 0, .bool false, .int .i64 0, .slice none 0 0, .slice none 0 0, .slice none 0 0] 34 (0, 0)))
 have HO0 := Lib.hid (Obj?.new w #[.int .i64 0, .bool false, .bool false, .int .i64 0, .int .i64 0, .string ⟨#[]⟩, .string ⟨#[]⟩, .bool false, .int .i64 0, .string ⟨#[]⟩, .bool false, .string ⟨#[]⟩, .bool false, .string ⟨#[]⟩, .bool false, .string ⟨#[]⟩, .string ⟨#[]⟩, .int .i64 0, .bool false, .slice none 0 0, .bool false, .int .i64 0, .slice none 0 0, .slice none 0 0, .slice none 0 0] 34)
 go_enter Tryz.func192, Tryz.ntmps192
 go_wp2_with fail
 refine (HH.out _).mono ?_
 rintro e w1 ⟨rfl, hb⟩
 have hst := store_newhdT w1 12 0 0
 have HBb := Lib.hid (below_thenh HB0.out hb)
 have HO1 := Lib.hid (HO0.out.below hb HO0.out.lt)
 have HNe := Lib.hid (show w1.heap.size < w.heap.size ∨ w.heap.size < w1.heap.size from .inr HO1.out.lt)
 clear hb
 go_upto_region 7 with fail
 obtain ⟨w2, hw2⟩ : ∃ W, W = w1.alloc (.cells #[.int .i64 12, .int .i64 0, .int .i64 0] 294 (0, 0)) := ⟨_, rfl⟩
 have HB2 := Lib.hid (show Below w.heap.size w w2 from by rw [hw2]; exact below_al HBb.out _)
 have HO2 := Lib.hid (show Obj? w2 w.heap.size #[.int .i64 0, .bool false, .bool false, .int .i64 0, .int .i64 0, .string ⟨#[]⟩, .string ⟨#[]⟩, .bool false, .int .i64 0, .string ⟨#[]⟩, .bool false, .string ⟨#[]⟩, .bool false, .string ⟨#[]⟩, .bool false, .string ⟨#[]⟩, .string ⟨#[]⟩, .int .i64 0, .bool false, .slice none 0 0, .bool false, .int .i64 0, .slice none 0 0, .slice none 0 0, .slice none 0 0] 34 from by rw [hw2]; exact HO1.out.alloc _)
 have HP2 := Lib.hid (show Obj? w2 w1.heap.size #[.int .i64 12, .int .i64 0, .int .i64 0] 294 from by rw [hw2]; exact Obj?.new w1 _ _)
 rw [← hw2]
 clear hw2 hst HBb HO1 HO0 HB0 HH
 have hBb : w.heap.size ≤ w.heap.size := Nat.le_refl _
 refine region_inv2 rfl (by kernel_rfl) (InvG 18 [undef, .pointer (some ⟨w1.heap.size, 0, none⟩), .int .i64 12, .agg #[.func (.func 211) #[] #[], .func (.func 212) #[] #[]], .func (.func 212) #[] #[], .int .i64 4, .agg #[.int .i64 12, .int .i64 0, .int .i64 0], .string ⟨#[192, 0]⟩, .int .i64 2, .int .i64 2, .string ⟨#[]⟩, .agg #[.int .i64 4, .int .i64 12, .int .i64 0, .int .i64 0, .string ⟨#[]⟩], .tuple #[.agg c12, .int .i64 0], .tuple #[.agg c12, .int .i64 0], .agg c12, .int .i64 0, undef, .int .i64 0] [0, 16] (FixR w.heap.size w2 (MapE 0 w1.heap.size #[.int .i64 12, .int .i64 0, .int .i64 0] 294) 16 w.heap.size 34 #[.int .i64 0, .bool false, .bool false, .int .i64 0, .int .i64 0, .string ⟨#[]⟩, .string ⟨#[]⟩, .bool false, .int .i64 0, .string ⟨#[]⟩, .bool false, .string ⟨#[]⟩, .bool false, .string ⟨#[]⟩, .bool false, .string ⟨#[]⟩, .string ⟨#[]⟩, .int .i64 0, .bool false, .slice none 0 0, .bool false, .int .i64 0, .slice none 0 0, .slice none 0 0, .slice none 0 0] c12) (fun x => ⟨((.int .i64 4) :: (.string ⟨#[192, 0]⟩) :: (undef) :: (undef) :: (.pointer (some ⟨w.heap.size, 0, none⟩)) :: (.int .i64 0) :: x 17 :: (.pointer (some ⟨w1.heap.size, 0, none⟩)) :: (.int .i64 2) :: (.int .i64 2) :: (.tuple #[.agg #[.int .i64 12, .int .i64 0, .int .i64 0], .int .i64 2, .int .i64 0]) :: (.int .i64 4) :: (.string ⟨#[192, 0]⟩) :: (.tuple #[.agg #[.int .i64 12, .int .i64 0, .int .i64 0], .int .i64 2, .int .i64 0]) :: (.agg #[.int .i64 12, .int .i64 0, .int .i64 0]) :: (.int .i64 2) :: (.int .i64 0) :: (.int .i64 0) :: (.bool false) :: (undef) :: (undef) :: (.string ⟨#[192, 0]⟩) :: (.int .i64 2) :: (.int .i64 2) :: (.int .i64 0) :: (.pointer (some ⟨w1.heap.size, 2, none⟩)) :: (.int .i64 0) :: (.bool false) :: (undef) :: (.int .i64 2) :: (.pointer (some ⟨w1.heap.size, 2, none⟩)) :: (.int .i64 0) :: (.int .i64 2) :: x 13 :: x 0 :: x 1 :: x 2 :: x 3 :: x 4 :: x 5 :: x 6 :: x 7 :: x 8 :: x 9 :: x 10 :: x 11 :: x 12 :: x 14 :: x 15 :: (undef) :: (undef) :: (undef) :: (undef) :: (undef) :: (undef) :: (undef) :: (undef) :: (undef) :: []).toArray, []⟩)) ?_ ?_ ?_
 ·exact ⟨fun i => if i = 17 then .int .i64 0 else undef, by kernel_rfl, FixR.start HB2.out.size (below_drewB _ _) HO2.out.drew _ _ (MapE.start HP2.out.drew _ _), fun i hi hs h => absurd h (by rw [getD_repl]; decide)⟩
 ·as_aux_lemma =>
  rintro L a wz hsz ⟨x, rfl, HR, hΦ⟩ i o ho hn hd
  have hlt : i < 18 := (Array.getElem?_eq_some_iff.1 ho).1
  replace hsz : L.size = 18 := hsz
  rcases cs18 i hlt with rfl | rfl | rfl | rfl | rfl | rfl | rfl | rfl | rfl | rfl | rfl | rfl | rfl | rfl | rfl | rfl | rfl | rfl
  all_goals
   have ho' := ho
   simp only [List.getElem?_toArray, List.getElem?_cons_zero, List.getElem?_cons_succ, Option.some.injEq] at ho'
   subst ho'
   clear hlt
  ·as_aux_lemma =>
   refine wpOp_yes ho rfl (fun K' hK => ?_)
   have HK := Lib.hid hK
   clear hK ho
   go_simp
   go_at_call 199
   refine (chapters_any _).mono ?_
   rintro e w1 ⟨rfl, hb, hm⟩
   (try dsimp only)
   refine HK.out _ _ (InvG.next 0 _ hΦ rfl ?_ (HR.pure 0 _ (by decide) hb (HR.ex.here (by rw [hsz]; decide) hm hb)) (.inl (by decide)))
   kernel_rfl
  ·as_aux_lemma =>
   refine wpOp_yes ho rfl (fun K' hK => ?_)
   have HK := Lib.hid hK
   clear hK ho
   go_simp
   refine HK.out _ _ (InvG.next 1 _ hΦ rfl ?_ (HR.pure 1 _ (by decide) (Below.refl _ _) (HR.ex.keep 1 _ (by decide) (Below.refl _ _))) (.inr rfl))
   kernel_rfl
  ·as_aux_lemma =>
   refine wpOp_yes ho rfl (fun K' hK => ?_)
   have HK := Lib.hid hK
   clear hK ho
   have e1 := (show x 1 = .pointer (some ⟨w1.heap.size, 0, none⟩) from hΦ 1 (by decide) (by decide) (dep_of hd _ rfl))
   have c0 := HR.ex.kept.cell 0 (.int .i64 12) rfl
   go_simp
   refine HK.out _ _ (InvG.next 2 _ hΦ (upds1 e1) ?_ (HR.pure 2 _ (by decide) (Below.refl _ _) (HR.ex.keep 2 _ (by decide) (Below.refl _ _))) (.inr rfl))
   kernel_rfl
  ·as_aux_lemma =>
   refine wpOp_yes ho rfl (fun K' hK => ?_)
   have HK := Lib.hid hK
   clear hK ho
   have e2 := (show x 2 = .int .i64 12 from hΦ 2 (by decide) (by decide) (dep_of hd _ rfl))
   obtain ⟨bm, e0, hm⟩ := HR.ex.mp (dep_of hd _ rfl)
   have hlk := run_lookupI (P := Tryz.prog) (T := 302) (k := 12) (i := 11) (v := .agg #[.func (.func 211) #[] #[], .func (.func 212) #[] #[]]) Tryz.underlying302 Tryz.underlying3 hm rfl
   go_simp
   refine HK.out _ _ (InvG.next 3 _ hΦ (upds2 e0 e2) ?_ (HR.pure 3 _ (by decide) (Below.refl _ _) (HR.ex.keep 3 _ (by decide) (Below.refl _ _))) (.inr rfl))
   kernel_rfl
  ·as_aux_lemma =>
   refine wpOp_yes ho rfl (fun K' hK => ?_)
   have HK := Lib.hid hK
   clear hK ho
   have e3 := (show x 3 = .agg #[.func (.func 211) #[] #[], .func (.func 212) #[] #[]] from hΦ 3 (by decide) (by decide) (dep_of hd _ rfl))
   go_simp
   refine HK.out _ _ (InvG.next 4 _ hΦ (upds1 e3) ?_ (HR.pure 4 _ (by decide) (Below.refl _ _) (HR.ex.keep 4 _ (by decide) (Below.refl _ _))) (.inr rfl))
   kernel_rfl
  ·as_aux_lemma =>
   refine wpOp_yes ho rfl (fun K' hK => ?_)
   have HK := Lib.hid hK
   clear hK ho
   go_simp
   refine HK.out _ _ (InvG.next 5 _ hΦ rfl ?_ (HR.pure 5 _ (by decide) (Below.refl _ _) (HR.ex.keep 5 _ (by decide) (Below.refl _ _))) (.inr rfl))
   kernel_rfl
  ·as_aux_lemma =>
   refine wpOp_yes ho rfl (fun K' hK => ?_)
   have HK := Lib.hid hK
   clear hK ho
   have hl := load_hdT HR.ex.kept
   go_simp
   refine HK.out _ _ (InvG.next 6 _ hΦ rfl ?_ (HR.pure 6 _ (by decide) (Below.refl _ _) (HR.ex.keep 6 _ (by decide) (Below.refl _ _))) (.inr rfl))
   kernel_rfl
  ·as_aux_lemma =>
   refine wpOp_yes ho rfl (fun K' hK => ?_)
   have HK := Lib.hid hK
   clear hK ho
   go_simp
   refine HK.out _ _ (InvG.next 7 _ hΦ rfl ?_ (HR.pure 7 _ (by decide) (Below.refl _ _) (HR.ex.keep 7 _ (by decide) (Below.refl _ _))) (.inr rfl))
   kernel_rfl
  ·as_aux_lemma =>
   refine wpOp_yes ho rfl (fun K' hK => ?_)
   have HK := Lib.hid hK
   clear hK ho
   go_simp
   refine HK.out _ _ (InvG.next 8 _ hΦ rfl ?_ (HR.pure 8 _ (by decide) (Below.refl _ _) (HR.ex.keep 8 _ (by decide) (Below.refl _ _))) (.inr rfl))
   kernel_rfl
  ·as_aux_lemma =>
   refine wpOp_yes ho rfl (fun K' hK => ?_)
   have HK := Lib.hid hK
   clear hK ho
   go_simp
   refine HK.out _ _ (InvG.next 9 _ hΦ rfl ?_ (HR.pure 9 _ (by decide) (Below.refl _ _) (HR.ex.keep 9 _ (by decide) (Below.refl _ _))) (.inr rfl))
   kernel_rfl
  ·as_aux_lemma =>
   refine wpOp_yes ho rfl (fun K' hK => ?_)
   have HK := Lib.hid hK
   clear hK ho
   have e7 := (show x 7 = .string ⟨#[192, 0]⟩ from hΦ 7 (by decide) (by decide) (dep_of hd _ rfl))
   have e8 := (show x 8 = .int .i64 2 from hΦ 8 (by decide) (by decide) (dep_of hd _ rfl))
   have e9 := (show x 9 = .int .i64 2 from hΦ 9 (by decide) (by decide) (dep_of hd _ rfl))
   go_simp
   refine HK.out _ _ (InvG.next 10 _ hΦ (upds3 e7 e8 e9) ?_ (HR.pure 10 _ (by decide) (Below.refl _ _) (HR.ex.keep 10 _ (by decide) (Below.refl _ _))) (.inr rfl))
   kernel_rfl
  ·as_aux_lemma =>
   refine wpOp_yes ho rfl (fun K' hK => ?_)
   have HK := Lib.hid hK
   clear hK ho
   have e5 := (show x 5 = .int .i64 4 from hΦ 5 (by decide) (by decide) (dep_of hd _ rfl))
   have e6 := (show x 6 = .agg #[.int .i64 12, .int .i64 0, .int .i64 0] from hΦ 6 (by decide) (by decide) (dep_of hd _ rfl))
   have e10 := (show x 10 = .string ⟨#[]⟩ from hΦ 10 (by decide) (by decide) (dep_of hd _ rfl))
   go_simp
   refine HK.out _ _ (InvG.next 11 _ hΦ (upds3 e5 e6 e10) ?_ (HR.pure 11 _ (by decide) (Below.refl _ _) (HR.ex.keep 11 _ (by decide) (Below.refl _ _))) (.inr rfl))
   kernel_rfl
  ·as_aux_lemma =>
   refine wpOp_yes ho rfl (fun K' hK => ?_)
   have HK := Lib.hid hK
   clear hK ho
   have e4 := (show x 4 = .func (.func 212) #[] #[] from hΦ 4 (by decide) (by decide) (dep_of hd _ rfl))
   have e11 := (show x 11 = .agg #[.int .i64 4, .int .i64 12, .int .i64 0, .int .i64 0, .string ⟨#[]⟩] from hΦ 11 (by decide) (by decide) (dep_of hd _ rfl))
   go_simp
   go_at_call 212
   refine (wcontrol_12 _).mono ?_
   rintro e w1 ⟨rfl, hb⟩
   (try dsimp only)
   refine HK.out _ _ (InvG.next 12 _ hΦ (upds2 e4 e11) ?_ (HR.pure 12 _ (by decide) hb (HR.ex.keep 12 _ (by decide) hb)) (.inr rfl))
   kernel_rfl
  ·as_aux_lemma =>
   refine wpOp_yes ho rfl (fun K' hK => ?_)
   have HK := Lib.hid hK
   clear hK ho
   have e12 := (show x 12 = .tuple #[.agg c12, .int .i64 0] from hΦ 12 (by decide) (by decide) (dep_of hd _ rfl))
   go_simp
   refine HK.out _ _ (InvG.next 13 _ hΦ (upds1 e12) ?_ (HR.pure 13 _ (by decide) (Below.refl _ _) (HR.ex.keep 13 _ (by decide) (Below.refl _ _))) (.inr rfl))
   kernel_rfl
  ·as_aux_lemma =>
   refine wpOp_yes ho rfl (fun K' hK => ?_)
   have HK := Lib.hid hK
   clear hK ho
   have e13 := (show x 13 = .tuple #[.agg c12, .int .i64 0] from hΦ 13 (by decide) (by decide) (dep_of hd _ rfl))
   go_simp
   refine HK.out _ _ (InvG.next 14 _ hΦ (upds1 e13) ?_ (HR.pure 14 _ (by decide) (Below.refl _ _) (HR.ex.keep 14 _ (by decide) (Below.refl _ _))) (.inr rfl))
   kernel_rfl
  ·as_aux_lemma =>
   refine wpOp_yes ho rfl (fun K' hK => ?_)
   have HK := Lib.hid hK
   clear hK ho
   have e13 := (show x 13 = .tuple #[.agg c12, .int .i64 0] from hΦ 13 (by decide) (by decide) (dep_of hd _ rfl))
   go_simp
   refine HK.out _ _ (InvG.next 15 _ hΦ (upds1 e13) ?_ (HR.pure 15 _ (by decide) (Below.refl _ _) (HR.ex.keep 15 _ (by decide) (Below.refl _ _))) (.inr rfl))
   kernel_rfl
  ·as_aux_lemma =>
   refine wpOp_yes ho rfl (fun K' hK => ?_)
   have HK := Lib.hid hK
   clear hK ho
   have e14 := (show x 14 = .agg c12 from hΦ 14 (by decide) (by decide) (dep_of hd _ rfl))
   have hO := HR.open' hn
   have hst := store_12 hO
   go_simp
   refine HK.out _ _ (InvG.next 16 undef hΦ (upds1 e14) ?_ (HR.store undef (by rw [hsz]; decide) hn hBb (HR.ex.store 16 undef (by decide) hO HNe.out)) (.inl (by decide)))
   kernel_rfl
  ·as_aux_lemma =>
   refine wpOp_yes ho rfl (fun K' hK => ?_)
   have HK := Lib.hid hK
   clear hK ho
   have e15 := (show x 15 = .int .i64 0 from hΦ 15 (by decide) (by decide) (dep_of hd _ rfl))
   go_simp
   refine HK.out _ _ (InvG.next 17 _ hΦ (upds1 e15) ?_ (HR.pure 17 _ (by decide) (Below.refl _ _) (HR.ex.keep 17 _ (by decide) (Below.refl _ _))) (.inr rfl))
   kernel_rfl
 ·as_aux_lemma =>
  rintro L a wz ⟨x, rfl, HR, hΦ⟩ hall
  have e17 := (show x 17 = .int .i64 0 from hΦ 17 (by decide) (by decide) (hall 17 (by decide)))
  have HO := Lib.hid (HR.done (hall 16 (by decide)))
  have HB := Lib.hid (HB2.out.trans HR.bel)
  clear HR hΦ hall
  dsimp only
  rw [e17]
  have hl := load_12 HO.out
  have hst := rowStore_run (P := Tryz.prog) wz w.heap.size 34 34 c12 c12 HO.out c12_info rfl c12_one
  go_wp2_with fail
  refine bodyPost_ret (results_row_tmp2 rfl _ _ _ _ _ _ rfl (HO.out.setRow c12) Tryz.underlying34 rfl c12_info) rfl ?_
  exact ⟨rfl, below_row HB.out (Nat.le_refl _) _⟩
end Go.Proofs.YtanofjmkkhocaaaGreatDoor
