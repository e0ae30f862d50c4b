/- Limits; mstream.New; what a stream tells of itself. A stream's size of the next packet; what it needs. -/
import Derived.Test.YtanofjmkkhocaaaGreatDoorHeD
import Derived.Test.YtanofjmkkhocaaaGreatDoorHeE
import Derived.Lib.AppendStr
set_option linter.unusedVariables false
set_option linter.unusedSimpArgs false
set_option maxRecDepth 100000
set_option maxHeartbeats 3200000
namespace Go.Proofs.YtanofjmkkhocaaaGreatDoor
open Go Go.RowKit
def limM (mp md : Int) : Bool := decide (16 ≤ mp ∧ mp ≤ 1048576 ∧ 0 ≤ md ∧ md ≤ 32)
def stC (v m : Int) (kv : Value) (at' told e : Int) : Array Value := #[.int .i64 v, .int .i64 m, kv, .int .i64 at', .int .i64 told, .int .i64 e]
theorem mnew_ok (v mp md : Int) (hv : v = 4 ∨ v = 5) (h : limM mp md = true) (w : World) : Calls Tryz.prog 24 #[.int .i64 v, .agg #[.int .i64 mp, .int .i64 md]] w fun e w' =>
  e = .returned (.tuple #[.pointer (some ⟨w.heap.size + 1, 0, none⟩), .int .i64 0]) ∧ Below w.heap.size w w' ∧ Obj? w' (w.heap.size + 1) (stC v mp (.slice none 0 0) 0 0 0) 135 := by
 have HB := Lib.hid (below_al (below_al (Below.refl _ w) (.cells #[.int .i64 mp, .int .i64 md] 53 (0, 0))) (.cells (stC v mp (.slice none 0 0) 0 0 0) 135 (0, 0)))
 have HO := Lib.hid (Obj?.new (w.alloc (.cells #[.int .i64 mp, .int .i64 md] 53 (0, 0))) (stC v mp (.slice none 0 0) 0 0 0) 135)
 rw [World.size_alloc] at HO
 obtain ⟨h1, h2, h3, h4⟩ : 16 ≤ mp ∧ mp ≤ 1048576 ∧ 0 ≤ md ∧ md ≤ 32 := by simpa [limM] using h
 clear h
 unfold stC at HB HO ⊢
 rcases hv with rfl | rfl
 ·go_enter Tryz.func24, Tryz.ntmps24
  go_wp2
  go_ret2
  exact ⟨rfl, HB.out, HO.out⟩
 ·go_enter Tryz.func24, Tryz.ntmps24
  go_wp2
  go_ret2
  exact ⟨rfl, HB.out, HO.out⟩
section getters
variable {w : World} {sp : Nat} {v m a t e : Int} {kv : Value}
end getters
end Go.Proofs.YtanofjmkkhocaaaGreatDoor
namespace Go.Proofs.YtanofjmkkhocaaaGreatDoor
open Go Go.RowKit
def u8w (l : List UInt8) : List Value := l.map fun b => Value.int .u8 b.toNat
def Reads (w : World) (kv : Value) (ks : List UInt8) : Prop := ∀ W, Below w.heap.size w W → (convert 133 9 kv).run Tryz.prog W = .ok (.string ⟨ks.toArray⟩) W
theorem Reads.below {w w' : World} {kv : Value} {ks : List UInt8} (h : Reads w kv ks) (hb : Below w.heap.size w w') : Reads w' kv ks := fun W hW => h W (below_thenh hb hW)
theorem load_HdT (a : Addr) : loadVar 294 a = rowSem 294 a := rfl
theorem store_HdT (a : Addr) (v : Value) : storeVar 294 a v = rowStore 294 a v := rfl
theorem store_hdT {w : World} {b : Nat} {cs : Array Value} (h : Obj? w b cs 294) (hs : cs.size = 3) (x y z : Int) : (rowStore 294 ⟨b, 0, none⟩ (.agg #[.int .i64 x, .int .i64 y, .int .i64 z])).run Tryz.prog w = .ok () (w.setRow b #[.int .i64 x, .int .i64 y, .int .i64 z]) :=
 rowStore_run (P := Tryz.prog) _ b 294 294 _ #[.int .i64 x, .int .i64 y, .int .i64 z] h infoHd (by rw [hs]; rfl) (by simp [Value.oneCell'])
theorem store_newhdT (w : World) (x y z : Int) : (rowStore 294 ⟨w.heap.size, 0, none⟩ (.agg #[.int .i64 x, .int .i64 y, .int .i64 z])).run Tryz.prog (w.alloc (.cells #[.int .i64 0, .int .i64 0, .int .i64 0] 294 (0, 0))) = .ok () (w.alloc (.cells #[.int .i64 x, .int .i64 y, .int .i64 z] 294 (0, 0))) := by
 have h := rowStore_run (P := Tryz.prog) _ w.heap.size 294 294 _ #[.int .i64 x, .int .i64 y, .int .i64 z] (Obj?.new w #[.int .i64 0, .int .i64 0, .int .i64 0] 294) infoHd rfl (by simp [Value.oneCell'])
 rw [World.setRow_alloc_new] at h
 exact h
theorem load_hdT {w : World} {b : Nat} {x y z : Int} (h : Obj? w b #[.int .i64 x, .int .i64 y, .int .i64 z] 294) : (rowSem 294 ⟨b, 0, none⟩).run Tryz.prog w = .ok (.agg #[.int .i64 x, .int .i64 y, .int .i64 z]) w :=
 rowSem_run w b 294 294 _ _ h Tryz.underlying294 rfl infoHd
attribute [local go_sem ↓] load_HdT store_HdT
attribute [local irreducible] rowSem rowStore
theorem cs25 : ∀ i : Nat, i < 25 → (i = 0 ∨ i = 1 ∨ i = 2 ∨ i = 3 ∨ i = 4 ∨ i = 5 ∨ i = 6 ∨ i = 7 ∨ i = 8 ∨ i = 9 ∨ i = 10 ∨ i = 11 ∨ i = 12 ∨ i = 13 ∨ i = 14 ∨ i = 15 ∨ i = 16 ∨ i = 17 ∨ i = 18 ∨ i = 19 ∨ i = 20 ∨ i = 21 ∨ i = 22 ∨ i = 23 ∨ i = 24) := by decide +kernel
theorem size_short {w : World} {sp : Nat} {v m a t e : Int} {al : Option Addr} {n c : Nat} {ks : List UInt8} (hO : Obj? w sp (stC v m (.slice al n c) a t e) 135) (hn5 : n ≤ 5) (hnc : n ≤ c) (hk : ks.length ≤ 5) (hR : Reads w (.slice al n c) ks) (hh : rdH v ks = (0, 0, 0, 0, 3)) (hr : True) :
  Calls Tryz.prog 191 #[.pointer (some ⟨sp, 0, none⟩)] w fun r w' => r = .returned (.tuple #[.int .i64 (0), .int .i64 3]) ∧ Below w.heap.size w w' := by
 have c0 := hO.cell 0 (.int .i64 v) rfl
 have c2 := hO.cell 2 (.slice al n c) rfl
 have hmin : min (n : Int) 5 = n := by omega
 have HO := Lib.hid hO
 have HRd := Lib.hid hR
 have HH := Lib.hid (fun W => hdread_any v ks (by omega) W)
 rw [hh] at HH
 have HRg := Lib.hid hr
 clear hO hR hh hk c0 c2 hr
 go_enter Tryz.func191, Tryz.ntmps191
 refine wp_hide fun Q1 hQ1 => ?_
 have HQ1 := Lib.hid hQ1
 clear hQ1
 go_upto_region 1 with fail
 refine region_inv2 rfl (by kernel_rfl) (InvG 25 [.pointer (some ⟨sp, 0, none⟩), .pointer (some ⟨sp, 0, none⟩), .pointer (some ⟨sp, 0, none⟩), .int .i64 v, .pointer (some ⟨sp, 0, none⟩), .pointer (some ⟨sp, 0, none⟩), .pointer (some ⟨sp, 2, none⟩), .slice al n c, .pointer (some ⟨sp, 0, none⟩), .pointer (some ⟨sp, 0, none⟩), .pointer (some ⟨sp, 2, none⟩), .slice al n c, .int .i64 n, .int .i64 n, .slice al n c, .string ⟨ks.toArray⟩, .tuple #[.agg #[.int .i64 0, .int .i64 0, .int .i64 0], .int .i64 0, .int .i64 3], .tuple #[.agg #[.int .i64 0, .int .i64 0, .int .i64 0], .int .i64 0, .int .i64 3], .agg #[.int .i64 0, .int .i64 0, .int .i64 0], .int .i64 0, .int .i64 3, undef, undef, .int .i64 0, .int .i64 3] [21, 22] (PairR w.heap.size w (fun _ _ _ => True) 21 22 294 #[.int .i64 0, .int .i64 0, .int .i64 0] #[.int .i64 0, .int .i64 0, .int .i64 0]) (fun x => ⟨((.pointer (some ⟨sp, 0, none⟩)) :: (undef) :: (.int .i64 0) :: (.int .i64 0) :: x 21 :: x 23 :: x 24 :: x 17 :: x 0 :: x 1 :: x 2 :: x 3 :: x 4 :: x 5 :: x 6 :: x 7 :: x 8 :: x 9 :: x 10 :: x 11 :: x 12 :: x 13 :: x 14 :: x 15 :: x 16 :: x 18 :: x 19 :: x 20 :: (undef) :: (undef) :: (undef) :: (undef) :: (undef) :: (undef) :: (undef) :: []).toArray, []⟩)) ?_ ?_ ?_
 ·exact ⟨fun i => undef, by kernel_rfl, PairR.start (Nat.le_refl _) (below_grown (quiet_grown ⟨1, rfl⟩ none)) _ _ trivial, fun i hi hs h => absurd h (by rw [getD_repl]; decide)⟩
 ·as_aux_lemma =>
  rintro L a wz hsz ⟨x, rfl, HR, hΦ⟩ i o ho hn hd
  have hlt : i < 25 := (Array.getElem?_eq_some_iff.1 ho).1
  replace hsz : L.size = 25 := hsz
  rcases cs25 i hlt with rfl | rfl | rfl | rfl | rfl | rfl | rfl | rfl | rfl | rfl | rfl | rfl | rfl | rfl | rfl | rfl | rfl | rfl | rfl | rfl | rfl | rfl | rfl | rfl | rfl
  all_goals
   have ho' := ho
   simp only [List.getElem?_toArray, List.getElem?_cons_zero, List.getElem?_cons_succ, Option.some.injEq] at ho'
   subst ho'
   clear hlt
  ·as_aux_lemma =>
   refine wpOp_yes ho rfl (fun K' hK => ?_)
   have HK := Lib.hid hK
   clear hK ho
   go_simp
   refine HK.out _ _ (InvG.next 0 _ hΦ rfl ?_ (HR.pure 0 _ (by decide) (by decide) (Below.refl _ _) trivial) (.inr rfl))
   kernel_rfl
  ·as_aux_lemma =>
   refine wpOp_yes ho rfl (fun K' hK => ?_)
   have HK := Lib.hid hK
   clear hK ho
   have e0 := (show x 0 = .pointer (some ⟨sp, 0, none⟩) from hΦ 0 (by decide) (by decide) (dep_of hd _ rfl))
   go_simp
   refine HK.out _ _ (InvG.next 1 _ hΦ (upds1 e0) ?_ (HR.pure 1 _ (by decide) (by decide) (Below.refl _ _) trivial) (.inr rfl))
   kernel_rfl
  ·as_aux_lemma =>
   refine wpOp_yes ho rfl (fun K' hK => ?_)
   have HK := Lib.hid hK
   clear hK ho
   have e1 := (show x 1 = .pointer (some ⟨sp, 0, none⟩) from hΦ 1 (by decide) (by decide) (dep_of hd _ rfl))
   go_simp
   refine HK.out _ _ (InvG.next 2 _ hΦ (upds1 e1) ?_ (HR.pure 2 _ (by decide) (by decide) (Below.refl _ _) trivial) (.inr rfl))
   kernel_rfl
  ·as_aux_lemma =>
   refine wpOp_yes ho rfl (fun K' hK => ?_)
   have HK := Lib.hid hK
   clear hK ho
   have e2 := (show x 2 = .pointer (some ⟨sp, 0, none⟩) from hΦ 2 (by decide) (by decide) (dep_of hd _ rfl))
   have c0 := (HO.out.below HR.bel HO.out.lt).cell 0 (.int .i64 v) rfl
   go_simp
   refine HK.out _ _ (InvG.next 3 _ hΦ (upds1 e2) ?_ (HR.pure 3 _ (by decide) (by decide) (Below.refl _ _) trivial) (.inr rfl))
   kernel_rfl
  ·as_aux_lemma =>
   refine wpOp_yes ho rfl (fun K' hK => ?_)
   have HK := Lib.hid hK
   clear hK ho
   go_simp
   refine HK.out _ _ (InvG.next 4 _ hΦ rfl ?_ (HR.pure 4 _ (by decide) (by decide) (Below.refl _ _) trivial) (.inr rfl))
   kernel_rfl
  ·as_aux_lemma =>
   refine wpOp_yes ho rfl (fun K' hK => ?_)
   have HK := Lib.hid hK
   clear hK ho
   have e4 := (show x 4 = .pointer (some ⟨sp, 0, none⟩) from hΦ 4 (by decide) (by decide) (dep_of hd _ rfl))
   go_simp
   refine HK.out _ _ (InvG.next 5 _ hΦ (upds1 e4) ?_ (HR.pure 5 _ (by decide) (by decide) (Below.refl _ _) trivial) (.inr rfl))
   kernel_rfl
  ·as_aux_lemma =>
   refine wpOp_yes ho rfl (fun K' hK => ?_)
   have HK := Lib.hid hK
   clear hK ho
   have e5 := (show x 5 = .pointer (some ⟨sp, 0, none⟩) from hΦ 5 (by decide) (by decide) (dep_of hd _ rfl))
   go_simp
   refine HK.out _ _ (InvG.next 6 _ hΦ (upds1 e5) ?_ (HR.pure 6 _ (by decide) (by decide) (Below.refl _ _) trivial) (.inr rfl))
   kernel_rfl
  ·as_aux_lemma =>
   refine wpOp_yes ho rfl (fun K' hK => ?_)
   have HK := Lib.hid hK
   clear hK ho
   have e6 := (show x 6 = .pointer (some ⟨sp, 2, none⟩) from hΦ 6 (by decide) (by decide) (dep_of hd _ rfl))
   have c2 := (HO.out.below HR.bel HO.out.lt).cell 2 (.slice al n c) rfl
   go_simp
   refine HK.out _ _ (InvG.next 7 _ hΦ (upds1 e6) ?_ (HR.pure 7 _ (by decide) (by decide) (Below.refl _ _) trivial) (.inr rfl))
   kernel_rfl
  ·as_aux_lemma =>
   refine wpOp_yes ho rfl (fun K' hK => ?_)
   have HK := Lib.hid hK
   clear hK ho
   go_simp
   refine HK.out _ _ (InvG.next 8 _ hΦ rfl ?_ (HR.pure 8 _ (by decide) (by decide) (Below.refl _ _) trivial) (.inr rfl))
   kernel_rfl
  ·as_aux_lemma =>
   refine wpOp_yes ho rfl (fun K' hK => ?_)
   have HK := Lib.hid hK
   clear hK ho
   have e8 := (show x 8 = .pointer (some ⟨sp, 0, none⟩) from hΦ 8 (by decide) (by decide) (dep_of hd _ rfl))
   go_simp
   refine HK.out _ _ (InvG.next 9 _ hΦ (upds1 e8) ?_ (HR.pure 9 _ (by decide) (by decide) (Below.refl _ _) trivial) (.inr rfl))
   kernel_rfl
  ·as_aux_lemma =>
   refine wpOp_yes ho rfl (fun K' hK => ?_)
   have HK := Lib.hid hK
   clear hK ho
   have e9 := (show x 9 = .pointer (some ⟨sp, 0, none⟩) from hΦ 9 (by decide) (by decide) (dep_of hd _ rfl))
   go_simp
   refine HK.out _ _ (InvG.next 10 _ hΦ (upds1 e9) ?_ (HR.pure 10 _ (by decide) (by decide) (Below.refl _ _) trivial) (.inr rfl))
   kernel_rfl
  ·as_aux_lemma =>
   refine wpOp_yes ho rfl (fun K' hK => ?_)
   have HK := Lib.hid hK
   clear hK ho
   have e10 := (show x 10 = .pointer (some ⟨sp, 2, none⟩) from hΦ 10 (by decide) (by decide) (dep_of hd _ rfl))
   have c2 := (HO.out.below HR.bel HO.out.lt).cell 2 (.slice al n c) rfl
   go_simp
   refine HK.out _ _ (InvG.next 11 _ hΦ (upds1 e10) ?_ (HR.pure 11 _ (by decide) (by decide) (Below.refl _ _) trivial) (.inr rfl))
   kernel_rfl
  ·as_aux_lemma =>
   refine wpOp_yes ho rfl (fun K' hK => ?_)
   have HK := Lib.hid hK
   clear hK ho
   have e11 := (show x 11 = .slice al n c from hΦ 11 (by decide) (by decide) (dep_of hd _ rfl))
   go_simp
   refine HK.out _ _ (InvG.next 12 _ hΦ (upds1 e11) ?_ (HR.pure 12 _ (by decide) (by decide) (Below.refl _ _) trivial) (.inr rfl))
   kernel_rfl
  ·as_aux_lemma =>
   refine wpOp_yes ho rfl (fun K' hK => ?_)
   have HK := Lib.hid hK
   clear hK ho
   have e12 := (show x 12 = .int .i64 n from hΦ 12 (by decide) (by decide) (dep_of hd _ rfl))
   go_simp
   refine HK.out _ _ (InvG.next 13 _ hΦ (upds1 e12) ?_ (HR.pure 13 _ (by decide) (by decide) (Below.refl _ _) trivial) (.inr rfl))
   kernel_rfl
  ·as_aux_lemma =>
   refine wpOp_yes ho rfl (fun K' hK => ?_)
   have HK := Lib.hid hK
   clear hK ho
   have e7 := (show x 7 = .slice al n c from hΦ 7 (by decide) (by decide) (dep_of hd _ rfl))
   have e13 := (show x 13 = .int .i64 n from hΦ 13 (by decide) (by decide) (dep_of hd _ rfl))
   go_simp
   refine HK.out _ _ (InvG.next 14 _ hΦ (upds2 e7 e13) ?_ (HR.pure 14 _ (by decide) (by decide) (Below.refl _ _) trivial) (.inr rfl))
   kernel_rfl
  ·as_aux_lemma =>
   refine wpOp_yes ho rfl (fun K' hK => ?_)
   have HK := Lib.hid hK
   clear hK ho
   have e14 := (show x 14 = .slice al n c from hΦ 14 (by decide) (by decide) (dep_of hd _ rfl))
   have hcv := HRd.out wz HR.bel
   go_simp
   refine HK.out _ _ (InvG.next 15 _ hΦ (upds1 e14) ?_ (HR.pure 15 _ (by decide) (by decide) (Below.refl _ _) trivial) (.inr rfl))
   kernel_rfl
  ·as_aux_lemma =>
   refine wpOp_yes ho rfl (fun K' hK => ?_)
   have HK := Lib.hid hK
   clear hK ho
   have e3 := (show x 3 = .int .i64 v from hΦ 3 (by decide) (by decide) (dep_of hd _ rfl))
   have e15 := (show x 15 = .string ⟨ks.toArray⟩ from hΦ 15 (by decide) (by decide) (dep_of hd _ rfl))
   go_simp
   go_at_call 198
   refine (HH.out _).mono ?_
   rintro e w1 ⟨rfl, hb⟩
   (try dsimp only)
   refine HK.out _ _ (InvG.next 16 _ hΦ (upds2 e3 e15) ?_ (HR.pure 16 _ (by decide) (by decide) hb trivial) (.inr rfl))
   kernel_rfl
  ·as_aux_lemma =>
   refine wpOp_yes ho rfl (fun K' hK => ?_)
   have HK := Lib.hid hK
   clear hK ho
   have e16 := (show x 16 = .tuple #[.agg #[.int .i64 0, .int .i64 0, .int .i64 0], .int .i64 0, .int .i64 3] from hΦ 16 (by decide) (by decide) (dep_of hd _ rfl))
   go_simp
   refine HK.out _ _ (InvG.next 17 _ hΦ (upds1 e16) ?_ (HR.pure 17 _ (by decide) (by decide) (Below.refl _ _) trivial) (.inr rfl))
   kernel_rfl
  ·as_aux_lemma =>
   refine wpOp_yes ho rfl (fun K' hK => ?_)
   have HK := Lib.hid hK
   clear hK ho
   have e17 := (show x 17 = .tuple #[.agg #[.int .i64 0, .int .i64 0, .int .i64 0], .int .i64 0, .int .i64 3] from hΦ 17 (by decide) (by decide) (dep_of hd _ rfl))
   go_simp
   refine HK.out _ _ (InvG.next 18 _ hΦ (upds1 e17) ?_ (HR.pure 18 _ (by decide) (by decide) (Below.refl _ _) trivial) (.inr rfl))
   kernel_rfl
  ·as_aux_lemma =>
   refine wpOp_yes ho rfl (fun K' hK => ?_)
   have HK := Lib.hid hK
   clear hK ho
   have e17 := (show x 17 = .tuple #[.agg #[.int .i64 0, .int .i64 0, .int .i64 0], .int .i64 0, .int .i64 3] from hΦ 17 (by decide) (by decide) (dep_of hd _ rfl))
   go_simp
   refine HK.out _ _ (InvG.next 19 _ hΦ (upds1 e17) ?_ (HR.pure 19 _ (by decide) (by decide) (Below.refl _ _) trivial) (.inr rfl))
   kernel_rfl
  ·as_aux_lemma =>
   refine wpOp_yes ho rfl (fun K' hK => ?_)
   have HK := Lib.hid hK
   clear hK ho
   have e17 := (show x 17 = .tuple #[.agg #[.int .i64 0, .int .i64 0, .int .i64 0], .int .i64 0, .int .i64 3] from hΦ 17 (by decide) (by decide) (dep_of hd _ rfl))
   go_simp
   refine HK.out _ _ (InvG.next 20 _ hΦ (upds1 e17) ?_ (HR.pure 20 _ (by decide) (by decide) (Below.refl _ _) trivial) (.inr rfl))
   kernel_rfl
  ·as_aux_lemma =>
   refine wpOp_yes ho rfl (fun K' hK => ?_)
   have HK := Lib.hid hK
   clear hK ho
   go_simp
   refine HK.out _ _ (InvG.next 21 _ hΦ rfl ?_ (HR.alloc (by decide) (by rw [hsz]; decide) hn (Nat.le_trans HR.low HR.bel.size) trivial) (.inl (by decide)))
   kernel_rfl
  ·as_aux_lemma =>
   refine wpOp_yes ho rfl (fun K' hK => ?_)
   have HK := Lib.hid hK
   clear hK ho
   have e18 := (show x 18 = .agg #[.int .i64 0, .int .i64 0, .int .i64 0] from hΦ 18 (by decide) (by decide) (dep_of hd _ rfl))
   obtain ⟨b, e21, hBb, hO⟩ := HR.open' (dep_of hd _ rfl) hn
   have hst := store_hdT hO rfl (0) (0) (0)
   go_simp
   refine HK.out _ _ (InvG.next 22 undef hΦ (upds2 e21 e18) ?_ (HR.store undef (by decide) (by rw [hsz]; decide) e21 (dep_of hd _ rfl) hBb hO trivial) (.inl (by decide)))
   kernel_rfl
  ·as_aux_lemma =>
   refine wpOp_yes ho rfl (fun K' hK => ?_)
   have HK := Lib.hid hK
   clear hK ho
   have e19 := (show x 19 = .int .i64 0 from hΦ 19 (by decide) (by decide) (dep_of hd _ rfl))
   go_simp
   refine HK.out _ _ (InvG.next 23 _ hΦ (upds1 e19) ?_ (HR.pure 23 _ (by decide) (by decide) (Below.refl _ _) trivial) (.inr rfl))
   kernel_rfl
  ·as_aux_lemma =>
   refine wpOp_yes ho rfl (fun K' hK => ?_)
   have HK := Lib.hid hK
   clear hK ho
   have e20 := (show x 20 = .int .i64 3 from hΦ 20 (by decide) (by decide) (dep_of hd _ rfl))
   go_simp
   refine HK.out _ _ (InvG.next 24 _ hΦ (upds1 e20) ?_ (HR.pure 24 _ (by decide) (by decide) (Below.refl _ _) trivial) (.inr rfl))
   kernel_rfl
 ·as_aux_lemma =>
  rintro L a wz ⟨x, rfl, HR, hΦ⟩ hall
  have e23 := (show x 23 = .int .i64 0 from hΦ 23 (by decide) (by decide) (hall 23 (by decide)))
  have e24 := (show x 24 = .int .i64 3 from hΦ 24 (by decide) (by decide) (hall 24 (by decide)))
  obtain ⟨b, e21, hBb, hOb⟩ := HR.done (hall 21 (by decide)) (hall 22 (by decide))
  have cb := hOb.cell 2 (.int .i64 0) rfl
  have HB := Lib.hid HR.bel
  clear hOb HR hΦ hall
  dsimp only
  rw [e21, e23, e24]
  go_wp2_with fail
  refine HQ1.out _ _ _ ?_
  go_ret2
  exact ⟨rfl, HB.out⟩
theorem size_ok {w : World} {sp : Nat} {v m a t e : Int} {al : Option Addr} {n c : Nat} {ks : List UInt8} {k f l nn : Int} (hO : Obj? w sp (stC v m (.slice al n c) a t e) 135) (hn5 : n ≤ 5) (hnc : n ≤ c) (hk : ks.length ≤ 5) (hR : Reads w (.slice al n c) ks) (hh : rdH v ks = (k, f, l, nn, 0)) (hr : 0 ≤ l ∧ l ≤ 268435455 ∧ 0 ≤ nn ∧ nn ≤ 5) :
  Calls Tryz.prog 191 #[.pointer (some ⟨sp, 0, none⟩)] w fun r w' => r = .returned (.tuple #[.int .i64 (nn + l), .int .i64 0]) ∧ Below w.heap.size w w' := by
 have c0 := hO.cell 0 (.int .i64 v) rfl
 have c2 := hO.cell 2 (.slice al n c) rfl
 have hmin : min (n : Int) 5 = n := by omega
 have HO := Lib.hid hO
 have HRd := Lib.hid hR
 have HH := Lib.hid (fun W => hdread_any v ks (by omega) W)
 rw [hh] at HH
 have HRg := Lib.hid hr
 clear hO hR hh hk c0 c2 hr
 go_enter Tryz.func191, Tryz.ntmps191
 refine wp_hide fun Q1 hQ1 => ?_
 have HQ1 := Lib.hid hQ1
 clear hQ1
 go_upto_region 1 with fail
 refine region_inv2 rfl (by kernel_rfl) (InvG 25 [.pointer (some ⟨sp, 0, none⟩), .pointer (some ⟨sp, 0, none⟩), .pointer (some ⟨sp, 0, none⟩), .int .i64 v, .pointer (some ⟨sp, 0, none⟩), .pointer (some ⟨sp, 0, none⟩), .pointer (some ⟨sp, 2, none⟩), .slice al n c, .pointer (some ⟨sp, 0, none⟩), .pointer (some ⟨sp, 0, none⟩), .pointer (some ⟨sp, 2, none⟩), .slice al n c, .int .i64 n, .int .i64 n, .slice al n c, .string ⟨ks.toArray⟩, .tuple #[.agg #[.int .i64 k, .int .i64 f, .int .i64 l], .int .i64 nn, .int .i64 0], .tuple #[.agg #[.int .i64 k, .int .i64 f, .int .i64 l], .int .i64 nn, .int .i64 0], .agg #[.int .i64 k, .int .i64 f, .int .i64 l], .int .i64 nn, .int .i64 0, undef, undef, .int .i64 nn, .int .i64 0] [21, 22] (PairR w.heap.size w (fun _ _ _ => True) 21 22 294 #[.int .i64 0, .int .i64 0, .int .i64 0] #[.int .i64 k, .int .i64 f, .int .i64 l]) (fun x => ⟨((.pointer (some ⟨sp, 0, none⟩)) :: (undef) :: (.int .i64 0) :: (.int .i64 0) :: x 21 :: x 23 :: x 24 :: x 17 :: x 0 :: x 1 :: x 2 :: x 3 :: x 4 :: x 5 :: x 6 :: x 7 :: x 8 :: x 9 :: x 10 :: x 11 :: x 12 :: x 13 :: x 14 :: x 15 :: x 16 :: x 18 :: x 19 :: x 20 :: (undef) :: (undef) :: (undef) :: (undef) :: (undef) :: (undef) :: (undef) :: []).toArray, []⟩)) ?_ ?_ ?_
 ·exact ⟨fun i => undef, by kernel_rfl, PairR.start (Nat.le_refl _) (below_grown (quiet_grown ⟨1, rfl⟩ none)) _ _ trivial, fun i hi hs h => absurd h (by rw [getD_repl]; decide)⟩
 ·as_aux_lemma =>
  rintro L a wz hsz ⟨x, rfl, HR, hΦ⟩ i o ho hn hd
  have hlt : i < 25 := (Array.getElem?_eq_some_iff.1 ho).1
  replace hsz : L.size = 25 := hsz
  rcases cs25 i hlt with rfl | rfl | rfl | rfl | rfl | rfl | rfl | rfl | rfl | rfl | rfl | rfl | rfl | rfl | rfl | rfl | rfl | rfl | rfl | rfl | rfl | rfl | rfl | rfl | rfl
  all_goals
   have ho' := ho
   simp only [List.getElem?_toArray, List.getElem?_cons_zero, List.getElem?_cons_succ, Option.some.injEq] at ho'
   subst ho'
   clear hlt
  ·as_aux_lemma =>
   refine wpOp_yes ho rfl (fun K' hK => ?_)
   have HK := Lib.hid hK
   clear hK ho
   go_simp
   refine HK.out _ _ (InvG.next 0 _ hΦ rfl ?_ (HR.pure 0 _ (by decide) (by decide) (Below.refl _ _) trivial) (.inr rfl))
   kernel_rfl
  ·as_aux_lemma =>
   refine wpOp_yes ho rfl (fun K' hK => ?_)
   have HK := Lib.hid hK
   clear hK ho
   have e0 := (show x 0 = .pointer (some ⟨sp, 0, none⟩) from hΦ 0 (by decide) (by decide) (dep_of hd _ rfl))
   go_simp
   refine HK.out _ _ (InvG.next 1 _ hΦ (upds1 e0) ?_ (HR.pure 1 _ (by decide) (by decide) (Below.refl _ _) trivial) (.inr rfl))
   kernel_rfl
  ·as_aux_lemma =>
   refine wpOp_yes ho rfl (fun K' hK => ?_)
   have HK := Lib.hid hK
   clear hK ho
   have e1 := (show x 1 = .pointer (some ⟨sp, 0, none⟩) from hΦ 1 (by decide) (by decide) (dep_of hd _ rfl))
   go_simp
   refine HK.out _ _ (InvG.next 2 _ hΦ (upds1 e1) ?_ (HR.pure 2 _ (by decide) (by decide) (Below.refl _ _) trivial) (.inr rfl))
   kernel_rfl
  ·as_aux_lemma =>
   refine wpOp_yes ho rfl (fun K' hK => ?_)
   have HK := Lib.hid hK
   clear hK ho
   have e2 := (show x 2 = .pointer (some ⟨sp, 0, none⟩) from hΦ 2 (by decide) (by decide) (dep_of hd _ rfl))
   have c0 := (HO.out.below HR.bel HO.out.lt).cell 0 (.int .i64 v) rfl
   go_simp
   refine HK.out _ _ (InvG.next 3 _ hΦ (upds1 e2) ?_ (HR.pure 3 _ (by decide) (by decide) (Below.refl _ _) trivial) (.inr rfl))
   kernel_rfl
  ·as_aux_lemma =>
   refine wpOp_yes ho rfl (fun K' hK => ?_)
   have HK := Lib.hid hK
   clear hK ho
   go_simp
   refine HK.out _ _ (InvG.next 4 _ hΦ rfl ?_ (HR.pure 4 _ (by decide) (by decide) (Below.refl _ _) trivial) (.inr rfl))
   kernel_rfl
  ·as_aux_lemma =>
   refine wpOp_yes ho rfl (fun K' hK => ?_)
   have HK := Lib.hid hK
   clear hK ho
   have e4 := (show x 4 = .pointer (some ⟨sp, 0, none⟩) from hΦ 4 (by decide) (by decide) (dep_of hd _ rfl))
   go_simp
   refine HK.out _ _ (InvG.next 5 _ hΦ (upds1 e4) ?_ (HR.pure 5 _ (by decide) (by decide) (Below.refl _ _) trivial) (.inr rfl))
   kernel_rfl
  ·as_aux_lemma =>
   refine wpOp_yes ho rfl (fun K' hK => ?_)
   have HK := Lib.hid hK
   clear hK ho
   have e5 := (show x 5 = .pointer (some ⟨sp, 0, none⟩) from hΦ 5 (by decide) (by decide) (dep_of hd _ rfl))
   go_simp
   refine HK.out _ _ (InvG.next 6 _ hΦ (upds1 e5) ?_ (HR.pure 6 _ (by decide) (by decide) (Below.refl _ _) trivial) (.inr rfl))
   kernel_rfl
  ·as_aux_lemma =>
   refine wpOp_yes ho rfl (fun K' hK => ?_)
   have HK := Lib.hid hK
   clear hK ho
   have e6 := (show x 6 = .pointer (some ⟨sp, 2, none⟩) from hΦ 6 (by decide) (by decide) (dep_of hd _ rfl))
   have c2 := (HO.out.below HR.bel HO.out.lt).cell 2 (.slice al n c) rfl
   go_simp
   refine HK.out _ _ (InvG.next 7 _ hΦ (upds1 e6) ?_ (HR.pure 7 _ (by decide) (by decide) (Below.refl _ _) trivial) (.inr rfl))
   kernel_rfl
  ·as_aux_lemma =>
   refine wpOp_yes ho rfl (fun K' hK => ?_)
   have HK := Lib.hid hK
   clear hK ho
   go_simp
   refine HK.out _ _ (InvG.next 8 _ hΦ rfl ?_ (HR.pure 8 _ (by decide) (by decide) (Below.refl _ _) trivial) (.inr rfl))
   kernel_rfl
  ·as_aux_lemma =>
   refine wpOp_yes ho rfl (fun K' hK => ?_)
   have HK := Lib.hid hK
   clear hK ho
   have e8 := (show x 8 = .pointer (some ⟨sp, 0, none⟩) from hΦ 8 (by decide) (by decide) (dep_of hd _ rfl))
   go_simp
   refine HK.out _ _ (InvG.next 9 _ hΦ (upds1 e8) ?_ (HR.pure 9 _ (by decide) (by decide) (Below.refl _ _) trivial) (.inr rfl))
   kernel_rfl
  ·as_aux_lemma =>
   refine wpOp_yes ho rfl (fun K' hK => ?_)
   have HK := Lib.hid hK
   clear hK ho
   have e9 := (show x 9 = .pointer (some ⟨sp, 0, none⟩) from hΦ 9 (by decide) (by decide) (dep_of hd _ rfl))
   go_simp
   refine HK.out _ _ (InvG.next 10 _ hΦ (upds1 e9) ?_ (HR.pure 10 _ (by decide) (by decide) (Below.refl _ _) trivial) (.inr rfl))
   kernel_rfl
  ·as_aux_lemma =>
   refine wpOp_yes ho rfl (fun K' hK => ?_)
   have HK := Lib.hid hK
   clear hK ho
   have e10 := (show x 10 = .pointer (some ⟨sp, 2, none⟩) from hΦ 10 (by decide) (by decide) (dep_of hd _ rfl))
   have c2 := (HO.out.below HR.bel HO.out.lt).cell 2 (.slice al n c) rfl
   go_simp
   refine HK.out _ _ (InvG.next 11 _ hΦ (upds1 e10) ?_ (HR.pure 11 _ (by decide) (by decide) (Below.refl _ _) trivial) (.inr rfl))
   kernel_rfl
  ·as_aux_lemma =>
   refine wpOp_yes ho rfl (fun K' hK => ?_)
   have HK := Lib.hid hK
   clear hK ho
   have e11 := (show x 11 = .slice al n c from hΦ 11 (by decide) (by decide) (dep_of hd _ rfl))
   go_simp
   refine HK.out _ _ (InvG.next 12 _ hΦ (upds1 e11) ?_ (HR.pure 12 _ (by decide) (by decide) (Below.refl _ _) trivial) (.inr rfl))
   kernel_rfl
  ·as_aux_lemma =>
   refine wpOp_yes ho rfl (fun K' hK => ?_)
   have HK := Lib.hid hK
   clear hK ho
   have e12 := (show x 12 = .int .i64 n from hΦ 12 (by decide) (by decide) (dep_of hd _ rfl))
   go_simp
   refine HK.out _ _ (InvG.next 13 _ hΦ (upds1 e12) ?_ (HR.pure 13 _ (by decide) (by decide) (Below.refl _ _) trivial) (.inr rfl))
   kernel_rfl
  ·as_aux_lemma =>
   refine wpOp_yes ho rfl (fun K' hK => ?_)
   have HK := Lib.hid hK
   clear hK ho
   have e7 := (show x 7 = .slice al n c from hΦ 7 (by decide) (by decide) (dep_of hd _ rfl))
   have e13 := (show x 13 = .int .i64 n from hΦ 13 (by decide) (by decide) (dep_of hd _ rfl))
   go_simp
   refine HK.out _ _ (InvG.next 14 _ hΦ (upds2 e7 e13) ?_ (HR.pure 14 _ (by decide) (by decide) (Below.refl _ _) trivial) (.inr rfl))
   kernel_rfl
  ·as_aux_lemma =>
   refine wpOp_yes ho rfl (fun K' hK => ?_)
   have HK := Lib.hid hK
   clear hK ho
   have e14 := (show x 14 = .slice al n c from hΦ 14 (by decide) (by decide) (dep_of hd _ rfl))
   have hcv := HRd.out wz HR.bel
   go_simp
   refine HK.out _ _ (InvG.next 15 _ hΦ (upds1 e14) ?_ (HR.pure 15 _ (by decide) (by decide) (Below.refl _ _) trivial) (.inr rfl))
   kernel_rfl
  ·as_aux_lemma =>
   refine wpOp_yes ho rfl (fun K' hK => ?_)
   have HK := Lib.hid hK
   clear hK ho
   have e3 := (show x 3 = .int .i64 v from hΦ 3 (by decide) (by decide) (dep_of hd _ rfl))
   have e15 := (show x 15 = .string ⟨ks.toArray⟩ from hΦ 15 (by decide) (by decide) (dep_of hd _ rfl))
   go_simp
   go_at_call 198
   refine (HH.out _).mono ?_
   rintro e w1 ⟨rfl, hb⟩
   (try dsimp only)
   refine HK.out _ _ (InvG.next 16 _ hΦ (upds2 e3 e15) ?_ (HR.pure 16 _ (by decide) (by decide) hb trivial) (.inr rfl))
   kernel_rfl
  ·as_aux_lemma =>
   refine wpOp_yes ho rfl (fun K' hK => ?_)
   have HK := Lib.hid hK
   clear hK ho
   have e16 := (show x 16 = .tuple #[.agg #[.int .i64 k, .int .i64 f, .int .i64 l], .int .i64 nn, .int .i64 0] from hΦ 16 (by decide) (by decide) (dep_of hd _ rfl))
   go_simp
   refine HK.out _ _ (InvG.next 17 _ hΦ (upds1 e16) ?_ (HR.pure 17 _ (by decide) (by decide) (Below.refl _ _) trivial) (.inr rfl))
   kernel_rfl
  ·as_aux_lemma =>
   refine wpOp_yes ho rfl (fun K' hK => ?_)
   have HK := Lib.hid hK
   clear hK ho
   have e17 := (show x 17 = .tuple #[.agg #[.int .i64 k, .int .i64 f, .int .i64 l], .int .i64 nn, .int .i64 0] from hΦ 17 (by decide) (by decide) (dep_of hd _ rfl))
   go_simp
   refine HK.out _ _ (InvG.next 18 _ hΦ (upds1 e17) ?_ (HR.pure 18 _ (by decide) (by decide) (Below.refl _ _) trivial) (.inr rfl))
   kernel_rfl
  ·as_aux_lemma =>
   refine wpOp_yes ho rfl (fun K' hK => ?_)
   have HK := Lib.hid hK
   clear hK ho
   have e17 := (show x 17 = .tuple #[.agg #[.int .i64 k, .int .i64 f, .int .i64 l], .int .i64 nn, .int .i64 0] from hΦ 17 (by decide) (by decide) (dep_of hd _ rfl))
   go_simp
   refine HK.out _ _ (InvG.next 19 _ hΦ (upds1 e17) ?_ (HR.pure 19 _ (by decide) (by decide) (Below.refl _ _) trivial) (.inr rfl))
   kernel_rfl
  ·as_aux_lemma =>
   refine wpOp_yes ho rfl (fun K' hK => ?_)
   have HK := Lib.hid hK
   clear hK ho
   have e17 := (show x 17 = .tuple #[.agg #[.int .i64 k, .int .i64 f, .int .i64 l], .int .i64 nn, .int .i64 0] from hΦ 17 (by decide) (by decide) (dep_of hd _ rfl))
   go_simp
   refine HK.out _ _ (InvG.next 20 _ hΦ (upds1 e17) ?_ (HR.pure 20 _ (by decide) (by decide) (Below.refl _ _) trivial) (.inr rfl))
   kernel_rfl
  ·as_aux_lemma =>
   refine wpOp_yes ho rfl (fun K' hK => ?_)
   have HK := Lib.hid hK
   clear hK ho
   go_simp
   refine HK.out _ _ (InvG.next 21 _ hΦ rfl ?_ (HR.alloc (by decide) (by rw [hsz]; decide) hn (Nat.le_trans HR.low HR.bel.size) trivial) (.inl (by decide)))
   kernel_rfl
  ·as_aux_lemma =>
   refine wpOp_yes ho rfl (fun K' hK => ?_)
   have HK := Lib.hid hK
   clear hK ho
   have e18 := (show x 18 = .agg #[.int .i64 k, .int .i64 f, .int .i64 l] from hΦ 18 (by decide) (by decide) (dep_of hd _ rfl))
   obtain ⟨b, e21, hBb, hO⟩ := HR.open' (dep_of hd _ rfl) hn
   have hst := store_hdT hO rfl (k) (f) (l)
   go_simp
   refine HK.out _ _ (InvG.next 22 undef hΦ (upds2 e21 e18) ?_ (HR.store undef (by decide) (by rw [hsz]; decide) e21 (dep_of hd _ rfl) hBb hO trivial) (.inl (by decide)))
   kernel_rfl
  ·as_aux_lemma =>
   refine wpOp_yes ho rfl (fun K' hK => ?_)
   have HK := Lib.hid hK
   clear hK ho
   have e19 := (show x 19 = .int .i64 nn from hΦ 19 (by decide) (by decide) (dep_of hd _ rfl))
   go_simp
   refine HK.out _ _ (InvG.next 23 _ hΦ (upds1 e19) ?_ (HR.pure 23 _ (by decide) (by decide) (Below.refl _ _) trivial) (.inr rfl))
   kernel_rfl
  ·as_aux_lemma =>
   refine wpOp_yes ho rfl (fun K' hK => ?_)
   have HK := Lib.hid hK
   clear hK ho
   have e20 := (show x 20 = .int .i64 0 from hΦ 20 (by decide) (by decide) (dep_of hd _ rfl))
   go_simp
   refine HK.out _ _ (InvG.next 24 _ hΦ (upds1 e20) ?_ (HR.pure 24 _ (by decide) (by decide) (Below.refl _ _) trivial) (.inr rfl))
   kernel_rfl
 ·as_aux_lemma =>
  rintro L a wz ⟨x, rfl, HR, hΦ⟩ hall
  have e23 := (show x 23 = .int .i64 nn from hΦ 23 (by decide) (by decide) (hall 23 (by decide)))
  have e24 := (show x 24 = .int .i64 0 from hΦ 24 (by decide) (by decide) (hall 24 (by decide)))
  obtain ⟨b, e21, hBb, hOb⟩ := HR.done (hall 21 (by decide)) (hall 22 (by decide))
  have cb := hOb.cell 2 (.int .i64 l) rfl
  have HB := Lib.hid HR.bel
  clear hOb HR hΦ hall
  dsimp only
  rw [e21, e23, e24]
  obtain ⟨hl0, hl1, hn0, hn1⟩ := HRg.out
  go_wp2_with fail
  refine HQ1.out _ _ _ ?_
  go_ret2
  exact ⟨rfl, HB.out⟩
end Go.Proofs.YtanofjmkkhocaaaGreatDoor
