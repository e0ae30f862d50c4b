/- A stream's Need; next and Feed where no packet is whole. A stream's next, drop and Feed at a PINGREQ. A stream's Feed at a PINGREQ. -/
import Derived.Test.YtanofjmkkhocaaaGreatDoorTrE
import Derived.Test.YtanofjmkkhocaaaGreatDoorTrC
import Derived.Test.YtanofjmkkhocaaaGreatDoorTrF
import Derived.Great.BuildSlice
import Derived.LoopN
set_option linter.unusedVariables false
set_option linter.unusedSimpArgs false
set_option maxRecDepth 100000
set_option maxHeartbeats 6400000
namespace Go.Proofs.YtanofjmkkhocaaaGreatDoor
open Go Go.RowKit
def c00 : Array Value := #[.int .i64 0, .bool false, .bool false, .int .i64 0, .int .i64 0, .string ⟨#[]⟩, .string ⟨#[]⟩, .bool false, .int .i64 0, .string ⟨#[]⟩, .bool false, .string ⟨#[]⟩, .bool false, .string ⟨#[]⟩, .bool false, .string ⟨#[]⟩, .string ⟨#[]⟩, .int .i64 0, .bool false, .slice none 0 0, .bool false, .int .i64 0, .slice none 0 0, .slice none 0 0, .slice none 0 0]
theorem c00_lit : c00 = #[.int .i64 0, .bool false, .bool false, .int .i64 0, .int .i64 0, .string ⟨#[]⟩, .string ⟨#[]⟩, .bool false, .int .i64 0, .string ⟨#[]⟩, .bool false, .string ⟨#[]⟩, .bool false, .string ⟨#[]⟩, .bool false, .string ⟨#[]⟩, .string ⟨#[]⟩, .int .i64 0, .bool false, .slice none 0 0, .bool false, .int .i64 0, .slice none 0 0, .slice none 0 0, .slice none 0 0] := rfl
def p00 : Pk := ⟨⟨0, 0, 0, 0, 0, false, false, false, false, false, false, false, [], [], [], [], []⟩, ⟨[], [], 0, false, []⟩, [], [], []⟩
theorem c00_info : (Tryz.prog.info? 34).map (·.size) = some c00.size := by rw [infoPk5]; rfl
theorem c00_one : c00.all (·.oneCell') = true := by unfold c00; exact pk_one (p := p00) (vw := (.slice none 0 0)) (vc := (.slice none 0 0)) (vf := (.slice none 0 0)) (vp := (.slice none 0 0)) rfl rfl rfl rfl
theorem store_00 {w : World} {b : Nat} (h : Obj? w b #[.int .i64 0, .bool false, .bool false, .int .i64 0, .int .i64 0, .string ⟨#[]⟩, .string ⟨#[]⟩, .bool false, .int .i64 0, .string ⟨#[]⟩, .bool false, .string ⟨#[]⟩, .bool false, .string ⟨#[]⟩, .bool false, .string ⟨#[]⟩, .string ⟨#[]⟩, .int .i64 0, .bool false, .slice none 0 0, .bool false, .int .i64 0, .slice none 0 0, .slice none 0 0, .slice none 0 0] 34) : (rowStore 34 ⟨b, 0, none⟩ (.agg #[.int .i64 0, .bool false, .bool false, .int .i64 0, .int .i64 0, .string ⟨#[]⟩, .string ⟨#[]⟩, .bool false, .int .i64 0, .string ⟨#[]⟩, .bool false, .string ⟨#[]⟩, .bool false, .string ⟨#[]⟩, .bool false, .string ⟨#[]⟩, .string ⟨#[]⟩, .int .i64 0, .bool false, .slice none 0 0, .bool false, .int .i64 0, .slice none 0 0, .slice none 0 0, .slice none 0 0])).run Tryz.prog w = .ok () (w.setRow b c00) := by
 have h := rowStore_run (P := Tryz.prog) _ b 34 34 _ c00 h c00_info rfl c00_one
 exact h
theorem store_any00 {w : World} {b : Nat} {c : Array Value} (hi : (Tryz.prog.info? 34).map (·.size) = some c.size) (hs : 25 = c.size) (h1 : c.all (·.oneCell') = true) (h : Obj? w b #[.int .i64 0, .bool false, .bool false, .int .i64 0, .int .i64 0, .string ⟨#[]⟩, .string ⟨#[]⟩, .bool false, .int .i64 0, .string ⟨#[]⟩, .bool false, .string ⟨#[]⟩, .bool false, .string ⟨#[]⟩, .bool false, .string ⟨#[]⟩, .string ⟨#[]⟩, .int .i64 0, .bool false, .slice none 0 0, .bool false, .int .i64 0, .slice none 0 0, .slice none 0 0, .slice none 0 0] 34) : (rowStore 34 ⟨b, 0, none⟩ (.agg c)).run Tryz.prog w = .ok () (w.setRow b c) :=
 rowStore_run (P := Tryz.prog) _ b 34 34 _ c h hi hs h1
theorem strOf_w (l : List UInt8) : strOfNums (l.map fun b => (b.toNat : Int)) = ⟨l.toArray⟩ := by
 unfold strOfNums
 congr 2
 rw [List.map_map]
 have : ((fun n : Int => UInt8.ofNat n.toNat) ∘ fun b : UInt8 => (b.toNat : Int)) = id := by funext b; simp
 rw [this, List.map_id]
theorem conv_w {w : World} {B g c : Nat} {l : List UInt8} (h : w.ownsRow B 5 1 (.slice (some ⟨g, 0, none⟩) l.length c) l.length (u8w l)) : (convert 133 9 (.slice (some ⟨g, 0, none⟩) l.length c)).run Tryz.prog w = .ok (.string ⟨l.toArray⟩) w := by
 have h2 : w.ownsRow B 5 1 (.slice (some ⟨g, 0, none⟩) l.length c) l.length ((l.map fun b => (b.toNat : Int)).map (Value.int .u8)) := by
  rw [List.map_map]; exact h
 have hc := run_convert_bytes_arg (P := Tryz.prog) w 133 5 Tryz.underlying133 Tryz.underlying5 g 0 l.length c (l.map fun b => (b.toNat : Int)) (by simp) (owns_ints h2 (by simp)) 9 Tryz.underlying9
 rw [strOf_w] at hc
 exact hc
theorem reads_w {w : World} {B g c : Nat} {l : List UInt8} (h : w.ownsRow B 5 1 (.slice (some ⟨g, 0, none⟩) l.length c) l.length (u8w l)) : Reads w (.slice (some ⟨g, 0, none⟩) l.length c) l := fun W hW => conv_w (row_belowh h hW)
theorem owns_le {w : World} {B n c : Nat} {al : Option Addr} {xs : List Value} {t : TypeId} (h : w.ownsRow B t 1 (.slice al n c) n xs) : n ≤ c := by
 rcases h.2 with ⟨h, h0⟩ | ⟨g, c', _, h, _, _, hn, _⟩
 ·injection h with _ h1 h2; omega
 ·injection h with _ _ h2; omega
attribute [local go_sem ↓] load_Pk store_Pk
attribute [local irreducible] rowSem rowStore c12 c00
theorem next_short {w : World} {sp : Nat} {v m a t : Int} {al : Option Addr} {n c : Nat} {ks : List UInt8} (hO : Obj? w sp (stC v m (.slice al n c) a t 0) 135) (hn5 : n ≤ 5) (hnc : n ≤ c) (hk : ks.length ≤ 5) (hR : Reads w (.slice al n c) ks) (hh : rdH v ks = (0, 0, 0, 0, 3)) :
  Calls Tryz.prog 184 #[.pointer (some ⟨sp, 0, none⟩)] w fun r w' => r = .returned (.tuple #[.agg c00, .int .i64 0, .int .i64 3]) ∧ Below w.heap.size w w' := by
 have HB0 := Lib.hid (below_al (Below.refl _ w) (.cells #[.int .i64 0, .bool false, .bool false, .int .i64 0, .int .i64 0, .string ⟨#[]⟩, .string ⟨#[]⟩, .bool false, .int .i64 0, .string ⟨#[]⟩, .bool false, .string ⟨#[]⟩, .bool false, .string ⟨#[]⟩, .bool false, .string ⟨#[]⟩, .string ⟨#[]⟩, .int .i64 0, .bool false, .slice none 0 0, .bool false, .int .i64 0, .slice none 0 0, .slice none 0 0, .slice none 0 0] 34 (0, 0)))
 have HP0 := Lib.hid (Obj?.new w #[.int .i64 0, .bool false, .bool false, .int .i64 0, .int .i64 0, .string ⟨#[]⟩, .string ⟨#[]⟩, .bool false, .int .i64 0, .string ⟨#[]⟩, .bool false, .string ⟨#[]⟩, .bool false, .string ⟨#[]⟩, .bool false, .string ⟨#[]⟩, .string ⟨#[]⟩, .int .i64 0, .bool false, .slice none 0 0, .bool false, .int .i64 0, .slice none 0 0, .slice none 0 0, .slice none 0 0] 34)
 have HO0 := Lib.hid (hO.alloc (.cells #[.int .i64 0, .bool false, .bool false, .int .i64 0, .int .i64 0, .string ⟨#[]⟩, .string ⟨#[]⟩, .bool false, .int .i64 0, .string ⟨#[]⟩, .bool false, .string ⟨#[]⟩, .bool false, .string ⟨#[]⟩, .bool false, .string ⟨#[]⟩, .string ⟨#[]⟩, .int .i64 0, .bool false, .slice none 0 0, .bool false, .int .i64 0, .slice none 0 0, .slice none 0 0, .slice none 0 0] 34 (0, 0)))
 have HS := Lib.hid (size_short (hO.alloc (.cells #[.int .i64 0, .bool false, .bool false, .int .i64 0, .int .i64 0, .string ⟨#[]⟩, .string ⟨#[]⟩, .bool false, .int .i64 0, .string ⟨#[]⟩, .bool false, .string ⟨#[]⟩, .bool false, .string ⟨#[]⟩, .bool false, .string ⟨#[]⟩, .string ⟨#[]⟩, .int .i64 0, .bool false, .slice none 0 0, .bool false, .int .i64 0, .slice none 0 0, .slice none 0 0, .slice none 0 0] 34 (0, 0))) hn5 hnc hk (hR.below (below_al (Below.refl _ w) _)) hh trivial)
 clear hO hnc hk hR hh
 go_enter Tryz.func184, Tryz.ntmps184
 go_wp2_with fail
 refine HS.out.mono ?_
 rintro r w1 ⟨rfl, hb⟩
 have HB := Lib.hid (below_thenh HB0.out hb)
 have HP1 := Lib.hid (HP0.out.below hb HP0.out.lt)
 have HO1 := Lib.hid (HO0.out.below hb HO0.out.lt)
 have hst := store_00 HP1.out
 clear hb HS HB0 HP0 HO0
 go_wp2_with fail
 refine bodyPost_ret (results_row_tmp2 rfl _ _ _ _ _ _ rfl (HP1.out.setRow c00) Tryz.underlying34 rfl c00_info) rfl ?_
 exact ⟨by rw [c00_lit]; rfl, below_row HB.out (Nat.le_refl _) _⟩
theorem store_new00 (w : World) : (rowStore 34 ⟨w.heap.size, 0, none⟩ (.agg c00)).run Tryz.prog (w.alloc (.cells #[.int .i64 0, .bool false, .bool false, .int .i64 0, .int .i64 0, .string ⟨#[]⟩, .string ⟨#[]⟩, .bool false, .int .i64 0, .string ⟨#[]⟩, .bool false, .string ⟨#[]⟩, .bool false, .string ⟨#[]⟩, .bool false, .string ⟨#[]⟩, .string ⟨#[]⟩, .int .i64 0, .bool false, .slice none 0 0, .bool false, .int .i64 0, .slice none 0 0, .slice none 0 0, .slice none 0 0] 34 (0, 0))) = .ok () (w.alloc (.cells c00 34 (0, 0))) := by
 have h := store_any00 c00_info (by unfold c00; rfl) c00_one (Obj?.new w #[.int .i64 0, .bool false, .bool false, .int .i64 0, .int .i64 0, .string ⟨#[]⟩, .string ⟨#[]⟩, .bool false, .int .i64 0, .string ⟨#[]⟩, .bool false, .string ⟨#[]⟩, .bool false, .string ⟨#[]⟩, .bool false, .string ⟨#[]⟩, .string ⟨#[]⟩, .int .i64 0, .bool false, .slice none 0 0, .bool false, .int .i64 0, .slice none 0 0, .slice none 0 0, .slice none 0 0] 34)
 rw [World.setRow_alloc_new] at h
 exact h
end Go.Proofs.YtanofjmkkhocaaaGreatDoor
namespace Go.Proofs.YtanofjmkkhocaaaGreatDoor
open Go Go.RowKit
attribute [local go_sem ↓] load_Pk store_Pk
attribute [local irreducible] rowSem rowStore c12 c00
theorem next_12 {w : World} {sp : Nat} {a t : Int} {al : Option Addr} {c : Nat} (hO : Obj? w sp (stC 4 4096 (.slice al 2 c) a t 0) 135) (hnc : 2 ≤ c) (hR : Reads w (.slice al 2 c) [192, 0]) :
  Calls Tryz.prog 184 #[.pointer (some ⟨sp, 0, none⟩)] w fun r w' => r = .returned (.tuple #[.agg c12, .int .i64 2, .int .i64 0]) ∧ Below w.heap.size w w' := by
 have HB0 := Lib.hid (below_al (Below.refl _ w) (.cells #[.int .i64 0, .bool false, .bool false, .int .i64 0, .int .i64 0, .string ⟨#[]⟩, .string ⟨#[]⟩, .bool false, .int .i64 0, .string ⟨#[]⟩, .bool false, .string ⟨#[]⟩, .bool false, .string ⟨#[]⟩, .bool false, .string ⟨#[]⟩, .string ⟨#[]⟩, .int .i64 0, .bool false, .slice none 0 0, .bool false, .int .i64 0, .slice none 0 0, .slice none 0 0, .slice none 0 0] 34 (0, 0)))
 have HP0 := Lib.hid (Obj?.new w #[.int .i64 0, .bool false, .bool false, .int .i64 0, .int .i64 0, .string ⟨#[]⟩, .string ⟨#[]⟩, .bool false, .int .i64 0, .string ⟨#[]⟩, .bool false, .string ⟨#[]⟩, .bool false, .string ⟨#[]⟩, .bool false, .string ⟨#[]⟩, .string ⟨#[]⟩, .int .i64 0, .bool false, .slice none 0 0, .bool false, .int .i64 0, .slice none 0 0, .slice none 0 0, .slice none 0 0] 34)
 have HO0 := Lib.hid (hO.alloc (.cells #[.int .i64 0, .bool false, .bool false, .int .i64 0, .int .i64 0, .string ⟨#[]⟩, .string ⟨#[]⟩, .bool false, .int .i64 0, .string ⟨#[]⟩, .bool false, .string ⟨#[]⟩, .bool false, .string ⟨#[]⟩, .bool false, .string ⟨#[]⟩, .string ⟨#[]⟩, .int .i64 0, .bool false, .slice none 0 0, .bool false, .int .i64 0, .slice none 0 0, .slice none 0 0, .slice none 0 0] 34 (0, 0)))
 have HS := Lib.hid (size_ok (hO.alloc (.cells #[.int .i64 0, .bool false, .bool false, .int .i64 0, .int .i64 0, .string ⟨#[]⟩, .string ⟨#[]⟩, .bool false, .int .i64 0, .string ⟨#[]⟩, .bool false, .string ⟨#[]⟩, .bool false, .string ⟨#[]⟩, .bool false, .string ⟨#[]⟩, .string ⟨#[]⟩, .int .i64 0, .bool false, .slice none 0 0, .bool false, .int .i64 0, .slice none 0 0, .slice none 0 0, .slice none 0 0] 34 (0, 0))) (by decide) hnc (by decide) (hR.below (below_al (Below.refl _ w) _)) (show rdH 4 [192, 0] = (12, 0, 0, 2, 0) by decide) (by decide))
 have HRa := Lib.hid hR
 have hc2 : (2 : Int) ≤ (c : Int) := by omega
 have HLt := Lib.hid hO.lt
 clear hO hR
 go_enter Tryz.func184, Tryz.ntmps184
 go_wp2_with fail
 refine HS.out.mono ?_
 rintro r w1 ⟨rfl, hb⟩
 have HB := Lib.hid (below_thenh HB0.out hb)
 have HP1 := Lib.hid (HP0.out.below hb HP0.out.lt)
 have HO1 := Lib.hid (HO0.out.below hb HO0.out.lt)
 have c1 := HO1.out.cell 1 (.int .i64 4096) rfl
 have c2 := HO1.out.cell 2 (.slice al 2 c) rfl
 have HOs := Lib.hid (fun W (hW : Below w.heap.size w1 W) => HO1.out.below hW HLt.out)
 have HRd := Lib.hid (fun W (hW : Below w.heap.size w1 W) => HRa.out W (HB.out.trans hW))
 clear hb HS HB0 HP0 HO0
 go_upto_region 8 with fail
 have hBb : w.heap.size ≤ w.heap.size := Nat.le_refl _
 clear c1 c2
 refine region_inv2 rfl (by kernel_rfl) (InvG 18 [.pointer (some ⟨sp, 0, none⟩), .pointer (some ⟨sp, 0, none⟩), .pointer (some ⟨sp, 0, none⟩), .int .i64 4, .pointer (some ⟨sp, 0, none⟩), .pointer (some ⟨sp, 0, none⟩), .pointer (some ⟨sp, 2, none⟩), .slice al 2 c, .int .i64 2, .slice al 2 c, .string ⟨#[192, 0]⟩, .tuple #[.agg c12, .int .i64 2, .int .i64 0], .agg c12, .int .i64 2, .int .i64 0, undef, .int .i64 2, .int .i64 0] [15] (FixR w.heap.size w1 (fun _ _ _ => True) 15 w.heap.size 34 #[.int .i64 0, .bool false, .bool false, .int .i64 0, .int .i64 0, .string ⟨#[]⟩, .string ⟨#[]⟩, .bool false, .int .i64 0, .string ⟨#[]⟩, .bool false, .string ⟨#[]⟩, .bool false, .string ⟨#[]⟩, .bool false, .string ⟨#[]⟩, .string ⟨#[]⟩, .int .i64 0, .bool false, .slice none 0 0, .bool false, .int .i64 0, .slice none 0 0, .slice none 0 0, .slice none 0 0] c12) (fun x => ⟨((.pointer (some ⟨sp, 0, none⟩)) :: (undef) :: (.pointer (some ⟨w.heap.size, 0, none⟩)) :: x 16 :: x 17 :: (.int .i64 2) :: (.int .i64 0) :: (.tuple #[.int .i64 2, .int .i64 0]) :: (.pointer (some ⟨sp, 0, none⟩)) :: (.tuple #[.int .i64 2, .int .i64 0]) :: (.int .i64 2) :: (.int .i64 0) :: (.int .i64 0) :: (.bool false) :: (undef) :: (undef) :: (.int .i64 2) :: (.pointer (some ⟨sp, 0, none⟩)) :: (.pointer (some ⟨sp, 0, none⟩)) :: (.pointer (some ⟨sp, 1, none⟩)) :: (.int .i64 4096) :: (.bool false) :: (undef) :: (.int .i64 2) :: (.pointer (some ⟨sp, 0, none⟩)) :: (.pointer (some ⟨sp, 0, none⟩)) :: (.pointer (some ⟨sp, 2, none⟩)) :: (.slice al 2 c) :: (.int .i64 2) :: (.bool false) :: (undef) :: x 0 :: x 1 :: x 2 :: x 3 :: x 4 :: x 5 :: x 6 :: x 7 :: x 8 :: x 9 :: x 10 :: x 11 :: x 12 :: x 13 :: x 14 :: []).toArray, []⟩)) ?_ ?_ ?_
 ·exact ⟨fun i => if i = 16 then .int .i64 0 else if i = 17 then .int .i64 0 else undef, by kernel_rfl, FixR.start HB.out.size (below_drewB _ _) HP1.out.drew _ _ trivial, fun i hi hs h => absurd h (by rw [getD_repl]; decide)⟩
 ·as_aux_lemma =>
  rintro L a wz hsz ⟨x, rfl, HR, hΦ⟩ i o ho hn hd
  have hlt : i < 18 := (Array.getElem?_eq_some_iff.1 ho).1
  replace hsz : L.size = 18 := hsz
  rcases cs18 i hlt with rfl | rfl | rfl | rfl | rfl | rfl | rfl | rfl | rfl | rfl | rfl | rfl | rfl | rfl | rfl | rfl | rfl | rfl
  all_goals
   have ho' := ho
   simp only [List.getElem?_toArray, List.getElem?_cons_zero, List.getElem?_cons_succ, Option.some.injEq] at ho'
   subst ho'
   clear hlt
  ·as_aux_lemma =>
   refine wpOp_yes ho rfl (fun K' hK => ?_)
   have HK := Lib.hid hK
   clear hK ho
   go_simp
   refine HK.out _ _ (InvG.next 0 _ hΦ rfl ?_ (HR.pure 0 _ (by decide) (Below.refl _ _) trivial) (.inr rfl))
   kernel_rfl
  ·as_aux_lemma =>
   refine wpOp_yes ho rfl (fun K' hK => ?_)
   have HK := Lib.hid hK
   clear hK ho
   have e0 := (show x 0 = .pointer (some ⟨sp, 0, none⟩) from hΦ 0 (by decide) (by decide) (dep_of hd _ rfl))
   go_simp
   refine HK.out _ _ (InvG.next 1 _ hΦ (upds1 e0) ?_ (HR.pure 1 _ (by decide) (Below.refl _ _) trivial) (.inr rfl))
   kernel_rfl
  ·as_aux_lemma =>
   refine wpOp_yes ho rfl (fun K' hK => ?_)
   have HK := Lib.hid hK
   clear hK ho
   have e1 := (show x 1 = .pointer (some ⟨sp, 0, none⟩) from hΦ 1 (by decide) (by decide) (dep_of hd _ rfl))
   go_simp
   refine HK.out _ _ (InvG.next 2 _ hΦ (upds1 e1) ?_ (HR.pure 2 _ (by decide) (Below.refl _ _) trivial) (.inr rfl))
   kernel_rfl
  ·as_aux_lemma =>
   refine wpOp_yes ho rfl (fun K' hK => ?_)
   have HK := Lib.hid hK
   clear hK ho
   have e2 := (show x 2 = .pointer (some ⟨sp, 0, none⟩) from hΦ 2 (by decide) (by decide) (dep_of hd _ rfl))
   have c0 := (HOs.out wz HR.bel).cell 0 (.int .i64 4) rfl
   go_simp
   refine HK.out _ _ (InvG.next 3 _ hΦ (upds1 e2) ?_ (HR.pure 3 _ (by decide) (Below.refl _ _) trivial) (.inr rfl))
   kernel_rfl
  ·as_aux_lemma =>
   refine wpOp_yes ho rfl (fun K' hK => ?_)
   have HK := Lib.hid hK
   clear hK ho
   go_simp
   refine HK.out _ _ (InvG.next 4 _ hΦ rfl ?_ (HR.pure 4 _ (by decide) (Below.refl _ _) trivial) (.inr rfl))
   kernel_rfl
  ·as_aux_lemma =>
   refine wpOp_yes ho rfl (fun K' hK => ?_)
   have HK := Lib.hid hK
   clear hK ho
   have e4 := (show x 4 = .pointer (some ⟨sp, 0, none⟩) from hΦ 4 (by decide) (by decide) (dep_of hd _ rfl))
   go_simp
   refine HK.out _ _ (InvG.next 5 _ hΦ (upds1 e4) ?_ (HR.pure 5 _ (by decide) (Below.refl _ _) trivial) (.inr rfl))
   kernel_rfl
  ·as_aux_lemma =>
   refine wpOp_yes ho rfl (fun K' hK => ?_)
   have HK := Lib.hid hK
   clear hK ho
   have e5 := (show x 5 = .pointer (some ⟨sp, 0, none⟩) from hΦ 5 (by decide) (by decide) (dep_of hd _ rfl))
   go_simp
   refine HK.out _ _ (InvG.next 6 _ hΦ (upds1 e5) ?_ (HR.pure 6 _ (by decide) (Below.refl _ _) trivial) (.inr rfl))
   kernel_rfl
  ·as_aux_lemma =>
   refine wpOp_yes ho rfl (fun K' hK => ?_)
   have HK := Lib.hid hK
   clear hK ho
   have e6 := (show x 6 = .pointer (some ⟨sp, 2, none⟩) from hΦ 6 (by decide) (by decide) (dep_of hd _ rfl))
   have c2 := (HOs.out wz HR.bel).cell 2 (.slice al 2 c) rfl
   go_simp
   refine HK.out _ _ (InvG.next 7 _ hΦ (upds1 e6) ?_ (HR.pure 7 _ (by decide) (Below.refl _ _) trivial) (.inr rfl))
   kernel_rfl
  ·as_aux_lemma =>
   refine wpOp_yes ho rfl (fun K' hK => ?_)
   have HK := Lib.hid hK
   clear hK ho
   go_simp
   refine HK.out _ _ (InvG.next 8 _ hΦ rfl ?_ (HR.pure 8 _ (by decide) (Below.refl _ _) trivial) (.inr rfl))
   kernel_rfl
  ·as_aux_lemma =>
   refine wpOp_yes ho rfl (fun K' hK => ?_)
   have HK := Lib.hid hK
   clear hK ho
   have e7 := (show x 7 = .slice al 2 c from hΦ 7 (by decide) (by decide) (dep_of hd _ rfl))
   have e8 := (show x 8 = .int .i64 2 from hΦ 8 (by decide) (by decide) (dep_of hd _ rfl))
   go_simp
   refine HK.out _ _ (InvG.next 9 _ hΦ (upds2 e7 e8) ?_ (HR.pure 9 _ (by decide) (Below.refl _ _) trivial) (.inr rfl))
   kernel_rfl
  ·as_aux_lemma =>
   refine wpOp_yes ho rfl (fun K' hK => ?_)
   have HK := Lib.hid hK
   clear hK ho
   have e9 := (show x 9 = .slice al 2 c from hΦ 9 (by decide) (by decide) (dep_of hd _ rfl))
   have hcv := HRd.out wz HR.bel
   go_simp
   refine HK.out _ _ (InvG.next 10 _ hΦ (upds1 e9) ?_ (HR.pure 10 _ (by decide) (Below.refl _ _) trivial) (.inr rfl))
   kernel_rfl
  ·as_aux_lemma =>
   refine wpOp_yes ho rfl (fun K' hK => ?_)
   have HK := Lib.hid hK
   clear hK ho
   have e3 := (show x 3 = .int .i64 4 from hΦ 3 (by decide) (by decide) (dep_of hd _ rfl))
   have e10 := (show x 10 = .string ⟨#[192, 0]⟩ from hΦ 10 (by decide) (by decide) (dep_of hd _ rfl))
   go_simp
   go_at_call 192
   refine (mread_12 _).mono ?_
   rintro e w1 ⟨rfl, hb⟩
   (try dsimp only)
   refine HK.out _ _ (InvG.next 11 _ hΦ (upds2 e3 e10) ?_ (HR.pure 11 _ (by decide) hb trivial) (.inr rfl))
   kernel_rfl
  ·as_aux_lemma =>
   refine wpOp_yes ho rfl (fun K' hK => ?_)
   have HK := Lib.hid hK
   clear hK ho
   have e11 := (show x 11 = .tuple #[.agg c12, .int .i64 2, .int .i64 0] from hΦ 11 (by decide) (by decide) (dep_of hd _ rfl))
   go_simp
   refine HK.out _ _ (InvG.next 12 _ hΦ (upds1 e11) ?_ (HR.pure 12 _ (by decide) (Below.refl _ _) trivial) (.inr rfl))
   kernel_rfl
  ·as_aux_lemma =>
   refine wpOp_yes ho rfl (fun K' hK => ?_)
   have HK := Lib.hid hK
   clear hK ho
   have e11 := (show x 11 = .tuple #[.agg c12, .int .i64 2, .int .i64 0] from hΦ 11 (by decide) (by decide) (dep_of hd _ rfl))
   go_simp
   refine HK.out _ _ (InvG.next 13 _ hΦ (upds1 e11) ?_ (HR.pure 13 _ (by decide) (Below.refl _ _) trivial) (.inr rfl))
   kernel_rfl
  ·as_aux_lemma =>
   refine wpOp_yes ho rfl (fun K' hK => ?_)
   have HK := Lib.hid hK
   clear hK ho
   have e11 := (show x 11 = .tuple #[.agg c12, .int .i64 2, .int .i64 0] from hΦ 11 (by decide) (by decide) (dep_of hd _ rfl))
   go_simp
   refine HK.out _ _ (InvG.next 14 _ hΦ (upds1 e11) ?_ (HR.pure 14 _ (by decide) (Below.refl _ _) trivial) (.inr rfl))
   kernel_rfl
  ·as_aux_lemma =>
   refine wpOp_yes ho rfl (fun K' hK => ?_)
   have HK := Lib.hid hK
   clear hK ho
   have e12 := (show x 12 = .agg c12 from hΦ 12 (by decide) (by decide) (dep_of hd _ rfl))
   have hO := HR.open' hn
   have hst := store_12 hO
   go_simp
   refine HK.out _ _ (InvG.next 15 undef hΦ (upds1 e12) ?_ (HR.store undef (by rw [hsz]; decide) hn hBb trivial) (.inl (by decide)))
   kernel_rfl
  ·as_aux_lemma =>
   refine wpOp_yes ho rfl (fun K' hK => ?_)
   have HK := Lib.hid hK
   clear hK ho
   have e13 := (show x 13 = .int .i64 2 from hΦ 13 (by decide) (by decide) (dep_of hd _ rfl))
   go_simp
   refine HK.out _ _ (InvG.next 16 _ hΦ (upds1 e13) ?_ (HR.pure 16 _ (by decide) (Below.refl _ _) trivial) (.inr rfl))
   kernel_rfl
  ·as_aux_lemma =>
   refine wpOp_yes ho rfl (fun K' hK => ?_)
   have HK := Lib.hid hK
   clear hK ho
   have e14 := (show x 14 = .int .i64 0 from hΦ 14 (by decide) (by decide) (dep_of hd _ rfl))
   go_simp
   refine HK.out _ _ (InvG.next 17 _ hΦ (upds1 e14) ?_ (HR.pure 17 _ (by decide) (Below.refl _ _) trivial) (.inr rfl))
   kernel_rfl
 ·as_aux_lemma =>
  rintro L a wz ⟨x, rfl, HR, hΦ⟩ hall
  have e16 := (show x 16 = .int .i64 2 from hΦ 16 (by decide) (by decide) (hall 16 (by decide)))
  have e17 := (show x 17 = .int .i64 0 from hΦ 17 (by decide) (by decide) (hall 17 (by decide)))
  have HO := Lib.hid (HR.done (hall 15 (by decide)))
  have HBz := Lib.hid (HB.out.trans HR.bel)
  clear HR hΦ hall
  dsimp only
  rw [e16, e17]
  go_wp2_with fail
  refine bodyPost_ret (results_row_tmp2 rfl _ _ _ _ _ _ rfl HO.out Tryz.underlying34 rfl c12_info) rfl ?_
  exact ⟨rfl, HBz.out⟩
theorem drop_2 {w : World} {sp g c : Nat} {v m e : Int} (hO : Obj? w sp (stC v m (.slice (some ⟨g, 0, none⟩) 2 c) 0 0 e) 135) (hc : 2 ≤ c) :
  Calls Tryz.prog 185 #[.pointer (some ⟨sp, 0, none⟩), .int .i64 2] w fun r w' => r = .returned (.tuple #[]) ∧ w' = (((w.setCell ⟨sp, 2, none⟩ (.slice (some ⟨g, 0, none⟩) 0 0)).setCell ⟨sp, 3, none⟩ (.int .i64 2)).setCell ⟨sp, 4, none⟩ (.int .i64 1)) := by
 have c2 := hO.cell 2 (.slice (some ⟨g, 0, none⟩) 2 c) rfl
 have c3 := hO.cell 3 (.int .i64 0) rfl
 have c4 := hO.cell 4 (.int .i64 0) rfl
 have f2 := hO.frozen 2
 have f3 := hO.frozen 3
 have f4 := hO.frozen 4
 clear hO
 go_enter Tryz.func185, Tryz.ntmps185
 go_wp2_with fail
 go_end0
 exact ⟨rfl, rfl⟩
end Go.Proofs.YtanofjmkkhocaaaGreatDoor
namespace Go.Proofs.YtanofjmkkhocaaaGreatDoor
open Go Go.RowKit
theorem infoZPk : (Tryz.prog.info? 34).map (fun i => (i.zero, i.size, i.bytes)) = some (some (.agg #[.int .i64 0, .bool false, .bool false, .int .i64 0, .int .i64 0, .string ⟨#[]⟩, .string ⟨#[]⟩, .bool false, .int .i64 0, .string ⟨#[]⟩, .bool false, .string ⟨#[]⟩, .bool false, .string ⟨#[]⟩, .bool false, .string ⟨#[]⟩, .string ⟨#[]⟩, .int .i64 0, .bool false, .slice none 0 0, .bool false, .int .i64 0, .slice none 0 0, .slice none 0 0, .slice none 0 0]), 25, 312) := by kernel_rfl
theorem built12 : Tryz.prog.builtSlice 34 1 [(0, .agg c12)] = some c12 := by unfold c12; kernel_rfl
theorem store_new12c (w : World) : (rowStore 34 ⟨w.heap.size, 0, none⟩ (.agg c12)).run Tryz.prog (w.alloc (.cells #[.int .i64 0, .bool false, .bool false, .int .i64 0, .int .i64 0, .string ⟨#[]⟩, .string ⟨#[]⟩, .bool false, .int .i64 0, .string ⟨#[]⟩, .bool false, .string ⟨#[]⟩, .bool false, .string ⟨#[]⟩, .bool false, .string ⟨#[]⟩, .string ⟨#[]⟩, .int .i64 0, .bool false, .slice none 0 0, .bool false, .int .i64 0, .slice none 0 0, .slice none 0 0, .slice none 0 0] 34 (0, 0))) = .ok () (w.alloc (.cells c12 34 (0, 0))) := by
 have h := store_12 (Obj?.new w #[.int .i64 0, .bool false, .bool false, .int .i64 0, .int .i64 0, .string ⟨#[]⟩, .string ⟨#[]⟩, .bool false, .int .i64 0, .string ⟨#[]⟩, .bool false, .string ⟨#[]⟩, .bool false, .string ⟨#[]⟩, .bool false, .string ⟨#[]⟩, .string ⟨#[]⟩, .int .i64 0, .bool false, .slice none 0 0, .bool false, .int .i64 0, .slice none 0 0, .slice none 0 0, .slice none 0 0] 34)
 rw [World.setRow_alloc_new] at h
 exact h
theorem c12_len : c12.toList.length = 25 := by unfold c12; rfl
theorem c12_mem : ∀ u ∈ c12.toList, u.oneCell' = true := by
 intro u hu
 have h := c12_one
 rw [Array.all_eq_true] at h
 obtain ⟨i, hi, rfl⟩ := List.getElem_of_mem hu
 exact h i (by simpa using hi)
theorem grown_sp {w w' : World} {sp : Nat} {row : Option Nat} (h : w.grownBy w' row) (hr : row = none ∨ row = some sp) : w.grownBy w' (some sp) := by
 rcases hr with rfl | rfl
 ·exact ⟨h.os, h.tape, h.output, h.size, fun k hk _ => h.block k hk (by simp)⟩
 ·exact h
theorem addr_add (b j : Nat) : ((⟨b, 0, none⟩ : Addr).add j) = ⟨b, j, none⟩ := by cases j <;> simp [Addr.add]
theorem news12 (w : World) : ∀ j u, c12.toList[j]? = some u → (w.alloc (.cells c12 34 (0, 0))).cell? ((⟨w.heap.size, 0, none⟩ : Addr).add j) = some u := by
 intro j u hj
 have h := (Obj?.new w c12 34).cell j u (by simpa using hj)
 rw [addr_add]
 exact h
attribute [local go_sem ↓] load_Pk store_Pk
attribute [local irreducible] rowSem rowStore c12 c00
theorem feed_12 {w : World} {sp : Nat} (hO : Obj? w sp (stC 4 4096 (.slice none 0 0) 0 0 0) 135) :
  Calls Tryz.prog 182 #[.pointer (some ⟨sp, 0, none⟩), .string ⟨#[192, 0]⟩] w fun r w' => ∃ g c, r = .returned (.tuple #[.slice (some ⟨g, 0, none⟩) 1 c, .int .i64 0]) ∧ w.grownBy w' (some sp) ∧ g < w'.heap.size ∧ ∀ j u, c12[j]? = some u → w'.cell? ⟨g, j, none⟩ = some u := by
 obtain ⟨i0, hi, hz0, hz1, hz2⟩ := info_parts Tryz.infoU8
 obtain ⟨i1, hj, hy0, hy1, hy2⟩ := info_parts infoZPk
 have hB : sp + 1 ≤ w.heap.size := hO.lt
 have hown := World.ownsRow_nil w (sp + 1) 5 1
 have c5 := hO.cell 5 (.int .i64 0) rfl
 have c2 := hO.cell 2 (.slice none 0 0) rfl
 have HO := Lib.hid hO
 clear hO
 go_enter Tryz.func182, Tryz.ntmps182
 refine wp_hide fun Q1 hQ1 => ?_
 have HQ1 := Lib.hid hQ1
 clear hQ1
 go_upto_region 5 with fail
 go_wp2_with (at_builtin; refine Lib.wpList_append_own_string _ rfl _ _ 133 9 rfl (sp + 1) 5 i0 Tryz.underlying133 Tryz.underlying9 hi hz0 hz1 hz2 _ 0 [] rfl hown ⟨#[192, 0]⟩ rfl (by decide) (by decide) hB ?_; intro v' w1 hown1 hgrow _; replace hown1 : w1.ownsRow (sp + 1) 5 1 v' 2 (u8w [192, 0]) := (by exact hown1); obtain ⟨g, cap1, rfl⟩ := owns_succ hown1; have HO1 := Lib.hid (show Obj? w1 sp (stC 4 4096 (.slice none 0 0) 0 0 0) 135 from HO.out.kept hgrow (fun e => by cases e)); have HB1 := Lib.hid (grown_sp (sp := sp) hgrow (.inl rfl)); have f2 := HO1.out.frozen 2; have HW1 := Lib.hid hown1; have k2 := HO1.out.cell 2 (.slice none 0 0) rfl; clear hown1 hgrow c5 c2)
 have HO2 := Lib.hid (show Obj? (w1.setCell ⟨sp, 2, none⟩ (.slice (some ⟨g, 0, none⟩) 2 cap1)) sp (stC 4 4096 (.slice (some ⟨g, 0, none⟩) 2 cap1) 0 0 0) 135 from HO1.out.set 2 _)
 have HW2 := Lib.hid (show (w1.setCell ⟨sp, 2, none⟩ (.slice (some ⟨g, 0, none⟩) 2 cap1)).ownsRow (sp + 1) 5 1 (.slice (some ⟨g, 0, none⟩) 2 cap1) 2 (u8w [192, 0]) from ownsRow_setCell_below (a := ⟨sp, 2, none⟩) HW1.out (Nat.lt_succ_self sp) _)
 have HB2 := Lib.hid (grown_set HB1.out (p := ⟨sp, 2, none⟩) rfl (.slice (some ⟨g, 0, none⟩) 2 cap1))
 obtain ⟨W2, hW2⟩ : ∃ W, W = w1.setCell ⟨sp, 2, none⟩ (.slice (some ⟨g, 0, none⟩) 2 cap1) := ⟨_, rfl⟩
 rw [← hW2] at HO2 HW2 HB2
 rw [← hW2]
 clear hW2 HO1 HW1 HB1 f2 k2 hown hi hz0 hz1 hz2
 have hcap := owns_le HW2.out
 refine wp_loop_rounds 2 ?_
 rw [rounds_succ]
 go_wp2_with fail
 refine (next_12 HO2.out hcap (reads_w (l := [192, 0]) HW2.out)).mono ?_
 rintro r w3 ⟨rfl, hb⟩
 have hst := store_new12c w3
 have hl3 := load_12 (Obj?.new w3 c12 34)
 have HO3 := Lib.hid ((HO2.out.below hb HO2.out.lt).alloc (.cells c12 34 (0, 0)))
 have HB3 := Lib.hid (show w.grownBy (w3.alloc (.cells c12 34 (0, 0))) (some sp) from (HB2.out.trans (grown_below hb (some sp))).trans (World.grownBy_alloc _ _ _))
 clear hb HO2 HW2 HB2
 go_upto_region 13 with fail
 obtain ⟨W3, hW3⟩ : ∃ W, W = w3.alloc (.cells c12 34 (0, 0)) := ⟨_, rfl⟩
 rw [← hW3] at HO3 HB3 hl3
 rw [← hW3]
 clear hst
 have HC3 := Lib.hid (show w3.heap.size < W3.heap.size by rw [hW3]; simp)
 clear hW3
 have hown3 := World.ownsRow_nil (W3.alloc (.cells c12 34 (0, 0))) (sp + 1) 34 25
 have hB3 : sp + 1 ≤ (W3.alloc (.cells c12 34 (0, 0))).heap.size := (HO3.out.alloc _).lt
 have HO4 := Lib.hid (HO3.out.alloc (.cells c12 34 (0, 0)))
 have HB4 := Lib.hid (HB3.out.trans (World.grownBy_alloc _ (.cells c12 34 (0, 0)) _))
 go_wp2_with (first
  | (refine Great.wpList_buildSliceTo rfl 274 34 1 _ rfl W3.heap.size rfl (some 53) rfl Tryz.underlying274 c12 (Eq.trans (congrArg (Tryz.prog.builtSlice 34 1) (a₂ := [(0, .agg c12)]) (by kernel_rfl)) built12) ?_)
  | (at_builtin; refine wpList_append_own _ rfl _ _ 274 rfl (sp + 1) 34 i1 (.agg #[.int .i64 0, .bool false, .bool false, .int .i64 0, .int .i64 0, .string ⟨#[]⟩, .string ⟨#[]⟩, .bool false, .int .i64 0, .string ⟨#[]⟩, .bool false, .string ⟨#[]⟩, .bool false, .string ⟨#[]⟩, .bool false, .string ⟨#[]⟩, .string ⟨#[]⟩, .int .i64 0, .bool false, .slice none 0 0, .bool false, .int .i64 0, .slice none 0 0, .slice none 0 0, .slice none 0 0]) 25 312 Tryz.underlying274 hj hy0 hy1 hy2 rfl (by decide) _ 0 [] rfl hown3 ⟨W3.heap.size, 0, none⟩ 1 1 c12.toList rfl (by rw [c12_len]) (news12 W3) c12_mem (by decide) (by decide) hB3 ?_; intro v5 w5 hown5 hgrow5 _; obtain ⟨g5, cap5, rfl⟩ := owns_succ hown5; have HO5 := Lib.hid (HO4.out.kept hgrow5 (fun e => by cases e)); have HB5 := Lib.hid (HB4.out.trans (grown_sp (sp := sp) hgrow5 (.inl rfl))); have HW5 := Lib.hid hown5; clear hown5 hgrow5 hown3))
 refine (drop_2 HO5.out hcap).mono ?_
 rintro r w6 ⟨rfl, hw6⟩
 have HO6 := Lib.hid (show Obj? w6 sp (stC 4 4096 (.slice (some ⟨g, 0, none⟩) 0 0) 2 1 0) 135 from by rw [hw6]; exact ((HO5.out.set 2 (.slice (some ⟨g, 0, none⟩) 0 0)).set 3 (.int .i64 2)).set 4 (.int .i64 1))
 have HB6 := Lib.hid (show w.grownBy w6 (some sp) from by rw [hw6]; exact grown_set (grown_set (grown_set HB5.out (p := ⟨sp, 2, none⟩) rfl _) (p := ⟨sp, 3, none⟩) rfl _) (p := ⟨sp, 4, none⟩) rfl _)
 have HW6 := Lib.hid (show w6.ownsRow (sp + 1) 34 25 (.slice (some ⟨g5, 0, none⟩) 1 cap5) 1 c12.toList from by
  rw [hw6]
  exact ownsRow_setCell_below (a := ⟨sp, 4, none⟩) (ownsRow_setCell_below (a := ⟨sp, 3, none⟩) (ownsRow_setCell_below (a := ⟨sp, 2, none⟩) HW5.out (Nat.lt_succ_self sp) _) (Nat.lt_succ_self sp) _) (Nat.lt_succ_self sp) _)
 clear hw6 HO5 HB5 HW5 HO4 HB4 HO3 HB3 HC3 hl3 hB3 hj hy0 hy1 hy2
 go_wp2_with fail
 rw [rounds_succ]
 go_wp2_with fail
 refine (next_short (ks := []) (n := 0) HO6.out (by decide) (by decide) (by decide) (fun W _ => run_convert_bytes_arg (P := Tryz.prog) W 133 5 Tryz.underlying133 Tryz.underlying5 g 0 0 0 [] rfl (fun i hi => absurd hi (Nat.not_lt_zero _)) 9 Tryz.underlying9) (by decide)).mono ?_
 rintro r w7 ⟨rfl, hb⟩
 have hst := store_new00 w7
 have HW8 := Lib.hid (row_belowh (row_belowh HW6.out hb) (below_al (Below.refl _ _) (.cells c00 34 (0, 0))))
 have HB8 := Lib.hid (show w.grownBy (w7.alloc (.cells c00 34 (0, 0))) (some sp) from (HB6.out.trans (grown_below hb (some sp))).trans (World.grownBy_alloc _ _ _))
 clear hb HO6 HW6 HB6
 go_wp2_with fail
 refine HQ1.out _ _ _ ?_
 go_ret2
 exact ⟨g5, cap5, rfl, HB8.out, (HW8.out.lt g5 rfl).2, fun j u hj => by rw [← addr_add]; exact HW8.out.cells (g := g5) rfl j u (by simpa using hj)⟩
end Go.Proofs.YtanofjmkkhocaaaGreatDoor
