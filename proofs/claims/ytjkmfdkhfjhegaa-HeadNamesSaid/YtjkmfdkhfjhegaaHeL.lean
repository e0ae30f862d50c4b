/- HeadNames. -/
import Derived.Test.YtjkmfdkhfjhegaaHeE
import Derived.Test.YtjkmfdkhfjhegaaHdN
namespace Go.Proofs.Ytjkmfdkhfjhegaa
open Go Go.RowKit
set_option linter.unusedVariables false
set_option linter.unusedSimpArgs false
theorem load_HdN (a : Addr) : loadVar 26 a = rowSem 26 a := rfl
theorem store_HdN (a : Addr) (v : Value) : storeVar 26 a v = rowStore 26 a v := rfl
attribute [local go_sem ↓] load_Pk store_Pk load_HdN store_HdN
attribute [local irreducible] rowSem rowStore

theorem store_newhdN (w : World) (x y z : Int) : (rowStore 26 ⟨w.heap.size, 0, none⟩ (.agg #[.int .i64 x, .int .i64 y, .int .i64 z])).run Try.prog (w.alloc (.cells #[.int .i64 0, .int .i64 0, .int .i64 0] 26 (0, 0))) = .ok () (w.alloc (.cells #[.int .i64 x, .int .i64 y, .int .i64 z] 26 (0, 0))) := by
  have h := rowStore_run (P := Try.prog) _ w.heap.size 26 26 _ #[.int .i64 x, .int .i64 y, .int .i64 z] (Obj?.new w #[.int .i64 0, .int .i64 0, .int .i64 0] 26) infoHd rfl (by simp [Value.oneCell'])
  rw [World.setRow_alloc_new] at h
  exact h
theorem load_hdN {w : World} {b : Nat} {x y z : Int} (h : Obj? w b #[.int .i64 x, .int .i64 y, .int .i64 z] 26) : (rowSem 26 ⟨b, 0, none⟩).run Try.prog w = .ok (.agg #[.int .i64 x, .int .i64 y, .int .i64 z]) w :=
  rowSem_run w b 26 26 _ _ h Try.underlying26 rfl infoHd
theorem store_newpk (w : World) (p : Pk) (vw vc vf vp : Value) (h1 : (pkCs p vw vc vf vp).all (·.oneCell') = true) : (rowStore 35 ⟨w.heap.size, 0, none⟩ (.agg (pkCs p vw vc vf vp))).run Try.prog (w.alloc (.cells #[.int .i64 0, .bool false, .bool false, .int .i64 0, .int .i64 0, .string ⟨#[]⟩, .string ⟨#[]⟩, .bool false, .int .i64 0, .string ⟨#[]⟩, .bool false, .string ⟨#[]⟩, .bool false, .string ⟨#[]⟩, .bool false, .string ⟨#[]⟩, .string ⟨#[]⟩, .int .i64 0, .bool false, .slice none 0 0, .bool false, .int .i64 0, .slice none 0 0, .slice none 0 0, .slice none 0 0] 35 (0, 0))) = .ok () (w.alloc (.cells (pkCs p vw vc vf vp) 35 (0, 0))) := by
  have h := store_pkres (p := p) (vw := vw) (vc := vc) (vf := vf) (vp := vp) (Obj?.new w #[.int .i64 0, .bool false, .bool false, .int .i64 0, .int .i64 0, .string ⟨#[]⟩, .string ⟨#[]⟩, .bool false, .int .i64 0, .string ⟨#[]⟩, .bool false, .string ⟨#[]⟩, .bool false, .string ⟨#[]⟩, .bool false, .string ⟨#[]⟩, .string ⟨#[]⟩, .int .i64 0, .bool false, .slice none 0 0, .bool false, .int .i64 0, .slice none 0 0, .slice none 0 0, .slice none 0 0] 35) rfl h1
  rw [World.setRow_alloc_new] at h
  exact h
theorem chk {v k f l r : Int} (h : checkF v k f l = r) (W : World) : Calls Try.prog 6 #[.int .i64 v, .agg #[.int .i64 k, .int .i64 f, .int .i64 l]] W fun e w' => e = .returned (.int .i64 r) ∧ Below W.heap.size W w' := by
  rw [← h]; exact check_any v k f l W
theorem rdc {v a b c n e : Int} {t : List UInt8} (ht : (t.length : Int) ≤ 4611686018427380000) (h : rdH v t = (a, b, c, n, e)) (W : World) : Calls Try.prog 8 #[.int .i64 v, .string ⟨t.toArray⟩] W fun r w' => r = .returned (.tuple #[.agg #[.int .i64 a, .int .i64 b, .int .i64 c], .int .i64 n, .int .i64 e]) ∧ Below W.heap.size W w' := by
  have := hdread_any v t ht W
  rw [h] at this
  exact this
theorem flc {v k q a e : Int} {du re : Bool} (h : flagsF v k du re q = (a, e)) (W : World) : Calls Try.prog 7 #[.int .i64 v, .agg #[.int .i64 k, .bool du, .bool re, .int .i64 q, .int .i64 0, .string ⟨#[]⟩, .string ⟨#[]⟩, .bool false, .int .i64 0, .string ⟨#[]⟩, .bool false, .string ⟨#[]⟩, .bool false, .string ⟨#[]⟩, .bool false, .string ⟨#[]⟩, .string ⟨#[]⟩, .int .i64 0, .bool false, .slice none 0 0, .bool false, .int .i64 0, .slice none 0 0, .slice none 0 0, .slice none 0 0]] W fun r w' => r = .returned (.tuple #[.int .i64 a, .int .i64 e]) ∧ Below W.heap.size W w' := by
  have := flags_any v k du re q (.int .i64 0) (.string ⟨#[]⟩) (.string ⟨#[]⟩) (.bool false) (.int .i64 0) (.string ⟨#[]⟩) (.bool false) (.string ⟨#[]⟩) (.bool false) (.string ⟨#[]⟩) (.bool false) (.string ⟨#[]⟩) (.string ⟨#[]⟩) (.int .i64 0) (.bool false) (.slice none 0 0) (.bool false) (.int .i64 0) (.slice none 0 0) (.slice none 0 0) (.slice none 0 0) W
  rw [h] at this
  exact this
def pkN (i : Int) : Pk := ⟨⟨1, 0, 0, 0, 0, false, false, false, false, false, true, false, [], [], [], [], []⟩, ⟨[97], [], 0, false, [⟨i, 0, [], []⟩]⟩, [], [], []⟩
theorem pkN_small : PkSmall (pkN 38) := ⟨by decide, by decide, by decide, by decide⟩
theorem pkN_ne : decide (pkN 38 = pkN 1) = false := by decide
/-- The packet, its copy that was changed, and the last header. -/
structure NmAt (w : World) (bp b29 b30 b26 : Nat) (vw vc vf vp : Value) (W : World) : Prop where
  o29 : Obj? W b29 (pkCs (pkN 38) (.slice (some ⟨bp, 0, none⟩) 1 1) (.slice none 0 0) (.slice none 0 0) (.slice none 0 0)) 35
  o30 : Obj? W b30 (pkCs (pkN 38) vw vc vf vp) 35
  o26 : Obj? W b26 #[.int .i64 12, .int .i64 0, .int .i64 0] 26
  obp : Obj? W bp #[.int .i64 38, .int .u32 0, .string ⟨#[]⟩, .string ⟨#[]⟩] 40
  a29 : PkAt W (pkN 38) (.slice (some ⟨bp, 0, none⟩) 1 1) (.slice none 0 0) (.slice none 0 0) (.slice none 0 0)
  a30 : PkAt W (pkN 1) vw vc vf vp
  bel : Below w.heap.size w W
theorem NmAt.below {w : World} {bp b29 b30 b26 : Nat} {vw vc vf vp : Value} {A B : World} (h : NmAt w bp b29 b30 b26 vw vc vf vp A) (hb : Below A.heap.size A B) : NmAt w bp b29 b30 b26 vw vc vf vp B :=
  ⟨h.o29.below hb h.o29.lt, h.o30.below hb h.o30.lt, h.o26.below hb h.o26.lt, h.obp.below hb h.obp.lt, h.a29.below hb, h.a30.below hb, below_thenh h.bel hb⟩
theorem row_one {W : World} {b : Nat} {i : Int} (h : Obj? W b #[.int .i64 i, .int .u32 0, .string ⟨#[]⟩, .string ⟨#[]⟩] 40) (cap : Nat) : RowOf Pp.cs 4 W (.slice (some ⟨b, 0, none⟩) 1 cap) [⟨i, 0, [], []⟩] := by
  refine ⟨_, _, rfl, by simp, .inr ⟨b, 0, rfl, h.lt, fun k hk j u hj => ?_⟩⟩
  obtain rfl : k = 0 := by simp at hk; omega
  rw [Nat.zero_mul, Nat.zero_add]
  exact h.cell j u hj
theorem row_none {X : Type} {cs : X → Array Value} {z : Nat} {W W' : World} {v : Value} (h : RowOf cs z W v []) : RowOf cs z W' v [] := by
  obtain ⟨a, cap, rfl, hl, -⟩ := h
  exact ⟨a, cap, rfl, hl, .inl rfl⟩
/-- A list of one property in memory of its own: its cells. -/
theorem own_one {W : World} {base : Nat} {v : Value} {t : TypeId} (h : W.ownsRow base t 4 v 1 (flatC Pp.cs [⟨38, 0, [], []⟩])) : ∃ g cap cur, v = .slice (some ⟨g, 0, none⟩) 1 cap ∧ base ≤ g ∧ Obj? W g cur t ∧ cur[0]? = some (.int .i64 38) ∧ cur[1]? = some (.int .u32 0) ∧ cur[2]? = some (.string ⟨#[]⟩) ∧ cur[3]? = some (.string ⟨#[]⟩) := by
  rcases h.2 with ⟨-, h0⟩ | ⟨g, cap, cur, rfl, hb, hg, hk, hm, hcs, hx⟩
  · cases h0
  · have e : flatC Pp.cs [⟨38, 0, [], []⟩] = [.int .i64 38, .int .u32 0, .string ⟨#[]⟩, .string ⟨#[]⟩] := rfl
    rw [e] at hx
    have at' : ∀ j u, j < 4 → ([.int .i64 38, .int .u32 0, .string ⟨#[]⟩, .string ⟨#[]⟩] : List Value)[j]? = some u → cur[j]? = some u := fun j u hj hu => by
      rw [← hx, List.getElem?_take_of_lt (by omega)] at hu
      simpa using hu
    exact ⟨g, cap, cur, rfl, hb, hg, at' 0 _ (by decide) rfl, at' 1 _ (by decide) rfl, at' 2 _ (by decide) rfl, at' 3 _ (by decide) rfl⟩
theorem row_changed {W : World} {g cap : Nat} {cur : Array Value} {t : TypeId} (h : Obj? W g cur t) (h0 : cur[0]? = some (.int .i64 38)) (h1 : cur[1]? = some (.int .u32 0)) (h2 : cur[2]? = some (.string ⟨#[]⟩)) (h3 : cur[3]? = some (.string ⟨#[]⟩)) : RowOf Pp.cs 4 (W.setCell ⟨g, 0, none⟩ (.int .i64 1)) (.slice (some ⟨g, 0, none⟩) 1 cap) [⟨1, 0, [], []⟩] := by
  have hs := h.set 0 (.int .i64 1)
  have hz : 0 < cur.size := (Array.getElem?_eq_some_iff.1 h0).1
  refine ⟨_, _, rfl, by simp, .inr ⟨g, 0, rfl, hs.lt, fun k hk j u hj => ?_⟩⟩
  obtain rfl : k = 0 := by simp at hk; omega
  rw [Nat.zero_mul, Nat.zero_add]
  refine hs.cell j u ?_
  match j, hj with
  | 0, hj => cases hj; simp [hz]; rfl
  | 1, hj => cases hj; rw [Array.getElem?_setIfInBounds_ne (by decide)]; exact h1
  | 2, hj => cases hj; rw [Array.getElem?_setIfInBounds_ne (by decide)]; exact h2
  | 3, hj => cases hj; rw [Array.getElem?_setIfInBounds_ne (by decide)]; exact h3
  | j + 4, hj => cases hj
/-- What the orders of the last region keep. -/
abbrev SNm (w : World) (bp b29 b30 b26 : Nat) (vw vc vf vp : Value) (W : World) : Prop :=
  Hid (NmAt w bp b29 b30 b26 vw vc vf vp W) ∧ (rowSem 35 ⟨b29, 0, none⟩).run Try.prog W = .ok (.agg (pkCs (pkN 38) (.slice (some ⟨bp, 0, none⟩) 1 1) (.slice none 0 0) (.slice none 0 0) (.slice none 0 0))) W ∧ (rowSem 35 ⟨b30, 0, none⟩).run Try.prog W = .ok (.agg (pkCs (pkN 38) vw vc vf vp)) W ∧ (rowSem 26 ⟨b26, 0, none⟩).run Try.prog W = .ok (.agg #[.int .i64 12, .int .i64 0, .int .i64 0]) W ∧ W.cell? ⟨b29, 19, none⟩ = some (.slice (some ⟨bp, 0, none⟩) 1 1) ∧ W.cell? ⟨bp, 0, none⟩ = some (.int .i64 38)
theorem sNm_mk {w : World} {bp b29 b30 b26 : Nat} {vw vc vf vp : Value} {W : World} (h : NmAt w bp b29 b30 b26 vw vc vf vp W) : SNm w bp b29 b30 b26 vw vc vf vp W :=
  ⟨Lib.hid h, load_pk h.o29, load_pk h.o30, load_hdN h.o26, h.o29.cell 19 _ rfl, h.obp.cell 0 _ rfl⟩
/-- A row of code behind its first pieces. -/
def tlC : Nat → Code → Code
  | 0, c => c
  | n + 1, .seq _ b => tlC n b
  | _, c => c
noncomputable def nmBody : Code := Try.f3.body.getD .skip
set_option synthInstance.maxHeartbeats 4000000 in
set_option synthInstance.maxSize 100000 in
set_option maxRecDepth 100000 in
set_option maxHeartbeats 6400000 in
theorem cs109 : ∀ i : Nat, i < 109 → (i = 0 ∨ i = 1 ∨ i = 2 ∨ i = 3 ∨ i = 4 ∨ i = 5 ∨ i = 6 ∨ i = 7 ∨ i = 8 ∨ i = 9 ∨ i = 10 ∨ i = 11 ∨ i = 12 ∨ i = 13 ∨ i = 14 ∨ i = 15 ∨ i = 16 ∨ i = 17 ∨ i = 18 ∨ i = 19 ∨ i = 20 ∨ i = 21 ∨ i = 22 ∨ i = 23 ∨ i = 24 ∨ i = 25 ∨ i = 26 ∨ i = 27 ∨ i = 28 ∨ i = 29 ∨ i = 30 ∨ i = 31 ∨ i = 32 ∨ i = 33 ∨ i = 34 ∨ i = 35 ∨ i = 36 ∨ i = 37 ∨ i = 38 ∨ i = 39 ∨ i = 40 ∨ i = 41 ∨ i = 42 ∨ i = 43 ∨ i = 44 ∨ i = 45 ∨ i = 46 ∨ i = 47 ∨ i = 48 ∨ i = 49 ∨ i = 50 ∨ i = 51 ∨ i = 52 ∨ i = 53 ∨ i = 54 ∨ i = 55 ∨ i = 56 ∨ i = 57 ∨ i = 58 ∨ i = 59 ∨ i = 60 ∨ i = 61 ∨ i = 62 ∨ i = 63 ∨ i = 64 ∨ i = 65 ∨ i = 66 ∨ i = 67 ∨ i = 68 ∨ i = 69 ∨ i = 70 ∨ i = 71 ∨ i = 72 ∨ i = 73 ∨ i = 74 ∨ i = 75 ∨ i = 76 ∨ i = 77 ∨ i = 78 ∨ i = 79 ∨ i = 80 ∨ i = 81 ∨ i = 82 ∨ i = 83 ∨ i = 84 ∨ i = 85 ∨ i = 86 ∨ i = 87 ∨ i = 88 ∨ i = 89 ∨ i = 90 ∨ i = 91 ∨ i = 92 ∨ i = 93 ∨ i = 94 ∨ i = 95 ∨ i = 96 ∨ i = 97 ∨ i = 98 ∨ i = 99 ∨ i = 100 ∨ i = 101 ∨ i = 102 ∨ i = 103 ∨ i = 104 ∨ i = 105 ∨ i = 106 ∨ i = 107 ∨ i = 108) := by decide +kernel
theorem eql_hdN (w : World) : (binOp .eql 26 (.agg #[.int .i64 12, .int .i64 0, .int .i64 0]) (.agg #[.int .i64 12, .int .i64 0, .int .i64 0])).run Try.prog w = .ok (.bool true) w := by
  go_simp
/-- What each operation brings, but the copy. -/
def nmL (c29 c30 : Array Value) (bp : Nat) : List Value := [.int .i64 2, .bool true, .bool true, .int .i64 8, .bool true, .bool true, .bool true, .int .i64 0, .bool true, .bool true, .bool true, .int .i64 7, .bool true, .bool true, .bool true, .int .i64 7, .bool true, .bool true, .bool true, .int .i64 7, .bool true, .bool true, .bool true, .int .i64 2, .bool true, .bool true, .bool true, .int .i64 13, .bool true, .bool true, .bool true, .int .i64 0, .bool true, .bool true, .bool true, .int .i64 7, .bool true, .bool true, .bool true, .int .i64 2, .bool true, .bool true, .bool true, .int .i64 0, .bool true, .bool true, .bool true, .int .i64 3, .bool true, .bool true, .bool true, .int .i64 8, .bool true, .bool true, .bool true, .int .i64 3, .bool true, .bool true, .bool true, .int .i64 7, .bool true, .bool true, .bool true, .int .i64 0, .bool true, .bool true, .bool true, .int .i64 2, .bool true, .bool true, .bool true, .agg #[.int .i64 12, .int .i64 0, .int .i64 0], .agg #[.int .i64 12, .int .i64 0, .int .i64 0], .bool true, .bool true, .bool true, .pointer (some ⟨bp + 1, 15, none⟩), .pointer (some ⟨bp + 1, 19, none⟩), .slice (some ⟨bp, 0, none⟩) 1 1, .pointer (some ⟨bp, 0, none⟩), .pointer (some ⟨bp, 0, none⟩), .int .i64 38, .bool true, .bool true, .bool true, .agg c29, .agg c30, .bool false, .bool true, .bool true, .bool true, .agg c29, .agg c29, undef, .bool true, .bool true, .bool true, .string ⟨[117, 110, 115, 117, 98, 97, 99, 107].toArray⟩, .bool true, .bool true, .bool true, .string ⟨[63].toArray⟩, .bool true, .bool true, .bool true, .string ⟨[63].toArray⟩, .bool true, .bool true, .bool true]
def CopyGood (c : Array Value) (W : World) : Prop := ∃ zw zc zf zp, c = pkCs (pkN 38) zw zc zf zp ∧ PkAt W (pkN 38) zw zc zf zp
def PhiM (V : List Value) (i : Nat) (v : Value) (W : World) : Prop := if i = 93 then ∃ c, v = .agg c ∧ CopyGood c W else v = V.getD i undef
theorem PhiM.below {V : List Value} {i : Nat} {v : Value} {W W' : World} (h : PhiM V i v W) (hb : Below W.heap.size W W') : PhiM V i v W' := by
  unfold PhiM at h ⊢
  split
  · rename_i hi
    rw [if_pos hi] at h
    obtain ⟨c, e, zw, zc, zf, zp, e2, hp⟩ := h
    exact ⟨c, e, zw, zc, zf, zp, e2, hp.below hb⟩
  · rename_i hi
    rw [if_neg hi] at h
    exact h
theorem phi_ne {V : List Value} {i : Nat} {v : Value} {W : World} (hi : i ≠ 93) (h : PhiM V i v W) : v = V.getD i undef := by unfold PhiM at h; rwa [if_neg hi] at h
theorem phi_mk {V : List Value} {i : Nat} {v : Value} {W : World} (hi : i ≠ 93) (h : v = V.getD i undef) : PhiM V i v W := by unfold PhiM; rwa [if_neg hi]
def putM (a : Act) (x : Nat → Value) : Act := { a with tmps := (x 108 :: ((a.tmps.toList.drop 1).take 97 ++ [x 0, x 1, x 2, x 3, x 4, x 5, x 6, x 7, x 8, x 9, x 10, x 11, x 12, x 13, x 14, x 15, x 16, x 17, x 18, x 19, x 20, x 21, x 22, x 23, x 24, x 25, x 26, x 27, x 28, x 29, x 30, x 31, x 32, x 33, x 34, x 35, x 36, x 37, x 38, x 39, x 40, x 41, x 42, x 43, x 44, x 45, x 46, x 47, x 48, x 49, x 50, x 51, x 52, x 53, x 54, x 55, x 56, x 57, x 58, x 59, x 60, x 61, x 62, x 63, x 64, x 65, x 66, x 67, x 68, x 69, x 70, x 71, x 72, x 73, x 74, x 75, x 76, x 77, x 78, x 79, x 80, x 81, x 82, x 83, x 84, x 85, x 86, x 87, x 88, x 89, x 90, x 91, x 92, x 93, x 94, x 95, x 96, x 97, x 98, x 99, x 100, x 101, x 102, x 103, x 104, x 105, x 106, x 107])).toArray }
def InvM (V : List Value) (W0 : World) (a0 : Act) (L : Array Bool) (a : Act) (w : World) : Prop := ∃ x, a = putM a0 x ∧ Below W0.heap.size W0 w ∧ ∀ i, i < 109 → L.getD i false = true → PhiM V i (x i) w
theorem InvM.next {V : List Value} {W0 : World} {a0 : Act} {L : Array Bool} {a' : Act} {x y : Nat → Value} {w w' : World} (i : Nat) (v : Value) (hB : Below W0.heap.size W0 w) (hΦ : ∀ i, i < 109 → L.getD i false = true → PhiM V i (x i) w) (hb : Below w.heap.size w w')
    (hy : y = x) (ha : a' = putM a0 (updS y i v)) (hv : PhiM V i v w') : InvM V W0 a0 (L.setIfInBounds i true) a' w' := by
  subst hy
  refine ⟨_, ha, below_thenh hB hb, fun j hj hl => ?_⟩
  unfold updS
  by_cases hji : j = i
  · rw [if_pos hji, hji]; exact hv
  · rw [if_neg hji]
    refine (hΦ j hj ?_).below hb
    have e : (L.setIfInBounds i true).getD j false = L.getD j false := by
      simp only [Array.getD_eq_getD_getElem?]
      rw [Array.getElem?_setIfInBounds_ne (Ne.symm hji)]
    rw [← e]; exact hl
set_option maxRecDepth 100000 in
set_option maxHeartbeats 6400000 in
theorem nm_21 (w : World) (Q1 : Exit → Act → World → Prop) (HQ : Hid (∀ (l : List Value) W', Below w.heap.size w W' → Q1 .ret ⟨(.bool true :: l).toArray, []⟩ W')) (u10 u14 u15 u17 u18 u20 u21 u23 u24 u31 u32 u33 u34 u35 u36 u37 u38 u39 u40 u41 u42 u43 u44 u45 u46 u47 u48 u49 u50 u51 u52 u53 u54 u55 u56 u57 u58 u59 u60 u61 u62 u63 u64 u65 u66 u67 u68 u69 u70 u71 u72 u73 u74 u75 u76 u77 u78 u79 u80 u81 u82 u83 u84 u85 u86 u87 u88 u89 u90 u91 u92 u93 u94 u95 u96 u97 : Value) (b26 bp b30 g cap : Nat) (vc vf vp : Value) (X3 : World) (HZ : Hid (NmAt w bp (bp + 1) b30 b26 (.slice (some ⟨g, 0, none⟩) 1 cap) vc vf vp X3)) : Code.wp Try.prog (tlC 20 nmBody) Q1 ⟨((.bool false) :: (.int .i64 2) :: (.int .i64 8) :: (.int .i64 0) :: (.int .i64 7) :: (.int .i64 7) :: (.int .i64 7) :: (.int .i64 2) :: (.int .i64 13) :: (.int .i64 0) :: u10 :: (.int .i64 7) :: (.int .i64 2) :: (.int .i64 0) :: u14 :: u15 :: (.int .i64 3) :: u17 :: u18 :: (.int .i64 8) :: u20 :: u21 :: (.int .i64 3) :: u23 :: u24 :: (.int .i64 7) :: (.pointer (some ⟨b26, 0, none⟩)) :: (.int .i64 2) :: (.int .i64 0) :: (.pointer (some ⟨bp + 1, 0, none⟩)) :: (.pointer (some ⟨b30, 0, none⟩)) :: u31 :: u32 :: u33 :: u34 :: u35 :: u36 :: u37 :: u38 :: u39 :: u40 :: u41 :: u42 :: u43 :: u44 :: u45 :: u46 :: u47 :: u48 :: u49 :: u50 :: u51 :: u52 :: u53 :: u54 :: u55 :: u56 :: u57 :: u58 :: u59 :: u60 :: u61 :: u62 :: u63 :: u64 :: u65 :: u66 :: u67 :: u68 :: u69 :: u70 :: u71 :: u72 :: u73 :: u74 :: u75 :: u76 :: u77 :: u78 :: u79 :: u80 :: u81 :: u82 :: u83 :: u84 :: u85 :: u86 :: u87 :: u88 :: u89 :: u90 :: u91 :: u92 :: u93 :: u94 :: u95 :: u96 :: u97 :: (undef) :: (undef) :: (undef) :: (undef) :: (undef) :: (undef) :: (undef) :: (undef) :: (undef) :: (undef) :: (undef) :: (undef) :: (undef) :: (undef) :: (undef) :: (undef) :: (undef) :: (undef) :: (undef) :: (undef) :: (undef) :: (undef) :: (undef) :: (undef) :: (undef) :: (undef) :: (undef) :: (undef) :: (undef) :: (undef) :: (undef) :: (undef) :: (undef) :: (undef) :: (undef) :: (undef) :: (undef) :: (undef) :: (undef) :: (undef) :: (undef) :: (undef) :: (undef) :: (undef) :: (undef) :: (undef) :: (undef) :: (undef) :: (undef) :: (undef) :: (undef) :: (undef) :: (undef) :: (undef) :: (undef) :: (undef) :: (undef) :: (undef) :: (undef) :: (undef) :: (undef) :: (undef) :: (undef) :: (undef) :: (undef) :: (undef) :: (undef) :: (undef) :: (undef) :: (undef) :: (undef) :: (undef) :: (undef) :: (undef) :: (undef) :: (undef) :: (undef) :: (undef) :: (undef) :: (undef) :: (undef) :: (undef) :: (undef) :: (undef) :: (undef) :: (undef) :: (undef) :: (undef) :: (undef) :: (undef) :: (undef) :: (undef) :: (undef) :: (undef) :: (undef) :: (undef) :: (undef) :: (undef) :: (undef) :: (undef) :: (undef) :: (undef) :: (undef) :: (undef) :: (undef) :: (undef) :: (undef) :: (undef) :: []).toArray, []⟩ X3 := by
  have HN0 := Lib.hid (fun W => hdname_any 11 W)
  have HN1 := Lib.hid (fun W => hdname_any 0 W)
  have HN2 := Lib.hid (fun W => hdname_any 16 W)
  rw [show nameFn 11 = [117, 110, 115, 117, 98, 97, 99, 107] by decide] at HN0
  rw [show nameFn 0 = [63] by decide] at HN1
  rw [show nameFn 16 = [63] by decide] at HN2
  conv => arg 2; whnf
  refine wp_seq_k fun K0 hK0 => ?_
  have HK0 := Lib.hid hK0
  clear hK0
  dsimp only [List.append]
  obtain ⟨c29, h29⟩ : ∃ c, c = pkCs (pkN 38) (.slice (some ⟨bp, 0, none⟩) 1 1) (.slice none 0 0) (.slice none 0 0) (.slice none 0 0) := ⟨_, rfl⟩
  obtain ⟨c30, h30⟩ : ∃ c, c = pkCs (pkN 38) (.slice (some ⟨g, 0, none⟩) 1 cap) vc vf vp := ⟨_, rfl⟩
  have HSa := Lib.hid (fun W (hW : Below X3.heap.size X3 W) => (show Calls Try.prog 10 #[.agg c29, .agg c30] W (fun e w' => e = .returned (.bool false) ∧ Below W.heap.size W w') by
    have := hsame_any (HZ.out.below hW).a29 (show PkAt W (pkN 1) _ _ _ _ from (HZ.out.below hW).a30)
    rw [pkN_ne] at this
    rw [h29, h30]
    exact this))
  have HSb := Lib.hid (fun W c (hW : Below X3.heap.size X3 W) (hg : CopyGood c W) => (show Calls Try.prog 10 #[.agg c29, .agg c] W (fun e w' => e = .returned (.bool true) ∧ Below W.heap.size W w') by
    obtain ⟨zw, zc, zf, zp, rfl, h2⟩ := hg
    have := hsame_any (HZ.out.below hW).a29 h2
    rw [decide_eq_true rfl] at this
    rw [h29]
    exact this))
  have HCp := Lib.hid (fun W (hW : Below X3.heap.size X3 W) => (show Calls Try.prog 9 #[.agg c29] W (fun e w' => ∃ c, e = .returned (.agg c) ∧ CopyGood c w' ∧ Below W.heap.size W w') by
    rw [h29]
    refine (copy_any (HZ.out.below hW).a29 pkN_small).mono ?_
    rintro e w' ⟨zw, zc, zf, zp, rfl, -, hPk, hb⟩
    exact ⟨_, rfl, ⟨zw, zc, zf, zp, rfl, hPk⟩, hb⟩))
  have HV := Lib.hid (And.intro h29 h30)
  clear h29 h30
  refine region_inv_at rfl (by kernel_rfl) (InvM (nmL c29 c30 bp) X3) ?_ ?_ ?_
  · exact ⟨fun i => if i = 108 then .bool false else undef, by kernel_rfl, below_grown (quiet_grown ⟨1, rfl⟩ none), fun i hi h => absurd h (by rw [getD_repl]; decide)⟩
  · rintro L a wz ⟨x, rfl, hB, hΦ⟩ i o ho hd
    have hlt : i < 109 := (Array.getElem?_eq_some_iff.1 ho).1
    simp only [putM, List.toList_toArray, List.drop_succ_cons, List.drop_zero, List.take_succ_cons, List.take_zero, List.cons_append, List.nil_append]
    have hcase := cs109 i hlt
    rcases hcase with rfl | rfl | rfl | rfl | rfl | rfl | rfl | rfl | rfl | rfl | rfl | rfl | rfl | rfl | rfl | rfl | rfl | rfl | rfl | rfl | rfl | rfl | rfl | rfl | rfl | rfl | rfl | rfl | rfl | rfl | rfl | rfl | rfl | rfl | rfl | rfl | rfl | rfl | rfl | rfl | rfl | rfl | rfl | rfl | rfl | rfl | rfl | rfl | rfl | rfl | rfl | rfl | rfl | rfl | rfl | rfl | rfl | rfl | rfl | rfl | rfl | rfl | rfl | rfl | rfl | rfl | rfl | rfl | rfl | rfl | rfl | rfl | rfl | rfl | rfl | rfl | rfl | rfl | rfl | rfl | rfl | rfl | rfl | rfl | rfl | rfl | rfl | rfl | rfl | rfl | rfl | rfl | rfl | rfl | rfl | rfl | rfl | rfl | rfl | rfl | rfl | rfl | rfl | rfl | rfl | rfl | rfl | rfl | rfl
    all_goals
      have ho' := ho
      simp only [List.getElem?_toArray, List.getElem?_cons_zero, List.getElem?_cons_succ, Option.some.injEq] at ho'
      subst ho'
      clear hlt
    · as_aux_lemma =>
      refine wpOp_yes ho rfl (fun K' hK => ?_)
      have HK := Lib.hid hK
      clear hK ho
      go_simp
      refine HK.out _ _ (InvM.next 0 _ hB hΦ (Below.refl _ _) rfl ?_ (phi_mk (by decide) rfl))
      kernel_rfl
    · as_aux_lemma =>
      refine wpOp_yes ho rfl (fun K' hK => ?_)
      have HK := Lib.hid hK
      clear hK ho
      have e0 := (show x 0 = .int .i64 2 from phi_ne (by decide) (hΦ 0 (by decide) (by first | exact hd _ (Array.getElem_mem (i := 0) (by decide)) rfl | exact hd _ (Array.getElem_mem (i := 1) (by decide)) rfl | exact hd _ (Array.getElem_mem (i := 2) (by decide)) rfl | exact hd _ (Array.getElem_mem (i := 3) (by decide)) rfl | exact hd _ (Array.getElem_mem (i := 4) (by decide)) rfl | exact hd _ (Array.getElem_mem (i := 5) (by decide)) rfl)))
      go_simp
      refine HK.out _ _ (InvM.next 1 _ hB hΦ (Below.refl _ _) (upds1 e0) ?_ (phi_mk (by decide) rfl))
      kernel_rfl
    · as_aux_lemma =>
      refine wpOp_yes ho rfl (fun K' hK => ?_)
      have HK := Lib.hid hK
      clear hK ho
      have e1 := (show x 1 = .bool true from phi_ne (by decide) (hΦ 1 (by decide) (by first | exact hd _ (Array.getElem_mem (i := 0) (by decide)) rfl | exact hd _ (Array.getElem_mem (i := 1) (by decide)) rfl | exact hd _ (Array.getElem_mem (i := 2) (by decide)) rfl | exact hd _ (Array.getElem_mem (i := 3) (by decide)) rfl | exact hd _ (Array.getElem_mem (i := 4) (by decide)) rfl | exact hd _ (Array.getElem_mem (i := 5) (by decide)) rfl)))
      go_simp
      refine HK.out _ _ (InvM.next 2 _ hB hΦ (Below.refl _ _) (upds1 e1) ?_ (phi_mk (by decide) rfl))
      kernel_rfl
    · as_aux_lemma =>
      have e2 := (show x 2 = .bool true from phi_ne (by decide) (hΦ 2 (by decide) (by first | exact hd _ (Array.getElem_mem (i := 0) (by decide)) rfl | exact hd _ (Array.getElem_mem (i := 1) (by decide)) rfl | exact hd _ (Array.getElem_mem (i := 2) (by decide)) rfl | exact hd _ (Array.getElem_mem (i := 3) (by decide)) rfl | exact hd _ (Array.getElem_mem (i := 4) (by decide)) rfl | exact hd _ (Array.getElem_mem (i := 5) (by decide)) rfl)))
      refine wpOp_yes ho (by rw [← upds1 e2]; kernel_rfl) (fun K' hK => ?_)
      clear e2
      have HK := Lib.hid hK
      clear hK ho
      go_simp
      refine HK.out _ _ (InvM.next 3 _ hB hΦ (Below.refl _ _) rfl ?_ (phi_mk (by decide) rfl))
      kernel_rfl
    · as_aux_lemma =>
      have e2 := (show x 2 = .bool true from phi_ne (by decide) (hΦ 2 (by decide) (by first | exact hd _ (Array.getElem_mem (i := 0) (by decide)) rfl | exact hd _ (Array.getElem_mem (i := 1) (by decide)) rfl | exact hd _ (Array.getElem_mem (i := 2) (by decide)) rfl | exact hd _ (Array.getElem_mem (i := 3) (by decide)) rfl | exact hd _ (Array.getElem_mem (i := 4) (by decide)) rfl | exact hd _ (Array.getElem_mem (i := 5) (by decide)) rfl)))
      refine wpOp_yes ho (by rw [← upds1 e2]; kernel_rfl) (fun K' hK => ?_)
      clear e2
      have HK := Lib.hid hK
      clear hK ho
      have e3 := (show x 3 = .int .i64 8 from phi_ne (by decide) (hΦ 3 (by decide) (by first | exact hd _ (Array.getElem_mem (i := 0) (by decide)) rfl | exact hd _ (Array.getElem_mem (i := 1) (by decide)) rfl | exact hd _ (Array.getElem_mem (i := 2) (by decide)) rfl | exact hd _ (Array.getElem_mem (i := 3) (by decide)) rfl | exact hd _ (Array.getElem_mem (i := 4) (by decide)) rfl | exact hd _ (Array.getElem_mem (i := 5) (by decide)) rfl)))
      go_simp
      refine HK.out _ _ (InvM.next 4 _ hB hΦ (Below.refl _ _) (upds1 e3) ?_ (phi_mk (by decide) rfl))
      kernel_rfl
    · as_aux_lemma =>
      refine wpOp_yes ho rfl (fun K' hK => ?_)
      have HK := Lib.hid hK
      clear hK ho
      have e2 := (show x 2 = .bool true from phi_ne (by decide) (hΦ 2 (by decide) (by first | exact hd _ (Array.getElem_mem (i := 0) (by decide)) rfl | exact hd _ (Array.getElem_mem (i := 1) (by decide)) rfl | exact hd _ (Array.getElem_mem (i := 2) (by decide)) rfl | exact hd _ (Array.getElem_mem (i := 3) (by decide)) rfl | exact hd _ (Array.getElem_mem (i := 4) (by decide)) rfl | exact hd _ (Array.getElem_mem (i := 5) (by decide)) rfl)))
      have e4 := (show x 4 = .bool true from phi_ne (by decide) (hΦ 4 (by decide) (by first | exact hd _ (Array.getElem_mem (i := 0) (by decide)) rfl | exact hd _ (Array.getElem_mem (i := 1) (by decide)) rfl | exact hd _ (Array.getElem_mem (i := 2) (by decide)) rfl | exact hd _ (Array.getElem_mem (i := 3) (by decide)) rfl | exact hd _ (Array.getElem_mem (i := 4) (by decide)) rfl | exact hd _ (Array.getElem_mem (i := 5) (by decide)) rfl)))
      go_simp
      refine HK.out _ _ (InvM.next 5 _ hB hΦ (Below.refl _ _) (upds2 e2 e4) ?_ (phi_mk (by decide) rfl))
      kernel_rfl
    · as_aux_lemma =>
      refine wpOp_yes ho rfl (fun K' hK => ?_)
      have HK := Lib.hid hK
      clear hK ho
      have e5 := (show x 5 = .bool true from phi_ne (by decide) (hΦ 5 (by decide) (by first | exact hd _ (Array.getElem_mem (i := 0) (by decide)) rfl | exact hd _ (Array.getElem_mem (i := 1) (by decide)) rfl | exact hd _ (Array.getElem_mem (i := 2) (by decide)) rfl | exact hd _ (Array.getElem_mem (i := 3) (by decide)) rfl | exact hd _ (Array.getElem_mem (i := 4) (by decide)) rfl | exact hd _ (Array.getElem_mem (i := 5) (by decide)) rfl)))
      go_simp
      refine HK.out _ _ (InvM.next 6 _ hB hΦ (Below.refl _ _) (upds1 e5) ?_ (phi_mk (by decide) rfl))
      kernel_rfl
    · as_aux_lemma =>
      have e6 := (show x 6 = .bool true from phi_ne (by decide) (hΦ 6 (by decide) (by first | exact hd _ (Array.getElem_mem (i := 0) (by decide)) rfl | exact hd _ (Array.getElem_mem (i := 1) (by decide)) rfl | exact hd _ (Array.getElem_mem (i := 2) (by decide)) rfl | exact hd _ (Array.getElem_mem (i := 3) (by decide)) rfl | exact hd _ (Array.getElem_mem (i := 4) (by decide)) rfl | exact hd _ (Array.getElem_mem (i := 5) (by decide)) rfl)))
      refine wpOp_yes ho (by rw [← upds1 e6]; kernel_rfl) (fun K' hK => ?_)
      clear e6
      have HK := Lib.hid hK
      clear hK ho
      go_simp
      refine HK.out _ _ (InvM.next 7 _ hB hΦ (Below.refl _ _) rfl ?_ (phi_mk (by decide) rfl))
      kernel_rfl
    · as_aux_lemma =>
      have e6 := (show x 6 = .bool true from phi_ne (by decide) (hΦ 6 (by decide) (by first | exact hd _ (Array.getElem_mem (i := 0) (by decide)) rfl | exact hd _ (Array.getElem_mem (i := 1) (by decide)) rfl | exact hd _ (Array.getElem_mem (i := 2) (by decide)) rfl | exact hd _ (Array.getElem_mem (i := 3) (by decide)) rfl | exact hd _ (Array.getElem_mem (i := 4) (by decide)) rfl | exact hd _ (Array.getElem_mem (i := 5) (by decide)) rfl)))
      refine wpOp_yes ho (by rw [← upds1 e6]; kernel_rfl) (fun K' hK => ?_)
      clear e6
      have HK := Lib.hid hK
      clear hK ho
      have e7 := (show x 7 = .int .i64 0 from phi_ne (by decide) (hΦ 7 (by decide) (by first | exact hd _ (Array.getElem_mem (i := 0) (by decide)) rfl | exact hd _ (Array.getElem_mem (i := 1) (by decide)) rfl | exact hd _ (Array.getElem_mem (i := 2) (by decide)) rfl | exact hd _ (Array.getElem_mem (i := 3) (by decide)) rfl | exact hd _ (Array.getElem_mem (i := 4) (by decide)) rfl | exact hd _ (Array.getElem_mem (i := 5) (by decide)) rfl)))
      go_simp
      refine HK.out _ _ (InvM.next 8 _ hB hΦ (Below.refl _ _) (upds1 e7) ?_ (phi_mk (by decide) rfl))
      kernel_rfl
    · as_aux_lemma =>
      refine wpOp_yes ho rfl (fun K' hK => ?_)
      have HK := Lib.hid hK
      clear hK ho
      have e6 := (show x 6 = .bool true from phi_ne (by decide) (hΦ 6 (by decide) (by first | exact hd _ (Array.getElem_mem (i := 0) (by decide)) rfl | exact hd _ (Array.getElem_mem (i := 1) (by decide)) rfl | exact hd _ (Array.getElem_mem (i := 2) (by decide)) rfl | exact hd _ (Array.getElem_mem (i := 3) (by decide)) rfl | exact hd _ (Array.getElem_mem (i := 4) (by decide)) rfl | exact hd _ (Array.getElem_mem (i := 5) (by decide)) rfl)))
      have e8 := (show x 8 = .bool true from phi_ne (by decide) (hΦ 8 (by decide) (by first | exact hd _ (Array.getElem_mem (i := 0) (by decide)) rfl | exact hd _ (Array.getElem_mem (i := 1) (by decide)) rfl | exact hd _ (Array.getElem_mem (i := 2) (by decide)) rfl | exact hd _ (Array.getElem_mem (i := 3) (by decide)) rfl | exact hd _ (Array.getElem_mem (i := 4) (by decide)) rfl | exact hd _ (Array.getElem_mem (i := 5) (by decide)) rfl)))
      go_simp
      refine HK.out _ _ (InvM.next 9 _ hB hΦ (Below.refl _ _) (upds2 e6 e8) ?_ (phi_mk (by decide) rfl))
      kernel_rfl
    · as_aux_lemma =>
      refine wpOp_yes ho rfl (fun K' hK => ?_)
      have HK := Lib.hid hK
      clear hK ho
      have e9 := (show x 9 = .bool true from phi_ne (by decide) (hΦ 9 (by decide) (by first | exact hd _ (Array.getElem_mem (i := 0) (by decide)) rfl | exact hd _ (Array.getElem_mem (i := 1) (by decide)) rfl | exact hd _ (Array.getElem_mem (i := 2) (by decide)) rfl | exact hd _ (Array.getElem_mem (i := 3) (by decide)) rfl | exact hd _ (Array.getElem_mem (i := 4) (by decide)) rfl | exact hd _ (Array.getElem_mem (i := 5) (by decide)) rfl)))
      go_simp
      refine HK.out _ _ (InvM.next 10 _ hB hΦ (Below.refl _ _) (upds1 e9) ?_ (phi_mk (by decide) rfl))
      kernel_rfl
    · as_aux_lemma =>
      have e10 := (show x 10 = .bool true from phi_ne (by decide) (hΦ 10 (by decide) (by first | exact hd _ (Array.getElem_mem (i := 0) (by decide)) rfl | exact hd _ (Array.getElem_mem (i := 1) (by decide)) rfl | exact hd _ (Array.getElem_mem (i := 2) (by decide)) rfl | exact hd _ (Array.getElem_mem (i := 3) (by decide)) rfl | exact hd _ (Array.getElem_mem (i := 4) (by decide)) rfl | exact hd _ (Array.getElem_mem (i := 5) (by decide)) rfl)))
      refine wpOp_yes ho (by rw [← upds1 e10]; kernel_rfl) (fun K' hK => ?_)
      clear e10
      have HK := Lib.hid hK
      clear hK ho
      go_simp
      refine HK.out _ _ (InvM.next 11 _ hB hΦ (Below.refl _ _) rfl ?_ (phi_mk (by decide) rfl))
      kernel_rfl
    · as_aux_lemma =>
      have e10 := (show x 10 = .bool true from phi_ne (by decide) (hΦ 10 (by decide) (by first | exact hd _ (Array.getElem_mem (i := 0) (by decide)) rfl | exact hd _ (Array.getElem_mem (i := 1) (by decide)) rfl | exact hd _ (Array.getElem_mem (i := 2) (by decide)) rfl | exact hd _ (Array.getElem_mem (i := 3) (by decide)) rfl | exact hd _ (Array.getElem_mem (i := 4) (by decide)) rfl | exact hd _ (Array.getElem_mem (i := 5) (by decide)) rfl)))
      refine wpOp_yes ho (by rw [← upds1 e10]; kernel_rfl) (fun K' hK => ?_)
      clear e10
      have HK := Lib.hid hK
      clear hK ho
      have e11 := (show x 11 = .int .i64 7 from phi_ne (by decide) (hΦ 11 (by decide) (by first | exact hd _ (Array.getElem_mem (i := 0) (by decide)) rfl | exact hd _ (Array.getElem_mem (i := 1) (by decide)) rfl | exact hd _ (Array.getElem_mem (i := 2) (by decide)) rfl | exact hd _ (Array.getElem_mem (i := 3) (by decide)) rfl | exact hd _ (Array.getElem_mem (i := 4) (by decide)) rfl | exact hd _ (Array.getElem_mem (i := 5) (by decide)) rfl)))
      go_simp
      refine HK.out _ _ (InvM.next 12 _ hB hΦ (Below.refl _ _) (upds1 e11) ?_ (phi_mk (by decide) rfl))
      kernel_rfl
    · as_aux_lemma =>
      refine wpOp_yes ho rfl (fun K' hK => ?_)
      have HK := Lib.hid hK
      clear hK ho
      have e10 := (show x 10 = .bool true from phi_ne (by decide) (hΦ 10 (by decide) (by first | exact hd _ (Array.getElem_mem (i := 0) (by decide)) rfl | exact hd _ (Array.getElem_mem (i := 1) (by decide)) rfl | exact hd _ (Array.getElem_mem (i := 2) (by decide)) rfl | exact hd _ (Array.getElem_mem (i := 3) (by decide)) rfl | exact hd _ (Array.getElem_mem (i := 4) (by decide)) rfl | exact hd _ (Array.getElem_mem (i := 5) (by decide)) rfl)))
      have e12 := (show x 12 = .bool true from phi_ne (by decide) (hΦ 12 (by decide) (by first | exact hd _ (Array.getElem_mem (i := 0) (by decide)) rfl | exact hd _ (Array.getElem_mem (i := 1) (by decide)) rfl | exact hd _ (Array.getElem_mem (i := 2) (by decide)) rfl | exact hd _ (Array.getElem_mem (i := 3) (by decide)) rfl | exact hd _ (Array.getElem_mem (i := 4) (by decide)) rfl | exact hd _ (Array.getElem_mem (i := 5) (by decide)) rfl)))
      go_simp
      refine HK.out _ _ (InvM.next 13 _ hB hΦ (Below.refl _ _) (upds2 e10 e12) ?_ (phi_mk (by decide) rfl))
      kernel_rfl
    · as_aux_lemma =>
      refine wpOp_yes ho rfl (fun K' hK => ?_)
      have HK := Lib.hid hK
      clear hK ho
      have e13 := (show x 13 = .bool true from phi_ne (by decide) (hΦ 13 (by decide) (by first | exact hd _ (Array.getElem_mem (i := 0) (by decide)) rfl | exact hd _ (Array.getElem_mem (i := 1) (by decide)) rfl | exact hd _ (Array.getElem_mem (i := 2) (by decide)) rfl | exact hd _ (Array.getElem_mem (i := 3) (by decide)) rfl | exact hd _ (Array.getElem_mem (i := 4) (by decide)) rfl | exact hd _ (Array.getElem_mem (i := 5) (by decide)) rfl)))
      go_simp
      refine HK.out _ _ (InvM.next 14 _ hB hΦ (Below.refl _ _) (upds1 e13) ?_ (phi_mk (by decide) rfl))
      kernel_rfl
    · as_aux_lemma =>
      have e14 := (show x 14 = .bool true from phi_ne (by decide) (hΦ 14 (by decide) (by first | exact hd _ (Array.getElem_mem (i := 0) (by decide)) rfl | exact hd _ (Array.getElem_mem (i := 1) (by decide)) rfl | exact hd _ (Array.getElem_mem (i := 2) (by decide)) rfl | exact hd _ (Array.getElem_mem (i := 3) (by decide)) rfl | exact hd _ (Array.getElem_mem (i := 4) (by decide)) rfl | exact hd _ (Array.getElem_mem (i := 5) (by decide)) rfl)))
      refine wpOp_yes ho (by rw [← upds1 e14]; kernel_rfl) (fun K' hK => ?_)
      clear e14
      have HK := Lib.hid hK
      clear hK ho
      go_simp
      refine HK.out _ _ (InvM.next 15 _ hB hΦ (Below.refl _ _) rfl ?_ (phi_mk (by decide) rfl))
      kernel_rfl
    · as_aux_lemma =>
      have e14 := (show x 14 = .bool true from phi_ne (by decide) (hΦ 14 (by decide) (by first | exact hd _ (Array.getElem_mem (i := 0) (by decide)) rfl | exact hd _ (Array.getElem_mem (i := 1) (by decide)) rfl | exact hd _ (Array.getElem_mem (i := 2) (by decide)) rfl | exact hd _ (Array.getElem_mem (i := 3) (by decide)) rfl | exact hd _ (Array.getElem_mem (i := 4) (by decide)) rfl | exact hd _ (Array.getElem_mem (i := 5) (by decide)) rfl)))
      refine wpOp_yes ho (by rw [← upds1 e14]; kernel_rfl) (fun K' hK => ?_)
      clear e14
      have HK := Lib.hid hK
      clear hK ho
      have e15 := (show x 15 = .int .i64 7 from phi_ne (by decide) (hΦ 15 (by decide) (by first | exact hd _ (Array.getElem_mem (i := 0) (by decide)) rfl | exact hd _ (Array.getElem_mem (i := 1) (by decide)) rfl | exact hd _ (Array.getElem_mem (i := 2) (by decide)) rfl | exact hd _ (Array.getElem_mem (i := 3) (by decide)) rfl | exact hd _ (Array.getElem_mem (i := 4) (by decide)) rfl | exact hd _ (Array.getElem_mem (i := 5) (by decide)) rfl)))
      go_simp
      refine HK.out _ _ (InvM.next 16 _ hB hΦ (Below.refl _ _) (upds1 e15) ?_ (phi_mk (by decide) rfl))
      kernel_rfl
    · as_aux_lemma =>
      refine wpOp_yes ho rfl (fun K' hK => ?_)
      have HK := Lib.hid hK
      clear hK ho
      have e14 := (show x 14 = .bool true from phi_ne (by decide) (hΦ 14 (by decide) (by first | exact hd _ (Array.getElem_mem (i := 0) (by decide)) rfl | exact hd _ (Array.getElem_mem (i := 1) (by decide)) rfl | exact hd _ (Array.getElem_mem (i := 2) (by decide)) rfl | exact hd _ (Array.getElem_mem (i := 3) (by decide)) rfl | exact hd _ (Array.getElem_mem (i := 4) (by decide)) rfl | exact hd _ (Array.getElem_mem (i := 5) (by decide)) rfl)))
      have e16 := (show x 16 = .bool true from phi_ne (by decide) (hΦ 16 (by decide) (by first | exact hd _ (Array.getElem_mem (i := 0) (by decide)) rfl | exact hd _ (Array.getElem_mem (i := 1) (by decide)) rfl | exact hd _ (Array.getElem_mem (i := 2) (by decide)) rfl | exact hd _ (Array.getElem_mem (i := 3) (by decide)) rfl | exact hd _ (Array.getElem_mem (i := 4) (by decide)) rfl | exact hd _ (Array.getElem_mem (i := 5) (by decide)) rfl)))
      go_simp
      refine HK.out _ _ (InvM.next 17 _ hB hΦ (Below.refl _ _) (upds2 e14 e16) ?_ (phi_mk (by decide) rfl))
      kernel_rfl
    · as_aux_lemma =>
      refine wpOp_yes ho rfl (fun K' hK => ?_)
      have HK := Lib.hid hK
      clear hK ho
      have e17 := (show x 17 = .bool true from phi_ne (by decide) (hΦ 17 (by decide) (by first | exact hd _ (Array.getElem_mem (i := 0) (by decide)) rfl | exact hd _ (Array.getElem_mem (i := 1) (by decide)) rfl | exact hd _ (Array.getElem_mem (i := 2) (by decide)) rfl | exact hd _ (Array.getElem_mem (i := 3) (by decide)) rfl | exact hd _ (Array.getElem_mem (i := 4) (by decide)) rfl | exact hd _ (Array.getElem_mem (i := 5) (by decide)) rfl)))
      go_simp
      refine HK.out _ _ (InvM.next 18 _ hB hΦ (Below.refl _ _) (upds1 e17) ?_ (phi_mk (by decide) rfl))
      kernel_rfl
    · as_aux_lemma =>
      have e18 := (show x 18 = .bool true from phi_ne (by decide) (hΦ 18 (by decide) (by first | exact hd _ (Array.getElem_mem (i := 0) (by decide)) rfl | exact hd _ (Array.getElem_mem (i := 1) (by decide)) rfl | exact hd _ (Array.getElem_mem (i := 2) (by decide)) rfl | exact hd _ (Array.getElem_mem (i := 3) (by decide)) rfl | exact hd _ (Array.getElem_mem (i := 4) (by decide)) rfl | exact hd _ (Array.getElem_mem (i := 5) (by decide)) rfl)))
      refine wpOp_yes ho (by rw [← upds1 e18]; kernel_rfl) (fun K' hK => ?_)
      clear e18
      have HK := Lib.hid hK
      clear hK ho
      go_simp
      refine HK.out _ _ (InvM.next 19 _ hB hΦ (Below.refl _ _) rfl ?_ (phi_mk (by decide) rfl))
      kernel_rfl
    · as_aux_lemma =>
      have e18 := (show x 18 = .bool true from phi_ne (by decide) (hΦ 18 (by decide) (by first | exact hd _ (Array.getElem_mem (i := 0) (by decide)) rfl | exact hd _ (Array.getElem_mem (i := 1) (by decide)) rfl | exact hd _ (Array.getElem_mem (i := 2) (by decide)) rfl | exact hd _ (Array.getElem_mem (i := 3) (by decide)) rfl | exact hd _ (Array.getElem_mem (i := 4) (by decide)) rfl | exact hd _ (Array.getElem_mem (i := 5) (by decide)) rfl)))
      refine wpOp_yes ho (by rw [← upds1 e18]; kernel_rfl) (fun K' hK => ?_)
      clear e18
      have HK := Lib.hid hK
      clear hK ho
      have e19 := (show x 19 = .int .i64 7 from phi_ne (by decide) (hΦ 19 (by decide) (by first | exact hd _ (Array.getElem_mem (i := 0) (by decide)) rfl | exact hd _ (Array.getElem_mem (i := 1) (by decide)) rfl | exact hd _ (Array.getElem_mem (i := 2) (by decide)) rfl | exact hd _ (Array.getElem_mem (i := 3) (by decide)) rfl | exact hd _ (Array.getElem_mem (i := 4) (by decide)) rfl | exact hd _ (Array.getElem_mem (i := 5) (by decide)) rfl)))
      go_simp
      refine HK.out _ _ (InvM.next 20 _ hB hΦ (Below.refl _ _) (upds1 e19) ?_ (phi_mk (by decide) rfl))
      kernel_rfl
    · as_aux_lemma =>
      refine wpOp_yes ho rfl (fun K' hK => ?_)
      have HK := Lib.hid hK
      clear hK ho
      have e18 := (show x 18 = .bool true from phi_ne (by decide) (hΦ 18 (by decide) (by first | exact hd _ (Array.getElem_mem (i := 0) (by decide)) rfl | exact hd _ (Array.getElem_mem (i := 1) (by decide)) rfl | exact hd _ (Array.getElem_mem (i := 2) (by decide)) rfl | exact hd _ (Array.getElem_mem (i := 3) (by decide)) rfl | exact hd _ (Array.getElem_mem (i := 4) (by decide)) rfl | exact hd _ (Array.getElem_mem (i := 5) (by decide)) rfl)))
      have e20 := (show x 20 = .bool true from phi_ne (by decide) (hΦ 20 (by decide) (by first | exact hd _ (Array.getElem_mem (i := 0) (by decide)) rfl | exact hd _ (Array.getElem_mem (i := 1) (by decide)) rfl | exact hd _ (Array.getElem_mem (i := 2) (by decide)) rfl | exact hd _ (Array.getElem_mem (i := 3) (by decide)) rfl | exact hd _ (Array.getElem_mem (i := 4) (by decide)) rfl | exact hd _ (Array.getElem_mem (i := 5) (by decide)) rfl)))
      go_simp
      refine HK.out _ _ (InvM.next 21 _ hB hΦ (Below.refl _ _) (upds2 e18 e20) ?_ (phi_mk (by decide) rfl))
      kernel_rfl
    · as_aux_lemma =>
      refine wpOp_yes ho rfl (fun K' hK => ?_)
      have HK := Lib.hid hK
      clear hK ho
      have e21 := (show x 21 = .bool true from phi_ne (by decide) (hΦ 21 (by decide) (by first | exact hd _ (Array.getElem_mem (i := 0) (by decide)) rfl | exact hd _ (Array.getElem_mem (i := 1) (by decide)) rfl | exact hd _ (Array.getElem_mem (i := 2) (by decide)) rfl | exact hd _ (Array.getElem_mem (i := 3) (by decide)) rfl | exact hd _ (Array.getElem_mem (i := 4) (by decide)) rfl | exact hd _ (Array.getElem_mem (i := 5) (by decide)) rfl)))
      go_simp
      refine HK.out _ _ (InvM.next 22 _ hB hΦ (Below.refl _ _) (upds1 e21) ?_ (phi_mk (by decide) rfl))
      kernel_rfl
    · as_aux_lemma =>
      have e22 := (show x 22 = .bool true from phi_ne (by decide) (hΦ 22 (by decide) (by first | exact hd _ (Array.getElem_mem (i := 0) (by decide)) rfl | exact hd _ (Array.getElem_mem (i := 1) (by decide)) rfl | exact hd _ (Array.getElem_mem (i := 2) (by decide)) rfl | exact hd _ (Array.getElem_mem (i := 3) (by decide)) rfl | exact hd _ (Array.getElem_mem (i := 4) (by decide)) rfl | exact hd _ (Array.getElem_mem (i := 5) (by decide)) rfl)))
      refine wpOp_yes ho (by rw [← upds1 e22]; kernel_rfl) (fun K' hK => ?_)
      clear e22
      have HK := Lib.hid hK
      clear hK ho
      go_simp
      refine HK.out _ _ (InvM.next 23 _ hB hΦ (Below.refl _ _) rfl ?_ (phi_mk (by decide) rfl))
      kernel_rfl
    · as_aux_lemma =>
      have e22 := (show x 22 = .bool true from phi_ne (by decide) (hΦ 22 (by decide) (by first | exact hd _ (Array.getElem_mem (i := 0) (by decide)) rfl | exact hd _ (Array.getElem_mem (i := 1) (by decide)) rfl | exact hd _ (Array.getElem_mem (i := 2) (by decide)) rfl | exact hd _ (Array.getElem_mem (i := 3) (by decide)) rfl | exact hd _ (Array.getElem_mem (i := 4) (by decide)) rfl | exact hd _ (Array.getElem_mem (i := 5) (by decide)) rfl)))
      refine wpOp_yes ho (by rw [← upds1 e22]; kernel_rfl) (fun K' hK => ?_)
      clear e22
      have HK := Lib.hid hK
      clear hK ho
      have e23 := (show x 23 = .int .i64 2 from phi_ne (by decide) (hΦ 23 (by decide) (by first | exact hd _ (Array.getElem_mem (i := 0) (by decide)) rfl | exact hd _ (Array.getElem_mem (i := 1) (by decide)) rfl | exact hd _ (Array.getElem_mem (i := 2) (by decide)) rfl | exact hd _ (Array.getElem_mem (i := 3) (by decide)) rfl | exact hd _ (Array.getElem_mem (i := 4) (by decide)) rfl | exact hd _ (Array.getElem_mem (i := 5) (by decide)) rfl)))
      go_simp
      refine HK.out _ _ (InvM.next 24 _ hB hΦ (Below.refl _ _) (upds1 e23) ?_ (phi_mk (by decide) rfl))
      kernel_rfl
    · as_aux_lemma =>
      refine wpOp_yes ho rfl (fun K' hK => ?_)
      have HK := Lib.hid hK
      clear hK ho
      have e22 := (show x 22 = .bool true from phi_ne (by decide) (hΦ 22 (by decide) (by first | exact hd _ (Array.getElem_mem (i := 0) (by decide)) rfl | exact hd _ (Array.getElem_mem (i := 1) (by decide)) rfl | exact hd _ (Array.getElem_mem (i := 2) (by decide)) rfl | exact hd _ (Array.getElem_mem (i := 3) (by decide)) rfl | exact hd _ (Array.getElem_mem (i := 4) (by decide)) rfl | exact hd _ (Array.getElem_mem (i := 5) (by decide)) rfl)))
      have e24 := (show x 24 = .bool true from phi_ne (by decide) (hΦ 24 (by decide) (by first | exact hd _ (Array.getElem_mem (i := 0) (by decide)) rfl | exact hd _ (Array.getElem_mem (i := 1) (by decide)) rfl | exact hd _ (Array.getElem_mem (i := 2) (by decide)) rfl | exact hd _ (Array.getElem_mem (i := 3) (by decide)) rfl | exact hd _ (Array.getElem_mem (i := 4) (by decide)) rfl | exact hd _ (Array.getElem_mem (i := 5) (by decide)) rfl)))
      go_simp
      refine HK.out _ _ (InvM.next 25 _ hB hΦ (Below.refl _ _) (upds2 e22 e24) ?_ (phi_mk (by decide) rfl))
      kernel_rfl
    · as_aux_lemma =>
      refine wpOp_yes ho rfl (fun K' hK => ?_)
      have HK := Lib.hid hK
      clear hK ho
      have e25 := (show x 25 = .bool true from phi_ne (by decide) (hΦ 25 (by decide) (by first | exact hd _ (Array.getElem_mem (i := 0) (by decide)) rfl | exact hd _ (Array.getElem_mem (i := 1) (by decide)) rfl | exact hd _ (Array.getElem_mem (i := 2) (by decide)) rfl | exact hd _ (Array.getElem_mem (i := 3) (by decide)) rfl | exact hd _ (Array.getElem_mem (i := 4) (by decide)) rfl | exact hd _ (Array.getElem_mem (i := 5) (by decide)) rfl)))
      go_simp
      refine HK.out _ _ (InvM.next 26 _ hB hΦ (Below.refl _ _) (upds1 e25) ?_ (phi_mk (by decide) rfl))
      kernel_rfl
    · as_aux_lemma =>
      have e26 := (show x 26 = .bool true from phi_ne (by decide) (hΦ 26 (by decide) (by first | exact hd _ (Array.getElem_mem (i := 0) (by decide)) rfl | exact hd _ (Array.getElem_mem (i := 1) (by decide)) rfl | exact hd _ (Array.getElem_mem (i := 2) (by decide)) rfl | exact hd _ (Array.getElem_mem (i := 3) (by decide)) rfl | exact hd _ (Array.getElem_mem (i := 4) (by decide)) rfl | exact hd _ (Array.getElem_mem (i := 5) (by decide)) rfl)))
      refine wpOp_yes ho (by rw [← upds1 e26]; kernel_rfl) (fun K' hK => ?_)
      clear e26
      have HK := Lib.hid hK
      clear hK ho
      go_simp
      refine HK.out _ _ (InvM.next 27 _ hB hΦ (Below.refl _ _) rfl ?_ (phi_mk (by decide) rfl))
      kernel_rfl
    · as_aux_lemma =>
      have e26 := (show x 26 = .bool true from phi_ne (by decide) (hΦ 26 (by decide) (by first | exact hd _ (Array.getElem_mem (i := 0) (by decide)) rfl | exact hd _ (Array.getElem_mem (i := 1) (by decide)) rfl | exact hd _ (Array.getElem_mem (i := 2) (by decide)) rfl | exact hd _ (Array.getElem_mem (i := 3) (by decide)) rfl | exact hd _ (Array.getElem_mem (i := 4) (by decide)) rfl | exact hd _ (Array.getElem_mem (i := 5) (by decide)) rfl)))
      refine wpOp_yes ho (by rw [← upds1 e26]; kernel_rfl) (fun K' hK => ?_)
      clear e26
      have HK := Lib.hid hK
      clear hK ho
      have e27 := (show x 27 = .int .i64 13 from phi_ne (by decide) (hΦ 27 (by decide) (by first | exact hd _ (Array.getElem_mem (i := 0) (by decide)) rfl | exact hd _ (Array.getElem_mem (i := 1) (by decide)) rfl | exact hd _ (Array.getElem_mem (i := 2) (by decide)) rfl | exact hd _ (Array.getElem_mem (i := 3) (by decide)) rfl | exact hd _ (Array.getElem_mem (i := 4) (by decide)) rfl | exact hd _ (Array.getElem_mem (i := 5) (by decide)) rfl)))
      go_simp
      refine HK.out _ _ (InvM.next 28 _ hB hΦ (Below.refl _ _) (upds1 e27) ?_ (phi_mk (by decide) rfl))
      kernel_rfl
    · as_aux_lemma =>
      refine wpOp_yes ho rfl (fun K' hK => ?_)
      have HK := Lib.hid hK
      clear hK ho
      have e26 := (show x 26 = .bool true from phi_ne (by decide) (hΦ 26 (by decide) (by first | exact hd _ (Array.getElem_mem (i := 0) (by decide)) rfl | exact hd _ (Array.getElem_mem (i := 1) (by decide)) rfl | exact hd _ (Array.getElem_mem (i := 2) (by decide)) rfl | exact hd _ (Array.getElem_mem (i := 3) (by decide)) rfl | exact hd _ (Array.getElem_mem (i := 4) (by decide)) rfl | exact hd _ (Array.getElem_mem (i := 5) (by decide)) rfl)))
      have e28 := (show x 28 = .bool true from phi_ne (by decide) (hΦ 28 (by decide) (by first | exact hd _ (Array.getElem_mem (i := 0) (by decide)) rfl | exact hd _ (Array.getElem_mem (i := 1) (by decide)) rfl | exact hd _ (Array.getElem_mem (i := 2) (by decide)) rfl | exact hd _ (Array.getElem_mem (i := 3) (by decide)) rfl | exact hd _ (Array.getElem_mem (i := 4) (by decide)) rfl | exact hd _ (Array.getElem_mem (i := 5) (by decide)) rfl)))
      go_simp
      refine HK.out _ _ (InvM.next 29 _ hB hΦ (Below.refl _ _) (upds2 e26 e28) ?_ (phi_mk (by decide) rfl))
      kernel_rfl
    · as_aux_lemma =>
      refine wpOp_yes ho rfl (fun K' hK => ?_)
      have HK := Lib.hid hK
      clear hK ho
      have e29 := (show x 29 = .bool true from phi_ne (by decide) (hΦ 29 (by decide) (by first | exact hd _ (Array.getElem_mem (i := 0) (by decide)) rfl | exact hd _ (Array.getElem_mem (i := 1) (by decide)) rfl | exact hd _ (Array.getElem_mem (i := 2) (by decide)) rfl | exact hd _ (Array.getElem_mem (i := 3) (by decide)) rfl | exact hd _ (Array.getElem_mem (i := 4) (by decide)) rfl | exact hd _ (Array.getElem_mem (i := 5) (by decide)) rfl)))
      go_simp
      refine HK.out _ _ (InvM.next 30 _ hB hΦ (Below.refl _ _) (upds1 e29) ?_ (phi_mk (by decide) rfl))
      kernel_rfl
    · as_aux_lemma =>
      have e30 := (show x 30 = .bool true from phi_ne (by decide) (hΦ 30 (by decide) (by first | exact hd _ (Array.getElem_mem (i := 0) (by decide)) rfl | exact hd _ (Array.getElem_mem (i := 1) (by decide)) rfl | exact hd _ (Array.getElem_mem (i := 2) (by decide)) rfl | exact hd _ (Array.getElem_mem (i := 3) (by decide)) rfl | exact hd _ (Array.getElem_mem (i := 4) (by decide)) rfl | exact hd _ (Array.getElem_mem (i := 5) (by decide)) rfl)))
      refine wpOp_yes ho (by rw [← upds1 e30]; kernel_rfl) (fun K' hK => ?_)
      clear e30
      have HK := Lib.hid hK
      clear hK ho
      go_simp
      refine HK.out _ _ (InvM.next 31 _ hB hΦ (Below.refl _ _) rfl ?_ (phi_mk (by decide) rfl))
      kernel_rfl
    · as_aux_lemma =>
      have e30 := (show x 30 = .bool true from phi_ne (by decide) (hΦ 30 (by decide) (by first | exact hd _ (Array.getElem_mem (i := 0) (by decide)) rfl | exact hd _ (Array.getElem_mem (i := 1) (by decide)) rfl | exact hd _ (Array.getElem_mem (i := 2) (by decide)) rfl | exact hd _ (Array.getElem_mem (i := 3) (by decide)) rfl | exact hd _ (Array.getElem_mem (i := 4) (by decide)) rfl | exact hd _ (Array.getElem_mem (i := 5) (by decide)) rfl)))
      refine wpOp_yes ho (by rw [← upds1 e30]; kernel_rfl) (fun K' hK => ?_)
      clear e30
      have HK := Lib.hid hK
      clear hK ho
      have e31 := (show x 31 = .int .i64 0 from phi_ne (by decide) (hΦ 31 (by decide) (by first | exact hd _ (Array.getElem_mem (i := 0) (by decide)) rfl | exact hd _ (Array.getElem_mem (i := 1) (by decide)) rfl | exact hd _ (Array.getElem_mem (i := 2) (by decide)) rfl | exact hd _ (Array.getElem_mem (i := 3) (by decide)) rfl | exact hd _ (Array.getElem_mem (i := 4) (by decide)) rfl | exact hd _ (Array.getElem_mem (i := 5) (by decide)) rfl)))
      go_simp
      refine HK.out _ _ (InvM.next 32 _ hB hΦ (Below.refl _ _) (upds1 e31) ?_ (phi_mk (by decide) rfl))
      kernel_rfl
    · as_aux_lemma =>
      refine wpOp_yes ho rfl (fun K' hK => ?_)
      have HK := Lib.hid hK
      clear hK ho
      have e30 := (show x 30 = .bool true from phi_ne (by decide) (hΦ 30 (by decide) (by first | exact hd _ (Array.getElem_mem (i := 0) (by decide)) rfl | exact hd _ (Array.getElem_mem (i := 1) (by decide)) rfl | exact hd _ (Array.getElem_mem (i := 2) (by decide)) rfl | exact hd _ (Array.getElem_mem (i := 3) (by decide)) rfl | exact hd _ (Array.getElem_mem (i := 4) (by decide)) rfl | exact hd _ (Array.getElem_mem (i := 5) (by decide)) rfl)))
      have e32 := (show x 32 = .bool true from phi_ne (by decide) (hΦ 32 (by decide) (by first | exact hd _ (Array.getElem_mem (i := 0) (by decide)) rfl | exact hd _ (Array.getElem_mem (i := 1) (by decide)) rfl | exact hd _ (Array.getElem_mem (i := 2) (by decide)) rfl | exact hd _ (Array.getElem_mem (i := 3) (by decide)) rfl | exact hd _ (Array.getElem_mem (i := 4) (by decide)) rfl | exact hd _ (Array.getElem_mem (i := 5) (by decide)) rfl)))
      go_simp
      refine HK.out _ _ (InvM.next 33 _ hB hΦ (Below.refl _ _) (upds2 e30 e32) ?_ (phi_mk (by decide) rfl))
      kernel_rfl
    · as_aux_lemma =>
      refine wpOp_yes ho rfl (fun K' hK => ?_)
      have HK := Lib.hid hK
      clear hK ho
      have e33 := (show x 33 = .bool true from phi_ne (by decide) (hΦ 33 (by decide) (by first | exact hd _ (Array.getElem_mem (i := 0) (by decide)) rfl | exact hd _ (Array.getElem_mem (i := 1) (by decide)) rfl | exact hd _ (Array.getElem_mem (i := 2) (by decide)) rfl | exact hd _ (Array.getElem_mem (i := 3) (by decide)) rfl | exact hd _ (Array.getElem_mem (i := 4) (by decide)) rfl | exact hd _ (Array.getElem_mem (i := 5) (by decide)) rfl)))
      go_simp
      refine HK.out _ _ (InvM.next 34 _ hB hΦ (Below.refl _ _) (upds1 e33) ?_ (phi_mk (by decide) rfl))
      kernel_rfl
    · as_aux_lemma =>
      have e34 := (show x 34 = .bool true from phi_ne (by decide) (hΦ 34 (by decide) (by first | exact hd _ (Array.getElem_mem (i := 0) (by decide)) rfl | exact hd _ (Array.getElem_mem (i := 1) (by decide)) rfl | exact hd _ (Array.getElem_mem (i := 2) (by decide)) rfl | exact hd _ (Array.getElem_mem (i := 3) (by decide)) rfl | exact hd _ (Array.getElem_mem (i := 4) (by decide)) rfl | exact hd _ (Array.getElem_mem (i := 5) (by decide)) rfl)))
      refine wpOp_yes ho (by rw [← upds1 e34]; kernel_rfl) (fun K' hK => ?_)
      clear e34
      have HK := Lib.hid hK
      clear hK ho
      go_simp
      refine HK.out _ _ (InvM.next 35 _ hB hΦ (Below.refl _ _) rfl ?_ (phi_mk (by decide) rfl))
      kernel_rfl
    · as_aux_lemma =>
      have e34 := (show x 34 = .bool true from phi_ne (by decide) (hΦ 34 (by decide) (by first | exact hd _ (Array.getElem_mem (i := 0) (by decide)) rfl | exact hd _ (Array.getElem_mem (i := 1) (by decide)) rfl | exact hd _ (Array.getElem_mem (i := 2) (by decide)) rfl | exact hd _ (Array.getElem_mem (i := 3) (by decide)) rfl | exact hd _ (Array.getElem_mem (i := 4) (by decide)) rfl | exact hd _ (Array.getElem_mem (i := 5) (by decide)) rfl)))
      refine wpOp_yes ho (by rw [← upds1 e34]; kernel_rfl) (fun K' hK => ?_)
      clear e34
      have HK := Lib.hid hK
      clear hK ho
      have e35 := (show x 35 = .int .i64 7 from phi_ne (by decide) (hΦ 35 (by decide) (by first | exact hd _ (Array.getElem_mem (i := 0) (by decide)) rfl | exact hd _ (Array.getElem_mem (i := 1) (by decide)) rfl | exact hd _ (Array.getElem_mem (i := 2) (by decide)) rfl | exact hd _ (Array.getElem_mem (i := 3) (by decide)) rfl | exact hd _ (Array.getElem_mem (i := 4) (by decide)) rfl | exact hd _ (Array.getElem_mem (i := 5) (by decide)) rfl)))
      go_simp
      refine HK.out _ _ (InvM.next 36 _ hB hΦ (Below.refl _ _) (upds1 e35) ?_ (phi_mk (by decide) rfl))
      kernel_rfl
    · as_aux_lemma =>
      refine wpOp_yes ho rfl (fun K' hK => ?_)
      have HK := Lib.hid hK
      clear hK ho
      have e34 := (show x 34 = .bool true from phi_ne (by decide) (hΦ 34 (by decide) (by first | exact hd _ (Array.getElem_mem (i := 0) (by decide)) rfl | exact hd _ (Array.getElem_mem (i := 1) (by decide)) rfl | exact hd _ (Array.getElem_mem (i := 2) (by decide)) rfl | exact hd _ (Array.getElem_mem (i := 3) (by decide)) rfl | exact hd _ (Array.getElem_mem (i := 4) (by decide)) rfl | exact hd _ (Array.getElem_mem (i := 5) (by decide)) rfl)))
      have e36 := (show x 36 = .bool true from phi_ne (by decide) (hΦ 36 (by decide) (by first | exact hd _ (Array.getElem_mem (i := 0) (by decide)) rfl | exact hd _ (Array.getElem_mem (i := 1) (by decide)) rfl | exact hd _ (Array.getElem_mem (i := 2) (by decide)) rfl | exact hd _ (Array.getElem_mem (i := 3) (by decide)) rfl | exact hd _ (Array.getElem_mem (i := 4) (by decide)) rfl | exact hd _ (Array.getElem_mem (i := 5) (by decide)) rfl)))
      go_simp
      refine HK.out _ _ (InvM.next 37 _ hB hΦ (Below.refl _ _) (upds2 e34 e36) ?_ (phi_mk (by decide) rfl))
      kernel_rfl
    · as_aux_lemma =>
      refine wpOp_yes ho rfl (fun K' hK => ?_)
      have HK := Lib.hid hK
      clear hK ho
      have e37 := (show x 37 = .bool true from phi_ne (by decide) (hΦ 37 (by decide) (by first | exact hd _ (Array.getElem_mem (i := 0) (by decide)) rfl | exact hd _ (Array.getElem_mem (i := 1) (by decide)) rfl | exact hd _ (Array.getElem_mem (i := 2) (by decide)) rfl | exact hd _ (Array.getElem_mem (i := 3) (by decide)) rfl | exact hd _ (Array.getElem_mem (i := 4) (by decide)) rfl | exact hd _ (Array.getElem_mem (i := 5) (by decide)) rfl)))
      go_simp
      refine HK.out _ _ (InvM.next 38 _ hB hΦ (Below.refl _ _) (upds1 e37) ?_ (phi_mk (by decide) rfl))
      kernel_rfl
    · as_aux_lemma =>
      have e38 := (show x 38 = .bool true from phi_ne (by decide) (hΦ 38 (by decide) (by first | exact hd _ (Array.getElem_mem (i := 0) (by decide)) rfl | exact hd _ (Array.getElem_mem (i := 1) (by decide)) rfl | exact hd _ (Array.getElem_mem (i := 2) (by decide)) rfl | exact hd _ (Array.getElem_mem (i := 3) (by decide)) rfl | exact hd _ (Array.getElem_mem (i := 4) (by decide)) rfl | exact hd _ (Array.getElem_mem (i := 5) (by decide)) rfl)))
      refine wpOp_yes ho (by rw [← upds1 e38]; kernel_rfl) (fun K' hK => ?_)
      clear e38
      have HK := Lib.hid hK
      clear hK ho
      go_simp
      refine HK.out _ _ (InvM.next 39 _ hB hΦ (Below.refl _ _) rfl ?_ (phi_mk (by decide) rfl))
      kernel_rfl
    · as_aux_lemma =>
      have e38 := (show x 38 = .bool true from phi_ne (by decide) (hΦ 38 (by decide) (by first | exact hd _ (Array.getElem_mem (i := 0) (by decide)) rfl | exact hd _ (Array.getElem_mem (i := 1) (by decide)) rfl | exact hd _ (Array.getElem_mem (i := 2) (by decide)) rfl | exact hd _ (Array.getElem_mem (i := 3) (by decide)) rfl | exact hd _ (Array.getElem_mem (i := 4) (by decide)) rfl | exact hd _ (Array.getElem_mem (i := 5) (by decide)) rfl)))
      refine wpOp_yes ho (by rw [← upds1 e38]; kernel_rfl) (fun K' hK => ?_)
      clear e38
      have HK := Lib.hid hK
      clear hK ho
      have e39 := (show x 39 = .int .i64 2 from phi_ne (by decide) (hΦ 39 (by decide) (by first | exact hd _ (Array.getElem_mem (i := 0) (by decide)) rfl | exact hd _ (Array.getElem_mem (i := 1) (by decide)) rfl | exact hd _ (Array.getElem_mem (i := 2) (by decide)) rfl | exact hd _ (Array.getElem_mem (i := 3) (by decide)) rfl | exact hd _ (Array.getElem_mem (i := 4) (by decide)) rfl | exact hd _ (Array.getElem_mem (i := 5) (by decide)) rfl)))
      go_simp
      refine HK.out _ _ (InvM.next 40 _ hB hΦ (Below.refl _ _) (upds1 e39) ?_ (phi_mk (by decide) rfl))
      kernel_rfl
    · as_aux_lemma =>
      refine wpOp_yes ho rfl (fun K' hK => ?_)
      have HK := Lib.hid hK
      clear hK ho
      have e38 := (show x 38 = .bool true from phi_ne (by decide) (hΦ 38 (by decide) (by first | exact hd _ (Array.getElem_mem (i := 0) (by decide)) rfl | exact hd _ (Array.getElem_mem (i := 1) (by decide)) rfl | exact hd _ (Array.getElem_mem (i := 2) (by decide)) rfl | exact hd _ (Array.getElem_mem (i := 3) (by decide)) rfl | exact hd _ (Array.getElem_mem (i := 4) (by decide)) rfl | exact hd _ (Array.getElem_mem (i := 5) (by decide)) rfl)))
      have e40 := (show x 40 = .bool true from phi_ne (by decide) (hΦ 40 (by decide) (by first | exact hd _ (Array.getElem_mem (i := 0) (by decide)) rfl | exact hd _ (Array.getElem_mem (i := 1) (by decide)) rfl | exact hd _ (Array.getElem_mem (i := 2) (by decide)) rfl | exact hd _ (Array.getElem_mem (i := 3) (by decide)) rfl | exact hd _ (Array.getElem_mem (i := 4) (by decide)) rfl | exact hd _ (Array.getElem_mem (i := 5) (by decide)) rfl)))
      go_simp
      refine HK.out _ _ (InvM.next 41 _ hB hΦ (Below.refl _ _) (upds2 e38 e40) ?_ (phi_mk (by decide) rfl))
      kernel_rfl
    · as_aux_lemma =>
      refine wpOp_yes ho rfl (fun K' hK => ?_)
      have HK := Lib.hid hK
      clear hK ho
      have e41 := (show x 41 = .bool true from phi_ne (by decide) (hΦ 41 (by decide) (by first | exact hd _ (Array.getElem_mem (i := 0) (by decide)) rfl | exact hd _ (Array.getElem_mem (i := 1) (by decide)) rfl | exact hd _ (Array.getElem_mem (i := 2) (by decide)) rfl | exact hd _ (Array.getElem_mem (i := 3) (by decide)) rfl | exact hd _ (Array.getElem_mem (i := 4) (by decide)) rfl | exact hd _ (Array.getElem_mem (i := 5) (by decide)) rfl)))
      go_simp
      refine HK.out _ _ (InvM.next 42 _ hB hΦ (Below.refl _ _) (upds1 e41) ?_ (phi_mk (by decide) rfl))
      kernel_rfl
    · as_aux_lemma =>
      have e42 := (show x 42 = .bool true from phi_ne (by decide) (hΦ 42 (by decide) (by first | exact hd _ (Array.getElem_mem (i := 0) (by decide)) rfl | exact hd _ (Array.getElem_mem (i := 1) (by decide)) rfl | exact hd _ (Array.getElem_mem (i := 2) (by decide)) rfl | exact hd _ (Array.getElem_mem (i := 3) (by decide)) rfl | exact hd _ (Array.getElem_mem (i := 4) (by decide)) rfl | exact hd _ (Array.getElem_mem (i := 5) (by decide)) rfl)))
      refine wpOp_yes ho (by rw [← upds1 e42]; kernel_rfl) (fun K' hK => ?_)
      clear e42
      have HK := Lib.hid hK
      clear hK ho
      go_simp
      refine HK.out _ _ (InvM.next 43 _ hB hΦ (Below.refl _ _) rfl ?_ (phi_mk (by decide) rfl))
      kernel_rfl
    · as_aux_lemma =>
      have e42 := (show x 42 = .bool true from phi_ne (by decide) (hΦ 42 (by decide) (by first | exact hd _ (Array.getElem_mem (i := 0) (by decide)) rfl | exact hd _ (Array.getElem_mem (i := 1) (by decide)) rfl | exact hd _ (Array.getElem_mem (i := 2) (by decide)) rfl | exact hd _ (Array.getElem_mem (i := 3) (by decide)) rfl | exact hd _ (Array.getElem_mem (i := 4) (by decide)) rfl | exact hd _ (Array.getElem_mem (i := 5) (by decide)) rfl)))
      refine wpOp_yes ho (by rw [← upds1 e42]; kernel_rfl) (fun K' hK => ?_)
      clear e42
      have HK := Lib.hid hK
      clear hK ho
      have e43 := (show x 43 = .int .i64 0 from phi_ne (by decide) (hΦ 43 (by decide) (by first | exact hd _ (Array.getElem_mem (i := 0) (by decide)) rfl | exact hd _ (Array.getElem_mem (i := 1) (by decide)) rfl | exact hd _ (Array.getElem_mem (i := 2) (by decide)) rfl | exact hd _ (Array.getElem_mem (i := 3) (by decide)) rfl | exact hd _ (Array.getElem_mem (i := 4) (by decide)) rfl | exact hd _ (Array.getElem_mem (i := 5) (by decide)) rfl)))
      go_simp
      refine HK.out _ _ (InvM.next 44 _ hB hΦ (Below.refl _ _) (upds1 e43) ?_ (phi_mk (by decide) rfl))
      kernel_rfl
    · as_aux_lemma =>
      refine wpOp_yes ho rfl (fun K' hK => ?_)
      have HK := Lib.hid hK
      clear hK ho
      have e42 := (show x 42 = .bool true from phi_ne (by decide) (hΦ 42 (by decide) (by first | exact hd _ (Array.getElem_mem (i := 0) (by decide)) rfl | exact hd _ (Array.getElem_mem (i := 1) (by decide)) rfl | exact hd _ (Array.getElem_mem (i := 2) (by decide)) rfl | exact hd _ (Array.getElem_mem (i := 3) (by decide)) rfl | exact hd _ (Array.getElem_mem (i := 4) (by decide)) rfl | exact hd _ (Array.getElem_mem (i := 5) (by decide)) rfl)))
      have e44 := (show x 44 = .bool true from phi_ne (by decide) (hΦ 44 (by decide) (by first | exact hd _ (Array.getElem_mem (i := 0) (by decide)) rfl | exact hd _ (Array.getElem_mem (i := 1) (by decide)) rfl | exact hd _ (Array.getElem_mem (i := 2) (by decide)) rfl | exact hd _ (Array.getElem_mem (i := 3) (by decide)) rfl | exact hd _ (Array.getElem_mem (i := 4) (by decide)) rfl | exact hd _ (Array.getElem_mem (i := 5) (by decide)) rfl)))
      go_simp
      refine HK.out _ _ (InvM.next 45 _ hB hΦ (Below.refl _ _) (upds2 e42 e44) ?_ (phi_mk (by decide) rfl))
      kernel_rfl
    · as_aux_lemma =>
      refine wpOp_yes ho rfl (fun K' hK => ?_)
      have HK := Lib.hid hK
      clear hK ho
      have e45 := (show x 45 = .bool true from phi_ne (by decide) (hΦ 45 (by decide) (by first | exact hd _ (Array.getElem_mem (i := 0) (by decide)) rfl | exact hd _ (Array.getElem_mem (i := 1) (by decide)) rfl | exact hd _ (Array.getElem_mem (i := 2) (by decide)) rfl | exact hd _ (Array.getElem_mem (i := 3) (by decide)) rfl | exact hd _ (Array.getElem_mem (i := 4) (by decide)) rfl | exact hd _ (Array.getElem_mem (i := 5) (by decide)) rfl)))
      go_simp
      refine HK.out _ _ (InvM.next 46 _ hB hΦ (Below.refl _ _) (upds1 e45) ?_ (phi_mk (by decide) rfl))
      kernel_rfl
    · as_aux_lemma =>
      have e46 := (show x 46 = .bool true from phi_ne (by decide) (hΦ 46 (by decide) (by first | exact hd _ (Array.getElem_mem (i := 0) (by decide)) rfl | exact hd _ (Array.getElem_mem (i := 1) (by decide)) rfl | exact hd _ (Array.getElem_mem (i := 2) (by decide)) rfl | exact hd _ (Array.getElem_mem (i := 3) (by decide)) rfl | exact hd _ (Array.getElem_mem (i := 4) (by decide)) rfl | exact hd _ (Array.getElem_mem (i := 5) (by decide)) rfl)))
      refine wpOp_yes ho (by rw [← upds1 e46]; kernel_rfl) (fun K' hK => ?_)
      clear e46
      have HK := Lib.hid hK
      clear hK ho
      go_simp
      refine HK.out _ _ (InvM.next 47 _ hB hΦ (Below.refl _ _) rfl ?_ (phi_mk (by decide) rfl))
      kernel_rfl
    · as_aux_lemma =>
      have e46 := (show x 46 = .bool true from phi_ne (by decide) (hΦ 46 (by decide) (by first | exact hd _ (Array.getElem_mem (i := 0) (by decide)) rfl | exact hd _ (Array.getElem_mem (i := 1) (by decide)) rfl | exact hd _ (Array.getElem_mem (i := 2) (by decide)) rfl | exact hd _ (Array.getElem_mem (i := 3) (by decide)) rfl | exact hd _ (Array.getElem_mem (i := 4) (by decide)) rfl | exact hd _ (Array.getElem_mem (i := 5) (by decide)) rfl)))
      refine wpOp_yes ho (by rw [← upds1 e46]; kernel_rfl) (fun K' hK => ?_)
      clear e46
      have HK := Lib.hid hK
      clear hK ho
      have e47 := (show x 47 = .int .i64 3 from phi_ne (by decide) (hΦ 47 (by decide) (by first | exact hd _ (Array.getElem_mem (i := 0) (by decide)) rfl | exact hd _ (Array.getElem_mem (i := 1) (by decide)) rfl | exact hd _ (Array.getElem_mem (i := 2) (by decide)) rfl | exact hd _ (Array.getElem_mem (i := 3) (by decide)) rfl | exact hd _ (Array.getElem_mem (i := 4) (by decide)) rfl | exact hd _ (Array.getElem_mem (i := 5) (by decide)) rfl)))
      go_simp
      refine HK.out _ _ (InvM.next 48 _ hB hΦ (Below.refl _ _) (upds1 e47) ?_ (phi_mk (by decide) rfl))
      kernel_rfl
    · as_aux_lemma =>
      refine wpOp_yes ho rfl (fun K' hK => ?_)
      have HK := Lib.hid hK
      clear hK ho
      have e46 := (show x 46 = .bool true from phi_ne (by decide) (hΦ 46 (by decide) (by first | exact hd _ (Array.getElem_mem (i := 0) (by decide)) rfl | exact hd _ (Array.getElem_mem (i := 1) (by decide)) rfl | exact hd _ (Array.getElem_mem (i := 2) (by decide)) rfl | exact hd _ (Array.getElem_mem (i := 3) (by decide)) rfl | exact hd _ (Array.getElem_mem (i := 4) (by decide)) rfl | exact hd _ (Array.getElem_mem (i := 5) (by decide)) rfl)))
      have e48 := (show x 48 = .bool true from phi_ne (by decide) (hΦ 48 (by decide) (by first | exact hd _ (Array.getElem_mem (i := 0) (by decide)) rfl | exact hd _ (Array.getElem_mem (i := 1) (by decide)) rfl | exact hd _ (Array.getElem_mem (i := 2) (by decide)) rfl | exact hd _ (Array.getElem_mem (i := 3) (by decide)) rfl | exact hd _ (Array.getElem_mem (i := 4) (by decide)) rfl | exact hd _ (Array.getElem_mem (i := 5) (by decide)) rfl)))
      go_simp
      refine HK.out _ _ (InvM.next 49 _ hB hΦ (Below.refl _ _) (upds2 e46 e48) ?_ (phi_mk (by decide) rfl))
      kernel_rfl
    · as_aux_lemma =>
      refine wpOp_yes ho rfl (fun K' hK => ?_)
      have HK := Lib.hid hK
      clear hK ho
      have e49 := (show x 49 = .bool true from phi_ne (by decide) (hΦ 49 (by decide) (by first | exact hd _ (Array.getElem_mem (i := 0) (by decide)) rfl | exact hd _ (Array.getElem_mem (i := 1) (by decide)) rfl | exact hd _ (Array.getElem_mem (i := 2) (by decide)) rfl | exact hd _ (Array.getElem_mem (i := 3) (by decide)) rfl | exact hd _ (Array.getElem_mem (i := 4) (by decide)) rfl | exact hd _ (Array.getElem_mem (i := 5) (by decide)) rfl)))
      go_simp
      refine HK.out _ _ (InvM.next 50 _ hB hΦ (Below.refl _ _) (upds1 e49) ?_ (phi_mk (by decide) rfl))
      kernel_rfl
    · as_aux_lemma =>
      have e50 := (show x 50 = .bool true from phi_ne (by decide) (hΦ 50 (by decide) (by first | exact hd _ (Array.getElem_mem (i := 0) (by decide)) rfl | exact hd _ (Array.getElem_mem (i := 1) (by decide)) rfl | exact hd _ (Array.getElem_mem (i := 2) (by decide)) rfl | exact hd _ (Array.getElem_mem (i := 3) (by decide)) rfl | exact hd _ (Array.getElem_mem (i := 4) (by decide)) rfl | exact hd _ (Array.getElem_mem (i := 5) (by decide)) rfl)))
      refine wpOp_yes ho (by rw [← upds1 e50]; kernel_rfl) (fun K' hK => ?_)
      clear e50
      have HK := Lib.hid hK
      clear hK ho
      go_simp
      refine HK.out _ _ (InvM.next 51 _ hB hΦ (Below.refl _ _) rfl ?_ (phi_mk (by decide) rfl))
      kernel_rfl
    · as_aux_lemma =>
      have e50 := (show x 50 = .bool true from phi_ne (by decide) (hΦ 50 (by decide) (by first | exact hd _ (Array.getElem_mem (i := 0) (by decide)) rfl | exact hd _ (Array.getElem_mem (i := 1) (by decide)) rfl | exact hd _ (Array.getElem_mem (i := 2) (by decide)) rfl | exact hd _ (Array.getElem_mem (i := 3) (by decide)) rfl | exact hd _ (Array.getElem_mem (i := 4) (by decide)) rfl | exact hd _ (Array.getElem_mem (i := 5) (by decide)) rfl)))
      refine wpOp_yes ho (by rw [← upds1 e50]; kernel_rfl) (fun K' hK => ?_)
      clear e50
      have HK := Lib.hid hK
      clear hK ho
      have e51 := (show x 51 = .int .i64 8 from phi_ne (by decide) (hΦ 51 (by decide) (by first | exact hd _ (Array.getElem_mem (i := 0) (by decide)) rfl | exact hd _ (Array.getElem_mem (i := 1) (by decide)) rfl | exact hd _ (Array.getElem_mem (i := 2) (by decide)) rfl | exact hd _ (Array.getElem_mem (i := 3) (by decide)) rfl | exact hd _ (Array.getElem_mem (i := 4) (by decide)) rfl | exact hd _ (Array.getElem_mem (i := 5) (by decide)) rfl)))
      go_simp
      refine HK.out _ _ (InvM.next 52 _ hB hΦ (Below.refl _ _) (upds1 e51) ?_ (phi_mk (by decide) rfl))
      kernel_rfl
    · as_aux_lemma =>
      refine wpOp_yes ho rfl (fun K' hK => ?_)
      have HK := Lib.hid hK
      clear hK ho
      have e50 := (show x 50 = .bool true from phi_ne (by decide) (hΦ 50 (by decide) (by first | exact hd _ (Array.getElem_mem (i := 0) (by decide)) rfl | exact hd _ (Array.getElem_mem (i := 1) (by decide)) rfl | exact hd _ (Array.getElem_mem (i := 2) (by decide)) rfl | exact hd _ (Array.getElem_mem (i := 3) (by decide)) rfl | exact hd _ (Array.getElem_mem (i := 4) (by decide)) rfl | exact hd _ (Array.getElem_mem (i := 5) (by decide)) rfl)))
      have e52 := (show x 52 = .bool true from phi_ne (by decide) (hΦ 52 (by decide) (by first | exact hd _ (Array.getElem_mem (i := 0) (by decide)) rfl | exact hd _ (Array.getElem_mem (i := 1) (by decide)) rfl | exact hd _ (Array.getElem_mem (i := 2) (by decide)) rfl | exact hd _ (Array.getElem_mem (i := 3) (by decide)) rfl | exact hd _ (Array.getElem_mem (i := 4) (by decide)) rfl | exact hd _ (Array.getElem_mem (i := 5) (by decide)) rfl)))
      go_simp
      refine HK.out _ _ (InvM.next 53 _ hB hΦ (Below.refl _ _) (upds2 e50 e52) ?_ (phi_mk (by decide) rfl))
      kernel_rfl
    · as_aux_lemma =>
      refine wpOp_yes ho rfl (fun K' hK => ?_)
      have HK := Lib.hid hK
      clear hK ho
      have e53 := (show x 53 = .bool true from phi_ne (by decide) (hΦ 53 (by decide) (by first | exact hd _ (Array.getElem_mem (i := 0) (by decide)) rfl | exact hd _ (Array.getElem_mem (i := 1) (by decide)) rfl | exact hd _ (Array.getElem_mem (i := 2) (by decide)) rfl | exact hd _ (Array.getElem_mem (i := 3) (by decide)) rfl | exact hd _ (Array.getElem_mem (i := 4) (by decide)) rfl | exact hd _ (Array.getElem_mem (i := 5) (by decide)) rfl)))
      go_simp
      refine HK.out _ _ (InvM.next 54 _ hB hΦ (Below.refl _ _) (upds1 e53) ?_ (phi_mk (by decide) rfl))
      kernel_rfl
    · as_aux_lemma =>
      have e54 := (show x 54 = .bool true from phi_ne (by decide) (hΦ 54 (by decide) (by first | exact hd _ (Array.getElem_mem (i := 0) (by decide)) rfl | exact hd _ (Array.getElem_mem (i := 1) (by decide)) rfl | exact hd _ (Array.getElem_mem (i := 2) (by decide)) rfl | exact hd _ (Array.getElem_mem (i := 3) (by decide)) rfl | exact hd _ (Array.getElem_mem (i := 4) (by decide)) rfl | exact hd _ (Array.getElem_mem (i := 5) (by decide)) rfl)))
      refine wpOp_yes ho (by rw [← upds1 e54]; kernel_rfl) (fun K' hK => ?_)
      clear e54
      have HK := Lib.hid hK
      clear hK ho
      go_simp
      refine HK.out _ _ (InvM.next 55 _ hB hΦ (Below.refl _ _) rfl ?_ (phi_mk (by decide) rfl))
      kernel_rfl
    · as_aux_lemma =>
      have e54 := (show x 54 = .bool true from phi_ne (by decide) (hΦ 54 (by decide) (by first | exact hd _ (Array.getElem_mem (i := 0) (by decide)) rfl | exact hd _ (Array.getElem_mem (i := 1) (by decide)) rfl | exact hd _ (Array.getElem_mem (i := 2) (by decide)) rfl | exact hd _ (Array.getElem_mem (i := 3) (by decide)) rfl | exact hd _ (Array.getElem_mem (i := 4) (by decide)) rfl | exact hd _ (Array.getElem_mem (i := 5) (by decide)) rfl)))
      refine wpOp_yes ho (by rw [← upds1 e54]; kernel_rfl) (fun K' hK => ?_)
      clear e54
      have HK := Lib.hid hK
      clear hK ho
      have e55 := (show x 55 = .int .i64 3 from phi_ne (by decide) (hΦ 55 (by decide) (by first | exact hd _ (Array.getElem_mem (i := 0) (by decide)) rfl | exact hd _ (Array.getElem_mem (i := 1) (by decide)) rfl | exact hd _ (Array.getElem_mem (i := 2) (by decide)) rfl | exact hd _ (Array.getElem_mem (i := 3) (by decide)) rfl | exact hd _ (Array.getElem_mem (i := 4) (by decide)) rfl | exact hd _ (Array.getElem_mem (i := 5) (by decide)) rfl)))
      go_simp
      refine HK.out _ _ (InvM.next 56 _ hB hΦ (Below.refl _ _) (upds1 e55) ?_ (phi_mk (by decide) rfl))
      kernel_rfl
    · as_aux_lemma =>
      refine wpOp_yes ho rfl (fun K' hK => ?_)
      have HK := Lib.hid hK
      clear hK ho
      have e54 := (show x 54 = .bool true from phi_ne (by decide) (hΦ 54 (by decide) (by first | exact hd _ (Array.getElem_mem (i := 0) (by decide)) rfl | exact hd _ (Array.getElem_mem (i := 1) (by decide)) rfl | exact hd _ (Array.getElem_mem (i := 2) (by decide)) rfl | exact hd _ (Array.getElem_mem (i := 3) (by decide)) rfl | exact hd _ (Array.getElem_mem (i := 4) (by decide)) rfl | exact hd _ (Array.getElem_mem (i := 5) (by decide)) rfl)))
      have e56 := (show x 56 = .bool true from phi_ne (by decide) (hΦ 56 (by decide) (by first | exact hd _ (Array.getElem_mem (i := 0) (by decide)) rfl | exact hd _ (Array.getElem_mem (i := 1) (by decide)) rfl | exact hd _ (Array.getElem_mem (i := 2) (by decide)) rfl | exact hd _ (Array.getElem_mem (i := 3) (by decide)) rfl | exact hd _ (Array.getElem_mem (i := 4) (by decide)) rfl | exact hd _ (Array.getElem_mem (i := 5) (by decide)) rfl)))
      go_simp
      refine HK.out _ _ (InvM.next 57 _ hB hΦ (Below.refl _ _) (upds2 e54 e56) ?_ (phi_mk (by decide) rfl))
      kernel_rfl
    · as_aux_lemma =>
      refine wpOp_yes ho rfl (fun K' hK => ?_)
      have HK := Lib.hid hK
      clear hK ho
      have e57 := (show x 57 = .bool true from phi_ne (by decide) (hΦ 57 (by decide) (by first | exact hd _ (Array.getElem_mem (i := 0) (by decide)) rfl | exact hd _ (Array.getElem_mem (i := 1) (by decide)) rfl | exact hd _ (Array.getElem_mem (i := 2) (by decide)) rfl | exact hd _ (Array.getElem_mem (i := 3) (by decide)) rfl | exact hd _ (Array.getElem_mem (i := 4) (by decide)) rfl | exact hd _ (Array.getElem_mem (i := 5) (by decide)) rfl)))
      go_simp
      refine HK.out _ _ (InvM.next 58 _ hB hΦ (Below.refl _ _) (upds1 e57) ?_ (phi_mk (by decide) rfl))
      kernel_rfl
    · as_aux_lemma =>
      have e58 := (show x 58 = .bool true from phi_ne (by decide) (hΦ 58 (by decide) (by first | exact hd _ (Array.getElem_mem (i := 0) (by decide)) rfl | exact hd _ (Array.getElem_mem (i := 1) (by decide)) rfl | exact hd _ (Array.getElem_mem (i := 2) (by decide)) rfl | exact hd _ (Array.getElem_mem (i := 3) (by decide)) rfl | exact hd _ (Array.getElem_mem (i := 4) (by decide)) rfl | exact hd _ (Array.getElem_mem (i := 5) (by decide)) rfl)))
      refine wpOp_yes ho (by rw [← upds1 e58]; kernel_rfl) (fun K' hK => ?_)
      clear e58
      have HK := Lib.hid hK
      clear hK ho
      go_simp
      refine HK.out _ _ (InvM.next 59 _ hB hΦ (Below.refl _ _) rfl ?_ (phi_mk (by decide) rfl))
      kernel_rfl
    · as_aux_lemma =>
      have e58 := (show x 58 = .bool true from phi_ne (by decide) (hΦ 58 (by decide) (by first | exact hd _ (Array.getElem_mem (i := 0) (by decide)) rfl | exact hd _ (Array.getElem_mem (i := 1) (by decide)) rfl | exact hd _ (Array.getElem_mem (i := 2) (by decide)) rfl | exact hd _ (Array.getElem_mem (i := 3) (by decide)) rfl | exact hd _ (Array.getElem_mem (i := 4) (by decide)) rfl | exact hd _ (Array.getElem_mem (i := 5) (by decide)) rfl)))
      refine wpOp_yes ho (by rw [← upds1 e58]; kernel_rfl) (fun K' hK => ?_)
      clear e58
      have HK := Lib.hid hK
      clear hK ho
      have e59 := (show x 59 = .int .i64 7 from phi_ne (by decide) (hΦ 59 (by decide) (by first | exact hd _ (Array.getElem_mem (i := 0) (by decide)) rfl | exact hd _ (Array.getElem_mem (i := 1) (by decide)) rfl | exact hd _ (Array.getElem_mem (i := 2) (by decide)) rfl | exact hd _ (Array.getElem_mem (i := 3) (by decide)) rfl | exact hd _ (Array.getElem_mem (i := 4) (by decide)) rfl | exact hd _ (Array.getElem_mem (i := 5) (by decide)) rfl)))
      go_simp
      refine HK.out _ _ (InvM.next 60 _ hB hΦ (Below.refl _ _) (upds1 e59) ?_ (phi_mk (by decide) rfl))
      kernel_rfl
    · as_aux_lemma =>
      refine wpOp_yes ho rfl (fun K' hK => ?_)
      have HK := Lib.hid hK
      clear hK ho
      have e58 := (show x 58 = .bool true from phi_ne (by decide) (hΦ 58 (by decide) (by first | exact hd _ (Array.getElem_mem (i := 0) (by decide)) rfl | exact hd _ (Array.getElem_mem (i := 1) (by decide)) rfl | exact hd _ (Array.getElem_mem (i := 2) (by decide)) rfl | exact hd _ (Array.getElem_mem (i := 3) (by decide)) rfl | exact hd _ (Array.getElem_mem (i := 4) (by decide)) rfl | exact hd _ (Array.getElem_mem (i := 5) (by decide)) rfl)))
      have e60 := (show x 60 = .bool true from phi_ne (by decide) (hΦ 60 (by decide) (by first | exact hd _ (Array.getElem_mem (i := 0) (by decide)) rfl | exact hd _ (Array.getElem_mem (i := 1) (by decide)) rfl | exact hd _ (Array.getElem_mem (i := 2) (by decide)) rfl | exact hd _ (Array.getElem_mem (i := 3) (by decide)) rfl | exact hd _ (Array.getElem_mem (i := 4) (by decide)) rfl | exact hd _ (Array.getElem_mem (i := 5) (by decide)) rfl)))
      go_simp
      refine HK.out _ _ (InvM.next 61 _ hB hΦ (Below.refl _ _) (upds2 e58 e60) ?_ (phi_mk (by decide) rfl))
      kernel_rfl
    · as_aux_lemma =>
      refine wpOp_yes ho rfl (fun K' hK => ?_)
      have HK := Lib.hid hK
      clear hK ho
      have e61 := (show x 61 = .bool true from phi_ne (by decide) (hΦ 61 (by decide) (by first | exact hd _ (Array.getElem_mem (i := 0) (by decide)) rfl | exact hd _ (Array.getElem_mem (i := 1) (by decide)) rfl | exact hd _ (Array.getElem_mem (i := 2) (by decide)) rfl | exact hd _ (Array.getElem_mem (i := 3) (by decide)) rfl | exact hd _ (Array.getElem_mem (i := 4) (by decide)) rfl | exact hd _ (Array.getElem_mem (i := 5) (by decide)) rfl)))
      go_simp
      refine HK.out _ _ (InvM.next 62 _ hB hΦ (Below.refl _ _) (upds1 e61) ?_ (phi_mk (by decide) rfl))
      kernel_rfl
    · as_aux_lemma =>
      have e62 := (show x 62 = .bool true from phi_ne (by decide) (hΦ 62 (by decide) (by first | exact hd _ (Array.getElem_mem (i := 0) (by decide)) rfl | exact hd _ (Array.getElem_mem (i := 1) (by decide)) rfl | exact hd _ (Array.getElem_mem (i := 2) (by decide)) rfl | exact hd _ (Array.getElem_mem (i := 3) (by decide)) rfl | exact hd _ (Array.getElem_mem (i := 4) (by decide)) rfl | exact hd _ (Array.getElem_mem (i := 5) (by decide)) rfl)))
      refine wpOp_yes ho (by rw [← upds1 e62]; kernel_rfl) (fun K' hK => ?_)
      clear e62
      have HK := Lib.hid hK
      clear hK ho
      go_simp
      refine HK.out _ _ (InvM.next 63 _ hB hΦ (Below.refl _ _) rfl ?_ (phi_mk (by decide) rfl))
      kernel_rfl
    · as_aux_lemma =>
      have e62 := (show x 62 = .bool true from phi_ne (by decide) (hΦ 62 (by decide) (by first | exact hd _ (Array.getElem_mem (i := 0) (by decide)) rfl | exact hd _ (Array.getElem_mem (i := 1) (by decide)) rfl | exact hd _ (Array.getElem_mem (i := 2) (by decide)) rfl | exact hd _ (Array.getElem_mem (i := 3) (by decide)) rfl | exact hd _ (Array.getElem_mem (i := 4) (by decide)) rfl | exact hd _ (Array.getElem_mem (i := 5) (by decide)) rfl)))
      refine wpOp_yes ho (by rw [← upds1 e62]; kernel_rfl) (fun K' hK => ?_)
      clear e62
      have HK := Lib.hid hK
      clear hK ho
      have e63 := (show x 63 = .int .i64 0 from phi_ne (by decide) (hΦ 63 (by decide) (by first | exact hd _ (Array.getElem_mem (i := 0) (by decide)) rfl | exact hd _ (Array.getElem_mem (i := 1) (by decide)) rfl | exact hd _ (Array.getElem_mem (i := 2) (by decide)) rfl | exact hd _ (Array.getElem_mem (i := 3) (by decide)) rfl | exact hd _ (Array.getElem_mem (i := 4) (by decide)) rfl | exact hd _ (Array.getElem_mem (i := 5) (by decide)) rfl)))
      go_simp
      refine HK.out _ _ (InvM.next 64 _ hB hΦ (Below.refl _ _) (upds1 e63) ?_ (phi_mk (by decide) rfl))
      kernel_rfl
    · as_aux_lemma =>
      refine wpOp_yes ho rfl (fun K' hK => ?_)
      have HK := Lib.hid hK
      clear hK ho
      have e62 := (show x 62 = .bool true from phi_ne (by decide) (hΦ 62 (by decide) (by first | exact hd _ (Array.getElem_mem (i := 0) (by decide)) rfl | exact hd _ (Array.getElem_mem (i := 1) (by decide)) rfl | exact hd _ (Array.getElem_mem (i := 2) (by decide)) rfl | exact hd _ (Array.getElem_mem (i := 3) (by decide)) rfl | exact hd _ (Array.getElem_mem (i := 4) (by decide)) rfl | exact hd _ (Array.getElem_mem (i := 5) (by decide)) rfl)))
      have e64 := (show x 64 = .bool true from phi_ne (by decide) (hΦ 64 (by decide) (by first | exact hd _ (Array.getElem_mem (i := 0) (by decide)) rfl | exact hd _ (Array.getElem_mem (i := 1) (by decide)) rfl | exact hd _ (Array.getElem_mem (i := 2) (by decide)) rfl | exact hd _ (Array.getElem_mem (i := 3) (by decide)) rfl | exact hd _ (Array.getElem_mem (i := 4) (by decide)) rfl | exact hd _ (Array.getElem_mem (i := 5) (by decide)) rfl)))
      go_simp
      refine HK.out _ _ (InvM.next 65 _ hB hΦ (Below.refl _ _) (upds2 e62 e64) ?_ (phi_mk (by decide) rfl))
      kernel_rfl
    · as_aux_lemma =>
      refine wpOp_yes ho rfl (fun K' hK => ?_)
      have HK := Lib.hid hK
      clear hK ho
      have e65 := (show x 65 = .bool true from phi_ne (by decide) (hΦ 65 (by decide) (by first | exact hd _ (Array.getElem_mem (i := 0) (by decide)) rfl | exact hd _ (Array.getElem_mem (i := 1) (by decide)) rfl | exact hd _ (Array.getElem_mem (i := 2) (by decide)) rfl | exact hd _ (Array.getElem_mem (i := 3) (by decide)) rfl | exact hd _ (Array.getElem_mem (i := 4) (by decide)) rfl | exact hd _ (Array.getElem_mem (i := 5) (by decide)) rfl)))
      go_simp
      refine HK.out _ _ (InvM.next 66 _ hB hΦ (Below.refl _ _) (upds1 e65) ?_ (phi_mk (by decide) rfl))
      kernel_rfl
    · as_aux_lemma =>
      have e66 := (show x 66 = .bool true from phi_ne (by decide) (hΦ 66 (by decide) (by first | exact hd _ (Array.getElem_mem (i := 0) (by decide)) rfl | exact hd _ (Array.getElem_mem (i := 1) (by decide)) rfl | exact hd _ (Array.getElem_mem (i := 2) (by decide)) rfl | exact hd _ (Array.getElem_mem (i := 3) (by decide)) rfl | exact hd _ (Array.getElem_mem (i := 4) (by decide)) rfl | exact hd _ (Array.getElem_mem (i := 5) (by decide)) rfl)))
      refine wpOp_yes ho (by rw [← upds1 e66]; kernel_rfl) (fun K' hK => ?_)
      clear e66
      have HK := Lib.hid hK
      clear hK ho
      go_simp
      refine HK.out _ _ (InvM.next 67 _ hB hΦ (Below.refl _ _) rfl ?_ (phi_mk (by decide) rfl))
      kernel_rfl
    · as_aux_lemma =>
      have e66 := (show x 66 = .bool true from phi_ne (by decide) (hΦ 66 (by decide) (by first | exact hd _ (Array.getElem_mem (i := 0) (by decide)) rfl | exact hd _ (Array.getElem_mem (i := 1) (by decide)) rfl | exact hd _ (Array.getElem_mem (i := 2) (by decide)) rfl | exact hd _ (Array.getElem_mem (i := 3) (by decide)) rfl | exact hd _ (Array.getElem_mem (i := 4) (by decide)) rfl | exact hd _ (Array.getElem_mem (i := 5) (by decide)) rfl)))
      refine wpOp_yes ho (by rw [← upds1 e66]; kernel_rfl) (fun K' hK => ?_)
      clear e66
      have HK := Lib.hid hK
      clear hK ho
      have e67 := (show x 67 = .int .i64 2 from phi_ne (by decide) (hΦ 67 (by decide) (by first | exact hd _ (Array.getElem_mem (i := 0) (by decide)) rfl | exact hd _ (Array.getElem_mem (i := 1) (by decide)) rfl | exact hd _ (Array.getElem_mem (i := 2) (by decide)) rfl | exact hd _ (Array.getElem_mem (i := 3) (by decide)) rfl | exact hd _ (Array.getElem_mem (i := 4) (by decide)) rfl | exact hd _ (Array.getElem_mem (i := 5) (by decide)) rfl)))
      go_simp
      refine HK.out _ _ (InvM.next 68 _ hB hΦ (Below.refl _ _) (upds1 e67) ?_ (phi_mk (by decide) rfl))
      kernel_rfl
    · as_aux_lemma =>
      refine wpOp_yes ho rfl (fun K' hK => ?_)
      have HK := Lib.hid hK
      clear hK ho
      have e66 := (show x 66 = .bool true from phi_ne (by decide) (hΦ 66 (by decide) (by first | exact hd _ (Array.getElem_mem (i := 0) (by decide)) rfl | exact hd _ (Array.getElem_mem (i := 1) (by decide)) rfl | exact hd _ (Array.getElem_mem (i := 2) (by decide)) rfl | exact hd _ (Array.getElem_mem (i := 3) (by decide)) rfl | exact hd _ (Array.getElem_mem (i := 4) (by decide)) rfl | exact hd _ (Array.getElem_mem (i := 5) (by decide)) rfl)))
      have e68 := (show x 68 = .bool true from phi_ne (by decide) (hΦ 68 (by decide) (by first | exact hd _ (Array.getElem_mem (i := 0) (by decide)) rfl | exact hd _ (Array.getElem_mem (i := 1) (by decide)) rfl | exact hd _ (Array.getElem_mem (i := 2) (by decide)) rfl | exact hd _ (Array.getElem_mem (i := 3) (by decide)) rfl | exact hd _ (Array.getElem_mem (i := 4) (by decide)) rfl | exact hd _ (Array.getElem_mem (i := 5) (by decide)) rfl)))
      go_simp
      refine HK.out _ _ (InvM.next 69 _ hB hΦ (Below.refl _ _) (upds2 e66 e68) ?_ (phi_mk (by decide) rfl))
      kernel_rfl
    · as_aux_lemma =>
      refine wpOp_yes ho rfl (fun K' hK => ?_)
      have HK := Lib.hid hK
      clear hK ho
      have e69 := (show x 69 = .bool true from phi_ne (by decide) (hΦ 69 (by decide) (by first | exact hd _ (Array.getElem_mem (i := 0) (by decide)) rfl | exact hd _ (Array.getElem_mem (i := 1) (by decide)) rfl | exact hd _ (Array.getElem_mem (i := 2) (by decide)) rfl | exact hd _ (Array.getElem_mem (i := 3) (by decide)) rfl | exact hd _ (Array.getElem_mem (i := 4) (by decide)) rfl | exact hd _ (Array.getElem_mem (i := 5) (by decide)) rfl)))
      go_simp
      refine HK.out _ _ (InvM.next 70 _ hB hΦ (Below.refl _ _) (upds1 e69) ?_ (phi_mk (by decide) rfl))
      kernel_rfl
    · as_aux_lemma =>
      have e70 := (show x 70 = .bool true from phi_ne (by decide) (hΦ 70 (by decide) (by first | exact hd _ (Array.getElem_mem (i := 0) (by decide)) rfl | exact hd _ (Array.getElem_mem (i := 1) (by decide)) rfl | exact hd _ (Array.getElem_mem (i := 2) (by decide)) rfl | exact hd _ (Array.getElem_mem (i := 3) (by decide)) rfl | exact hd _ (Array.getElem_mem (i := 4) (by decide)) rfl | exact hd _ (Array.getElem_mem (i := 5) (by decide)) rfl)))
      refine wpOp_yes ho (by rw [← upds1 e70]; kernel_rfl) (fun K' hK => ?_)
      clear e70
      have HK := Lib.hid hK
      clear hK ho
      have hl := load_hdN (HZ.out.below hB).o26
      go_simp
      refine HK.out _ _ (InvM.next 71 _ hB hΦ (Below.refl _ _) rfl ?_ (phi_mk (by decide) rfl))
      kernel_rfl
    · as_aux_lemma =>
      have e70 := (show x 70 = .bool true from phi_ne (by decide) (hΦ 70 (by decide) (by first | exact hd _ (Array.getElem_mem (i := 0) (by decide)) rfl | exact hd _ (Array.getElem_mem (i := 1) (by decide)) rfl | exact hd _ (Array.getElem_mem (i := 2) (by decide)) rfl | exact hd _ (Array.getElem_mem (i := 3) (by decide)) rfl | exact hd _ (Array.getElem_mem (i := 4) (by decide)) rfl | exact hd _ (Array.getElem_mem (i := 5) (by decide)) rfl)))
      refine wpOp_yes ho (by rw [← upds1 e70]; kernel_rfl) (fun K' hK => ?_)
      clear e70
      have HK := Lib.hid hK
      clear hK ho
      go_simp
      refine HK.out _ _ (InvM.next 72 _ hB hΦ (Below.refl _ _) rfl ?_ (phi_mk (by decide) rfl))
      kernel_rfl
    · as_aux_lemma =>
      have e70 := (show x 70 = .bool true from phi_ne (by decide) (hΦ 70 (by decide) (by first | exact hd _ (Array.getElem_mem (i := 0) (by decide)) rfl | exact hd _ (Array.getElem_mem (i := 1) (by decide)) rfl | exact hd _ (Array.getElem_mem (i := 2) (by decide)) rfl | exact hd _ (Array.getElem_mem (i := 3) (by decide)) rfl | exact hd _ (Array.getElem_mem (i := 4) (by decide)) rfl | exact hd _ (Array.getElem_mem (i := 5) (by decide)) rfl)))
      refine wpOp_yes ho (by rw [← upds1 e70]; kernel_rfl) (fun K' hK => ?_)
      clear e70
      have HK := Lib.hid hK
      clear hK ho
      have e71 := (show x 71 = .agg #[.int .i64 12, .int .i64 0, .int .i64 0] from phi_ne (by decide) (hΦ 71 (by decide) (by first | exact hd _ (Array.getElem_mem (i := 0) (by decide)) rfl | exact hd _ (Array.getElem_mem (i := 1) (by decide)) rfl | exact hd _ (Array.getElem_mem (i := 2) (by decide)) rfl | exact hd _ (Array.getElem_mem (i := 3) (by decide)) rfl | exact hd _ (Array.getElem_mem (i := 4) (by decide)) rfl | exact hd _ (Array.getElem_mem (i := 5) (by decide)) rfl)))
      have e72 := (show x 72 = .agg #[.int .i64 12, .int .i64 0, .int .i64 0] from phi_ne (by decide) (hΦ 72 (by decide) (by first | exact hd _ (Array.getElem_mem (i := 0) (by decide)) rfl | exact hd _ (Array.getElem_mem (i := 1) (by decide)) rfl | exact hd _ (Array.getElem_mem (i := 2) (by decide)) rfl | exact hd _ (Array.getElem_mem (i := 3) (by decide)) rfl | exact hd _ (Array.getElem_mem (i := 4) (by decide)) rfl | exact hd _ (Array.getElem_mem (i := 5) (by decide)) rfl)))
      have qh := eql_hdN wz
      go_simp
      refine HK.out _ _ (InvM.next 73 _ hB hΦ (Below.refl _ _) (upds2 e71 e72) ?_ (phi_mk (by decide) rfl))
      kernel_rfl
    · as_aux_lemma =>
      refine wpOp_yes ho rfl (fun K' hK => ?_)
      have HK := Lib.hid hK
      clear hK ho
      have e70 := (show x 70 = .bool true from phi_ne (by decide) (hΦ 70 (by decide) (by first | exact hd _ (Array.getElem_mem (i := 0) (by decide)) rfl | exact hd _ (Array.getElem_mem (i := 1) (by decide)) rfl | exact hd _ (Array.getElem_mem (i := 2) (by decide)) rfl | exact hd _ (Array.getElem_mem (i := 3) (by decide)) rfl | exact hd _ (Array.getElem_mem (i := 4) (by decide)) rfl | exact hd _ (Array.getElem_mem (i := 5) (by decide)) rfl)))
      have e73 := (show x 73 = .bool true from phi_ne (by decide) (hΦ 73 (by decide) (by first | exact hd _ (Array.getElem_mem (i := 0) (by decide)) rfl | exact hd _ (Array.getElem_mem (i := 1) (by decide)) rfl | exact hd _ (Array.getElem_mem (i := 2) (by decide)) rfl | exact hd _ (Array.getElem_mem (i := 3) (by decide)) rfl | exact hd _ (Array.getElem_mem (i := 4) (by decide)) rfl | exact hd _ (Array.getElem_mem (i := 5) (by decide)) rfl)))
      go_simp
      refine HK.out _ _ (InvM.next 74 _ hB hΦ (Below.refl _ _) (upds2 e70 e73) ?_ (phi_mk (by decide) rfl))
      kernel_rfl
    · as_aux_lemma =>
      refine wpOp_yes ho rfl (fun K' hK => ?_)
      have HK := Lib.hid hK
      clear hK ho
      have e74 := (show x 74 = .bool true from phi_ne (by decide) (hΦ 74 (by decide) (by first | exact hd _ (Array.getElem_mem (i := 0) (by decide)) rfl | exact hd _ (Array.getElem_mem (i := 1) (by decide)) rfl | exact hd _ (Array.getElem_mem (i := 2) (by decide)) rfl | exact hd _ (Array.getElem_mem (i := 3) (by decide)) rfl | exact hd _ (Array.getElem_mem (i := 4) (by decide)) rfl | exact hd _ (Array.getElem_mem (i := 5) (by decide)) rfl)))
      go_simp
      refine HK.out _ _ (InvM.next 75 _ hB hΦ (Below.refl _ _) (upds1 e74) ?_ (phi_mk (by decide) rfl))
      kernel_rfl
    · as_aux_lemma =>
      have e75 := (show x 75 = .bool true from phi_ne (by decide) (hΦ 75 (by decide) (by first | exact hd _ (Array.getElem_mem (i := 0) (by decide)) rfl | exact hd _ (Array.getElem_mem (i := 1) (by decide)) rfl | exact hd _ (Array.getElem_mem (i := 2) (by decide)) rfl | exact hd _ (Array.getElem_mem (i := 3) (by decide)) rfl | exact hd _ (Array.getElem_mem (i := 4) (by decide)) rfl | exact hd _ (Array.getElem_mem (i := 5) (by decide)) rfl)))
      refine wpOp_yes ho (by rw [← upds1 e75]; kernel_rfl) (fun K' hK => ?_)
      clear e75
      have HK := Lib.hid hK
      clear hK ho
      go_simp
      refine HK.out _ _ (InvM.next 76 _ hB hΦ (Below.refl _ _) rfl ?_ (phi_mk (by decide) rfl))
      kernel_rfl
    · as_aux_lemma =>
      have e75 := (show x 75 = .bool true from phi_ne (by decide) (hΦ 75 (by decide) (by first | exact hd _ (Array.getElem_mem (i := 0) (by decide)) rfl | exact hd _ (Array.getElem_mem (i := 1) (by decide)) rfl | exact hd _ (Array.getElem_mem (i := 2) (by decide)) rfl | exact hd _ (Array.getElem_mem (i := 3) (by decide)) rfl | exact hd _ (Array.getElem_mem (i := 4) (by decide)) rfl | exact hd _ (Array.getElem_mem (i := 5) (by decide)) rfl)))
      refine wpOp_yes ho (by rw [← upds1 e75]; kernel_rfl) (fun K' hK => ?_)
      clear e75
      have HK := Lib.hid hK
      clear hK ho
      have e76 := (show x 76 = .pointer (some ⟨bp + 1, 15, none⟩) from phi_ne (by decide) (hΦ 76 (by decide) (by first | exact hd _ (Array.getElem_mem (i := 0) (by decide)) rfl | exact hd _ (Array.getElem_mem (i := 1) (by decide)) rfl | exact hd _ (Array.getElem_mem (i := 2) (by decide)) rfl | exact hd _ (Array.getElem_mem (i := 3) (by decide)) rfl | exact hd _ (Array.getElem_mem (i := 4) (by decide)) rfl | exact hd _ (Array.getElem_mem (i := 5) (by decide)) rfl)))
      go_simp
      refine HK.out _ _ (InvM.next 77 _ hB hΦ (Below.refl _ _) (upds1 e76) ?_ (phi_mk (by decide) rfl))
      kernel_rfl
    · as_aux_lemma =>
      have e75 := (show x 75 = .bool true from phi_ne (by decide) (hΦ 75 (by decide) (by first | exact hd _ (Array.getElem_mem (i := 0) (by decide)) rfl | exact hd _ (Array.getElem_mem (i := 1) (by decide)) rfl | exact hd _ (Array.getElem_mem (i := 2) (by decide)) rfl | exact hd _ (Array.getElem_mem (i := 3) (by decide)) rfl | exact hd _ (Array.getElem_mem (i := 4) (by decide)) rfl | exact hd _ (Array.getElem_mem (i := 5) (by decide)) rfl)))
      refine wpOp_yes ho (by rw [← upds1 e75]; kernel_rfl) (fun K' hK => ?_)
      clear e75
      have HK := Lib.hid hK
      clear hK ho
      have e77 := (show x 77 = .pointer (some ⟨bp + 1, 19, none⟩) from phi_ne (by decide) (hΦ 77 (by decide) (by first | exact hd _ (Array.getElem_mem (i := 0) (by decide)) rfl | exact hd _ (Array.getElem_mem (i := 1) (by decide)) rfl | exact hd _ (Array.getElem_mem (i := 2) (by decide)) rfl | exact hd _ (Array.getElem_mem (i := 3) (by decide)) rfl | exact hd _ (Array.getElem_mem (i := 4) (by decide)) rfl | exact hd _ (Array.getElem_mem (i := 5) (by decide)) rfl)))
      have hc := (HZ.out.below hB).o29.cell 19 (.slice (some ⟨bp, 0, none⟩) 1 1) rfl
      go_simp
      refine HK.out _ _ (InvM.next 78 _ hB hΦ (Below.refl _ _) (upds1 e77) ?_ (phi_mk (by decide) rfl))
      kernel_rfl
    · as_aux_lemma =>
      have e75 := (show x 75 = .bool true from phi_ne (by decide) (hΦ 75 (by decide) (by first | exact hd _ (Array.getElem_mem (i := 0) (by decide)) rfl | exact hd _ (Array.getElem_mem (i := 1) (by decide)) rfl | exact hd _ (Array.getElem_mem (i := 2) (by decide)) rfl | exact hd _ (Array.getElem_mem (i := 3) (by decide)) rfl | exact hd _ (Array.getElem_mem (i := 4) (by decide)) rfl | exact hd _ (Array.getElem_mem (i := 5) (by decide)) rfl)))
      refine wpOp_yes ho (by rw [← upds1 e75]; kernel_rfl) (fun K' hK => ?_)
      clear e75
      have HK := Lib.hid hK
      clear hK ho
      have e78 := (show x 78 = .slice (some ⟨bp, 0, none⟩) 1 1 from phi_ne (by decide) (hΦ 78 (by decide) (by first | exact hd _ (Array.getElem_mem (i := 0) (by decide)) rfl | exact hd _ (Array.getElem_mem (i := 1) (by decide)) rfl | exact hd _ (Array.getElem_mem (i := 2) (by decide)) rfl | exact hd _ (Array.getElem_mem (i := 3) (by decide)) rfl | exact hd _ (Array.getElem_mem (i := 4) (by decide)) rfl | exact hd _ (Array.getElem_mem (i := 5) (by decide)) rfl)))
      go_simp
      refine HK.out _ _ (InvM.next 79 _ hB hΦ (Below.refl _ _) (upds1 e78) ?_ (phi_mk (by decide) rfl))
      kernel_rfl
    · as_aux_lemma =>
      have e75 := (show x 75 = .bool true from phi_ne (by decide) (hΦ 75 (by decide) (by first | exact hd _ (Array.getElem_mem (i := 0) (by decide)) rfl | exact hd _ (Array.getElem_mem (i := 1) (by decide)) rfl | exact hd _ (Array.getElem_mem (i := 2) (by decide)) rfl | exact hd _ (Array.getElem_mem (i := 3) (by decide)) rfl | exact hd _ (Array.getElem_mem (i := 4) (by decide)) rfl | exact hd _ (Array.getElem_mem (i := 5) (by decide)) rfl)))
      refine wpOp_yes ho (by rw [← upds1 e75]; kernel_rfl) (fun K' hK => ?_)
      clear e75
      have HK := Lib.hid hK
      clear hK ho
      have e79 := (show x 79 = .pointer (some ⟨bp, 0, none⟩) from phi_ne (by decide) (hΦ 79 (by decide) (by first | exact hd _ (Array.getElem_mem (i := 0) (by decide)) rfl | exact hd _ (Array.getElem_mem (i := 1) (by decide)) rfl | exact hd _ (Array.getElem_mem (i := 2) (by decide)) rfl | exact hd _ (Array.getElem_mem (i := 3) (by decide)) rfl | exact hd _ (Array.getElem_mem (i := 4) (by decide)) rfl | exact hd _ (Array.getElem_mem (i := 5) (by decide)) rfl)))
      go_simp
      refine HK.out _ _ (InvM.next 80 _ hB hΦ (Below.refl _ _) (upds1 e79) ?_ (phi_mk (by decide) rfl))
      kernel_rfl
    · as_aux_lemma =>
      have e75 := (show x 75 = .bool true from phi_ne (by decide) (hΦ 75 (by decide) (by first | exact hd _ (Array.getElem_mem (i := 0) (by decide)) rfl | exact hd _ (Array.getElem_mem (i := 1) (by decide)) rfl | exact hd _ (Array.getElem_mem (i := 2) (by decide)) rfl | exact hd _ (Array.getElem_mem (i := 3) (by decide)) rfl | exact hd _ (Array.getElem_mem (i := 4) (by decide)) rfl | exact hd _ (Array.getElem_mem (i := 5) (by decide)) rfl)))
      refine wpOp_yes ho (by rw [← upds1 e75]; kernel_rfl) (fun K' hK => ?_)
      clear e75
      have HK := Lib.hid hK
      clear hK ho
      have e80 := (show x 80 = .pointer (some ⟨bp, 0, none⟩) from phi_ne (by decide) (hΦ 80 (by decide) (by first | exact hd _ (Array.getElem_mem (i := 0) (by decide)) rfl | exact hd _ (Array.getElem_mem (i := 1) (by decide)) rfl | exact hd _ (Array.getElem_mem (i := 2) (by decide)) rfl | exact hd _ (Array.getElem_mem (i := 3) (by decide)) rfl | exact hd _ (Array.getElem_mem (i := 4) (by decide)) rfl | exact hd _ (Array.getElem_mem (i := 5) (by decide)) rfl)))
      have hc := (HZ.out.below hB).obp.cell 0 (.int .i64 38) rfl
      go_simp
      refine HK.out _ _ (InvM.next 81 _ hB hΦ (Below.refl _ _) (upds1 e80) ?_ (phi_mk (by decide) rfl))
      kernel_rfl
    · as_aux_lemma =>
      have e75 := (show x 75 = .bool true from phi_ne (by decide) (hΦ 75 (by decide) (by first | exact hd _ (Array.getElem_mem (i := 0) (by decide)) rfl | exact hd _ (Array.getElem_mem (i := 1) (by decide)) rfl | exact hd _ (Array.getElem_mem (i := 2) (by decide)) rfl | exact hd _ (Array.getElem_mem (i := 3) (by decide)) rfl | exact hd _ (Array.getElem_mem (i := 4) (by decide)) rfl | exact hd _ (Array.getElem_mem (i := 5) (by decide)) rfl)))
      refine wpOp_yes ho (by rw [← upds1 e75]; kernel_rfl) (fun K' hK => ?_)
      clear e75
      have HK := Lib.hid hK
      clear hK ho
      have e81 := (show x 81 = .int .i64 38 from phi_ne (by decide) (hΦ 81 (by decide) (by first | exact hd _ (Array.getElem_mem (i := 0) (by decide)) rfl | exact hd _ (Array.getElem_mem (i := 1) (by decide)) rfl | exact hd _ (Array.getElem_mem (i := 2) (by decide)) rfl | exact hd _ (Array.getElem_mem (i := 3) (by decide)) rfl | exact hd _ (Array.getElem_mem (i := 4) (by decide)) rfl | exact hd _ (Array.getElem_mem (i := 5) (by decide)) rfl)))
      go_simp
      refine HK.out _ _ (InvM.next 82 _ hB hΦ (Below.refl _ _) (upds1 e81) ?_ (phi_mk (by decide) rfl))
      kernel_rfl
    · as_aux_lemma =>
      refine wpOp_yes ho rfl (fun K' hK => ?_)
      have HK := Lib.hid hK
      clear hK ho
      have e75 := (show x 75 = .bool true from phi_ne (by decide) (hΦ 75 (by decide) (by first | exact hd _ (Array.getElem_mem (i := 0) (by decide)) rfl | exact hd _ (Array.getElem_mem (i := 1) (by decide)) rfl | exact hd _ (Array.getElem_mem (i := 2) (by decide)) rfl | exact hd _ (Array.getElem_mem (i := 3) (by decide)) rfl | exact hd _ (Array.getElem_mem (i := 4) (by decide)) rfl | exact hd _ (Array.getElem_mem (i := 5) (by decide)) rfl)))
      have e82 := (show x 82 = .bool true from phi_ne (by decide) (hΦ 82 (by decide) (by first | exact hd _ (Array.getElem_mem (i := 0) (by decide)) rfl | exact hd _ (Array.getElem_mem (i := 1) (by decide)) rfl | exact hd _ (Array.getElem_mem (i := 2) (by decide)) rfl | exact hd _ (Array.getElem_mem (i := 3) (by decide)) rfl | exact hd _ (Array.getElem_mem (i := 4) (by decide)) rfl | exact hd _ (Array.getElem_mem (i := 5) (by decide)) rfl)))
      go_simp
      refine HK.out _ _ (InvM.next 83 _ hB hΦ (Below.refl _ _) (upds2 e75 e82) ?_ (phi_mk (by decide) rfl))
      kernel_rfl
    · as_aux_lemma =>
      refine wpOp_yes ho rfl (fun K' hK => ?_)
      have HK := Lib.hid hK
      clear hK ho
      have e83 := (show x 83 = .bool true from phi_ne (by decide) (hΦ 83 (by decide) (by first | exact hd _ (Array.getElem_mem (i := 0) (by decide)) rfl | exact hd _ (Array.getElem_mem (i := 1) (by decide)) rfl | exact hd _ (Array.getElem_mem (i := 2) (by decide)) rfl | exact hd _ (Array.getElem_mem (i := 3) (by decide)) rfl | exact hd _ (Array.getElem_mem (i := 4) (by decide)) rfl | exact hd _ (Array.getElem_mem (i := 5) (by decide)) rfl)))
      go_simp
      refine HK.out _ _ (InvM.next 84 _ hB hΦ (Below.refl _ _) (upds1 e83) ?_ (phi_mk (by decide) rfl))
      kernel_rfl
    · as_aux_lemma =>
      have e84 := (show x 84 = .bool true from phi_ne (by decide) (hΦ 84 (by decide) (by first | exact hd _ (Array.getElem_mem (i := 0) (by decide)) rfl | exact hd _ (Array.getElem_mem (i := 1) (by decide)) rfl | exact hd _ (Array.getElem_mem (i := 2) (by decide)) rfl | exact hd _ (Array.getElem_mem (i := 3) (by decide)) rfl | exact hd _ (Array.getElem_mem (i := 4) (by decide)) rfl | exact hd _ (Array.getElem_mem (i := 5) (by decide)) rfl)))
      refine wpOp_yes ho (by rw [← upds1 e84]; kernel_rfl) (fun K' hK => ?_)
      clear e84
      have HK := Lib.hid hK
      clear hK ho
      have hl := load_pk (HZ.out.below hB).o29
      rw [← HV.out.1] at hl
      go_simp
      refine HK.out _ _ (InvM.next 85 _ hB hΦ (Below.refl _ _) rfl ?_ (phi_mk (by decide) rfl))
      kernel_rfl
    · as_aux_lemma =>
      have e84 := (show x 84 = .bool true from phi_ne (by decide) (hΦ 84 (by decide) (by first | exact hd _ (Array.getElem_mem (i := 0) (by decide)) rfl | exact hd _ (Array.getElem_mem (i := 1) (by decide)) rfl | exact hd _ (Array.getElem_mem (i := 2) (by decide)) rfl | exact hd _ (Array.getElem_mem (i := 3) (by decide)) rfl | exact hd _ (Array.getElem_mem (i := 4) (by decide)) rfl | exact hd _ (Array.getElem_mem (i := 5) (by decide)) rfl)))
      refine wpOp_yes ho (by rw [← upds1 e84]; kernel_rfl) (fun K' hK => ?_)
      clear e84
      have HK := Lib.hid hK
      clear hK ho
      have hl := load_pk (HZ.out.below hB).o30
      rw [← HV.out.2] at hl
      go_simp
      refine HK.out _ _ (InvM.next 86 _ hB hΦ (Below.refl _ _) rfl ?_ (phi_mk (by decide) rfl))
      kernel_rfl
    · as_aux_lemma =>
      have e84 := (show x 84 = .bool true from phi_ne (by decide) (hΦ 84 (by decide) (by first | exact hd _ (Array.getElem_mem (i := 0) (by decide)) rfl | exact hd _ (Array.getElem_mem (i := 1) (by decide)) rfl | exact hd _ (Array.getElem_mem (i := 2) (by decide)) rfl | exact hd _ (Array.getElem_mem (i := 3) (by decide)) rfl | exact hd _ (Array.getElem_mem (i := 4) (by decide)) rfl | exact hd _ (Array.getElem_mem (i := 5) (by decide)) rfl)))
      refine wpOp_yes ho (by rw [← upds1 e84]; kernel_rfl) (fun K' hK => ?_)
      clear e84
      have HK := Lib.hid hK
      clear hK ho
      have e85 := (show x 85 = .agg c29 from phi_ne (by decide) (hΦ 85 (by decide) (by first | exact hd _ (Array.getElem_mem (i := 0) (by decide)) rfl | exact hd _ (Array.getElem_mem (i := 1) (by decide)) rfl | exact hd _ (Array.getElem_mem (i := 2) (by decide)) rfl | exact hd _ (Array.getElem_mem (i := 3) (by decide)) rfl | exact hd _ (Array.getElem_mem (i := 4) (by decide)) rfl | exact hd _ (Array.getElem_mem (i := 5) (by decide)) rfl)))
      have e86 := (show x 86 = .agg c30 from phi_ne (by decide) (hΦ 86 (by decide) (by first | exact hd _ (Array.getElem_mem (i := 0) (by decide)) rfl | exact hd _ (Array.getElem_mem (i := 1) (by decide)) rfl | exact hd _ (Array.getElem_mem (i := 2) (by decide)) rfl | exact hd _ (Array.getElem_mem (i := 3) (by decide)) rfl | exact hd _ (Array.getElem_mem (i := 4) (by decide)) rfl | exact hd _ (Array.getElem_mem (i := 5) (by decide)) rfl)))
      go_simp
      go_at_call 10
      refine (HSa.out _ hB).mono ?_
      rintro e w1 ⟨rfl, hb⟩
      (try dsimp only)
      refine HK.out _ _ (InvM.next 87 _ hB hΦ hb (upds2 e85 e86) ?_ (phi_mk (by decide) rfl))
      kernel_rfl
    · as_aux_lemma =>
      have e84 := (show x 84 = .bool true from phi_ne (by decide) (hΦ 84 (by decide) (by first | exact hd _ (Array.getElem_mem (i := 0) (by decide)) rfl | exact hd _ (Array.getElem_mem (i := 1) (by decide)) rfl | exact hd _ (Array.getElem_mem (i := 2) (by decide)) rfl | exact hd _ (Array.getElem_mem (i := 3) (by decide)) rfl | exact hd _ (Array.getElem_mem (i := 4) (by decide)) rfl | exact hd _ (Array.getElem_mem (i := 5) (by decide)) rfl)))
      refine wpOp_yes ho (by rw [← upds1 e84]; kernel_rfl) (fun K' hK => ?_)
      clear e84
      have HK := Lib.hid hK
      clear hK ho
      have e87 := (show x 87 = .bool false from phi_ne (by decide) (hΦ 87 (by decide) (by first | exact hd _ (Array.getElem_mem (i := 0) (by decide)) rfl | exact hd _ (Array.getElem_mem (i := 1) (by decide)) rfl | exact hd _ (Array.getElem_mem (i := 2) (by decide)) rfl | exact hd _ (Array.getElem_mem (i := 3) (by decide)) rfl | exact hd _ (Array.getElem_mem (i := 4) (by decide)) rfl | exact hd _ (Array.getElem_mem (i := 5) (by decide)) rfl)))
      go_simp
      refine HK.out _ _ (InvM.next 88 _ hB hΦ (Below.refl _ _) (upds1 e87) ?_ (phi_mk (by decide) rfl))
      kernel_rfl
    · as_aux_lemma =>
      refine wpOp_yes ho rfl (fun K' hK => ?_)
      have HK := Lib.hid hK
      clear hK ho
      have e84 := (show x 84 = .bool true from phi_ne (by decide) (hΦ 84 (by decide) (by first | exact hd _ (Array.getElem_mem (i := 0) (by decide)) rfl | exact hd _ (Array.getElem_mem (i := 1) (by decide)) rfl | exact hd _ (Array.getElem_mem (i := 2) (by decide)) rfl | exact hd _ (Array.getElem_mem (i := 3) (by decide)) rfl | exact hd _ (Array.getElem_mem (i := 4) (by decide)) rfl | exact hd _ (Array.getElem_mem (i := 5) (by decide)) rfl)))
      have e88 := (show x 88 = .bool true from phi_ne (by decide) (hΦ 88 (by decide) (by first | exact hd _ (Array.getElem_mem (i := 0) (by decide)) rfl | exact hd _ (Array.getElem_mem (i := 1) (by decide)) rfl | exact hd _ (Array.getElem_mem (i := 2) (by decide)) rfl | exact hd _ (Array.getElem_mem (i := 3) (by decide)) rfl | exact hd _ (Array.getElem_mem (i := 4) (by decide)) rfl | exact hd _ (Array.getElem_mem (i := 5) (by decide)) rfl)))
      go_simp
      refine HK.out _ _ (InvM.next 89 _ hB hΦ (Below.refl _ _) (upds2 e84 e88) ?_ (phi_mk (by decide) rfl))
      kernel_rfl
    · as_aux_lemma =>
      refine wpOp_yes ho rfl (fun K' hK => ?_)
      have HK := Lib.hid hK
      clear hK ho
      have e89 := (show x 89 = .bool true from phi_ne (by decide) (hΦ 89 (by decide) (by first | exact hd _ (Array.getElem_mem (i := 0) (by decide)) rfl | exact hd _ (Array.getElem_mem (i := 1) (by decide)) rfl | exact hd _ (Array.getElem_mem (i := 2) (by decide)) rfl | exact hd _ (Array.getElem_mem (i := 3) (by decide)) rfl | exact hd _ (Array.getElem_mem (i := 4) (by decide)) rfl | exact hd _ (Array.getElem_mem (i := 5) (by decide)) rfl)))
      go_simp
      refine HK.out _ _ (InvM.next 90 _ hB hΦ (Below.refl _ _) (upds1 e89) ?_ (phi_mk (by decide) rfl))
      kernel_rfl
    · as_aux_lemma =>
      have e90 := (show x 90 = .bool true from phi_ne (by decide) (hΦ 90 (by decide) (by first | exact hd _ (Array.getElem_mem (i := 0) (by decide)) rfl | exact hd _ (Array.getElem_mem (i := 1) (by decide)) rfl | exact hd _ (Array.getElem_mem (i := 2) (by decide)) rfl | exact hd _ (Array.getElem_mem (i := 3) (by decide)) rfl | exact hd _ (Array.getElem_mem (i := 4) (by decide)) rfl | exact hd _ (Array.getElem_mem (i := 5) (by decide)) rfl)))
      refine wpOp_yes ho (by rw [← upds1 e90]; kernel_rfl) (fun K' hK => ?_)
      clear e90
      have HK := Lib.hid hK
      clear hK ho
      have hl := load_pk (HZ.out.below hB).o29
      rw [← HV.out.1] at hl
      go_simp
      refine HK.out _ _ (InvM.next 91 _ hB hΦ (Below.refl _ _) rfl ?_ (phi_mk (by decide) rfl))
      kernel_rfl
    · as_aux_lemma =>
      have e90 := (show x 90 = .bool true from phi_ne (by decide) (hΦ 90 (by decide) (by first | exact hd _ (Array.getElem_mem (i := 0) (by decide)) rfl | exact hd _ (Array.getElem_mem (i := 1) (by decide)) rfl | exact hd _ (Array.getElem_mem (i := 2) (by decide)) rfl | exact hd _ (Array.getElem_mem (i := 3) (by decide)) rfl | exact hd _ (Array.getElem_mem (i := 4) (by decide)) rfl | exact hd _ (Array.getElem_mem (i := 5) (by decide)) rfl)))
      refine wpOp_yes ho (by rw [← upds1 e90]; kernel_rfl) (fun K' hK => ?_)
      clear e90
      have HK := Lib.hid hK
      clear hK ho
      have hl := load_pk (HZ.out.below hB).o29
      rw [← HV.out.1] at hl
      go_simp
      refine HK.out _ _ (InvM.next 92 _ hB hΦ (Below.refl _ _) rfl ?_ (phi_mk (by decide) rfl))
      kernel_rfl
    · as_aux_lemma =>
      have e90 := (show x 90 = .bool true from phi_ne (by decide) (hΦ 90 (by decide) (by first | exact hd _ (Array.getElem_mem (i := 0) (by decide)) rfl | exact hd _ (Array.getElem_mem (i := 1) (by decide)) rfl | exact hd _ (Array.getElem_mem (i := 2) (by decide)) rfl | exact hd _ (Array.getElem_mem (i := 3) (by decide)) rfl | exact hd _ (Array.getElem_mem (i := 4) (by decide)) rfl | exact hd _ (Array.getElem_mem (i := 5) (by decide)) rfl)))
      refine wpOp_yes ho (by rw [← upds1 e90]; kernel_rfl) (fun K' hK => ?_)
      clear e90
      have HK := Lib.hid hK
      clear hK ho
      have e92 := (show x 92 = .agg c29 from phi_ne (by decide) (hΦ 92 (by decide) (by first | exact hd _ (Array.getElem_mem (i := 0) (by decide)) rfl | exact hd _ (Array.getElem_mem (i := 1) (by decide)) rfl | exact hd _ (Array.getElem_mem (i := 2) (by decide)) rfl | exact hd _ (Array.getElem_mem (i := 3) (by decide)) rfl | exact hd _ (Array.getElem_mem (i := 4) (by decide)) rfl | exact hd _ (Array.getElem_mem (i := 5) (by decide)) rfl)))
      go_simp
      go_at_call 9
      refine (HCp.out _ hB).mono ?_
      rintro e w1 ⟨cz, rfl, hgood, hb⟩
      (try dsimp only)
      refine HK.out _ _ (InvM.next 93 _ hB hΦ hb (upds1 e92) ?_ (show PhiM _ 93 (.agg cz) _ from ⟨cz, rfl, hgood⟩))
      kernel_rfl
    · as_aux_lemma =>
      have e90 := (show x 90 = .bool true from phi_ne (by decide) (hΦ 90 (by decide) (by first | exact hd _ (Array.getElem_mem (i := 0) (by decide)) rfl | exact hd _ (Array.getElem_mem (i := 1) (by decide)) rfl | exact hd _ (Array.getElem_mem (i := 2) (by decide)) rfl | exact hd _ (Array.getElem_mem (i := 3) (by decide)) rfl | exact hd _ (Array.getElem_mem (i := 4) (by decide)) rfl | exact hd _ (Array.getElem_mem (i := 5) (by decide)) rfl)))
      refine wpOp_yes ho (by rw [← upds1 e90]; kernel_rfl) (fun K' hK => ?_)
      clear e90
      have HK := Lib.hid hK
      clear hK ho
      have e91 := (show x 91 = .agg c29 from phi_ne (by decide) (hΦ 91 (by decide) (by first | exact hd _ (Array.getElem_mem (i := 0) (by decide)) rfl | exact hd _ (Array.getElem_mem (i := 1) (by decide)) rfl | exact hd _ (Array.getElem_mem (i := 2) (by decide)) rfl | exact hd _ (Array.getElem_mem (i := 3) (by decide)) rfl | exact hd _ (Array.getElem_mem (i := 4) (by decide)) rfl | exact hd _ (Array.getElem_mem (i := 5) (by decide)) rfl)))
      have e93 := hΦ 93 (by decide) (by first | exact hd _ (Array.getElem_mem (i := 0) (by decide)) rfl | exact hd _ (Array.getElem_mem (i := 1) (by decide)) rfl | exact hd _ (Array.getElem_mem (i := 2) (by decide)) rfl | exact hd _ (Array.getElem_mem (i := 3) (by decide)) rfl | exact hd _ (Array.getElem_mem (i := 4) (by decide)) rfl | exact hd _ (Array.getElem_mem (i := 5) (by decide)) rfl)
      obtain ⟨cz, e93, hgood⟩ := (show ∃ c, x 93 = .agg c ∧ CopyGood c wz from e93)
      have HGd := Lib.hid hgood
      clear hgood
      go_simp
      go_at_call 10
      refine (HSb.out _ _ hB HGd.out).mono ?_
      rintro e w1 ⟨rfl, hb⟩
      (try dsimp only)
      refine HK.out _ _ (InvM.next 94 _ hB hΦ hb (upds2 e91 e93) ?_ (phi_mk (by decide) rfl))
      kernel_rfl
    · as_aux_lemma =>
      refine wpOp_yes ho rfl (fun K' hK => ?_)
      have HK := Lib.hid hK
      clear hK ho
      have e90 := (show x 90 = .bool true from phi_ne (by decide) (hΦ 90 (by decide) (by first | exact hd _ (Array.getElem_mem (i := 0) (by decide)) rfl | exact hd _ (Array.getElem_mem (i := 1) (by decide)) rfl | exact hd _ (Array.getElem_mem (i := 2) (by decide)) rfl | exact hd _ (Array.getElem_mem (i := 3) (by decide)) rfl | exact hd _ (Array.getElem_mem (i := 4) (by decide)) rfl | exact hd _ (Array.getElem_mem (i := 5) (by decide)) rfl)))
      have e94 := (show x 94 = .bool true from phi_ne (by decide) (hΦ 94 (by decide) (by first | exact hd _ (Array.getElem_mem (i := 0) (by decide)) rfl | exact hd _ (Array.getElem_mem (i := 1) (by decide)) rfl | exact hd _ (Array.getElem_mem (i := 2) (by decide)) rfl | exact hd _ (Array.getElem_mem (i := 3) (by decide)) rfl | exact hd _ (Array.getElem_mem (i := 4) (by decide)) rfl | exact hd _ (Array.getElem_mem (i := 5) (by decide)) rfl)))
      go_simp
      refine HK.out _ _ (InvM.next 95 _ hB hΦ (Below.refl _ _) (upds2 e90 e94) ?_ (phi_mk (by decide) rfl))
      kernel_rfl
    · as_aux_lemma =>
      refine wpOp_yes ho rfl (fun K' hK => ?_)
      have HK := Lib.hid hK
      clear hK ho
      have e95 := (show x 95 = .bool true from phi_ne (by decide) (hΦ 95 (by decide) (by first | exact hd _ (Array.getElem_mem (i := 0) (by decide)) rfl | exact hd _ (Array.getElem_mem (i := 1) (by decide)) rfl | exact hd _ (Array.getElem_mem (i := 2) (by decide)) rfl | exact hd _ (Array.getElem_mem (i := 3) (by decide)) rfl | exact hd _ (Array.getElem_mem (i := 4) (by decide)) rfl | exact hd _ (Array.getElem_mem (i := 5) (by decide)) rfl)))
      go_simp
      refine HK.out _ _ (InvM.next 96 _ hB hΦ (Below.refl _ _) (upds1 e95) ?_ (phi_mk (by decide) rfl))
      kernel_rfl
    · as_aux_lemma =>
      have e96 := (show x 96 = .bool true from phi_ne (by decide) (hΦ 96 (by decide) (by first | exact hd _ (Array.getElem_mem (i := 0) (by decide)) rfl | exact hd _ (Array.getElem_mem (i := 1) (by decide)) rfl | exact hd _ (Array.getElem_mem (i := 2) (by decide)) rfl | exact hd _ (Array.getElem_mem (i := 3) (by decide)) rfl | exact hd _ (Array.getElem_mem (i := 4) (by decide)) rfl | exact hd _ (Array.getElem_mem (i := 5) (by decide)) rfl)))
      refine wpOp_yes ho (by rw [← upds1 e96]; kernel_rfl) (fun K' hK => ?_)
      clear e96
      have HK := Lib.hid hK
      clear hK ho
      go_simp
      go_at_call 11
      refine (HN0.out _).mono ?_
      rintro e w1 ⟨rfl, hb⟩
      (try dsimp only)
      refine HK.out _ _ (InvM.next 97 _ hB hΦ hb rfl ?_ (phi_mk (by decide) rfl))
      kernel_rfl
    · as_aux_lemma =>
      have e96 := (show x 96 = .bool true from phi_ne (by decide) (hΦ 96 (by decide) (by first | exact hd _ (Array.getElem_mem (i := 0) (by decide)) rfl | exact hd _ (Array.getElem_mem (i := 1) (by decide)) rfl | exact hd _ (Array.getElem_mem (i := 2) (by decide)) rfl | exact hd _ (Array.getElem_mem (i := 3) (by decide)) rfl | exact hd _ (Array.getElem_mem (i := 4) (by decide)) rfl | exact hd _ (Array.getElem_mem (i := 5) (by decide)) rfl)))
      refine wpOp_yes ho (by rw [← upds1 e96]; kernel_rfl) (fun K' hK => ?_)
      clear e96
      have HK := Lib.hid hK
      clear hK ho
      have e97 := (show x 97 = .string ⟨[117, 110, 115, 117, 98, 97, 99, 107].toArray⟩ from phi_ne (by decide) (hΦ 97 (by decide) (by first | exact hd _ (Array.getElem_mem (i := 0) (by decide)) rfl | exact hd _ (Array.getElem_mem (i := 1) (by decide)) rfl | exact hd _ (Array.getElem_mem (i := 2) (by decide)) rfl | exact hd _ (Array.getElem_mem (i := 3) (by decide)) rfl | exact hd _ (Array.getElem_mem (i := 4) (by decide)) rfl | exact hd _ (Array.getElem_mem (i := 5) (by decide)) rfl)))
      go_simp
      refine HK.out _ _ (InvM.next 98 _ hB hΦ (Below.refl _ _) (upds1 e97) ?_ (phi_mk (by decide) rfl))
      kernel_rfl
    · as_aux_lemma =>
      refine wpOp_yes ho rfl (fun K' hK => ?_)
      have HK := Lib.hid hK
      clear hK ho
      have e96 := (show x 96 = .bool true from phi_ne (by decide) (hΦ 96 (by decide) (by first | exact hd _ (Array.getElem_mem (i := 0) (by decide)) rfl | exact hd _ (Array.getElem_mem (i := 1) (by decide)) rfl | exact hd _ (Array.getElem_mem (i := 2) (by decide)) rfl | exact hd _ (Array.getElem_mem (i := 3) (by decide)) rfl | exact hd _ (Array.getElem_mem (i := 4) (by decide)) rfl | exact hd _ (Array.getElem_mem (i := 5) (by decide)) rfl)))
      have e98 := (show x 98 = .bool true from phi_ne (by decide) (hΦ 98 (by decide) (by first | exact hd _ (Array.getElem_mem (i := 0) (by decide)) rfl | exact hd _ (Array.getElem_mem (i := 1) (by decide)) rfl | exact hd _ (Array.getElem_mem (i := 2) (by decide)) rfl | exact hd _ (Array.getElem_mem (i := 3) (by decide)) rfl | exact hd _ (Array.getElem_mem (i := 4) (by decide)) rfl | exact hd _ (Array.getElem_mem (i := 5) (by decide)) rfl)))
      go_simp
      refine HK.out _ _ (InvM.next 99 _ hB hΦ (Below.refl _ _) (upds2 e96 e98) ?_ (phi_mk (by decide) rfl))
      kernel_rfl
    · as_aux_lemma =>
      refine wpOp_yes ho rfl (fun K' hK => ?_)
      have HK := Lib.hid hK
      clear hK ho
      have e99 := (show x 99 = .bool true from phi_ne (by decide) (hΦ 99 (by decide) (by first | exact hd _ (Array.getElem_mem (i := 0) (by decide)) rfl | exact hd _ (Array.getElem_mem (i := 1) (by decide)) rfl | exact hd _ (Array.getElem_mem (i := 2) (by decide)) rfl | exact hd _ (Array.getElem_mem (i := 3) (by decide)) rfl | exact hd _ (Array.getElem_mem (i := 4) (by decide)) rfl | exact hd _ (Array.getElem_mem (i := 5) (by decide)) rfl)))
      go_simp
      refine HK.out _ _ (InvM.next 100 _ hB hΦ (Below.refl _ _) (upds1 e99) ?_ (phi_mk (by decide) rfl))
      kernel_rfl
    · as_aux_lemma =>
      have e100 := (show x 100 = .bool true from phi_ne (by decide) (hΦ 100 (by decide) (by first | exact hd _ (Array.getElem_mem (i := 0) (by decide)) rfl | exact hd _ (Array.getElem_mem (i := 1) (by decide)) rfl | exact hd _ (Array.getElem_mem (i := 2) (by decide)) rfl | exact hd _ (Array.getElem_mem (i := 3) (by decide)) rfl | exact hd _ (Array.getElem_mem (i := 4) (by decide)) rfl | exact hd _ (Array.getElem_mem (i := 5) (by decide)) rfl)))
      refine wpOp_yes ho (by rw [← upds1 e100]; kernel_rfl) (fun K' hK => ?_)
      clear e100
      have HK := Lib.hid hK
      clear hK ho
      go_simp
      go_at_call 11
      refine (HN1.out _).mono ?_
      rintro e w1 ⟨rfl, hb⟩
      (try dsimp only)
      refine HK.out _ _ (InvM.next 101 _ hB hΦ hb rfl ?_ (phi_mk (by decide) rfl))
      kernel_rfl
    · as_aux_lemma =>
      have e100 := (show x 100 = .bool true from phi_ne (by decide) (hΦ 100 (by decide) (by first | exact hd _ (Array.getElem_mem (i := 0) (by decide)) rfl | exact hd _ (Array.getElem_mem (i := 1) (by decide)) rfl | exact hd _ (Array.getElem_mem (i := 2) (by decide)) rfl | exact hd _ (Array.getElem_mem (i := 3) (by decide)) rfl | exact hd _ (Array.getElem_mem (i := 4) (by decide)) rfl | exact hd _ (Array.getElem_mem (i := 5) (by decide)) rfl)))
      refine wpOp_yes ho (by rw [← upds1 e100]; kernel_rfl) (fun K' hK => ?_)
      clear e100
      have HK := Lib.hid hK
      clear hK ho
      have e101 := (show x 101 = .string ⟨[63].toArray⟩ from phi_ne (by decide) (hΦ 101 (by decide) (by first | exact hd _ (Array.getElem_mem (i := 0) (by decide)) rfl | exact hd _ (Array.getElem_mem (i := 1) (by decide)) rfl | exact hd _ (Array.getElem_mem (i := 2) (by decide)) rfl | exact hd _ (Array.getElem_mem (i := 3) (by decide)) rfl | exact hd _ (Array.getElem_mem (i := 4) (by decide)) rfl | exact hd _ (Array.getElem_mem (i := 5) (by decide)) rfl)))
      go_simp
      refine HK.out _ _ (InvM.next 102 _ hB hΦ (Below.refl _ _) (upds1 e101) ?_ (phi_mk (by decide) rfl))
      kernel_rfl
    · as_aux_lemma =>
      refine wpOp_yes ho rfl (fun K' hK => ?_)
      have HK := Lib.hid hK
      clear hK ho
      have e100 := (show x 100 = .bool true from phi_ne (by decide) (hΦ 100 (by decide) (by first | exact hd _ (Array.getElem_mem (i := 0) (by decide)) rfl | exact hd _ (Array.getElem_mem (i := 1) (by decide)) rfl | exact hd _ (Array.getElem_mem (i := 2) (by decide)) rfl | exact hd _ (Array.getElem_mem (i := 3) (by decide)) rfl | exact hd _ (Array.getElem_mem (i := 4) (by decide)) rfl | exact hd _ (Array.getElem_mem (i := 5) (by decide)) rfl)))
      have e102 := (show x 102 = .bool true from phi_ne (by decide) (hΦ 102 (by decide) (by first | exact hd _ (Array.getElem_mem (i := 0) (by decide)) rfl | exact hd _ (Array.getElem_mem (i := 1) (by decide)) rfl | exact hd _ (Array.getElem_mem (i := 2) (by decide)) rfl | exact hd _ (Array.getElem_mem (i := 3) (by decide)) rfl | exact hd _ (Array.getElem_mem (i := 4) (by decide)) rfl | exact hd _ (Array.getElem_mem (i := 5) (by decide)) rfl)))
      go_simp
      refine HK.out _ _ (InvM.next 103 _ hB hΦ (Below.refl _ _) (upds2 e100 e102) ?_ (phi_mk (by decide) rfl))
      kernel_rfl
    · as_aux_lemma =>
      refine wpOp_yes ho rfl (fun K' hK => ?_)
      have HK := Lib.hid hK
      clear hK ho
      have e103 := (show x 103 = .bool true from phi_ne (by decide) (hΦ 103 (by decide) (by first | exact hd _ (Array.getElem_mem (i := 0) (by decide)) rfl | exact hd _ (Array.getElem_mem (i := 1) (by decide)) rfl | exact hd _ (Array.getElem_mem (i := 2) (by decide)) rfl | exact hd _ (Array.getElem_mem (i := 3) (by decide)) rfl | exact hd _ (Array.getElem_mem (i := 4) (by decide)) rfl | exact hd _ (Array.getElem_mem (i := 5) (by decide)) rfl)))
      go_simp
      refine HK.out _ _ (InvM.next 104 _ hB hΦ (Below.refl _ _) (upds1 e103) ?_ (phi_mk (by decide) rfl))
      kernel_rfl
    · as_aux_lemma =>
      have e104 := (show x 104 = .bool true from phi_ne (by decide) (hΦ 104 (by decide) (by first | exact hd _ (Array.getElem_mem (i := 0) (by decide)) rfl | exact hd _ (Array.getElem_mem (i := 1) (by decide)) rfl | exact hd _ (Array.getElem_mem (i := 2) (by decide)) rfl | exact hd _ (Array.getElem_mem (i := 3) (by decide)) rfl | exact hd _ (Array.getElem_mem (i := 4) (by decide)) rfl | exact hd _ (Array.getElem_mem (i := 5) (by decide)) rfl)))
      refine wpOp_yes ho (by rw [← upds1 e104]; kernel_rfl) (fun K' hK => ?_)
      clear e104
      have HK := Lib.hid hK
      clear hK ho
      go_simp
      go_at_call 11
      refine (HN2.out _).mono ?_
      rintro e w1 ⟨rfl, hb⟩
      (try dsimp only)
      refine HK.out _ _ (InvM.next 105 _ hB hΦ hb rfl ?_ (phi_mk (by decide) rfl))
      kernel_rfl
    · as_aux_lemma =>
      have e104 := (show x 104 = .bool true from phi_ne (by decide) (hΦ 104 (by decide) (by first | exact hd _ (Array.getElem_mem (i := 0) (by decide)) rfl | exact hd _ (Array.getElem_mem (i := 1) (by decide)) rfl | exact hd _ (Array.getElem_mem (i := 2) (by decide)) rfl | exact hd _ (Array.getElem_mem (i := 3) (by decide)) rfl | exact hd _ (Array.getElem_mem (i := 4) (by decide)) rfl | exact hd _ (Array.getElem_mem (i := 5) (by decide)) rfl)))
      refine wpOp_yes ho (by rw [← upds1 e104]; kernel_rfl) (fun K' hK => ?_)
      clear e104
      have HK := Lib.hid hK
      clear hK ho
      have e105 := (show x 105 = .string ⟨[63].toArray⟩ from phi_ne (by decide) (hΦ 105 (by decide) (by first | exact hd _ (Array.getElem_mem (i := 0) (by decide)) rfl | exact hd _ (Array.getElem_mem (i := 1) (by decide)) rfl | exact hd _ (Array.getElem_mem (i := 2) (by decide)) rfl | exact hd _ (Array.getElem_mem (i := 3) (by decide)) rfl | exact hd _ (Array.getElem_mem (i := 4) (by decide)) rfl | exact hd _ (Array.getElem_mem (i := 5) (by decide)) rfl)))
      go_simp
      refine HK.out _ _ (InvM.next 106 _ hB hΦ (Below.refl _ _) (upds1 e105) ?_ (phi_mk (by decide) rfl))
      kernel_rfl
    · as_aux_lemma =>
      refine wpOp_yes ho rfl (fun K' hK => ?_)
      have HK := Lib.hid hK
      clear hK ho
      have e104 := (show x 104 = .bool true from phi_ne (by decide) (hΦ 104 (by decide) (by first | exact hd _ (Array.getElem_mem (i := 0) (by decide)) rfl | exact hd _ (Array.getElem_mem (i := 1) (by decide)) rfl | exact hd _ (Array.getElem_mem (i := 2) (by decide)) rfl | exact hd _ (Array.getElem_mem (i := 3) (by decide)) rfl | exact hd _ (Array.getElem_mem (i := 4) (by decide)) rfl | exact hd _ (Array.getElem_mem (i := 5) (by decide)) rfl)))
      have e106 := (show x 106 = .bool true from phi_ne (by decide) (hΦ 106 (by decide) (by first | exact hd _ (Array.getElem_mem (i := 0) (by decide)) rfl | exact hd _ (Array.getElem_mem (i := 1) (by decide)) rfl | exact hd _ (Array.getElem_mem (i := 2) (by decide)) rfl | exact hd _ (Array.getElem_mem (i := 3) (by decide)) rfl | exact hd _ (Array.getElem_mem (i := 4) (by decide)) rfl | exact hd _ (Array.getElem_mem (i := 5) (by decide)) rfl)))
      go_simp
      refine HK.out _ _ (InvM.next 107 _ hB hΦ (Below.refl _ _) (upds2 e104 e106) ?_ (phi_mk (by decide) rfl))
      kernel_rfl
    · as_aux_lemma =>
      refine wpOp_yes ho rfl (fun K' hK => ?_)
      have HK := Lib.hid hK
      clear hK ho
      have e107 := (show x 107 = .bool true from phi_ne (by decide) (hΦ 107 (by decide) (by first | exact hd _ (Array.getElem_mem (i := 0) (by decide)) rfl | exact hd _ (Array.getElem_mem (i := 1) (by decide)) rfl | exact hd _ (Array.getElem_mem (i := 2) (by decide)) rfl | exact hd _ (Array.getElem_mem (i := 3) (by decide)) rfl | exact hd _ (Array.getElem_mem (i := 4) (by decide)) rfl | exact hd _ (Array.getElem_mem (i := 5) (by decide)) rfl)))
      go_simp
      refine HK.out _ _ (InvM.next 108 _ hB hΦ (Below.refl _ _) (upds1 e107) ?_ (phi_mk (by decide) rfl))
      kernel_rfl
  · as_aux_lemma =>
    rintro L a w2 ⟨x, rfl, hB, hΦ⟩ hall
    have e108 := (show x 108 = .bool true from phi_ne (by decide) (hΦ 108 (by decide) (hall 108 (by decide))))
    simp only [putM, List.toList_toArray, List.drop_succ_cons, List.drop_zero, List.take_succ_cons, List.take_zero, List.cons_append, List.nil_append]
    rw [e108]
    go_wp2
    refine HK0.out _ _ ?_
    go_wp2
    exact HQ.out _ _ (HZ.out.below hB).bel
end Go.Proofs.Ytjkmfdkhfjhegaa
