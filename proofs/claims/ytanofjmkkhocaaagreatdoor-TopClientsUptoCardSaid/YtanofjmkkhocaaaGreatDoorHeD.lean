/- Packets in memory; slices.Clone, head.Copy. head.Copy. head.strip, sameWill, Same; polyglotkit.SameWill, SamePacket at equal packets. -/
import Derived.Test.YtanofjmkkhocaaaGreatDoorHeA
import Derived.Deep.RegionWith
import Derived.Deep.CutRange
import Derived.Lib.SliceRun
import Derived.Deep.RegionHeld3
set_option linter.unusedVariables false
set_option linter.unusedSimpArgs false
set_option maxRecDepth 100000
set_option maxHeartbeats 3200000
namespace Go.Proofs.YtanofjmkkhocaaaGreatDoor
open Go Go.RowKit
def flatC {X : Type} (cs : X → Array Value) (xs : List X) : List Value := xs.flatMap fun x => (cs x).toList
theorem flatC_at {X : Type} {cs : X → Array Value} {z : Nat} (hz : ∀ x, (cs x).size = z) : ∀ (xs : List X) (i : Nat) (hi : i < xs.length) (j : Nat), j < z → (flatC cs xs)[i * z + j]? = (cs xs[i])[j]?
 | x :: xs, 0, _, j, hj => by
  have e : flatC cs (x :: xs) = (cs x).toList ++ flatC cs xs := rfl
  rw [e, Nat.zero_mul, Nat.zero_add, List.getElem?_append_left (by simp [hz]; exact hj)]
  simp
 | x :: xs, i + 1, hi, j, hj => by
  have e : flatC cs (x :: xs) = (cs x).toList ++ flatC cs xs := rfl
  have e2 : (i + 1) * z + j = z + (i * z + j) := by rw [Nat.succ_mul]; omega
  rw [e, e2, List.getElem?_append_right (by simp [hz]), Array.length_toList, hz, Nat.add_sub_cancel_left]
  exact flatC_at hz xs i (by simpa using hi) j hj
theorem flatC_len {X : Type} {cs : X → Array Value} {z : Nat} (hz : ∀ x, (cs x).size = z) (xs : List X) : (flatC cs xs).length = xs.length * z := by
 induction xs with
 | nil => simp [flatC]
 | cons x xs ih =>
  have e : flatC cs (x :: xs) = (cs x).toList ++ flatC cs xs := rfl
  rw [e, List.length_append, ih, Array.length_toList, hz, List.length_cons, Nat.succ_mul, Nat.add_comm]
theorem flatC_one {X : Type} {cs : X → Array Value} (h1 : ∀ x, (cs x).all (·.oneCell') = true) (xs : List X) : ∀ u ∈ flatC cs xs, u.oneCell' = true := by
 intro u hu
 obtain ⟨x, -, h2⟩ := List.mem_flatMap.1 hu
 have := h1 x
 simp only [Array.all_eq_true'] at this
 exact this u (by simpa using h2)
theorem rowOf_cells {X : Type} {cs : X → Array Value} {z : Nat} (hz : ∀ x, (cs x).size = z) (h0 : 0 < z) {w : World} {p : Addr} {cap : Nat} {xs : List X} (h : RowOf cs z w (.slice (some p) xs.length cap) xs) (j : Nat) (u : Value) (hj : (flatC cs xs)[j]? = some u) : w.cell? (p.add j) = some u := by
 obtain ⟨a, c, e, hl, hc⟩ := h
 obtain ⟨rfl, rfl⟩ : a = some p ∧ c = cap := by cases e; exact ⟨rfl, rfl⟩
 have hjl : j < (flatC cs xs).length := (List.getElem?_eq_some_iff.1 hj).1
 rw [flatC_len hz] at hjl
 obtain ⟨b, off, e2, hb, hc2⟩ := hc.resolve_left (fun h0 => by rw [h0] at hjl; simp at hjl)
 clear hc e
 obtain rfl := Option.some.inj e2
 have hq : j / z < xs.length := Nat.div_lt_of_lt_mul (by rw [Nat.mul_comm]; exact hjl)
 have hr := Nat.mod_lt j h0
 have hd : j / z * z + j % z = j := by rw [Nat.mul_comm]; exact Nat.div_add_mod j z
 rw [Addr.add_mid]
 rw [← hd] at hj ⊢
 rw [flatC_at hz xs _ hq _ hr] at hj
 rw [← Nat.add_assoc]
 exact hc2 _ hq _ _ hj
theorem rowOf_of_owns {X : Type} {cs : X → Array Value} {z : Nat} (hz : ∀ x, (cs x).size = z) {w : World} {base : Nat} {t : TypeId} {v : Value} {xs : List X} (h : w.ownsRow base t z v xs.length (flatC cs xs)) (hl : (xs.length : Int) ≤ 9223372036854775807) : RowOf cs z w v xs := by
 rcases h.2 with ⟨rfl, h0⟩ | ⟨g, cap, cur, rfl, hb, hg, hk, hm, hcs, hx⟩
 ·obtain rfl : xs = [] := List.length_eq_zero_iff.1 h0
  exact rowOf_nil _ _ w
 ·refine ⟨_, _, rfl, hl, .inr ⟨g, 0, rfl, (Array.getElem?_eq_some_iff.1 hg).1, fun i hi j u hj => ?_⟩⟩
  have hjz : j < z := by
   rw [← hz xs[i]]
   exact (Array.getElem?_eq_some_iff.1 hj).1
  have e := flatC_at hz xs i hi j hjz
  rw [hj] at e
  rw [Nat.zero_add]
  refine Obj?.cell (cs := cur) hg _ u ?_
  rw [← hx] at e
  have hlt : i * z + j < xs.length * z := by
   have : (i + 1) * z ≤ xs.length * z := Nat.mul_le_mul_right z hi
   rw [Nat.succ_mul] at this
   omega
  rw [List.getElem?_take_of_lt hlt] at e
  simpa using e
theorem row_monoh {w : World} {base base' : Nat} {e : TypeId} {sz : Nat} {v : Value} {n : Nat} {xs : List Value} (h : w.ownsRow base e sz v n xs) (hb : base' ≤ base) : w.ownsRow base' e sz v n xs := by
 rcases h with ⟨h0, ⟨rfl, h1⟩ | ⟨g, cap, cur, rfl, h2, h3⟩⟩
 ·exact ⟨h0, .inl ⟨rfl, h1⟩⟩
 ·exact ⟨h0, .inr ⟨g, cap, cur, rfl, Nat.le_trans hb h2, h3⟩⟩
theorem row_belowh {w w' : World} {base : Nat} {e : TypeId} {sz : Nat} {v : Value} {n : Nat} {xs : List Value} (h : w.ownsRow base e sz v n xs) (hb : Below w.heap.size w w') : w'.ownsRow base e sz v n xs := by
 rcases h with ⟨h0, ⟨rfl, h1⟩ | ⟨g, cap, cur, rfl, h2, h3, h4⟩⟩
 ·exact ⟨h0, .inl ⟨rfl, h1⟩⟩
 ·exact ⟨h0, .inr ⟨g, cap, cur, rfl, h2, (hb.block g (Array.getElem?_eq_some_iff.1 h3).1).trans h3, h4⟩⟩
theorem one_in (x : Int) : (intCs x).all (·.oneCell') = true := by simp [intCs, Value.oneCell']
theorem infoZFt : (Tryz.prog.info? 152).map (fun i => (i.zero, i.size, i.bytes)) = some (some (.agg #[.string ⟨#[]⟩, .int .i64 0, .bool false, .bool false, .int .i64 0]), 5, 40) := by kernel_rfl
theorem infoZPp : (Tryz.prog.info? 150).map (fun i => (i.zero, i.size, i.bytes)) = some (some (.agg #[.int .i64 0, .int .u32 0, .string ⟨#[]⟩, .string ⟨#[]⟩]), 4, 48) := by kernel_rfl
theorem infoZIn : (Tryz.prog.info? 3).map (fun i => (i.zero, i.size, i.bytes)) = some (some (.int .i64 0), 1, 8) := by kernel_rfl
theorem clone_ft {v : Value} {xs : List Ft} {w : World} (hH : RowOf Ft.cs 5 w v xs) (hl : xs.length ≤ 2000) :
  Calls Tryz.prog 201 #[v] w fun e w' => ∃ v', e = .returned v' ∧ w'.ownsRow w.heap.size 152 5 v' xs.length (flatC Ft.cs xs) ∧ Below w.heap.size w w' := by
 obtain ⟨i0, hi, hz0, hz1, hz2⟩ := info_parts infoZFt
 have q : ∀ (w : World) (a : Option Addr) (n c n' c' : Nat), (binOp .eql 32 (.slice a n c) (.slice none n' c')).run Tryz.prog w = .ok (.bool a.isNone) w := fun w a n c n' c' => Lib.run_eql_slice_nil w _ _ a n c n' c' Tryz.underlying32
 have HHW := Lib.hid hH
 obtain ⟨a, cap, rfl, hll, hc⟩ := hH
 cases a with
 | none =>
  have h0 : xs = [] := by
   rcases hc with h | ⟨b, off, h, -⟩
   ·exact h
   ·cases h
  subst h0
  clear hc hll HHW hl
  go_enter Tryz.func201, Tryz.ntmps201
  go_wp2
  go_ret
  exact ⟨_, rfl, World.ownsRow_nil _ _ _ _, Below.refl _ _⟩
 | some p =>
  have HC := Lib.hid (fun j u h => rowOf_cells (cs := Ft.cs) (z := 5) (fun x => rfl) (by decide) HHW.out j u h)
  have HL := Lib.hid hl
  have HM := Lib.hid hll
  clear hc hll hl
  go_enter Tryz.func201, Tryz.ntmps201
  go_wp2_with (at_builtin; refine wpList_append_own _ rfl _ _ 32 rfl w.heap.size 152 i0 (.agg #[.string ⟨#[]⟩, .int .i64 0, .bool false, .bool false, .int .i64 0]) 5 40 Tryz.underlying32 hi hz0 hz1 hz2 rfl (by decide) _ _ _ rfl (World.ownsRow_made w #[] 0 (Nat.le_refl _) (Nat.zero_le _) rfl) p xs.length cap (flatC Ft.cs xs) rfl ?qc1 ?qc2 ?qc3 ?qc4 ?qc5 ?qc6 ?_)
  case qc1 => rw [flatC_len (z := 5) (fun x => rfl)]
  case qc2 => intro j u hj; exact Lib.cell?_alloc_some _ (HC.out j u hj)
  case qc3 => exact flatC_one one_ft xs
  case qc4 => have := HL.out; unfold maxLen; omega
  case qc5 => have := HL.out; omega
  case qc6 => simp
  intro v' w1 hown hgrow hnil
  have HO := Lib.hid (And.intro hown (And.intro hgrow hnil))
  clear hown hgrow hnil
  go_wp2
  go_ret
  obtain ⟨hown, hgrow, hnil⟩ := HO.out
  refine ⟨v', rfl, by simpa using hown, ?_⟩
  exact ((Below.refl _ w).alloc (Nat.le_refl _) _).grown hgrow (by simp) (by intro k hk; simp [Value.ownBlock] at hk; omega)
theorem clone_pp {v : Value} {xs : List Pp} {w : World} (hH : RowOf Pp.cs 4 w v xs) (hl : xs.length ≤ 2000) :
  Calls Tryz.prog 194 #[v] w fun e w' => ∃ v', e = .returned v' ∧ w'.ownsRow w.heap.size 150 4 v' xs.length (flatC Pp.cs xs) ∧ Below w.heap.size w w' := by
 obtain ⟨i0, hi, hz0, hz1, hz2⟩ := info_parts infoZPp
 have q : ∀ (w : World) (a : Option Addr) (n c n' c' : Nat), (binOp .eql 27 (.slice a n c) (.slice none n' c')).run Tryz.prog w = .ok (.bool a.isNone) w := fun w a n c n' c' => Lib.run_eql_slice_nil w _ _ a n c n' c' Tryz.underlying27
 have HHW := Lib.hid hH
 obtain ⟨a, cap, rfl, hll, hc⟩ := hH
 cases a with
 | none =>
  have h0 : xs = [] := by
   rcases hc with h | ⟨b, off, h, -⟩
   ·exact h
   ·cases h
  subst h0
  clear hc hll HHW hl
  go_enter Tryz.func194, Tryz.ntmps194
  go_wp2
  go_ret
  exact ⟨_, rfl, World.ownsRow_nil _ _ _ _, Below.refl _ _⟩
 | some p =>
  have HC := Lib.hid (fun j u h => rowOf_cells (cs := Pp.cs) (z := 4) (fun x => rfl) (by decide) HHW.out j u h)
  have HL := Lib.hid hl
  have HM := Lib.hid hll
  clear hc hll hl
  go_enter Tryz.func194, Tryz.ntmps194
  go_wp2_with (at_builtin; refine wpList_append_own _ rfl _ _ 27 rfl w.heap.size 150 i0 (.agg #[.int .i64 0, .int .u32 0, .string ⟨#[]⟩, .string ⟨#[]⟩]) 4 48 Tryz.underlying27 hi hz0 hz1 hz2 rfl (by decide) _ _ _ rfl (World.ownsRow_made w #[] 0 (Nat.le_refl _) (Nat.zero_le _) rfl) p xs.length cap (flatC Pp.cs xs) rfl ?qc1 ?qc2 ?qc3 ?qc4 ?qc5 ?qc6 ?_)
  case qc1 => rw [flatC_len (z := 4) (fun x => rfl)]
  case qc2 => intro j u hj; exact Lib.cell?_alloc_some _ (HC.out j u hj)
  case qc3 => exact flatC_one one_pp xs
  case qc4 => have := HL.out; unfold maxLen; omega
  case qc5 => have := HL.out; omega
  case qc6 => simp
  intro v' w1 hown hgrow hnil
  have HO := Lib.hid (And.intro hown (And.intro hgrow hnil))
  clear hown hgrow hnil
  go_wp2
  go_ret
  obtain ⟨hown, hgrow, hnil⟩ := HO.out
  refine ⟨v', rfl, by simpa using hown, ?_⟩
  exact ((Below.refl _ w).alloc (Nat.le_refl _) _).grown hgrow (by simp) (by intro k hk; simp [Value.ownBlock] at hk; omega)
theorem clone_in {v : Value} {xs : List Int} {w : World} (hH : RowOf intCs 1 w v xs) (hl : xs.length ≤ 2000) :
  Calls Tryz.prog 200 #[v] w fun e w' => ∃ v', e = .returned v' ∧ w'.ownsRow w.heap.size 3 1 v' xs.length (flatC intCs xs) ∧ Below w.heap.size w w' := by
 obtain ⟨i0, hi, hz0, hz1, hz2⟩ := info_parts infoZIn
 have q : ∀ (w : World) (a : Option Addr) (n c n' c' : Nat), (binOp .eql 31 (.slice a n c) (.slice none n' c')).run Tryz.prog w = .ok (.bool a.isNone) w := fun w a n c n' c' => Lib.run_eql_slice_nil w _ _ a n c n' c' Tryz.underlying31
 have HHW := Lib.hid hH
 obtain ⟨a, cap, rfl, hll, hc⟩ := hH
 cases a with
 | none =>
  have h0 : xs = [] := by
   rcases hc with h | ⟨b, off, h, -⟩
   ·exact h
   ·cases h
  subst h0
  clear hc hll HHW hl
  go_enter Tryz.func200, Tryz.ntmps200
  go_wp2
  go_ret
  exact ⟨_, rfl, World.ownsRow_nil _ _ _ _, Below.refl _ _⟩
 | some p =>
  have HC := Lib.hid (fun j u h => rowOf_cells (cs := intCs) (z := 1) (fun x => rfl) (by decide) HHW.out j u h)
  have HL := Lib.hid hl
  have HM := Lib.hid hll
  clear hc hll hl
  go_enter Tryz.func200, Tryz.ntmps200
  go_wp2_with (at_builtin; refine wpList_append_own _ rfl _ _ 31 rfl w.heap.size 3 i0 (.int .i64 0) 1 8 Tryz.underlying31 hi hz0 hz1 hz2 rfl (by decide) _ _ _ rfl (World.ownsRow_made w #[] 0 (Nat.le_refl _) (Nat.zero_le _) rfl) p xs.length cap (flatC intCs xs) rfl ?qc1 ?qc2 ?qc3 ?qc4 ?qc5 ?qc6 ?_)
  case qc1 => rw [flatC_len (z := 1) (fun x => rfl)]
  case qc2 => intro j u hj; exact Lib.cell?_alloc_some _ (HC.out j u hj)
  case qc3 => exact flatC_one one_in xs
  case qc4 => have := HL.out; unfold maxLen; omega
  case qc5 => have := HL.out; omega
  case qc6 => simp
  intro v' w1 hown hgrow hnil
  have HO := Lib.hid (And.intro hown (And.intro hgrow hnil))
  clear hown hgrow hnil
  go_wp2
  go_ret
  obtain ⟨hown, hgrow, hnil⟩ := HO.out
  refine ⟨v', rfl, by simpa using hown, ?_⟩
  exact ((Below.refl _ w).alloc (Nat.le_refl _) _).grown hgrow (by simp) (by intro k hk; simp [Value.ownBlock] at hk; omega)
structure Wl where
 top : List UInt8
 pay : List UInt8
 q : Int
 re : Bool
 props : List Pp
 deriving DecidableEq
structure Sc where
 ki : Int
 q : Int
 id : Int
 al : Int
 co : Int
 du : Bool
 re : Bool
 cl : Bool
 hu : Bool
 hp : Bool
 hw : Bool
 se : Bool
 top : List UInt8
 pay : List UInt8
 cli : List UInt8
 us : List UInt8
 pw : List UInt8
 deriving DecidableEq
structure Pk where
 s : Sc
 w : Wl
 codes : List Int
 filters : List Ft
 props : List Pp
 deriving DecidableEq
def wlCs (w : Wl) (v : Value) : Array Value := #[.string ⟨w.top.toArray⟩, .string ⟨w.pay.toArray⟩, .int .i64 w.q, .bool w.re, v]
def pkCs (p : Pk) (vw vc vf vp : Value) : Array Value := #[.int .i64 p.s.ki, .bool p.s.du, .bool p.s.re, .int .i64 p.s.q, .int .i64 p.s.id, .string ⟨p.s.top.toArray⟩, .string ⟨p.s.pay.toArray⟩, .bool p.s.cl, .int .i64 p.s.al, .string ⟨p.s.cli.toArray⟩, .bool p.s.hu, .string ⟨p.s.us.toArray⟩, .bool p.s.hp, .string ⟨p.s.pw.toArray⟩, .bool p.s.hw, .string ⟨p.w.top.toArray⟩, .string ⟨p.w.pay.toArray⟩, .int .i64 p.w.q, .bool p.w.re, vw, .bool p.s.se, .int .i64 p.s.co, vc, vf, vp]
structure PkAt (w : World) (p : Pk) (vw vc vf vp : Value) : Prop where
 rw' : RowOf Pp.cs 4 w vw p.w.props
 rc : RowOf intCs 1 w vc p.codes
 rf : RowOf Ft.cs 5 w vf p.filters
 rp : RowOf Pp.cs 4 w vp p.props
theorem PkAt.below {w w' : World} {p : Pk} {vw vc vf vp : Value} (h : PkAt w p vw vc vf vp) (hb : Below w.heap.size w w') : PkAt w' p vw vc vf vp :=
 ⟨h.rw'.below hb, h.rc.below hb, h.rf.below hb, h.rp.below hb⟩
structure PkSmall (p : Pk) : Prop where
 lw : p.w.props.length ≤ 2000
 lc : p.codes.length ≤ 2000
 lf : p.filters.length ≤ 2000
 lp : p.props.length ≤ 2000
theorem infoPk5 : (Tryz.prog.info? 34).map (·.size) = some 25 := by kernel_rfl
theorem load_Pk (a : Addr) : loadVar 34 a = rowSem 34 a := rfl
theorem store_Pk (a : Addr) (v : Value) : storeVar 34 a v = rowStore 34 a v := rfl
theorem load_Wl (a : Addr) : loadVar 30 a = rowSem 30 a := rfl
theorem load_pk {w : World} {b : Nat} {p : Pk} {vw vc vf vp : Value} (h : Obj? w b (pkCs p vw vc vf vp) 34) : (rowSem 34 ⟨b, 0, none⟩).run Tryz.prog w = .ok (.agg (pkCs p vw vc vf vp)) w :=
 rowSem_run w b 34 34 (pkCs p vw vc vf vp) _ h Tryz.underlying34 rfl infoPk5
theorem infoWl : (Tryz.prog.info? 30).map (·.size) = some 5 := by kernel_rfl
theorem pkCs_mid (p : Pk) (vw vc vf vp : Value) : pkCs p vw vc vf vp = #[.int .i64 p.s.ki, .bool p.s.du, .bool p.s.re, .int .i64 p.s.q, .int .i64 p.s.id, .string ⟨p.s.top.toArray⟩, .string ⟨p.s.pay.toArray⟩, .bool p.s.cl, .int .i64 p.s.al, .string ⟨p.s.cli.toArray⟩, .bool p.s.hu, .string ⟨p.s.us.toArray⟩, .bool p.s.hp, .string ⟨p.s.pw.toArray⟩, .bool p.s.hw] ++ wlCs p.w vw ++ #[.bool p.s.se, .int .i64 p.s.co, vc, vf, vp] := by unfold pkCs wlCs; rfl
theorem load_wl {w : World} {b : Nat} {p : Pk} {vw vc vf vp : Value} (h : Obj? w b (pkCs p vw vc vf vp) 34) : (rowSem 30 ⟨b, 15, none⟩).run Tryz.prog w = .ok (.agg (wlCs p.w vw)) w := by
 rw [pkCs_mid] at h
 exact rowSem_mid w b 15 30 (wlCs p.w vw) _ (fun j v hv => Obj?.mid h j v hv) Tryz.underlying30 rfl infoWl
theorem store_pkres {w : World} {b : Nat} {p : Pk} {vw vc vf vp : Value} {old : Array Value} (h : Obj? w b old 34) (hs : old.size = 25) (h1 : (pkCs p vw vc vf vp).all (·.oneCell') = true) :
  (rowStore 34 ⟨b, 0, none⟩ (.agg (pkCs p vw vc vf vp))).run Tryz.prog w = .ok () (w.setRow b (pkCs p vw vc vf vp)) :=
 rowStore_run w b 34 34 old _ h infoPk5 hs h1
theorem RowOf.one {X : Type} {cs : X → Array Value} {z : Nat} {w : World} {v : Value} {xs : List X} (h : RowOf cs z w v xs) : v.oneCell' = true := by
 obtain ⟨a, cap, rfl, -, -⟩ := h
 rfl
theorem pk_one {p : Pk} {vw vc vf vp : Value} (h1 : vw.oneCell' = true) (h2 : vc.oneCell' = true) (h3 : vf.oneCell' = true) (h4 : vp.oneCell' = true) : (pkCs p vw vc vf vp).all (·.oneCell') = true := by
 simp [pkCs, Value.oneCell']
 exact ⟨h1, h2, h3, h4⟩
end Go.Proofs.YtanofjmkkhocaaaGreatDoor
namespace Go.Proofs.YtanofjmkkhocaaaGreatDoor
open Go Go.RowKit
attribute [local go_sem ↓] load_Pk store_Pk load_Wl
attribute [local irreducible] rowSem rowStore
theorem below_thenh {w W w' : World} (h : Below w.heap.size w W) (hb : Below W.heap.size W w') : Below w.heap.size w w' := h.trans (hb.mono h.size)
theorem obj_set_ne {w : World} {b g j : Nat} {u : Value} {cs : Array Value} {t : TypeId} (h : Obj? w b cs t) (hne : b ≠ g) : Obj? (w.setCell ⟨g, j, none⟩ u) b cs t := by
 unfold Obj? at *
 rw [Below.heap_setCell w _ u b hne]
 exact h
structure CopyAt (w : World) (p : Pk) (vw vc vf vp : Value) (W : World) : Prop where
 box : Obj? W w.heap.size (pkCs p vw vc vf vp) 34
 res : Obj? W (w.heap.size + 1) #[.int .i64 0, .bool false, .bool false, .int .i64 0, .int .i64 0, .string ⟨#[]⟩, .string ⟨#[]⟩, .bool false, .int .i64 0, .string ⟨#[]⟩, .bool false, .string ⟨#[]⟩, .bool false, .string ⟨#[]⟩, .bool false, .string ⟨#[]⟩, .string ⟨#[]⟩, .int .i64 0, .bool false, .slice none 0 0, .bool false, .int .i64 0, .slice none 0 0, .slice none 0 0, .slice none 0 0] 34
 bel : Below w.heap.size w W
theorem CopyAt.below {w : World} {p : Pk} {vw vc vf vp : Value} {A B : World} (h : CopyAt w p vw vc vf vp A) (hb : Below A.heap.size A B) : CopyAt w p vw vc vf vp B :=
 ⟨h.box.below hb h.box.lt, h.res.below hb h.res.lt, below_thenh h.bel hb⟩
theorem CopyAt.size {w : World} {p : Pk} {vw vc vf vp : Value} {W : World} (h : CopyAt w p vw vc vf vp W) : w.heap.size + 2 ≤ W.heap.size := h.res.lt
def OwnL (w : World) {X : Type} (cs : X → Array Value) (z : Nat) (t : TypeId) (v : Value) (xs : List X) (W : World) : Prop := W.ownsRow (w.heap.size + 2) t z v xs.length (flatC cs xs)
theorem OwnL.below {w : World} {X : Type} {cs : X → Array Value} {z : Nat} {t : TypeId} {v : Value} {xs : List X} {A B : World} (h : OwnL w cs z t v xs A) (hb : Below A.heap.size A B) : OwnL w cs z t v xs B := row_belowh h hb
theorem OwnL.set {w : World} {X : Type} {cs : X → Array Value} {z : Nat} {t : TypeId} {v : Value} {xs : List X} {A : World} (h : OwnL w cs z t v xs A) (j : Nat) (u : Value) : OwnL w cs z t v xs (A.setCell ⟨w.heap.size, j, none⟩ u) := ownsRow_setCell_below (a := ⟨w.heap.size, j, none⟩) h (show w.heap.size < w.heap.size + 2 by omega) u
theorem OwnL.of {w : World} {X : Type} {cs : X → Array Value} {z : Nat} {t : TypeId} {v : Value} {xs : List X} {A W : World} (h : W.ownsRow A.heap.size t z v xs.length (flatC cs xs)) (hA : w.heap.size + 2 ≤ A.heap.size) : OwnL w cs z t v xs W := row_monoh h hA
theorem OwnL.one {w : World} {X : Type} {cs : X → Array Value} {z : Nat} {t : TypeId} {v : Value} {xs : List X} {A : World} (h : OwnL w cs z t v xs A) : v.oneCell' = true := by
 rcases h.2 with ⟨rfl, -⟩ | ⟨g, cap, cur, rfl, -⟩ <;> rfl
theorem OwnL.row {w : World} {X : Type} {cs : X → Array Value} {z : Nat} {t : TypeId} {v : Value} {xs : List X} {A : World} (h : OwnL w cs z t v xs A) (C : Array Value) : OwnL w cs z t v xs (A.setRow (w.heap.size + 1) C) := by
 rcases h with ⟨h0, ⟨rfl, h1⟩ | ⟨g, cap, cur, rfl, h2, h3, h4⟩⟩
 ·exact ⟨h0, .inl ⟨rfl, h1⟩⟩
 ·exact ⟨h0, .inr ⟨g, cap, cur, rfl, h2, by rw [setRow_other A (w.heap.size + 1) g C (by omega)]; exact h3, h4⟩⟩
theorem CopyAt.two {w : World} {p : Pk} {vw vc vf vp : Value} {W : World} (h : CopyAt w p vw vc vf vp W) (vc' vf' : Value) : CopyAt w p vw vc' vf' vp ((W.setCell ⟨w.heap.size, 22, none⟩ vc').setCell ⟨w.heap.size, 23, none⟩ vf') :=
 ⟨(h.box.set 22 vc').set 23 vf', obj_set_ne (obj_set_ne h.res (by omega)) (by omega), (h.bel.setCell (Nat.le_refl _) _).setCell (Nat.le_refl _) _⟩
theorem CopyAt.two' {w : World} {p : Pk} {vw vc vf vp : Value} {W : World} (h : CopyAt w p vw vc vf vp W) (vc' vf' : Value) : CopyAt w p vw vc' vf' vp ((W.setCell ⟨w.heap.size, 23, none⟩ vf').setCell ⟨w.heap.size, 22, none⟩ vc') :=
 ⟨(h.box.set 23 vf').set 22 vc', obj_set_ne (obj_set_ne h.res (by omega)) (by omega), (h.bel.setCell (Nat.le_refl _) _).setCell (Nat.le_refl _) _⟩
theorem CopyAt.twp {w : World} {p : Pk} {vw vc vf vp : Value} {W : World} (h : CopyAt w p vw vc vf vp W) (vp' vw' : Value) : CopyAt w p vw' vc vf vp' ((W.setCell ⟨w.heap.size, 24, none⟩ vp').setCell ⟨w.heap.size, 19, none⟩ vw') :=
 ⟨(h.box.set 24 vp').set 19 vw', obj_set_ne (obj_set_ne h.res (by omega)) (by omega), (h.bel.setCell (Nat.le_refl _) _).setCell (Nat.le_refl _) _⟩
theorem CopyAt.twp' {w : World} {p : Pk} {vw vc vf vp : Value} {W : World} (h : CopyAt w p vw vc vf vp W) (vp' vw' : Value) : CopyAt w p vw' vc vf vp' ((W.setCell ⟨w.heap.size, 19, none⟩ vw').setCell ⟨w.heap.size, 24, none⟩ vp') :=
 ⟨(h.box.set 19 vw').set 24 vp', obj_set_ne (obj_set_ne h.res (by omega)) (by omega), (h.bel.setCell (Nat.le_refl _) _).setCell (Nat.le_refl _) _⟩
def CopySaid (w : World) (p : Pk) (e : Ending) (w' : World) : Prop :=
 ∃ vw vc vf vp, e = .returned (.agg (pkCs p vw vc vf vp)) ∧ w'.ownsRow (w.heap.size + 2) 150 4 vw p.w.props.length (flatC Pp.cs p.w.props) ∧ PkAt w' p vw vc vf vp ∧ Below w.heap.size w w'
theorem copy_world (p : Pk) (vw vc vf vp : Value) (w : World) : ∃ W0, (w.alloc (.cells (pkCs p vw vc vf vp) 34 (0, 0))).alloc (.cells #[.int .i64 0, .bool false, .bool false, .int .i64 0, .int .i64 0, .string ⟨#[]⟩, .string ⟨#[]⟩, .bool false, .int .i64 0, .string ⟨#[]⟩, .bool false, .string ⟨#[]⟩, .bool false, .string ⟨#[]⟩, .bool false, .string ⟨#[]⟩, .string ⟨#[]⟩, .int .i64 0, .bool false, .slice none 0 0, .bool false, .int .i64 0, .slice none 0 0, .slice none 0 0, .slice none 0 0] 34 (0, 0)) = W0 ∧ CopyAt w p vw vc vf vp W0 := by
 refine ⟨_, rfl, (Obj?.new w _ _).alloc _, ?_, below_al (below_al (Below.refl _ w) _) _⟩
 have := Obj?.new (w.alloc (.cells (pkCs p vw vc vf vp) 34 (0, 0))) #[.int .i64 0, .bool false, .bool false, .int .i64 0, .int .i64 0, .string ⟨#[]⟩, .string ⟨#[]⟩, .bool false, .int .i64 0, .string ⟨#[]⟩, .bool false, .string ⟨#[]⟩, .bool false, .string ⟨#[]⟩, .bool false, .string ⟨#[]⟩, .string ⟨#[]⟩, .int .i64 0, .bool false, .slice none 0 0, .bool false, .int .i64 0, .slice none 0 0, .slice none 0 0, .slice none 0 0] 34
 rw [World.size_alloc] at this
 exact this
theorem copy_any {p : Pk} {vw vc vf vp : Value} {w : World} (hP : PkAt w p vw vc vf vp) (hs : PkSmall p) : Calls Tryz.prog 196 #[.agg (pkCs p vw vc vf vp)] w (CopySaid w p) := by
 obtain ⟨W0, hW0, hC0⟩ := copy_world p vw vc vf vp w
 have HC0 := Lib.hid hC0
 have HSm := Lib.hid hs
 have HCi := Lib.hid (fun W (h : Hid (CopyAt w p vw vc vf vp W)) => clone_in (hP.rc.below h.out.bel) hs.lc)
 have HCf := Lib.hid (fun W (h : Hid (CopyAt w p vw vc vf vp W)) => clone_ft (hP.rf.below h.out.bel) hs.lf)
 have HCp := Lib.hid (fun W (h : ∃ vc' vf', Hid (CopyAt w p vw vc' vf' vp W)) => clone_pp (hP.rp.below h.choose_spec.choose_spec.out.bel) hs.lp)
 have HCw := Lib.hid (fun W (h : ∃ vc' vf', Hid (CopyAt w p vw vc' vf' vp W)) => clone_pp (hP.rw'.below h.choose_spec.choose_spec.out.bel) hs.lw)
 clear hP hs hC0
 go_enter Tryz.func196, Tryz.ntmps196
 go_upto_region 1 with fail
 (try rw [hW0])
 clear hW0
 have HD0 := Lib.hid (HC0.out.below (below_grown (quiet_grown ⟨1, rfl⟩ none) : Below W0.heap.size W0 W0.drew))
 have k0 := HC0.out.box.cells
 unfold pkCs at k0
 go_cut [10] from 3 to 10 (fun (_ : Value) (wx : World) => ∃ vc' vf', Hid (CopyAt w p vw vc' vf' vp wx ∧ OwnL w intCs 1 3 vc' p.codes wx ∧ OwnL w Ft.cs 5 152 vf' p.filters wx))
 case first =>
  go_region_with ((first
   | (go_at_call 200; ((with_reducible refine (HCi.out _ HD0).mono ?_); (rintro r w2 ⟨vc', rfl, ho2, hb2⟩; obtain ⟨ac, cc, hvc⟩ := owns_shape (by decide) ho2; subst hvc; have HD2 := Lib.hid (HD0.out.below hb2); have HO2 := Lib.hid (OwnL.of ho2 HD0.out.size); have k2 := HD2.out.box.cells; unfold pkCs at k2; clear ho2 hb2)))
   | (go_at_call 201; ((with_reducible refine (HCf.out _ HD0).mono ?_); (rintro r w2 ⟨vf', rfl, ho2, hb2⟩; obtain ⟨af, cf, hvf⟩ := owns_shape (by decide) ho2; subst hvf; have HD2 := Lib.hid (HD0.out.below hb2); have HO2 := Lib.hid (OwnL.of ho2 HD0.out.size); have k2 := HD2.out.box.cells; unfold pkCs at k2; clear ho2 hb2)))
   | (go_at_call 200; ((with_reducible refine (HCi.out _ HD2).mono ?_); (rintro r w3 ⟨vc', rfl, ho3, hb3⟩; obtain ⟨ac, cc, hvc⟩ := owns_shape (by decide) ho3; subst hvc; have HD3 := Lib.hid (HD2.out.below hb3); have HO3 := Lib.hid (And.intro (OwnL.of ho3 HD2.out.size) (HO2.out.below hb3)); have k3 := HD3.out.box.cells; unfold pkCs at k3; have f3 := HD3.out.box.froz; have o4 : Obj? (w3.setCell ⟨w.heap.size, 22, none⟩ (.slice ac p.codes.length cc)) w.heap.size (pkCs p vw (.slice ac p.codes.length cc) vf vp) 34 := HD3.out.box.set 22 (.slice ac p.codes.length cc); have k4 := o4.cells; unfold pkCs at k4; have f4 := o4.froz; have o5 : Obj? (w3.setCell ⟨w.heap.size, 23, none⟩ (.slice af p.filters.length cf)) w.heap.size (pkCs p vw vc (.slice af p.filters.length cf) vp) 34 := HD3.out.box.set 23 (.slice af p.filters.length cf); have k5 := o5.cells; unfold pkCs at k5; have f5 := o5.froz; clear o4 o5; clear ho3 hb3)))
   | (go_at_call 201; ((with_reducible refine (HCf.out _ HD2).mono ?_); (rintro r w3 ⟨vf', rfl, ho3, hb3⟩; obtain ⟨af, cf, hvf⟩ := owns_shape (by decide) ho3; subst hvf; have HD3 := Lib.hid (HD2.out.below hb3); have HO3 := Lib.hid (And.intro (HO2.out.below hb3) (OwnL.of ho3 HD2.out.size)); have k3 := HD3.out.box.cells; unfold pkCs at k3; have f3 := HD3.out.box.froz; have o4 : Obj? (w3.setCell ⟨w.heap.size, 22, none⟩ (.slice ac p.codes.length cc)) w.heap.size (pkCs p vw (.slice ac p.codes.length cc) vf vp) 34 := HD3.out.box.set 22 (.slice ac p.codes.length cc); have k4 := o4.cells; unfold pkCs at k4; have f4 := o4.froz; have o5 : Obj? (w3.setCell ⟨w.heap.size, 23, none⟩ (.slice af p.filters.length cf)) w.heap.size (pkCs p vw vc (.slice af p.filters.length cf) vp) 34 := HD3.out.box.set 23 (.slice af p.filters.length cf); have k5 := o5.cells; unfold pkCs at k5; have f5 := o5.froz; clear o4 o5; clear ho3 hb3)))))
  all_goals
   go_wp2_with fail
   go_meet
   first
    | exact ⟨_, _, Lib.hid ⟨HD3.out.two _ _, (HO3.out.1.set 22 _).set 23 _, (HO3.out.2.set 22 _).set 23 _⟩⟩
    | exact ⟨_, _, Lib.hid ⟨HD3.out.two' _ _, (HO3.out.1.set 23 _).set 22 _, (HO3.out.2.set 23 _).set 22 _⟩⟩
 case rest =>
 obtain ⟨vc', vf', HA1⟩ := hcut
 have HC1 := Lib.hid HA1.out.1
 have HD1 := Lib.hid (HC1.out.below (below_grown (quiet_grown ⟨1, rfl⟩ none) : Below wc.heap.size wc wc.drew))
 have k1 := HC1.out.box.cells
 unfold pkCs at k1
 clear k0 HC0 HD0
 go_upto_region 2 with fail
 go_cut [20] from 11 to 20 (fun (_ : Value) (wx : World) => ∃ vp' vw', Hid (CopyAt w p vw' vc' vf' vp' wx ∧ OwnL w intCs 1 3 vc' p.codes wx ∧ OwnL w Ft.cs 5 152 vf' p.filters wx ∧ OwnL w Pp.cs 4 150 vp' p.props wx ∧ OwnL w Pp.cs 4 150 vw' p.w.props wx))
 case first =>
  go_region_with ((first
   | (go_at_call 194; ((with_reducible refine (HCp.out _ ⟨_, _, HD1⟩).mono ?_); (rintro r w2 ⟨vp', rfl, ho2, hb2⟩; obtain ⟨ap, cp, hvp⟩ := owns_shape (by decide) ho2; subst hvp; have HD2 := Lib.hid (HD1.out.below hb2); have HO2 := Lib.hid (OwnL.of ho2 HD1.out.size); have k2 := HD2.out.box.cells; unfold pkCs at k2; have HOO := Lib.hid (And.intro ((HA1.out.2.1.below (below_grown (quiet_grown ⟨1, rfl⟩ none) : Below wc.heap.size wc wc.drew)).below hb2) ((HA1.out.2.2.below (below_grown (quiet_grown ⟨1, rfl⟩ none) : Below wc.heap.size wc wc.drew)).below hb2)); clear ho2 hb2)))
   | (go_at_call 194; ((with_reducible refine (HCw.out _ ⟨_, _, HD1⟩).mono ?_); (rintro r w2 ⟨vw', rfl, ho2, hb2⟩; obtain ⟨aw, cw, hvw⟩ := owns_shape (by decide) ho2; subst hvw; have HD2 := Lib.hid (HD1.out.below hb2); have HO2 := Lib.hid (OwnL.of ho2 HD1.out.size); have k2 := HD2.out.box.cells; unfold pkCs at k2; have HOO := Lib.hid (And.intro ((HA1.out.2.1.below (below_grown (quiet_grown ⟨1, rfl⟩ none) : Below wc.heap.size wc wc.drew)).below hb2) ((HA1.out.2.2.below (below_grown (quiet_grown ⟨1, rfl⟩ none) : Below wc.heap.size wc wc.drew)).below hb2)); clear ho2 hb2)))
   | (go_at_call 194; ((with_reducible refine (HCp.out _ ⟨_, _, HD2⟩).mono ?_); (rintro r w3 ⟨vp', rfl, ho3, hb3⟩; obtain ⟨ap, cp, hvp⟩ := owns_shape (by decide) ho3; subst hvp; have HD3 := Lib.hid (HD2.out.below hb3); have HO3 := Lib.hid (And.intro (HOO.out.1.below hb3) (And.intro (HOO.out.2.below hb3) (And.intro (OwnL.of ho3 HD2.out.size) (HO2.out.below hb3)))); have k3 := HD3.out.box.cells; unfold pkCs at k3; have f3 := HD3.out.box.froz; have o4 : Obj? (w3.setCell ⟨w.heap.size, 24, none⟩ (.slice ap p.props.length cp)) w.heap.size (pkCs p vw vc' vf' (.slice ap p.props.length cp)) 34 := HD3.out.box.set 24 (.slice ap p.props.length cp); have k4 := o4.cells; unfold pkCs at k4; have f4 := o4.froz; have o5 : Obj? (w3.setCell ⟨w.heap.size, 19, none⟩ (.slice aw p.w.props.length cw)) w.heap.size (pkCs p (.slice aw p.w.props.length cw) vc' vf' vp) 34 := HD3.out.box.set 19 (.slice aw p.w.props.length cw); have k5 := o5.cells; unfold pkCs at k5; have f5 := o5.froz; clear o4 o5; clear ho3 hb3)))
   | (go_at_call 194; ((with_reducible refine (HCw.out _ ⟨_, _, HD2⟩).mono ?_); (rintro r w3 ⟨vw', rfl, ho3, hb3⟩; obtain ⟨aw, cw, hvw⟩ := owns_shape (by decide) ho3; subst hvw; have HD3 := Lib.hid (HD2.out.below hb3); have HO3 := Lib.hid (And.intro (HOO.out.1.below hb3) (And.intro (HOO.out.2.below hb3) (And.intro (HO2.out.below hb3) (OwnL.of ho3 HD2.out.size)))); have k3 := HD3.out.box.cells; unfold pkCs at k3; have f3 := HD3.out.box.froz; have o4 : Obj? (w3.setCell ⟨w.heap.size, 24, none⟩ (.slice ap p.props.length cp)) w.heap.size (pkCs p vw vc' vf' (.slice ap p.props.length cp)) 34 := HD3.out.box.set 24 (.slice ap p.props.length cp); have k4 := o4.cells; unfold pkCs at k4; have f4 := o4.froz; have o5 : Obj? (w3.setCell ⟨w.heap.size, 19, none⟩ (.slice aw p.w.props.length cw)) w.heap.size (pkCs p (.slice aw p.w.props.length cw) vc' vf' vp) 34 := HD3.out.box.set 19 (.slice aw p.w.props.length cw); have k5 := o5.cells; unfold pkCs at k5; have f5 := o5.froz; clear o4 o5; clear ho3 hb3)))))
  all_goals
   go_wp2_with fail
   go_meet
   first
    | exact ⟨_, _, Lib.hid ⟨HD3.out.twp _ _, (HO3.out.1.set 24 _).set 19 _, (HO3.out.2.1.set 24 _).set 19 _, (HO3.out.2.2.1.set 24 _).set 19 _, (HO3.out.2.2.2.set 24 _).set 19 _⟩⟩
    | exact ⟨_, _, Lib.hid ⟨HD3.out.twp' _ _, (HO3.out.1.set 19 _).set 24 _, (HO3.out.2.1.set 19 _).set 24 _, (HO3.out.2.2.1.set 19 _).set 24 _, (HO3.out.2.2.2.set 19 _).set 24 _⟩⟩
 case rest =>
 obtain ⟨vp', vw', HA2⟩ := hcut
 have hld := load_pk HA2.out.1.box
 have hst := store_pkres (p := p) (vw := vw') (vc := vc') (vf := vf') (vp := vp') HA2.out.1.res rfl (pk_one HA2.out.2.2.2.2.one HA2.out.2.1.one HA2.out.2.2.1.one HA2.out.2.2.2.1.one)
 have HSz := Lib.hid (And.intro (And.intro HSm.out.lw HSm.out.lc) (And.intro HSm.out.lf HSm.out.lp))
 clear k1 HC1 HD1 HA1
 go_wp2
 refine bodyPost_ret (results_row1 rfl _ _ _ _ _ _ rfl (HA2.out.1.res.setRow _) Tryz.underlying34 rfl infoPk5) rfl ?_
 refine ⟨vw', vc', vf', vp', rfl, HA2.out.2.2.2.2.row _, ⟨rowOf_of_owns (cs := Pp.cs) (z := 4) (fun x => rfl) (HA2.out.2.2.2.2.row _) (by have := HSz.out.1.1; omega), rowOf_of_owns (cs := intCs) (z := 1) (fun x => rfl) (HA2.out.2.1.row _) (by have := HSz.out.1.2; omega), rowOf_of_owns (cs := Ft.cs) (z := 5) (fun x => rfl) (HA2.out.2.2.1.row _) (by have := HSz.out.2.1; omega), rowOf_of_owns (cs := Pp.cs) (z := 4) (fun x => rfl) (HA2.out.2.2.2.1.row _) (by have := HSz.out.2.2; omega)⟩, below_row HA2.out.1.bel (by omega) _⟩
end Go.Proofs.YtanofjmkkhocaaaGreatDoor
namespace Go.Proofs.YtanofjmkkhocaaaGreatDoor
open Go Go.RowKit
theorem store_Br (a : Addr) (v : Value) : storeVar 388 a v = rowStore 388 a v := rfl
attribute [local go_sem ↓] load_Pk store_Pk load_Wl store_Br
attribute [local irreducible] rowSem rowStore
def scCs (s : Sc) : Array Value := #[.int .i64 s.ki, .int .i64 s.q, .int .i64 s.id, .int .i64 s.al, .int .i64 s.co, .bool s.du, .bool s.re, .bool s.cl, .bool s.hu, .bool s.hp, .bool s.hw, .bool s.se, .string ⟨s.top.toArray⟩, .string ⟨s.pay.toArray⟩, .string ⟨s.cli.toArray⟩, .string ⟨s.us.toArray⟩, .string ⟨s.pw.toArray⟩]
theorem infoBr : (Tryz.prog.info? 388).map (·.size) = some 17 := by kernel_rfl
theorem store_br {w : World} {b : Nat} {s : Sc} {old : Array Value} (h : Obj? w b old 388) (hs : old.size = 17) :
  (rowStore 388 ⟨b, 0, none⟩ (.agg (scCs s))).run Tryz.prog w = .ok () (w.setRow b (scCs s)) :=
 rowStore_run w b 388 388 old _ h infoBr hs (by simp [scCs, Value.oneCell'])
theorem strip_any (p : Pk) (vw vc vf vp : Value) (w : World) : Calls Tryz.prog 305 #[.agg (pkCs p vw vc vf vp)] w fun e w' => e = .returned (.agg (scCs p.s)) ∧ Below w.heap.size w w' := by
 have O1 := (Obj?.new w (pkCs p vw vc vf vp) 34).alloc (.cells #[.int .i64 0, .int .i64 0, .int .i64 0, .int .i64 0, .int .i64 0, .bool false, .bool false, .bool false, .bool false, .bool false, .bool false, .bool false, .string ⟨#[]⟩, .string ⟨#[]⟩, .string ⟨#[]⟩, .string ⟨#[]⟩, .string ⟨#[]⟩] 388 (0, 0))
 have O2 := Obj?.new (w.alloc (.cells (pkCs p vw vc vf vp) 34 (0, 0))) #[.int .i64 0, .int .i64 0, .int .i64 0, .int .i64 0, .int .i64 0, .bool false, .bool false, .bool false, .bool false, .bool false, .bool false, .bool false, .string ⟨#[]⟩, .string ⟨#[]⟩, .string ⟨#[]⟩, .string ⟨#[]⟩, .string ⟨#[]⟩] 388
 rw [World.size_alloc] at O2
 have hB := below_al (below_al (Below.refl _ w) (.cells (pkCs p vw vc vf vp) 34 (0, 0))) (.cells #[.int .i64 0, .int .i64 0, .int .i64 0, .int .i64 0, .int .i64 0, .bool false, .bool false, .bool false, .bool false, .bool false, .bool false, .bool false, .string ⟨#[]⟩, .string ⟨#[]⟩, .string ⟨#[]⟩, .string ⟨#[]⟩, .string ⟨#[]⟩] 388 (0, 0))
 have k := O1.cells
 have hst := store_br (s := p.s) O2 rfl
 have HO := Lib.hid (And.intro O2 hB)
 unfold scCs at hst
 simp only [pkCs] at k
 clear O1 O2 hB
 go_enter Tryz.func305, Tryz.ntmps305
 go_upto_region 1 with fail
 obtain ⟨W0, hW0⟩ : ∃ W0, W0 = (w.alloc (.cells (pkCs p vw vc vf vp) 34 (0, 0))).alloc (.cells #[.int .i64 0, .int .i64 0, .int .i64 0, .int .i64 0, .int .i64 0, .bool false, .bool false, .bool false, .bool false, .bool false, .bool false, .bool false, .string ⟨#[]⟩, .string ⟨#[]⟩, .string ⟨#[]⟩, .string ⟨#[]⟩, .string ⟨#[]⟩] 388 (0, 0)) := ⟨_, rfl⟩
 rw [← hW0] at hst HO
 rw [← hW0]
 simp only [pkCs] at hW0
 rw [← hW0] at k
 clear hW0
 (try dsimp only [List.append])
 go_wp2
 refine bodyPost_ret (results_row1 rfl _ _ _ _ _ _ rfl (HO.out.1.setRow _) Tryz.underlying388 rfl infoBr) rfl ?_
 exact ⟨rfl, below_row HO.out.2 (by omega) _⟩
theorem wl_world (a b : Wl) (va vb : Value) (w : World) : ∃ W0, (w.alloc (.cells (wlCs a va) 30 (0, 0))).alloc (.cells (wlCs b vb) 30 (0, 0)) = W0 ∧ Obj? W0 w.heap.size (wlCs a va) 30 ∧ Obj? W0 (w.heap.size + 1) (wlCs b vb) 30 ∧ Below w.heap.size w W0 := by
 refine ⟨_, rfl, (Obj?.new w _ _).alloc _, ?_, below_al (below_al (Below.refl _ w) _) _⟩
 have := Obj?.new (w.alloc (.cells (wlCs a va) 30 (0, 0))) (wlCs b vb) 30
 rw [World.size_alloc] at this
 exact this
theorem samewill_any {a b : Wl} {va vb : Value} {w : World} (hA : RowOf Pp.cs 4 w va a.props) (hB : RowOf Pp.cs 4 w vb b.props) :
  Calls Tryz.prog 306 #[.agg (wlCs a va), .agg (wlCs b vb)] w fun e w' => e = .returned (.bool (decide (a = b))) ∧ Below w.heap.size w w' := by
 obtain ⟨W0, hW0, O1, O2, hb0⟩ := wl_world a b va vb w
 have HO := Lib.hid hb0
 have HLl := Lib.hid (list_pp (hA.below hb0) (hB.below hb0))
 have k1 := O1.cells
 have k2 := O2.cells
 obtain ⟨aa, ca, rfl, -, -⟩ := hA
 obtain ⟨ab, cb, rfl, -, -⟩ := hB
 obtain ⟨t1, p1, q1, r1, l1⟩ := a
 obtain ⟨t2, p2, q2, r2, l2⟩ := b
 simp only at HLl
 simp only [wlCs] at k1 k2 hW0 ⊢
 clear O1 O2 hb0
 by_cases h : t1 = t2
 rotate_left
 ·have HE := Lib.hid (show decide ((⟨t1, p1, q1, r1, l1⟩ : Wl) = ⟨t2, p2, q2, r2, l2⟩) = false from decide_eq_false (fun e => h (congrArg Wl.top e)))
  rw [HE.out]
  have e1 : (t1 == t2) = false := by simpa using h
  clear h HLl
  go_enter Tryz.func306, Tryz.ntmps306
  go_upto_region 1 with fail
  (try rw [hW0])
  clear hW0
  (try dsimp only [List.append])
  go_wp2
  go_ret
  exact ⟨rfl, HO.out⟩
 subst h
 by_cases h : p1 = p2
 rotate_left
 ·have HE := Lib.hid (show decide ((⟨t1, p1, q1, r1, l1⟩ : Wl) = ⟨t1, p2, q2, r2, l2⟩) = false from decide_eq_false (fun e => h (congrArg Wl.pay e)))
  rw [HE.out]
  have e1 : (p1 == p2) = false := by simpa using h
  clear h HLl
  go_enter Tryz.func306, Tryz.ntmps306
  go_upto_region 1 with fail
  (try rw [hW0])
  clear hW0
  (try dsimp only [List.append])
  go_wp2
  go_ret
  exact ⟨rfl, HO.out⟩
 subst h
 by_cases h : q1 = q2
 rotate_left
 ·have HE := Lib.hid (show decide ((⟨t1, p1, q1, r1, l1⟩ : Wl) = ⟨t1, p1, q2, r2, l2⟩) = false from decide_eq_false (fun e => h (congrArg Wl.q e)))
  rw [HE.out]
  have e1 : (q1 == q2) = false := by simpa using h
  clear h HLl
  go_enter Tryz.func306, Tryz.ntmps306
  go_upto_region 1 with fail
  (try rw [hW0])
  clear hW0
  (try dsimp only [List.append])
  go_wp2
  go_ret
  exact ⟨rfl, HO.out⟩
 subst h
 by_cases h : r1 = r2
 rotate_left
 ·have HE := Lib.hid (show decide ((⟨t1, p1, q1, r1, l1⟩ : Wl) = ⟨t1, p1, q1, r2, l2⟩) = false from decide_eq_false (fun e => h (congrArg Wl.re e)))
  rw [HE.out]
  have e1 : (r1 == r2) = false := by simpa using h
  clear h HLl
  go_enter Tryz.func306, Tryz.ntmps306
  go_upto_region 1 with fail
  (try rw [hW0])
  clear hW0
  (try dsimp only [List.append])
  go_wp2
  go_ret
  exact ⟨rfl, HO.out⟩
 subst h
 have HE := Lib.hid (show decide ((⟨t1, p1, q1, r1, l1⟩ : Wl) = ⟨t1, p1, q1, r1, l2⟩) = decide (l1 = l2) by simp)
 rw [HE.out]
 go_enter Tryz.func306, Tryz.ntmps306
 go_upto_region 1 with fail
 (try rw [hW0])
 clear hW0
 (try dsimp only [List.append])
 go_wp2_with fail
 refine HLl.out.mono ?_
 rintro r w2 ⟨rfl, hb⟩
 have HB2 := Lib.hid (below_thenh HO.out hb)
 clear hb
 go_wp2
 go_ret
 exact ⟨rfl, HB2.out⟩
theorem pk_world (a b : Pk) (aw ac af ap bw bc bf bp : Value) (w : World) : ∃ W0, (w.alloc (.cells (pkCs a aw ac af ap) 34 (0, 0))).alloc (.cells (pkCs b bw bc bf bp) 34 (0, 0)) = W0 ∧ Obj? W0 w.heap.size (pkCs a aw ac af ap) 34 ∧ Obj? W0 (w.heap.size + 1) (pkCs b bw bc bf bp) 34 ∧ Below w.heap.size w W0 := by
 refine ⟨_, rfl, (Obj?.new w _ _).alloc _, ?_, below_al (below_al (Below.refl _ w) _) _⟩
 have := Obj?.new (w.alloc (.cells (pkCs a aw ac af ap) 34 (0, 0))) (pkCs b bw bc bf bp) 34
 rw [World.size_alloc] at this
 exact this
theorem PkAt.one {w : World} {p : Pk} {vw vc vf vp : Value} (h : PkAt w p vw vc vf vp) : (∃ a n c, vw = .slice a n c) ∧ (∃ a n c, vc = .slice a n c) ∧ (∃ a n c, vf = .slice a n c) ∧ (∃ a n c, vp = .slice a n c) := by
 obtain ⟨⟨a1, c1, e1, -⟩, ⟨a2, c2, e2, -⟩, ⟨a3, c3, e3, -⟩, ⟨a4, c4, e4, -⟩⟩ := h
 exact ⟨⟨_, _, _, e1⟩, ⟨_, _, _, e2⟩, ⟨_, _, _, e3⟩, ⟨_, _, _, e4⟩⟩
end Go.Proofs.YtanofjmkkhocaaaGreatDoor
