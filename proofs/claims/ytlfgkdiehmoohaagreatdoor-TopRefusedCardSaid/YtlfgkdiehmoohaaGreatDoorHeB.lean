/- Packets in memory; slices.Clone, head.Copy. -/
import Derived.Test.YtlfgkdiehmoohaaGreatDoorHeA
import Derived.Deep.RegionWith
import Derived.Deep.CutRange
import Derived.Lib.SliceRun
namespace Go.Proofs.YtlfgkdiehmoohaaGreatDoor
open Go Go.RowKit
set_option linter.unusedVariables false
set_option linter.unusedSimpArgs false

/-- All elements' cells. -/
def flatC {X : Type} (cs : X → Array Value) (xs : List X) : List Value := xs.flatMap fun x => (cs x).toList
theorem flatC_at {X : Type} {cs : X → Array Value} {z : Nat} (hz : ∀ x, (cs x).size = z) : ∀ (xs : List X) (i : Nat) (hi : i < xs.length) (j : Nat), j < z → (flatC cs xs)[i * z + j]? = (cs xs[i])[j]?
  | x :: xs, 0, _, j, hj => by
    have e : flatC cs (x :: xs) = (cs x).toList ++ flatC cs xs := rfl
    rw [e, Nat.zero_mul, Nat.zero_add, List.getElem?_append_left (by simp [hz]; exact hj)]
    simp
  | x :: xs, i + 1, hi, j, hj => by
    have e : flatC cs (x :: xs) = (cs x).toList ++ flatC cs xs := rfl
    have e2 : (i + 1) * z + j = z + (i * z + j) := by rw [Nat.succ_mul]; omega
    rw [e, e2, List.getElem?_append_right (by simp [hz]), Array.length_toList, hz, Nat.add_sub_cancel_left]
    exact flatC_at hz xs i (by simpa using hi) j hj
theorem flatC_len {X : Type} {cs : X → Array Value} {z : Nat} (hz : ∀ x, (cs x).size = z) (xs : List X) : (flatC cs xs).length = xs.length * z := by
  induction xs with
  | nil => simp [flatC]
  | cons x xs ih =>
    have e : flatC cs (x :: xs) = (cs x).toList ++ flatC cs xs := rfl
    rw [e, List.length_append, ih, Array.length_toList, hz, List.length_cons, Nat.succ_mul, Nat.add_comm]
theorem flatC_one {X : Type} {cs : X → Array Value} (h1 : ∀ x, (cs x).all (·.oneCell') = true) (xs : List X) : ∀ u ∈ flatC cs xs, u.oneCell' = true := by
  intro u hu
  obtain ⟨x, -, h2⟩ := List.mem_flatMap.1 hu
  have := h1 x
  simp only [Array.all_eq_true'] at this
  exact this u (by simpa using h2)
theorem rowOf_cells {X : Type} {cs : X → Array Value} {z : Nat} (hz : ∀ x, (cs x).size = z) (h0 : 0 < z) {w : World} {p : Addr} {cap : Nat} {xs : List X} (h : RowOf cs z w (.slice (some p) xs.length cap) xs) (j : Nat) (u : Value) (hj : (flatC cs xs)[j]? = some u) : w.cell? (p.add j) = some u := by
  obtain ⟨a, c, e, hl, hc⟩ := h
  obtain ⟨rfl, rfl⟩ : a = some p ∧ c = cap := by cases e; exact ⟨rfl, rfl⟩
  have hjl : j < (flatC cs xs).length := (List.getElem?_eq_some_iff.1 hj).1
  rw [flatC_len hz] at hjl
  obtain ⟨b, off, e2, hb, hc2⟩ := hc.resolve_left (fun h0 => by rw [h0] at hjl; simp at hjl)
  clear hc e
  obtain rfl := Option.some.inj e2
  have hq : j / z < xs.length := Nat.div_lt_of_lt_mul (by rw [Nat.mul_comm]; exact hjl)
  have hr := Nat.mod_lt j h0
  have hd : j / z * z + j % z = j := by rw [Nat.mul_comm]; exact Nat.div_add_mod j z
  rw [Addr.add_mid]
  rw [← hd] at hj ⊢
  rw [flatC_at hz xs _ hq _ hr] at hj
  rw [← Nat.add_assoc]
  exact hc2 _ hq _ _ hj
theorem rowOf_of_owns {X : Type} {cs : X → Array Value} {z : Nat} (hz : ∀ x, (cs x).size = z) {w : World} {base : Nat} {t : TypeId} {v : Value} {xs : List X} (h : w.ownsRow base t z v xs.length (flatC cs xs)) (hl : (xs.length : Int) ≤ 9223372036854775807) : RowOf cs z w v xs := by
  rcases h.2 with ⟨rfl, h0⟩ | ⟨g, cap, cur, rfl, hb, hg, hk, hm, hcs, hx⟩
  · obtain rfl : xs = [] := List.length_eq_zero_iff.1 h0
    exact rowOf_nil _ _ w
  · refine ⟨_, _, rfl, hl, .inr ⟨g, 0, rfl, (Array.getElem?_eq_some_iff.1 hg).1, fun i hi j u hj => ?_⟩⟩
    have hjz : j < z := by
      rw [← hz xs[i]]
      exact (Array.getElem?_eq_some_iff.1 hj).1
    have e := flatC_at hz xs i hi j hjz
    rw [hj] at e
    rw [Nat.zero_add]
    refine Obj?.cell (cs := cur) hg _ u ?_
    rw [← hx] at e
    have hlt : i * z + j < xs.length * z := by
      have : (i + 1) * z ≤ xs.length * z := Nat.mul_le_mul_right z hi
      rw [Nat.succ_mul] at this
      omega
    rw [List.getElem?_take_of_lt hlt] at e
    simpa using e
theorem row_monoh {w : World} {base base' : Nat} {e : TypeId} {sz : Nat} {v : Value} {n : Nat} {xs : List Value} (h : w.ownsRow base e sz v n xs) (hb : base' ≤ base) : w.ownsRow base' e sz v n xs := by
  rcases h with ⟨h0, ⟨rfl, h1⟩ | ⟨g, cap, cur, rfl, h2, h3⟩⟩
  · exact ⟨h0, .inl ⟨rfl, h1⟩⟩
  · exact ⟨h0, .inr ⟨g, cap, cur, rfl, Nat.le_trans hb h2, h3⟩⟩
theorem row_belowh {w w' : World} {base : Nat} {e : TypeId} {sz : Nat} {v : Value} {n : Nat} {xs : List Value} (h : w.ownsRow base e sz v n xs) (hb : Below w.heap.size w w') : w'.ownsRow base e sz v n xs := by
  rcases h with ⟨h0, ⟨rfl, h1⟩ | ⟨g, cap, cur, rfl, h2, h3, h4⟩⟩
  · exact ⟨h0, .inl ⟨rfl, h1⟩⟩
  · exact ⟨h0, .inr ⟨g, cap, cur, rfl, h2, (hb.block g (Array.getElem?_eq_some_iff.1 h3).1).trans h3, h4⟩⟩
theorem one_in (x : Int) : (intCs x).all (·.oneCell') = true := by simp [intCs, Value.oneCell']
theorem infoZFt : (Tryz.prog.info? 157).map (fun i => (i.zero, i.size, i.bytes)) = some (some (.agg #[.string ⟨#[]⟩, .int .i64 0, .bool false, .bool false, .int .i64 0]), 5, 40) := by kernel_rfl
theorem infoZPp : (Tryz.prog.info? 192).map (fun i => (i.zero, i.size, i.bytes)) = some (some (.agg #[.int .i64 0, .int .u32 0, .string ⟨#[]⟩, .string ⟨#[]⟩]), 4, 48) := by kernel_rfl
theorem infoZIn : (Tryz.prog.info? 3).map (fun i => (i.zero, i.size, i.bytes)) = some (some (.int .i64 0), 1, 8) := by kernel_rfl
set_option maxRecDepth 100000 in
set_option maxHeartbeats 800000 in
theorem clone_ft {v : Value} {xs : List Ft} {w : World} (hH : RowOf Ft.cs 5 w v xs) (hl : xs.length ≤ 2000) :
    Calls Tryz.prog 303 #[v] w fun e w' => ∃ v', e = .returned v' ∧ w'.ownsRow w.heap.size 157 5 v' xs.length (flatC Ft.cs xs) ∧ Below w.heap.size w w' := by
  obtain ⟨i0, hi, hz0, hz1, hz2⟩ := info_parts infoZFt
  have q : ∀ (w : World) (a : Option Addr) (n c n' c' : Nat), (binOp .eql 53 (.slice a n c) (.slice none n' c')).run Tryz.prog w = .ok (.bool a.isNone) w := fun w a n c n' c' => Lib.run_eql_slice_nil w _ _ a n c n' c' Tryz.underlying53
  have HHW := Lib.hid hH
  obtain ⟨a, cap, rfl, hll, hc⟩ := hH
  cases a with
  | none =>
    have h0 : xs = [] := by
      rcases hc with h | ⟨b, off, h, -⟩
      · exact h
      · cases h
    subst h0
    clear hc hll HHW hl
    go_enter Tryz.func303, Tryz.ntmps303
    go_wp2
    go_ret
    exact ⟨_, rfl, World.ownsRow_nil _ _ _ _, Below.refl _ _⟩
  | some p =>
    have HC := Lib.hid (fun j u h => rowOf_cells (cs := Ft.cs) (z := 5) (fun x => rfl) (by decide) HHW.out j u h)
    have HL := Lib.hid hl
    have HM := Lib.hid hll
    clear hc hll hl
    go_enter Tryz.func303, Tryz.ntmps303
    go_wp2_with (at_builtin; refine wpList_append_own _ rfl _ _ 53 rfl w.heap.size 157 i0 (.agg #[.string ⟨#[]⟩, .int .i64 0, .bool false, .bool false, .int .i64 0]) 5 40 Tryz.underlying53 hi hz0 hz1 hz2 rfl (by decide) _ _ _ rfl (World.ownsRow_made w #[] 0 (Nat.le_refl _) (Nat.zero_le _) rfl) p xs.length cap (flatC Ft.cs xs) rfl ?qc1 ?qc2 ?qc3 ?qc4 ?qc5 ?qc6 ?_)
    case qc1 => rw [flatC_len (z := 5) (fun x => rfl)]
    case qc2 => intro j u hj; exact Lib.cell?_alloc_some _ (HC.out j u hj)
    case qc3 => exact flatC_one one_ft xs
    case qc4 => have := HL.out; unfold maxLen; omega
    case qc5 => have := HL.out; omega
    case qc6 => simp
    intro v' w1 hown hgrow hnil
    have HO := Lib.hid (And.intro hown (And.intro hgrow hnil))
    clear hown hgrow hnil
    go_wp2
    go_ret
    obtain ⟨hown, hgrow, hnil⟩ := HO.out
    refine ⟨v', rfl, by simpa using hown, ?_⟩
    exact ((Below.refl _ w).alloc (Nat.le_refl _) _).grown hgrow (by simp) (by intro k hk; simp [Value.ownBlock] at hk; omega)
set_option maxRecDepth 100000 in
set_option maxHeartbeats 800000 in
theorem clone_pp {v : Value} {xs : List Pp} {w : World} (hH : RowOf Pp.cs 4 w v xs) (hl : xs.length ≤ 2000) :
    Calls Tryz.prog 298 #[v] w fun e w' => ∃ v', e = .returned v' ∧ w'.ownsRow w.heap.size 192 4 v' xs.length (flatC Pp.cs xs) ∧ Below w.heap.size w w' := by
  obtain ⟨i0, hi, hz0, hz1, hz2⟩ := info_parts infoZPp
  have q : ∀ (w : World) (a : Option Addr) (n c n' c' : Nat), (binOp .eql 48 (.slice a n c) (.slice none n' c')).run Tryz.prog w = .ok (.bool a.isNone) w := fun w a n c n' c' => Lib.run_eql_slice_nil w _ _ a n c n' c' Tryz.underlying48
  have HHW := Lib.hid hH
  obtain ⟨a, cap, rfl, hll, hc⟩ := hH
  cases a with
  | none =>
    have h0 : xs = [] := by
      rcases hc with h | ⟨b, off, h, -⟩
      · exact h
      · cases h
    subst h0
    clear hc hll HHW hl
    go_enter Tryz.func298, Tryz.ntmps298
    go_wp2
    go_ret
    exact ⟨_, rfl, World.ownsRow_nil _ _ _ _, Below.refl _ _⟩
  | some p =>
    have HC := Lib.hid (fun j u h => rowOf_cells (cs := Pp.cs) (z := 4) (fun x => rfl) (by decide) HHW.out j u h)
    have HL := Lib.hid hl
    have HM := Lib.hid hll
    clear hc hll hl
    go_enter Tryz.func298, Tryz.ntmps298
    go_wp2_with (at_builtin; refine wpList_append_own _ rfl _ _ 48 rfl w.heap.size 192 i0 (.agg #[.int .i64 0, .int .u32 0, .string ⟨#[]⟩, .string ⟨#[]⟩]) 4 48 Tryz.underlying48 hi hz0 hz1 hz2 rfl (by decide) _ _ _ rfl (World.ownsRow_made w #[] 0 (Nat.le_refl _) (Nat.zero_le _) rfl) p xs.length cap (flatC Pp.cs xs) rfl ?qc1 ?qc2 ?qc3 ?qc4 ?qc5 ?qc6 ?_)
    case qc1 => rw [flatC_len (z := 4) (fun x => rfl)]
    case qc2 => intro j u hj; exact Lib.cell?_alloc_some _ (HC.out j u hj)
    case qc3 => exact flatC_one one_pp xs
    case qc4 => have := HL.out; unfold maxLen; omega
    case qc5 => have := HL.out; omega
    case qc6 => simp
    intro v' w1 hown hgrow hnil
    have HO := Lib.hid (And.intro hown (And.intro hgrow hnil))
    clear hown hgrow hnil
    go_wp2
    go_ret
    obtain ⟨hown, hgrow, hnil⟩ := HO.out
    refine ⟨v', rfl, by simpa using hown, ?_⟩
    exact ((Below.refl _ w).alloc (Nat.le_refl _) _).grown hgrow (by simp) (by intro k hk; simp [Value.ownBlock] at hk; omega)
set_option maxRecDepth 100000 in
set_option maxHeartbeats 800000 in
theorem clone_in {v : Value} {xs : List Int} {w : World} (hH : RowOf intCs 1 w v xs) (hl : xs.length ≤ 2000) :
    Calls Tryz.prog 302 #[v] w fun e w' => ∃ v', e = .returned v' ∧ w'.ownsRow w.heap.size 3 1 v' xs.length (flatC intCs xs) ∧ Below w.heap.size w w' := by
  obtain ⟨i0, hi, hz0, hz1, hz2⟩ := info_parts infoZIn
  have q : ∀ (w : World) (a : Option Addr) (n c n' c' : Nat), (binOp .eql 52 (.slice a n c) (.slice none n' c')).run Tryz.prog w = .ok (.bool a.isNone) w := fun w a n c n' c' => Lib.run_eql_slice_nil w _ _ a n c n' c' Tryz.underlying52
  have HHW := Lib.hid hH
  obtain ⟨a, cap, rfl, hll, hc⟩ := hH
  cases a with
  | none =>
    have h0 : xs = [] := by
      rcases hc with h | ⟨b, off, h, -⟩
      · exact h
      · cases h
    subst h0
    clear hc hll HHW hl
    go_enter Tryz.func302, Tryz.ntmps302
    go_wp2
    go_ret
    exact ⟨_, rfl, World.ownsRow_nil _ _ _ _, Below.refl _ _⟩
  | some p =>
    have HC := Lib.hid (fun j u h => rowOf_cells (cs := intCs) (z := 1) (fun x => rfl) (by decide) HHW.out j u h)
    have HL := Lib.hid hl
    have HM := Lib.hid hll
    clear hc hll hl
    go_enter Tryz.func302, Tryz.ntmps302
    go_wp2_with (at_builtin; refine wpList_append_own _ rfl _ _ 52 rfl w.heap.size 3 i0 (.int .i64 0) 1 8 Tryz.underlying52 hi hz0 hz1 hz2 rfl (by decide) _ _ _ rfl (World.ownsRow_made w #[] 0 (Nat.le_refl _) (Nat.zero_le _) rfl) p xs.length cap (flatC intCs xs) rfl ?qc1 ?qc2 ?qc3 ?qc4 ?qc5 ?qc6 ?_)
    case qc1 => rw [flatC_len (z := 1) (fun x => rfl)]
    case qc2 => intro j u hj; exact Lib.cell?_alloc_some _ (HC.out j u hj)
    case qc3 => exact flatC_one one_in xs
    case qc4 => have := HL.out; unfold maxLen; omega
    case qc5 => have := HL.out; omega
    case qc6 => simp
    intro v' w1 hown hgrow hnil
    have HO := Lib.hid (And.intro hown (And.intro hgrow hnil))
    clear hown hgrow hnil
    go_wp2
    go_ret
    obtain ⟨hown, hgrow, hnil⟩ := HO.out
    refine ⟨v', rfl, by simpa using hown, ?_⟩
    exact ((Below.refl _ w).alloc (Nat.le_refl _) _).grown hgrow (by simp) (by intro k hk; simp [Value.ownBlock] at hk; omega)
/-- A packet. -/
structure Wl where
  top : List UInt8
  pay : List UInt8
  q : Int
  re : Bool
  props : List Pp
  deriving DecidableEq
structure Sc where
  ki : Int
  q : Int
  id : Int
  al : Int
  co : Int
  du : Bool
  re : Bool
  cl : Bool
  hu : Bool
  hp : Bool
  hw : Bool
  se : Bool
  top : List UInt8
  pay : List UInt8
  cli : List UInt8
  us : List UInt8
  pw : List UInt8
  deriving DecidableEq
structure Pk where
  s : Sc
  w : Wl
  codes : List Int
  filters : List Ft
  props : List Pp
  deriving DecidableEq
def wlCs (w : Wl) (v : Value) : Array Value := #[.string ⟨w.top.toArray⟩, .string ⟨w.pay.toArray⟩, .int .i64 w.q, .bool w.re, v]
def pkCs (p : Pk) (vw vc vf vp : Value) : Array Value := #[.int .i64 p.s.ki, .bool p.s.du, .bool p.s.re, .int .i64 p.s.q, .int .i64 p.s.id, .string ⟨p.s.top.toArray⟩, .string ⟨p.s.pay.toArray⟩, .bool p.s.cl, .int .i64 p.s.al, .string ⟨p.s.cli.toArray⟩, .bool p.s.hu, .string ⟨p.s.us.toArray⟩, .bool p.s.hp, .string ⟨p.s.pw.toArray⟩, .bool p.s.hw, .string ⟨p.w.top.toArray⟩, .string ⟨p.w.pay.toArray⟩, .int .i64 p.w.q, .bool p.w.re, vw, .bool p.s.se, .int .i64 p.s.co, vc, vf, vp]
/-- A packet's lists in memory. -/
structure PkAt (w : World) (p : Pk) (vw vc vf vp : Value) : Prop where
  rw' : RowOf Pp.cs 4 w vw p.w.props
  rc : RowOf intCs 1 w vc p.codes
  rf : RowOf Ft.cs 5 w vf p.filters
  rp : RowOf Pp.cs 4 w vp p.props
theorem PkAt.below {w w' : World} {p : Pk} {vw vc vf vp : Value} (h : PkAt w p vw vc vf vp) (hb : Below w.heap.size w w') : PkAt w' p vw vc vf vp :=
  ⟨h.rw'.below hb, h.rc.below hb, h.rf.below hb, h.rp.below hb⟩
structure PkSmall (p : Pk) : Prop where
  lw : p.w.props.length ≤ 2000
  lc : p.codes.length ≤ 2000
  lf : p.filters.length ≤ 2000
  lp : p.props.length ≤ 2000
theorem infoPk5 : (Tryz.prog.info? 55).map (·.size) = some 25 := by kernel_rfl
theorem load_Pk (a : Addr) : loadVar 55 a = rowSem 55 a := rfl
theorem store_Pk (a : Addr) (v : Value) : storeVar 55 a v = rowStore 55 a v := rfl
theorem load_Wl (a : Addr) : loadVar 51 a = rowSem 51 a := rfl
theorem load_pk {w : World} {b : Nat} {p : Pk} {vw vc vf vp : Value} (h : Obj? w b (pkCs p vw vc vf vp) 55) : (rowSem 55 ⟨b, 0, none⟩).run Tryz.prog w = .ok (.agg (pkCs p vw vc vf vp)) w :=
  rowSem_run w b 55 55 (pkCs p vw vc vf vp) _ h Tryz.underlying55 rfl infoPk5
theorem infoWl : (Tryz.prog.info? 51).map (·.size) = some 5 := by kernel_rfl
theorem pkCs_mid (p : Pk) (vw vc vf vp : Value) : pkCs p vw vc vf vp = #[.int .i64 p.s.ki, .bool p.s.du, .bool p.s.re, .int .i64 p.s.q, .int .i64 p.s.id, .string ⟨p.s.top.toArray⟩, .string ⟨p.s.pay.toArray⟩, .bool p.s.cl, .int .i64 p.s.al, .string ⟨p.s.cli.toArray⟩, .bool p.s.hu, .string ⟨p.s.us.toArray⟩, .bool p.s.hp, .string ⟨p.s.pw.toArray⟩, .bool p.s.hw] ++ wlCs p.w vw ++ #[.bool p.s.se, .int .i64 p.s.co, vc, vf, vp] := by unfold pkCs wlCs; rfl
theorem load_wl {w : World} {b : Nat} {p : Pk} {vw vc vf vp : Value} (h : Obj? w b (pkCs p vw vc vf vp) 55) : (rowSem 51 ⟨b, 15, none⟩).run Tryz.prog w = .ok (.agg (wlCs p.w vw)) w := by
  rw [pkCs_mid] at h
  exact rowSem_mid w b 15 51 (wlCs p.w vw) _ (fun j v hv => Obj?.mid h j v hv) Tryz.underlying51 rfl infoWl
theorem store_pkres {w : World} {b : Nat} {p : Pk} {vw vc vf vp : Value} {old : Array Value} (h : Obj? w b old 55) (hs : old.size = 25) (h1 : (pkCs p vw vc vf vp).all (·.oneCell') = true) :
    (rowStore 55 ⟨b, 0, none⟩ (.agg (pkCs p vw vc vf vp))).run Tryz.prog w = .ok () (w.setRow b (pkCs p vw vc vf vp)) :=
  rowStore_run w b 55 55 old _ h infoPk5 hs h1
theorem RowOf.one {X : Type} {cs : X → Array Value} {z : Nat} {w : World} {v : Value} {xs : List X} (h : RowOf cs z w v xs) : v.oneCell' = true := by
  obtain ⟨a, cap, rfl, -, -⟩ := h
  rfl
theorem pk_one {p : Pk} {vw vc vf vp : Value} (h1 : vw.oneCell' = true) (h2 : vc.oneCell' = true) (h3 : vf.oneCell' = true) (h4 : vp.oneCell' = true) : (pkCs p vw vc vf vp).all (·.oneCell') = true := by
  simp [pkCs, Value.oneCell']
  exact ⟨h1, h2, h3, h4⟩
end Go.Proofs.YtlfgkdiehmoohaaGreatDoor
