/- The document's registry, as far as it is safe: New, put, Topics. The document's registry, as far as it is safe: Topics, set, Register, Predefine. -/
import Derived.Test.YtanofjmkkhocaaaGreatDoorTcX
import Derived.Test.YtanofjmkkhocaaaGreatDoorTcL
import Derived.Test.YtanofjmkkhocaaaGreatDoorHeD
import Derived.Test.YtanofjmkkhocaaaGreatDoorRefT
set_option linter.unusedVariables false
set_option linter.unusedSimpArgs false
set_option maxRecDepth 100000
set_option maxHeartbeats 3200000
namespace Go.Proofs.YtanofjmkkhocaaaGreatDoor
open Go Go.RowKit Go.MapKept
abbrev OwnT (w : World) (base : Nat) (v : Value) (Y : List Tp) : Prop := w.ownsRow base 69 3 v Y.length (tpsV Y)
theorem OwnT.rowG {w : World} {base : Nat} {v : Value} {Y : List Tp} (h : OwnT w base v Y) (hl : (Y.length : Int) ≤ 9223372036854775807) : RowG base Tp.cs 3 w v Y := by
 refine ⟨rowOf_of_owns (cs := Tp.cs) (z := 3) (fun x => rfl) h hl, ?_⟩
 rintro b off n cap rfl
 rcases h.2 with ⟨h2, -⟩ | ⟨g, cap, cur, h2, h3, -⟩
 ·cases h2
 ·cases h2; exact h3
theorem tp_new (W : World) (id : Int) (name : List UInt8) (fx : Bool) : ∀ (j : Nat) (u : Value), [Value.int .i64 id, .string ⟨name.toArray⟩, .bool fx][j]? = some u → (W.alloc (.cells #[.int .i64 id, .string ⟨name.toArray⟩, .bool fx] 69 (0, 0))).cell? ((⟨W.heap.size, 0, none⟩ : Addr).add j) = some u := fun j u hj => by
 rw [Addr.add_mid, Nat.zero_add]
 exact (Obj?.new W _ _).cell j u (by simpa using hj)
theorem own_drew {w : World} {base z n : Nat} {e : TypeId} {v : Value} {xs : List Value} (h : w.ownsRow base e z v n xs) : w.drew.ownsRow base e z v n xs := h
theorem grown_undrew {w w1 : World} {r : Option Nat} (h : w.drew.grownBy w1 r) : w.grownBy w1 r := ⟨h.os, h.tape, h.output, h.size, h.block⟩
theorem app_step {w wr w1 : World} {o : Obj} {base z n : Nat} {e : TypeId} {v : Value} {xs : List Value} (hrow : wr.ownsRow base e z v n xs) (hB : Below w.heap.size w wr) (hb : w.heap.size ≤ base) (hg : (wr.alloc o).grownBy w1 v.ownBlock) :
  Below w.heap.size w w1 ∧ (∀ b cs t, Obj? wr b cs t → b < base → Obj? w1 b cs t) := by
 refine ⟨below_append hB (row_less hrow hb) hg, fun b cs t ho hlt => (ho.alloc o).kept hg (fun e => ?_)⟩
 have := (hrow.lt b (by first | exact e | exact e.symm)).1
 omega
theorem OwnT.app {w1 : World} {base : Nat} {v' : Value} {Y : List Tp} {id : Int} {name : List UInt8} {fx : Bool} (h : w1.ownsRow base 69 3 v' (Y.length + 1) (tpsV Y ++ [.int .i64 id, .string ⟨name.toArray⟩, .bool fx])) : OwnT w1 base v' (Y ++ [⟨id, name, fx⟩]) := by
 have e : tpsV (Y ++ [⟨id, name, fx⟩]) = tpsV Y ++ [.int .i64 id, .string ⟨name.toArray⟩, .bool fx] := tpsV_app _ _
 unfold OwnT
 rw [e, List.length_append, List.length_singleton]
 exact h
theorem rput_any {w : World} {v : Value} {T : List Tp} (id : Int) (name : List UInt8) (fx : Bool) (h : RowOf Tp.cs 3 w v T) (hl : T.length ≤ 1000) :
  Calls Tryz.prog 44 #[v, .agg #[.int .i64 id, .string ⟨name.toArray⟩, .bool fx]] w fun e w' => ∃ v' T', e = .returned v' ∧ T'.length = T.length + 1 ∧ OwnT w' w.heap.size v' T' ∧ Below w.heap.size w w' := by
 obtain ⟨i0, hi, hz0, hz1, hz2⟩ := info_parts infoTps
 have hmx : maxLen = 9223372036854775807 := rfl
 have HA := Lib.hid h
 obtain ⟨a, cap, rfl, la, -⟩ := h
 obtain ⟨n, hN⟩ : ∃ n, n = T.length := ⟨_, rfl⟩
 rw [← hN] at la HA hl
 rw [← hN]
 have HN := Lib.hid hN
 have HL := Lib.hid hl
 clear hN hl
 have HO0 := Lib.hid (Obj?.new w #[.int .i64 id, .string ⟨name.toArray⟩, .bool fx] 69)
 have HB0 := Lib.hid (below_al (Below.refl _ w) (.cells #[.int .i64 id, .string ⟨name.toArray⟩, .bool fx] 69 (0, 0)))
 go_enter Tryz.func44, Tryz.ntmps44
 go_wp2
 go_loopg [5, 6, 7] (n + 1) (fun g vo ib i wr => ∃ (k : Nat) (b : Bool) (Y : List Tp), ib = .bool b ∧ i = .int .i64 k ∧ Hid (g + k = n + 1 ∧ k ≤ n ∧ Y.length = k + b.toNat ∧ OwnT wr (w.heap.size + 1) vo Y ∧ Obj? wr w.heap.size #[.int .i64 id, .string ⟨name.toArray⟩, .bool fx] 69 ∧ Below w.heap.size w wr))
 case atStart => exact ⟨0, false, [], rfl, rfl, Lib.hid ⟨by omega, by omega, rfl, World.ownsRow_nil _ _ _ _, HO0.out, HB0.out⟩⟩
 case round =>
  obtain ⟨k, b, Y, rfl, rfl, HI⟩ := hrel
  obtain ⟨hgk, hkn, hY, hrow, hbx, hB⟩ := HI.out
  obtain ⟨ao, co, rfl⟩ := owns_shape (by decide) hrow
  have HG := Lib.hid (And.intro hgk (And.intro hkn (And.intro hY hrow)))
  have kb := hbx.cells
  clear hgk hY hrow hbx hB
  have hbn : b.toNat ≤ 1 := by cases b <;> decide
  have HYL := Lib.hid (show Y.length ≤ 1001 from by have := HG.out.2.2.1; have := HG.out.2.1; have := HL.out; omega)
  clear hbn
  by_cases hlt : k < n
  ·have hka : k < T.length := by rw [← HN.out]; exact hlt
   obtain ⟨b1, o1, rfl, l1, c1⟩ := (HA.out.below HI.out.2.2.2.2.2).at k hka
   obtain ⟨xi, xn, xf, hx⟩ : ∃ xi xn xf, T[k] = ⟨xi, xn, xf⟩ := ⟨_, _, _, rfl⟩
   rw [hx] at c1
   have x0 : wr.cell? ⟨b1, o1 + k * 3, none⟩ = some (.int .i64 xi) := c1 0 _ rfl
   have x1 : wr.cell? ⟨b1, o1 + k * 3 + 1, none⟩ = some (.string ⟨xn.toArray⟩) := c1 1 _ rfl
   have x2 : wr.cell? ⟨b1, o1 + k * 3 + 2, none⟩ = some (.bool xf) := c1 2 _ rfl
   have d1 : decide ((k : Int) < n) = true := decide_eq_true (by omega)
   have hki : (k : Int) < n := by omega
   have hkw : wrap64 ((k : Int) + 1) = (k : Int) + 1 := by have := HL.out; unfold wrap64; omega
   have HX := Lib.hid hx
   clear hx c1 hkn
   cases b with
   | true =>
    go_wp2
    go_region
    all_goals
     go_wp2_with (at_builtin; refine wpList_append_own _ rfl _ _ 70 rfl (w.heap.size + 1) 69 i0 (.agg #[.int .i64 0, .string ⟨#[]⟩, .bool false]) 3 32 Tryz.underlying70 hi hz0 hz1 hz2 rfl (by decide) _ _ _ rfl (own_drew (HG.out.2.2.2.alloc _)) ⟨wr.heap.size, 0, none⟩ 1 1 [.int .i64 xi, .string ⟨xn.toArray⟩, .bool xf] rfl rfl (tp_new wr xi xn xf) (by simp [Value.oneCell']) (by have := HL.out; have := HYL.out; rw [hmx]; omega) (by have := HL.out; have := HYL.out; omega) (by have := HI.out.2.2.2.2.2.size; simp; omega) ?_; intro v' w1 hown' hgrow' _; have HA1 := Lib.hid (And.intro hown' hgrow'); clear hown' hgrow')
     have HS := Lib.hid (app_step HG.out.2.2.2 HI.out.2.2.2.2.2 (by omega) (grown_undrew HA1.out.2))
     go_wp2
     go_roundg (gk - 1)
     case measure => have := HG.out.1; omega
     case rel => exact ⟨k + 1, true, Y ++ [⟨xi, xn, xf⟩], rfl, by go_num, Lib.hid ⟨by have := HG.out.1; omega, by omega, by rw [List.length_append, List.length_singleton]; have := HG.out.2.2.1; simp at this ⊢; omega, OwnT.app HA1.out.1, HS.out.2 _ _ _ HI.out.2.2.2.2.1 (by omega), HS.out.1⟩⟩
   | false =>
    by_cases hc : id < xi
    ·go_wp2
     go_region
     all_goals
      go_wp2_with (first | (at_builtin; refine wpList_append_own _ rfl _ _ 70 rfl (w.heap.size + 1) 69 i0 (.agg #[.int .i64 0, .string ⟨#[]⟩, .bool false]) 3 32 Tryz.underlying70 hi hz0 hz1 hz2 rfl (by decide) _ _ _ rfl (World.ownsRow.alloc H1.out.1 _) ⟨w1.heap.size, 0, none⟩ 1 1 [.int .i64 xi, .string ⟨xn.toArray⟩, .bool xf] rfl rfl (tp_new w1 xi xn xf) (by simp [Value.oneCell']) (by have := HL.out; have := HY1.out; rw [hmx]; omega) (by have := HL.out; have := HY1.out; omega) (by have := H1.out.2.1.size; simp; omega) ?_; intro v2 w2 hown' hgrow' _; have HA2 := Lib.hid (And.intro hown' hgrow'); clear hown' hgrow') | (at_builtin; refine wpList_append_own _ rfl _ _ 70 rfl (w.heap.size + 1) 69 i0 (.agg #[.int .i64 0, .string ⟨#[]⟩, .bool false]) 3 32 Tryz.underlying70 hi hz0 hz1 hz2 rfl (by decide) _ _ _ rfl (own_drew (HG.out.2.2.2.alloc _)) ⟨wr.heap.size, 0, none⟩ 1 1 [.int .i64 id, .string ⟨name.toArray⟩, .bool fx] rfl rfl (tp_new wr id name fx) (by simp [Value.oneCell']) (by have := HL.out; have := HYL.out; rw [hmx]; omega) (by have := HL.out; have := HYL.out; omega) (by have := HI.out.2.2.2.2.2.size; simp; omega) ?_; intro v' w1 hown' hgrow' _; have HA1 := Lib.hid (And.intro hown' hgrow'); clear hown' hgrow'; have HS := Lib.hid (app_step HG.out.2.2.2 HI.out.2.2.2.2.2 (by omega) (grown_undrew HA1.out.2)); obtain ⟨Y2, hY2⟩ : ∃ Y2, Y2 = Y ++ [(⟨id, name, fx⟩ : Tp)] := ⟨_, rfl⟩; have H1 := Lib.hid (And.intro (show OwnT w1 (w.heap.size + 1) v' Y2 by rw [hY2]; exact OwnT.app HA1.out.1) (And.intro HS.out.1 (HS.out.2 _ _ _ HI.out.2.2.2.2.1 (by omega)))); have HY1 := Lib.hid (show Y2.length = k + 1 by rw [hY2, List.length_append, List.length_singleton]; have := HG.out.2.2.1; simp at this ⊢; omega); obtain ⟨a1, e1, rfl⟩ := owns_shape (by decide) H1.out.1; obtain ⟨b1', o1', e2, l1', c1'⟩ := (HA.out.below H1.out.2.1).at k (by rw [← HN.out]; exact hlt); obtain ⟨rfl, rfl⟩ : b1' = b1 ∧ o1' = o1 := (by cases e2; exact ⟨rfl, rfl⟩); rw [HX.out] at c1'; have y0 : w1.cell? ⟨b1', o1' + k * 3, none⟩ = some (.int .i64 xi) := c1' 0 _ rfl; have y1 : w1.cell? ⟨b1', o1' + k * 3 + 1, none⟩ = some (.string ⟨xn.toArray⟩) := c1' 1 _ rfl; have y2 : w1.cell? ⟨b1', o1' + k * 3 + 2, none⟩ = some (.bool xf) := c1' 2 _ rfl; clear c1' e2 x0 x1 x2 kb hY2))
      have HS2 := Lib.hid (app_step H1.out.1 H1.out.2.1 (by omega) HA2.out.2)
      go_wp2
      go_roundg (gk - 1)
      case measure => have := HG.out.1; omega
      case rel => exact ⟨k + 1, true, Y2 ++ [⟨xi, xn, xf⟩], rfl, by go_num, Lib.hid ⟨by have := HG.out.1; omega, by omega, by rw [List.length_append, List.length_singleton, HY1.out]; rfl, OwnT.app HA2.out.1, HS2.out.2 _ _ _ H1.out.2.2 (by omega), HS2.out.1⟩⟩
    ·go_wp2
     go_region
     all_goals
      go_wp2_with (at_builtin; refine wpList_append_own _ rfl _ _ 70 rfl (w.heap.size + 1) 69 i0 (.agg #[.int .i64 0, .string ⟨#[]⟩, .bool false]) 3 32 Tryz.underlying70 hi hz0 hz1 hz2 rfl (by decide) _ _ _ rfl (own_drew (HG.out.2.2.2.alloc _)) ⟨wr.heap.size, 0, none⟩ 1 1 [.int .i64 xi, .string ⟨xn.toArray⟩, .bool xf] rfl rfl (tp_new wr xi xn xf) (by simp [Value.oneCell']) (by have := HL.out; have := HYL.out; rw [hmx]; omega) (by have := HL.out; have := HYL.out; omega) (by have := HI.out.2.2.2.2.2.size; simp; omega) ?_; intro v' w1 hown' hgrow' _; have HA1 := Lib.hid (And.intro hown' hgrow'); clear hown' hgrow')
      have HS := Lib.hid (app_step HG.out.2.2.2 HI.out.2.2.2.2.2 (by omega) (grown_undrew HA1.out.2))
      go_wp2
      go_roundg (gk - 1)
      case measure => have := HG.out.1; omega
      case rel => exact ⟨k + 1, false, Y ++ [⟨xi, xn, xf⟩], rfl, by go_num, Lib.hid ⟨by have := HG.out.1; omega, by omega, by rw [List.length_append, List.length_singleton]; have := HG.out.2.2.1; simp at this ⊢; omega, OwnT.app HA1.out.1, HS.out.2 _ _ _ HI.out.2.2.2.2.1 (by omega), HS.out.1⟩⟩
  ·obtain rfl : k = n := by omega
   cases b with
   | true =>
    go_wp2
    go_ret
    exact ⟨_, Y, rfl, HG.out.2.2.1, row_less HG.out.2.2.2 (by omega), HI.out.2.2.2.2.2⟩
   | false =>
    go_upto_region 10 with fail
    go_wp2_with (at_builtin; refine wpList_append_own _ rfl _ _ 70 rfl (w.heap.size + 1) 69 i0 (.agg #[.int .i64 0, .string ⟨#[]⟩, .bool false]) 3 32 Tryz.underlying70 hi hz0 hz1 hz2 rfl (by decide) _ _ _ rfl (HG.out.2.2.2.alloc _) ⟨wr.heap.size, 0, none⟩ 1 1 [.int .i64 id, .string ⟨name.toArray⟩, .bool fx] rfl rfl (tp_new wr id name fx) (by simp [Value.oneCell']) (by have := HL.out; have := HYL.out; rw [hmx]; omega) (by have := HL.out; have := HYL.out; omega) (by have := HI.out.2.2.2.2.2.size; simp; omega) ?_; intro v' w1 hown' hgrow' _; have HA1 := Lib.hid (And.intro hown' hgrow'); clear hown' hgrow')
    have HS := Lib.hid (app_step HG.out.2.2.2 HI.out.2.2.2.2.2 (by omega) HA1.out.2)
    go_wp2
    go_ret
    exact ⟨_, Y ++ [⟨id, name, fx⟩], rfl, by rw [List.length_append, List.length_singleton]; have := HG.out.2.2.1; simp at this ⊢; omega, row_less (OwnT.app HA1.out.1) (by omega), HS.out.1⟩
end Go.Proofs.YtanofjmkkhocaaaGreatDoor
namespace Go.Proofs.YtanofjmkkhocaaaGreatDoor
open Go Go.RowKit Go.MapKept
def RowP {X : Type} (P : Nat → Prop) (cs : X → Array Value) (z : Nat) (w : World) (v : Value) (xs : List X) : Prop := RowOf cs z w v xs ∧ ∀ b off n cap, v = .slice (some ⟨b, off, none⟩) n cap → P b
theorem RowP.kp {X : Type} {P : Nat → Prop} {cs : X → Array Value} {z : Nat} {S : Nat → Prop} {w w' : World} {v : Value} {xs : List X} (h : RowP P cs z w v xs) (k : Kq S w w') (hS : ∀ b, P b → ¬ S b) : RowP P cs z w' v xs :=
 ⟨h.1.kp k (fun b off n cap e _ => hS b (h.2 b off n cap e)), h.2⟩
theorem RowP.mono {X : Type} {P Q : Nat → Prop} {cs : X → Array Value} {z : Nat} {w : World} {v : Value} {xs : List X} (h : RowP P cs z w v xs) (hQ : ∀ b, P b → Q b) : RowP Q cs z w v xs := ⟨h.1, fun b off n cap e => hQ b (h.2 b off n cap e)⟩
abbrev Ent := List UInt8 × Value
def Ent.cs (e : Ent) : Array Value := #[.string ⟨e.1.toArray⟩, e.2]
def EntOk (w : World) (P : Nat → Prop) (K : Nat) (e : Ent) : Prop := ∃ T, RowP P Tp.cs 3 w e.2 T ∧ T.length ≤ K
structure RefM (w : World) (ob : Nat) (P : Nat → Prop) (K : Nat) (V : Value) (E : List Ent) : Prop where
 reg : Obj? w ob #[V] 126
 row : RowP P Ent.cs 2 w V E
 len : E.length ≤ K
 all : ∀ e ∈ E, EntOk w P K e
 nob : ¬ P ob
 old : ∀ b, P b → b < w.heap.size
def RefAt (w : World) (ob : Nat) (P : Nat → Prop) (K : Nat) : Prop := ∃ V E, RefM w ob P K V E
theorem EntOk.kp {w w' : World} {P S : Nat → Prop} {K : Nat} {e : Ent} (h : EntOk w P K e) (k : Kq S w w') (hS : ∀ b, P b → ¬ S b) : EntOk w' P K e := by
 obtain ⟨T, h1, h2⟩ := h
 exact ⟨T, h1.kp k hS, h2⟩
theorem EntOk.mono {w : World} {P Q : Nat → Prop} {K K' : Nat} {e : Ent} (h : EntOk w P K e) (hQ : ∀ b, P b → Q b) (hK : K ≤ K') : EntOk w Q K' e := by
 obtain ⟨T, h1, h2⟩ := h
 exact ⟨T, h1.mono hQ, Nat.le_trans h2 hK⟩
theorem RefM.kp {w w' : World} {ob : Nat} {P S : Nat → Prop} {K : Nat} {V : Value} {E : List Ent} (h : RefM w ob P K V E) (k : Kq S w w') (hS : ∀ b, P b → ¬ S b) (ho : ¬ S ob) : RefM w' ob P K V E :=
 ⟨h.reg.kp k ho, h.row.kp k hS, h.len, fun e he => (h.all e he).kp k hS, h.nob, fun b hb => Nat.lt_of_lt_of_le (h.old b hb) k.size⟩
theorem RefM.below {w w' : World} {ob : Nat} {P : Nat → Prop} {K : Nat} {V : Value} {E : List Ent} (h : RefM w ob P K V E) (hb : Below w.heap.size w w') : RefM w' ob P K V E := h.kp (S := fun _ => False) (.of_below hb) (fun _ _ e => e) (fun e => e)
theorem RefAt.kp {w w' : World} {ob : Nat} {P S : Nat → Prop} {K : Nat} (h : RefAt w ob P K) (k : Kq S w w') (hS : ∀ b, P b → ¬ S b) (ho : ¬ S ob) : RefAt w' ob P K := by
 obtain ⟨V, E, h⟩ := h
 exact ⟨V, E, h.kp k hS ho⟩
theorem RefM.mono {w : World} {ob : Nat} {P Q : Nat → Prop} {K K' : Nat} {V : Value} {E : List Ent} (h : RefM w ob P K V E) (hQ : ∀ b, P b → Q b) (hn : ¬ Q ob) (ho : ∀ b, Q b → b < w.heap.size) (hK : K ≤ K') : RefM w ob Q K' V E :=
 ⟨h.reg, h.row.mono hQ, Nat.le_trans h.len hK, fun e he => (h.all e he).mono hQ hK, hn, ho⟩
theorem rnew24_any (w : World) : Calls Tryz.prog 17 #[] w fun e w' => e = .returned (.pointer (some ⟨w.heap.size, 0, none⟩)) ∧ Below w.heap.size w w' ∧ RefAt w' w.heap.size (fun _ => False) 0 ∧ w.heap.size < w'.heap.size := by
 go_enter Tryz.func17, Tryz.ntmps17
 go_wp2
 go_ret
 exact ⟨rfl, below_al (Below.refl _ w) _, ⟨_, [], ⟨Obj?.new w _ _, ⟨rowOf_nil _ _ _, fun b off n cap e => (by cases e)⟩, Nat.le_refl _, fun e he => (by cases he), fun e => e, fun b hb => False.elim hb⟩⟩, by simp⟩
theorem rtopics24_any {w : World} {ob : Nat} {P : Nat → Prop} {K : Nat} (h : RefAt w ob P K) (hK : K ≤ 1000) (n : List UInt8) :
  Calls Tryz.prog 42 #[.pointer (some ⟨ob, 0, none⟩), .string ⟨n.toArray⟩] w fun e w' => ∃ v T, e = .returned v ∧ RowG w.heap.size Tp.cs 3 w' v T ∧ T.length ≤ K ∧ Below w.heap.size w w' := by
 obtain ⟨i0, hi, hz0, hz1, hz2⟩ := info_parts infoTps
 have hmx : maxLen = 9223372036854775807 := rfl
 obtain ⟨V, E, hM⟩ := h
 have HM := Lib.hid hM
 obtain ⟨⟨a, cap, rfl, la, -⟩, -⟩ := hM.row
 obtain ⟨ne, hN⟩ : ∃ ne, ne = E.length := ⟨_, rfl⟩
 have kr := hM.reg.cells
 have kr2 := (hM.reg.alloc (.cells #[] 69 (0, 0))).cells
 rw [← hN] at la kr kr2
 have HN := Lib.hid (show ne = E.length ∧ ne ≤ 1000 from ⟨hN, by have := hM.len; omega⟩)
 have HK := Lib.hid hK
 clear hN hM hK
 go_enter Tryz.func42, Tryz.ntmps42
 go_wp2
 go_loopg [5] (ne + 1) (fun g i wr => ∃ k : Nat, i = .int .i64 k ∧ wr = w ∧ Hid (g + k = ne + 1 ∧ k ≤ ne))
 case atStart => exact ⟨0, rfl, rfl, Lib.hid ⟨by omega, by omega⟩⟩
 case round =>
  obtain ⟨k, rfl, rfl, HG⟩ := hrel
  by_cases hlt : k < ne
  ·have hka : k < E.length := by rw [← HN.out.1]; exact hlt
   obtain ⟨b1, o1, rfl, l1, c1⟩ := HM.out.row.1.at k hka
   obtain ⟨en, ev, hx⟩ : ∃ en ev, E[k] = (en, ev) := ⟨_, _, rfl⟩
   have hok := HM.out.all _ (List.getElem_mem hka)
   rw [hx] at c1 hok
   have x0 : wr.cell? ⟨b1, o1 + k * 2, none⟩ = some (.string ⟨en.toArray⟩) := c1 0 _ rfl
   have x1 : wr.cell? ⟨b1, o1 + k * 2 + 1, none⟩ = some ev := c1 1 _ rfl
   have x1' : (wr.alloc (.cells #[] 69 (0, 0))).cell? ⟨b1, o1 + k * 2 + 1, none⟩ = some ev := Lib.cell?_alloc_some _ x1
   obtain ⟨T, hT, hTl⟩ := hok
   have HT := Lib.hid hT
   have HTl := Lib.hid hTl
   obtain ⟨⟨ta, tc, rfl, tl, tcs⟩, -⟩ := hT
   have d1 : decide ((k : Int) < ne) = true := decide_eq_true (by omega)
   have hki : (k : Int) < ne := by omega
   have hkw : wrap64 ((k : Int) + 1) = (k : Int) + 1 := by have := HN.out.2; unfold wrap64; omega
   clear hx c1 hka
   by_cases hn : en = n
   ·subst hn
    cases ta with
    | none =>
     have hT0 : T = [] := by
      rcases tcs with h | ⟨b, off, h, -⟩
      ·exact h
      ·cases h
     subst hT0
     clear tcs
     go_wp2
     go_ret
     exact ⟨_, rfl, [], ⟨⟨some ⟨wr.heap.size, 0, none⟩, 0, rfl, by simp, .inl rfl⟩, fun b off n cap e => by cases e; exact Nat.le_refl _⟩, Nat.zero_le _, below_al (Below.refl _ _) _⟩
    | some p =>
     have HC := Lib.hid (fun j u h => rowOf_cells (cs := Tp.cs) (z := 3) (fun x => rfl) (by decide) HT.out.1 j u h)
     have HL := Lib.hid (show T.length ≤ 1000 from by have := HK.out; have := HTl.out; omega)
     have one_tp : ∀ x : Tp, x.cs.all (·.oneCell') = true := fun x => by simp [Tp.cs, Value.oneCell']
     clear tcs
     go_upto_region 5 with fail
     go_wp2_with (at_builtin; refine wpList_append_own _ rfl _ _ 70 rfl wr.heap.size 69 i0 (.agg #[.int .i64 0, .string ⟨#[]⟩, .bool false]) 3 32 Tryz.underlying70 hi hz0 hz1 hz2 rfl (by decide) _ _ _ rfl (World.ownsRow_made wr #[] 0 (Nat.le_refl _) (Nat.zero_le _) rfl) p T.length tc (flatC Tp.cs T) rfl (by rw [flatC_len (z := 3) (fun x => rfl)]) (fun j u hj => Lib.cell?_alloc_some _ (HC.out j u hj)) (flatC_one one_tp T) (by have := HL.out; unfold maxLen; omega) (by have := HL.out; omega) (by simp) ?_; intro v' w1 hown' hgrow' _; have HA1 := Lib.hid (And.intro hown' hgrow'); clear hown' hgrow')
     go_ret
     have hown : OwnT w1 wr.heap.size v' T := by
      have h := HA1.out.1
      rw [Nat.zero_add, List.nil_append] at h
      exact h
     exact ⟨v', rfl, T, hown.rowG (by have := HL.out; omega), HTl.out, ((Below.refl _ wr).alloc (Nat.le_refl _) _).grown HA1.out.2 (by simp) (by intro k' e; obtain rfl : wr.heap.size = k' := Option.some.inj e; exact Nat.le_refl _)⟩
   ·have dn : (en == n) = false := by simpa using hn
    clear hn
    go_wp2
    go_roundg (gk - 1)
    case measure => have := HG.out.1; omega
    case rel => exact ⟨k + 1, by go_num, rfl, Lib.hid ⟨by have := HG.out.1; omega, by omega⟩⟩
  ·obtain rfl : k = ne := by have := HG.out.2; omega
   go_wp2
   go_ret
   first | exact ⟨_, rfl, [], rowG_nil _ _ _ _, Nat.zero_le _, Below.refl _ _⟩ | exact ⟨_, [], rfl, rowG_nil _ _ _ _, Nat.zero_le _, Below.refl _ _⟩
end Go.Proofs.YtanofjmkkhocaaaGreatDoor
