/- Lists of numbers, filters and properties in memory, and what compares them. -/
import Derived.Test.YtanofjmkkhocaaaGreatDoorHdD
import Derived.Deep.LoopGhost
import Derived.Great.Walk
import Derived.BigQuiet
import Derived.Deep.WholeRow
set_option linter.unusedVariables false
set_option linter.unusedSimpArgs false
set_option maxRecDepth 100000
set_option maxHeartbeats 1600000
namespace Go.Proofs.YtanofjmkkhocaaaGreatDoor
open Go Go.RowKit
theorem wp_hide {P : Program} {c : Code} {Q : Exit → Act → World → Prop} {a : Act} {w : World} (h : ∀ Q' : Exit → Act → World → Prop, (∀ e a w, Q e a w → Q' e a w) → c.wp P Q' a w) : c.wp P Q a w := h Q fun _ _ _ h => h
structure Ft where
 top : List UInt8
 q : Int
 nl : Bool
 ap : Bool
 h : Int
 deriving DecidableEq
structure Pp where
 id : Int
 n : Int
 t : List UInt8
 v : List UInt8
 deriving DecidableEq
def Ft.cs (x : Ft) : Array Value := #[.string ⟨x.top.toArray⟩, .int .i64 x.q, .bool x.nl, .bool x.ap, .int .i64 x.h]
def Pp.cs (x : Pp) : Array Value := #[.int .i64 x.id, .int .u32 x.n, .string ⟨x.t.toArray⟩, .string ⟨x.v.toArray⟩]
def intCs (x : Int) : Array Value := #[.int .i64 x]
theorem load_Ft (a : Addr) : loadVar 152 a = rowSem 152 a := rfl
theorem load_Pp (a : Addr) : loadVar 150 a = rowSem 150 a := rfl
theorem infoFt : (Tryz.prog.info? 152).map (·.size) = some 5 := by kernel_rfl
theorem infoPp : (Tryz.prog.info? 150).map (·.size) = some 4 := by kernel_rfl
theorem below_drewNh {A : Nat} {a b : World} (h : Below A a b) (q : Nat) : Below A a (b.drewN q) := ⟨h.os, h.tape, h.output, h.size, h.block⟩
def RowOf {X : Type} (cs : X → Array Value) (z : Nat) (w : World) (v : Value) (xs : List X) : Prop :=
 ∃ a cap, v = .slice a xs.length cap ∧ (xs.length : Int) ≤ 9223372036854775807 ∧ (xs = [] ∨ ∃ b off, a = some ⟨b, off, none⟩ ∧ b < w.heap.size ∧ ∀ i (hi : i < xs.length) j u, (cs xs[i])[j]? = some u → w.cell? ⟨b, off + i * z + j, none⟩ = some u)
theorem RowOf.below {X : Type} {cs : X → Array Value} {z : Nat} {w w' : World} {v : Value} {xs : List X} (h : RowOf cs z w v xs) (hb : Below w.heap.size w w') : RowOf cs z w' v xs := by
 obtain ⟨a, cap, rfl, hl, hc⟩ := h
 refine ⟨a, cap, rfl, hl, ?_⟩
 rcases hc with hc | ⟨b, off, rfl, hlt, hc⟩
 ·exact .inl hc
 ·exact .inr ⟨b, off, rfl, Nat.lt_of_lt_of_le hlt hb.size, fun i hi j u hj => (hb.cell (p := ⟨b, _, none⟩) hlt).trans (hc i hi j u hj)⟩
theorem rowOf_nil {X : Type} (cs : X → Array Value) (z : Nat) (w : World) : RowOf cs z w (.slice none 0 0) [] := ⟨none, 0, rfl, by simp, .inl rfl⟩
theorem RowOf.at {X : Type} {cs : X → Array Value} {z : Nat} {w : World} {a : Option Addr} {n cap : Nat} {xs : List X} (h : RowOf cs z w (.slice a n cap) xs) (k : Nat) (hk : k < xs.length) :
  ∃ b off, a = some ⟨b, off, none⟩ ∧ b < w.heap.size ∧ ∀ j u, (cs xs[k])[j]? = some u → w.cell? ⟨b, off + k * z + j, none⟩ = some u := by
 obtain ⟨a', cap', e1, -, hc⟩ := h
 obtain ⟨b, off, rfl, hlb, hc⟩ := hc.resolve_left (fun e => by rw [e] at hk; cases hk)
 cases e1
 exact ⟨b, off, rfl, hlb, hc k hk⟩
theorem row_ft {W : World} {b o : Nat} {x : Ft} (h : ∀ j u, (Ft.cs x)[j]? = some u → W.cell? ⟨b, o + j, none⟩ = some u) : (rowSem 152 ⟨b, o, none⟩).run Tryz.prog W = .ok (.agg x.cs) W :=
 rowSem_mid W b o 152 x.cs _ h Tryz.underlying152 rfl infoFt
theorem row_pp {W : World} {b o : Nat} {x : Pp} (h : ∀ j u, (Pp.cs x)[j]? = some u → W.cell? ⟨b, o + j, none⟩ = some u) : (rowSem 150 ⟨b, o, none⟩).run Tryz.prog W = .ok (.agg x.cs) W :=
 rowSem_mid W b o 150 x.cs _ h Tryz.underlying150 rfl infoPp
theorem one_ft (x : Ft) : x.cs.all (·.oneCell') = true := by simp [Ft.cs, Value.oneCell']
theorem one_pp (x : Pp) : x.cs.all (·.oneCell') = true := by simp [Pp.cs, Value.oneCell']
theorem store_Ft (a : Addr) (v : Value) : storeVar 152 a v = rowStore 152 a v := rfl
theorem store_Pp (a : Addr) (v : Value) : storeVar 150 a v = rowStore 150 a v := rfl
theorem load_ftA {w : World} {b : Nat} {A : Array Value} (hs : A.size = 5) (h : Obj? w b A 152) : (rowSem 152 ⟨b, 0, none⟩).run Tryz.prog w = .ok (.agg A) w :=
 rowSem_run w b 152 152 A _ h Tryz.underlying152 rfl (by rw [hs]; exact infoFt)
theorem load_ppA {w : World} {b : Nat} {A : Array Value} (hs : A.size = 4) (h : Obj? w b A 150) : (rowSem 150 ⟨b, 0, none⟩).run Tryz.prog w = .ok (.agg A) w :=
 rowSem_run w b 150 150 A _ h Tryz.underlying150 rfl (by rw [hs]; exact infoPp)
theorem store_newft (w : World) {c : Array Value} (hs : c.size = 5) (h1 : c.all (·.oneCell') = true) : (rowStore 152 ⟨w.heap.size, 0, none⟩ (.agg c)).run Tryz.prog (w.alloc (.cells #[.string ⟨#[]⟩, .int .i64 0, .bool false, .bool false, .int .i64 0] 152 (0, 0))) = .ok () (w.alloc (.cells c 152 (0, 0))) := by
 have h := rowStore_run (P := Tryz.prog) _ w.heap.size 152 152 _ c (Obj?.new w #[.string ⟨#[]⟩, .int .i64 0, .bool false, .bool false, .int .i64 0] 152) (by rw [hs]; exact infoFt) (by rw [hs]; rfl) h1
 rw [World.setRow_alloc_new] at h
 exact h
theorem store_newpp (w : World) {c : Array Value} (hs : c.size = 4) (h1 : c.all (·.oneCell') = true) : (rowStore 150 ⟨w.heap.size, 0, none⟩ (.agg c)).run Tryz.prog (w.alloc (.cells #[.int .i64 0, .int .u32 0, .string ⟨#[]⟩, .string ⟨#[]⟩] 150 (0, 0))) = .ok () (w.alloc (.cells c 150 (0, 0))) := by
 have h := rowStore_run (P := Tryz.prog) _ w.heap.size 150 150 _ c (Obj?.new w #[.int .i64 0, .int .u32 0, .string ⟨#[]⟩, .string ⟨#[]⟩] 150) (by rw [hs]; exact infoPp) (by rw [hs]; rfl) h1
 rw [World.setRow_alloc_new] at h
 exact h
theorem ft_ext (x y : Ft) : x = y ↔ x.top = y.top ∧ x.q = y.q ∧ x.nl = y.nl ∧ x.ap = y.ap ∧ x.h = y.h := by cases x; cases y; simp
theorem pp_ext (x y : Pp) : x = y ↔ x.id = y.id ∧ x.n = y.n ∧ x.t = y.t ∧ x.v = y.v := by cases x; cases y; simp
theorem eql_ft (x y : Ft) (w : World) : (binOp .eql 152 (.agg x.cs) (.agg y.cs)).run Tryz.prog w = .ok (.bool (decide (x = y))) w := by
 unfold Ft.cs
 go_simp
 simp only [ft_ext]
 by_cases h0 : x.top = y.top <;> by_cases h1 : x.q = y.q <;> by_cases h2 : x.nl = y.nl <;> by_cases h3 : x.ap = y.ap <;> by_cases h4 : x.h = y.h <;> simp [h0, h1, h2, h3, h4]
theorem neq_ft (x y : Ft) (w : World) : (binOp .neq 152 (.agg x.cs) (.agg y.cs)).run Tryz.prog w = .ok (.bool (!decide (x = y))) w := by
 unfold Ft.cs
 go_simp
 simp only [ft_ext]
 by_cases h0 : x.top = y.top <;> by_cases h1 : x.q = y.q <;> by_cases h2 : x.nl = y.nl <;> by_cases h3 : x.ap = y.ap <;> by_cases h4 : x.h = y.h <;> simp [h0, h1, h2, h3, h4]
theorem eql_pp (x y : Pp) (w : World) : (binOp .eql 150 (.agg x.cs) (.agg y.cs)).run Tryz.prog w = .ok (.bool (decide (x = y))) w := by
 unfold Pp.cs
 go_simp
 simp only [pp_ext]
 by_cases h0 : x.id = y.id <;> by_cases h1 : x.n = y.n <;> by_cases h2 : x.t = y.t <;> by_cases h3 : x.v = y.v <;> simp [h0, h1, h2, h3]
theorem neq_pp (x y : Pp) (w : World) : (binOp .neq 150 (.agg x.cs) (.agg y.cs)).run Tryz.prog w = .ok (.bool (!decide (x = y))) w := by
 unfold Pp.cs
 go_simp
 simp only [pp_ext]
 by_cases h0 : x.id = y.id <;> by_cases h1 : x.n = y.n <;> by_cases h2 : x.t = y.t <;> by_cases h3 : x.v = y.v <;> simp [h0, h1, h2, h3]
theorem take_step {X : Type} {ha hb : List X} {k : Nat} (hka : k < ha.length) (hkb : k < hb.length) (h : ha.take k = hb.take k) (e : ha[k] = hb[k]) : ha.take (k + 1) = hb.take (k + 1) := by
 rw [List.take_succ_eq_append_getElem hka, List.take_succ_eq_append_getElem hkb, h, e]
theorem take_all {X : Type} {ha hb : List X} {n : Nat} (h1 : n = ha.length) (h2 : n = hb.length) (h : ha.take n = hb.take n) : ha = hb := by
 have e : ha.take ha.length = hb.take hb.length := by rw [← h1, ← h2]; exact h
 rwa [List.take_length, List.take_length] at e
attribute [local go_sem ↓] load_Ft load_Pp store_Ft store_Pp
attribute [local irreducible] rowSem rowStore
theorem equal_ft (x y : Ft) (w : World) : Calls Tryz.prog 328 #[.agg x.cs, .agg y.cs] w fun e w' => e = .returned (.bool (decide (x = y))) ∧ Below w.heap.size w w' := by
 have q := eql_ft x y
 have k1 := load_ftA (A := x.cs) rfl ((Obj?.new w x.cs 152).alloc (.cells y.cs 152 (0, 0)))
 have k2 := load_ftA (A := y.cs) rfl (Obj?.new (w.alloc (.cells x.cs 152 (0, 0))) y.cs 152)
 rw [World.size_alloc] at k2
 have hB := Lib.hid (below_al (below_al (Below.refl _ w) (.cells x.cs 152 (0, 0))) (.cells y.cs 152 (0, 0)))
 obtain ⟨cx, hcx⟩ : ∃ c, c = x.cs := ⟨_, rfl⟩
 obtain ⟨cy, hcy⟩ : ∃ c, c = y.cs := ⟨_, rfl⟩
 rw [← hcx, ← hcy] at q k1 k2 hB ⊢
 clear hcx hcy
 go_enter Tryz.func328, Tryz.ntmps328
 go_wp2
 go_ret
 exact ⟨rfl, hB.out⟩
theorem eqf_ft {va vb : Value} {ha hb : List Ft} {w : World} (hA : RowOf Ft.cs 5 w va ha) (hB : RowOf Ft.cs 5 w vb hb) :
  Calls Tryz.prog 327 #[va, vb, .func (.func 328) #[] #[]] w fun e w' => e = .returned (.bool (decide (ha = hb))) ∧ Below w.heap.size w w' := by
 have HA := Lib.hid hA
 have HB := Lib.hid hB
 obtain ⟨a, cap, rfl, la, -⟩ := hA
 obtain ⟨b, cap', rfl, lb, -⟩ := hB
 obtain ⟨n, hN⟩ : ∃ n, n = ha.length := ⟨_, rfl⟩
 obtain ⟨n', hN'⟩ : ∃ n', n' = hb.length := ⟨_, rfl⟩
 rw [← hN] at la HA
 rw [← hN'] at lb HB
 rw [← hN, ← hN']
 by_cases hne : n = n'
 rotate_left
 ·have e : decide (ha = hb) = false := decide_eq_false (fun h => hne (by rw [hN, hN', h]))
  have d1 : ((n : Int) == n') = false := by apply beq_eq_false_iff_ne.2; omega
  have d2 : ((n : Int) != n') = true := by simp; omega
  rw [e]
  clear e hN hN' hne
  go_enter Tryz.func327, Tryz.ntmps327
  go_wp2
  go_ret
  exact ⟨rfl, Below.refl _ _⟩
 ·subst hne
  have HN := Lib.hid (And.intro hN hN')
  clear hN hN' lb
  go_enter Tryz.func327, Tryz.ntmps327
  refine wp_hide fun Q1 hQ1 => ?_
  have HQ1 := Lib.hid hQ1
  clear hQ1
  go_wp2
  go_loopg [17] (n + 1) (fun g i wr => ∃ k : Nat, g + k = n + 1 ∧ k ≤ n ∧ i = .int .i64 k ∧ Hid (ha.take k = hb.take k ∧ Below w.heap.size w wr))
  case atStart => exact ⟨0, by omega, by omega, rfl, Lib.hid ⟨rfl, Below.refl _ _⟩⟩
  case round =>
   obtain ⟨k, hgk, hkn, rfl, HI⟩ := hrel
   have HGK := Lib.hid (And.intro hgk hkn)
   clear hgk
   by_cases hlt : k < n
   ·have hka : k < ha.length := by rw [← HN.out.1]; exact hlt
    have hkb : k < hb.length := by rw [← HN.out.2]; exact hlt
    obtain ⟨b1, o1, rfl, l1, c1⟩ := (HA.out.below HI.out.2).at k hka
    obtain ⟨b2, o2, rfl, l2, c2⟩ := (HB.out.below HI.out.2).at k hkb
    have hst := take_step hka hkb HI.out.1
    have hno : ha[k] ≠ hb[k] → decide (ha = hb) = false := fun e => decide_eq_false (fun h => e (by subst h; rfl))
    obtain ⟨x, hx⟩ : ∃ x, x = ha[k] := ⟨_, rfl⟩
    obtain ⟨y, hy⟩ : ∃ y, y = hb[k] := ⟨_, rfl⟩
    rw [← hx] at c1
    rw [← hy] at c2
    rw [← hx, ← hy] at hst hno
    have d1 : decide ((k : Int) < n) = true := decide_eq_true (by omega)
    have hki : (k : Int) < n := by omega
    have k1 := row_ft c1
    have k2 := row_ft c2
    have k1' := fun n => row_ft (W := wr.drewN n) c1
    have k2' := fun n => row_ft (W := wr.drewN n) c2
    have qn := neq_ft x y
    have qe := eql_ft x y
    obtain ⟨cx, hcx⟩ : ∃ c, c = x.cs := ⟨_, rfl⟩
    obtain ⟨cy, hcy⟩ : ∃ c, c = y.cs := ⟨_, rfl⟩
    rw [← hcx] at k1 k1'
    rw [← hcy] at k2 k2'
    rw [← hcx, ← hcy] at qn qe
    have HE := Lib.hid (equal_ft x y)
    have hs1 : x.cs.size = 5 := rfl
    have hs2 : y.cs.size = 5 := rfl
    have ho1 := one_ft x
    have ho2 := one_ft y
    have st1 := store_newft wr hs1 ho1
    have st2 := store_newft (wr.alloc (.cells x.cs 152 (0, 0))) hs2 ho2
    have l8 := load_ftA hs1 ((Obj?.new wr x.cs 152).alloc (.cells y.cs 152 (0, 0)))
    have l9 := load_ftA hs2 (Obj?.new (wr.alloc (.cells x.cs 152 (0, 0))) y.cs 152)
    have k3 := row_ft (W := wr.alloc (.cells x.cs 152 (0, 0))) (b := b2) (o := o2 + k * 5) (x := y) (fun j u h => ((below_al (Below.refl _ wr) _).cell (p := ⟨b2, _, none⟩) l2).trans (c2 j u h))
    rw [World.size_alloc] at l9 st2
    have HO := Lib.hid (below_al (below_al HI.out.2 (.cells x.cs 152 (0, 0))) (.cells y.cs 152 (0, 0)))
    rw [← hcx] at st1 l8
    rw [← hcx, ← hcy] at st2 l9 k3
    rw [← hcy] at l8
    clear hs1 hs2 ho1 ho2
    rw [← hcx, ← hcy] at HE HO
    clear hcx hcy
    clear hx hy hka hkb c1 c2 hkn l1 l2
    by_cases hxy : x = y
    ·have HS := Lib.hid (hst hxy)
     rw [decide_eq_true hxy] at qn qe HE
     clear hxy
     clear hst hno hlt
     go_wp2_with fail
     refine (HE.out _).mono ?_
     rintro r w2 ⟨rfl, hw⟩
     have HW := Lib.hid (HO.out.trans (hw.mono HO.out.size))
     clear hw
     go_wp2
     go_roundg (gk - 1)
     case measure => have := HGK.out; omega
     case rel => exact ⟨k + 1, by have := HGK.out; omega, by have := HGK.out; omega, by go_num, Lib.hid ⟨HS.out, HW.out⟩⟩
    ·have HS := Lib.hid (hno hxy)
     rw [decide_eq_false hxy] at qn qe HE
     clear hst hno hlt hxy
     go_wp2_with fail
     refine (HE.out _).mono ?_
     rintro r w2 ⟨rfl, hw⟩
     have HW := Lib.hid (HO.out.trans (hw.mono HO.out.size))
     clear hw
     go_wp2
     refine HQ1.out _ _ _ ?_
     rw [HS.out]
     go_ret
     exact ⟨rfl, HW.out⟩
   ·obtain rfl : k = n := by omega
    have HS := Lib.hid (show decide (ha = hb) = true from decide_eq_true (take_all HN.out.1 HN.out.2 HI.out.1))
    go_wp2
    refine HQ1.out _ _ _ ?_
    rw [HS.out]
    go_ret
    exact ⟨rfl, HI.out.2⟩
theorem list_ft {va vb : Value} {ha hb : List Ft} {w : World} (hA : RowOf Ft.cs 5 w va ha) (hB : RowOf Ft.cs 5 w vb hb) :
  Calls Tryz.prog 308 #[va, vb] w fun e w' => e = .returned (.bool (decide (ha = hb))) ∧ Below w.heap.size w w' := by
 have HE := Lib.hid (eqf_ft hA hB)
 go_enter Tryz.func308, Tryz.ntmps308
 go_wp2_with fail
 refine HE.out.mono ?_
 rintro r w2 ⟨rfl, hb⟩
 go_wp2
 go_ret
 exact ⟨rfl, hb⟩
theorem equal_pp (x y : Pp) (w : World) : Calls Tryz.prog 330 #[.agg x.cs, .agg y.cs] w fun e w' => e = .returned (.bool (decide (x = y))) ∧ Below w.heap.size w w' := by
 have q := eql_pp x y
 have k1 := load_ppA (A := x.cs) rfl ((Obj?.new w x.cs 150).alloc (.cells y.cs 150 (0, 0)))
 have k2 := load_ppA (A := y.cs) rfl (Obj?.new (w.alloc (.cells x.cs 150 (0, 0))) y.cs 150)
 rw [World.size_alloc] at k2
 have hB := Lib.hid (below_al (below_al (Below.refl _ w) (.cells x.cs 150 (0, 0))) (.cells y.cs 150 (0, 0)))
 obtain ⟨cx, hcx⟩ : ∃ c, c = x.cs := ⟨_, rfl⟩
 obtain ⟨cy, hcy⟩ : ∃ c, c = y.cs := ⟨_, rfl⟩
 rw [← hcx, ← hcy] at q k1 k2 hB ⊢
 clear hcx hcy
 go_enter Tryz.func330, Tryz.ntmps330
 go_wp2
 go_ret
 exact ⟨rfl, hB.out⟩
theorem eqf_pp {va vb : Value} {ha hb : List Pp} {w : World} (hA : RowOf Pp.cs 4 w va ha) (hB : RowOf Pp.cs 4 w vb hb) :
  Calls Tryz.prog 329 #[va, vb, .func (.func 330) #[] #[]] w fun e w' => e = .returned (.bool (decide (ha = hb))) ∧ Below w.heap.size w w' := by
 have HA := Lib.hid hA
 have HB := Lib.hid hB
 obtain ⟨a, cap, rfl, la, -⟩ := hA
 obtain ⟨b, cap', rfl, lb, -⟩ := hB
 obtain ⟨n, hN⟩ : ∃ n, n = ha.length := ⟨_, rfl⟩
 obtain ⟨n', hN'⟩ : ∃ n', n' = hb.length := ⟨_, rfl⟩
 rw [← hN] at la HA
 rw [← hN'] at lb HB
 rw [← hN, ← hN']
 by_cases hne : n = n'
 rotate_left
 ·have e : decide (ha = hb) = false := decide_eq_false (fun h => hne (by rw [hN, hN', h]))
  have d1 : ((n : Int) == n') = false := by apply beq_eq_false_iff_ne.2; omega
  have d2 : ((n : Int) != n') = true := by simp; omega
  rw [e]
  clear e hN hN' hne
  go_enter Tryz.func329, Tryz.ntmps329
  go_wp2
  go_ret
  exact ⟨rfl, Below.refl _ _⟩
 ·subst hne
  have HN := Lib.hid (And.intro hN hN')
  clear hN hN' lb
  go_enter Tryz.func329, Tryz.ntmps329
  refine wp_hide fun Q1 hQ1 => ?_
  have HQ1 := Lib.hid hQ1
  clear hQ1
  go_wp2
  go_loopg [17] (n + 1) (fun g i wr => ∃ k : Nat, g + k = n + 1 ∧ k ≤ n ∧ i = .int .i64 k ∧ Hid (ha.take k = hb.take k ∧ Below w.heap.size w wr))
  case atStart => exact ⟨0, by omega, by omega, rfl, Lib.hid ⟨rfl, Below.refl _ _⟩⟩
  case round =>
   obtain ⟨k, hgk, hkn, rfl, HI⟩ := hrel
   have HGK := Lib.hid (And.intro hgk hkn)
   clear hgk
   by_cases hlt : k < n
   ·have hka : k < ha.length := by rw [← HN.out.1]; exact hlt
    have hkb : k < hb.length := by rw [← HN.out.2]; exact hlt
    obtain ⟨b1, o1, rfl, l1, c1⟩ := (HA.out.below HI.out.2).at k hka
    obtain ⟨b2, o2, rfl, l2, c2⟩ := (HB.out.below HI.out.2).at k hkb
    have hst := take_step hka hkb HI.out.1
    have hno : ha[k] ≠ hb[k] → decide (ha = hb) = false := fun e => decide_eq_false (fun h => e (by subst h; rfl))
    obtain ⟨x, hx⟩ : ∃ x, x = ha[k] := ⟨_, rfl⟩
    obtain ⟨y, hy⟩ : ∃ y, y = hb[k] := ⟨_, rfl⟩
    rw [← hx] at c1
    rw [← hy] at c2
    rw [← hx, ← hy] at hst hno
    have d1 : decide ((k : Int) < n) = true := decide_eq_true (by omega)
    have hki : (k : Int) < n := by omega
    have k1 := row_pp c1
    have k2 := row_pp c2
    have k1' := fun n => row_pp (W := wr.drewN n) c1
    have k2' := fun n => row_pp (W := wr.drewN n) c2
    have qn := neq_pp x y
    have qe := eql_pp x y
    obtain ⟨cx, hcx⟩ : ∃ c, c = x.cs := ⟨_, rfl⟩
    obtain ⟨cy, hcy⟩ : ∃ c, c = y.cs := ⟨_, rfl⟩
    rw [← hcx] at k1 k1'
    rw [← hcy] at k2 k2'
    rw [← hcx, ← hcy] at qn qe
    have HE := Lib.hid (equal_pp x y)
    have hs1 : x.cs.size = 4 := rfl
    have hs2 : y.cs.size = 4 := rfl
    have ho1 := one_pp x
    have ho2 := one_pp y
    have st1 := store_newpp wr hs1 ho1
    have st2 := store_newpp (wr.alloc (.cells x.cs 150 (0, 0))) hs2 ho2
    have l8 := load_ppA hs1 ((Obj?.new wr x.cs 150).alloc (.cells y.cs 150 (0, 0)))
    have l9 := load_ppA hs2 (Obj?.new (wr.alloc (.cells x.cs 150 (0, 0))) y.cs 150)
    have k3 := row_pp (W := wr.alloc (.cells x.cs 150 (0, 0))) (b := b2) (o := o2 + k * 4) (x := y) (fun j u h => ((below_al (Below.refl _ wr) _).cell (p := ⟨b2, _, none⟩) l2).trans (c2 j u h))
    rw [World.size_alloc] at l9 st2
    have HO := Lib.hid (below_al (below_al HI.out.2 (.cells x.cs 150 (0, 0))) (.cells y.cs 150 (0, 0)))
    rw [← hcx] at st1 l8
    rw [← hcx, ← hcy] at st2 l9 k3
    rw [← hcy] at l8
    clear hs1 hs2 ho1 ho2
    rw [← hcx, ← hcy] at HE HO
    clear hcx hcy
    clear hx hy hka hkb c1 c2 hkn l1 l2
    by_cases hxy : x = y
    ·have HS := Lib.hid (hst hxy)
     rw [decide_eq_true hxy] at qn qe HE
     clear hxy
     clear hst hno hlt
     go_wp2_with fail
     refine (HE.out _).mono ?_
     rintro r w2 ⟨rfl, hw⟩
     have HW := Lib.hid (HO.out.trans (hw.mono HO.out.size))
     clear hw
     go_wp2
     go_roundg (gk - 1)
     case measure => have := HGK.out; omega
     case rel => exact ⟨k + 1, by have := HGK.out; omega, by have := HGK.out; omega, by go_num, Lib.hid ⟨HS.out, HW.out⟩⟩
    ·have HS := Lib.hid (hno hxy)
     rw [decide_eq_false hxy] at qn qe HE
     clear hst hno hlt hxy
     go_wp2_with fail
     refine (HE.out _).mono ?_
     rintro r w2 ⟨rfl, hw⟩
     have HW := Lib.hid (HO.out.trans (hw.mono HO.out.size))
     clear hw
     go_wp2
     refine HQ1.out _ _ _ ?_
     rw [HS.out]
     go_ret
     exact ⟨rfl, HW.out⟩
   ·obtain rfl : k = n := by omega
    have HS := Lib.hid (show decide (ha = hb) = true from decide_eq_true (take_all HN.out.1 HN.out.2 HI.out.1))
    go_wp2
    refine HQ1.out _ _ _ ?_
    rw [HS.out]
    go_ret
    exact ⟨rfl, HI.out.2⟩
theorem list_pp {va vb : Value} {ha hb : List Pp} {w : World} (hA : RowOf Pp.cs 4 w va ha) (hB : RowOf Pp.cs 4 w vb hb) :
  Calls Tryz.prog 309 #[va, vb] w fun e w' => e = .returned (.bool (decide (ha = hb))) ∧ Below w.heap.size w w' := by
 have HE := Lib.hid (eqf_pp hA hB)
 go_enter Tryz.func309, Tryz.ntmps309
 go_wp2_with fail
 refine HE.out.mono ?_
 rintro r w2 ⟨rfl, hb⟩
 go_wp2
 go_ret
 exact ⟨rfl, hb⟩
theorem equal_in (x y : Int) (w : World) : Calls Tryz.prog 326 #[.int .i64 x, .int .i64 y] w fun e w' => e = .returned (.bool (decide (x = y))) ∧ w = w' := by
 go_enter Tryz.func326, Tryz.ntmps326
 go_wp2
 go_ret
 exact ⟨by simp [BEq.beq], rfl⟩
theorem eqf_in {va vb : Value} {ha hb : List Int} {w : World} (hA : RowOf intCs 1 w va ha) (hB : RowOf intCs 1 w vb hb) :
  Calls Tryz.prog 325 #[va, vb, .func (.func 326) #[] #[]] w fun e w' => e = .returned (.bool (decide (ha = hb))) ∧ Below w.heap.size w w' := by
 have HA := Lib.hid hA
 have HB := Lib.hid hB
 obtain ⟨a, cap, rfl, la, -⟩ := hA
 obtain ⟨b, cap', rfl, lb, -⟩ := hB
 obtain ⟨n, hN⟩ : ∃ n, n = ha.length := ⟨_, rfl⟩
 obtain ⟨n', hN'⟩ : ∃ n', n' = hb.length := ⟨_, rfl⟩
 rw [← hN] at la HA
 rw [← hN'] at lb HB
 rw [← hN, ← hN']
 by_cases hne : n = n'
 rotate_left
 ·have e : decide (ha = hb) = false := decide_eq_false (fun h => hne (by rw [hN, hN', h]))
  have d1 : ((n : Int) == n') = false := by apply beq_eq_false_iff_ne.2; omega
  have d2 : ((n : Int) != n') = true := by simp; omega
  rw [e]
  clear e hN hN' hne
  go_enter Tryz.func325, Tryz.ntmps325
  go_wp2
  go_ret
  exact ⟨rfl, Below.refl _ _⟩
 ·subst hne
  have HN := Lib.hid (And.intro hN hN')
  clear hN hN' lb
  go_enter Tryz.func325, Tryz.ntmps325
  refine wp_hide fun Q1 hQ1 => ?_
  have HQ1 := Lib.hid hQ1
  clear hQ1
  go_wp2
  go_loopg [17] (n + 1) (fun g i wr => ∃ k : Nat, g + k = n + 1 ∧ k ≤ n ∧ i = .int .i64 k ∧ Hid (ha.take k = hb.take k ∧ Below w.heap.size w wr))
  case atStart => exact ⟨0, by omega, by omega, rfl, Lib.hid ⟨rfl, Below.refl _ _⟩⟩
  case round =>
   obtain ⟨k, hgk, hkn, rfl, HI⟩ := hrel
   have HGK := Lib.hid (And.intro hgk hkn)
   clear hgk
   by_cases hlt : k < n
   ·have hka : k < ha.length := by rw [← HN.out.1]; exact hlt
    have hkb : k < hb.length := by rw [← HN.out.2]; exact hlt
    obtain ⟨b1, o1, rfl, l1, c1⟩ := (HA.out.below HI.out.2).at k hka
    obtain ⟨b2, o2, rfl, l2, c2⟩ := (HB.out.below HI.out.2).at k hkb
    have hst := take_step hka hkb HI.out.1
    have hno : ha[k] ≠ hb[k] → decide (ha = hb) = false := fun e => decide_eq_false (fun h => e (by subst h; rfl))
    obtain ⟨x, hx⟩ : ∃ x, x = ha[k] := ⟨_, rfl⟩
    obtain ⟨y, hy⟩ : ∃ y, y = hb[k] := ⟨_, rfl⟩
    rw [← hx] at c1
    rw [← hy] at c2
    rw [← hx, ← hy] at hst hno
    have d1 : decide ((k : Int) < n) = true := decide_eq_true (by omega)
    have hki : (k : Int) < n := by omega
    have k1 := c1 0 (.int .i64 x) rfl
    have k2 := c2 0 (.int .i64 y) rfl
    rw [Nat.mul_one, Nat.add_zero] at k1 k2
    have HE := Lib.hid (equal_in x y)
    clear hx hy hka hkb c1 c2 hkn l1 l2
    by_cases hxy : x = y
    ·have HS := Lib.hid (hst hxy)
     rw [decide_eq_true hxy] at HE
     clear hxy
     clear hst hno hlt
     go_wp2_with fail
     refine (HE.out _).mono ?_
     rintro r w2 ⟨rfl, hw⟩
     subst hw
     go_wp2
     go_roundg (gk - 1)
     case measure => have := HGK.out; omega
     case rel => exact ⟨k + 1, by have := HGK.out; omega, by have := HGK.out; omega, by go_num, Lib.hid ⟨HS.out, HI.out.2⟩⟩
    ·have HS := Lib.hid (hno hxy)
     rw [decide_eq_false hxy] at HE
     clear hst hno hlt hxy
     go_wp2_with fail
     refine (HE.out _).mono ?_
     rintro r w2 ⟨rfl, hw⟩
     subst hw
     go_wp2
     refine HQ1.out _ _ _ ?_
     rw [HS.out]
     go_ret
     exact ⟨rfl, HI.out.2⟩
   ·obtain rfl : k = n := by omega
    have HS := Lib.hid (show decide (ha = hb) = true from decide_eq_true (take_all HN.out.1 HN.out.2 HI.out.1))
    go_wp2
    refine HQ1.out _ _ _ ?_
    rw [HS.out]
    go_ret
    exact ⟨rfl, HI.out.2⟩
theorem list_in {va vb : Value} {ha hb : List Int} {w : World} (hA : RowOf intCs 1 w va ha) (hB : RowOf intCs 1 w vb hb) :
  Calls Tryz.prog 307 #[va, vb] w fun e w' => e = .returned (.bool (decide (ha = hb))) ∧ Below w.heap.size w w' := by
 have HE := Lib.hid (eqf_in hA hB)
 go_enter Tryz.func307, Tryz.ntmps307
 go_wp2_with fail
 refine HE.out.mono ?_
 rintro r w2 ⟨rfl, hb⟩
 go_wp2
 go_ret
 exact ⟨rfl, hb⟩
end Go.Proofs.YtanofjmkkhocaaaGreatDoor
