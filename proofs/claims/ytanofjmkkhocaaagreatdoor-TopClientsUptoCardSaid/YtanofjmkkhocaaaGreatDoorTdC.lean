/- The document's registry, as far as it is safe: set. The document's registry, as far as it is safe: Register, Predefine. The document's registry, as far as it is safe: Predefine. -/
import Derived.Test.YtanofjmkkhocaaaGreatDoorTcZ
set_option linter.unusedVariables false
set_option linter.unusedSimpArgs false
set_option maxRecDepth 100000
set_option maxHeartbeats 3200000
namespace Go.Proofs.YtanofjmkkhocaaaGreatDoor
open Go Go.RowKit Go.MapKept
theorem infoEnt : (Tryz.prog.info? 165).map (fun i => (i.zero, i.size, i.bytes)) = some (some (.agg #[.string ⟨#[]⟩, .slice none 0 0]), 2, 40) := by kernel_rfl
theorem ent_new (W : World) (name : List UInt8) (v : Value) : ∀ (j : Nat) (u : Value), [Value.string ⟨name.toArray⟩, v][j]? = some u → (W.alloc (.cells #[.string ⟨name.toArray⟩, v] 165 (0, 0))).cell? ((⟨W.heap.size, 0, none⟩ : Addr).add j) = some u := fun j u hj => by
 rw [Addr.add_mid, Nat.zero_add]
 exact (Obj?.new W _ _).cell j u (by simpa using hj)
theorem ent_newG (W : World) (g : Nat) (hg : W.heap.size = g) (name : List UInt8) (v : Value) : ∀ (j : Nat) (u : Value), [Value.string ⟨name.toArray⟩, v][j]? = some u → (W.alloc (.cells #[.string ⟨name.toArray⟩, v] 165 (0, 0))).cell? ((⟨g, 0, none⟩ : Addr).add j) = some u := by
 subst hg
 exact ent_new W name v
abbrev OwnE (w : World) (base : Nat) (v : Value) (Y : List Ent) : Prop := w.ownsRow base 165 2 v Y.length (flatC Ent.cs Y)
theorem OwnE.app {w1 : World} {base : Nat} {v' : Value} {Y : List Ent} {name : List UInt8} {v : Value} (h : w1.ownsRow base 165 2 v' (Y.length + 1) (flatC Ent.cs Y ++ [.string ⟨name.toArray⟩, v])) : OwnE w1 base v' (Y ++ [(name, v)]) := by
 have e : flatC Ent.cs (Y ++ [(name, v)]) = flatC Ent.cs Y ++ [.string ⟨name.toArray⟩, v] := by simp [flatC, Ent.cs]
 unfold OwnE
 rw [e, List.length_append, List.length_singleton]
 exact h
theorem app_far {W w1 : World} {b : Nat} {cs : Array Value} {t : TypeId} {o : Obj} {v : Value} (ho : Obj? W b cs t) (hg : (W.alloc o).grownBy w1 v.ownBlock) (hne : v.ownBlock ≠ some b) : Obj? w1 b cs t := (ho.alloc o).kept hg (fun e => by first | exact hne e | exact hne e.symm)
theorem ents_app {w : World} {P : Nat → Prop} {K : Nat} {Y : List Ent} {e : Ent} (h : ∀ x ∈ Y, EntOk w P K x) (he : EntOk w P K e) : ∀ x ∈ Y ++ [e], EntOk w P K x := by
 intro x hx
 rcases List.mem_append.1 hx with h1 | h1
 ·exact h x h1
 ·rw [List.mem_singleton] at h1; subst h1; exact he
theorem set_end {w W : World} {ob : Nat} {P : Nat → Prop} {K : Nat} {V vo : Value} {E Y : List Ent} (h : RefM w ob P K V E) (hK : K ≤ 1000) (hO : OwnE W w.heap.size vo Y) (hY : Y.length ≤ K + 1) (hA : ∀ x ∈ Y, EntOk w P (K + 1) x) (hB : Below w.heap.size w W) :
  ∃ P', RefAt (W.setCell ⟨ob, 0, none⟩ vo) ob P' (K + 1) ∧ (∀ b, P' b → P b ∨ w.heap.size ≤ b) ∧ (∀ b, P b → P' b) ∧ Kq (fun b => b = ob) w (W.setCell ⟨ob, 0, none⟩ vo) := by
 have hob : ob < w.heap.size := h.reg.lt
 have hk : Kq (fun b => b = ob) w (W.setCell ⟨ob, 0, none⟩ vo) := Kq.set (S := fun b => b = ob) (Kq.of_below hB) (p := ⟨ob, 0, none⟩) (.inl rfl) _
 have hk1 : Kq (fun b => b = ob) W (W.setCell ⟨ob, 0, none⟩ vo) := Kq.set (S := fun b => b = ob) (Kq.refl _ W) (p := ⟨ob, 0, none⟩) (.inl rfl) _
 refine ⟨fun b => P b ∨ w.heap.size ≤ b ∧ b < (W.setCell ⟨ob, 0, none⟩ vo).heap.size, ⟨vo, Y, ⟨(h.below hB).reg.set 0 _, ⟨?_, ?_⟩, hY, ?_, ?_, ?_⟩⟩, ?_, fun b hb => .inl hb, hk⟩
 ·refine (rowOf_of_owns (cs := Ent.cs) (z := 2) (fun x => rfl) hO (by omega)).kp hk1 (fun b off n cap e hlt hbo => ?_)
  subst e
  have := (hO.lt b rfl).1
  omega
 ·rintro b off n cap rfl
  have := hO.lt b rfl
  exact .inr ⟨this.1, Nat.lt_of_lt_of_le this.2 hk1.size⟩
 ·intro e he
  obtain ⟨T, h1, h2⟩ := hA e he
  exact ⟨T, (h1.kp hk (fun b hb e => h.nob (e ▸ hb))).mono (fun b hb => .inl hb), h2⟩
 ·rintro (hb | ⟨hb, -⟩)
  ·exact h.nob hb
  ·omega
 ·rintro b (hb | ⟨-, hb⟩)
  ·exact Nat.lt_of_lt_of_le (h.old b hb) hk.size
  ·exact hb
 ·rintro b (hb | ⟨hb, -⟩)
  ·exact .inl hb
  ·exact .inr hb
theorem rset_any {w : World} {ob : Nat} {P : Nat → Prop} {K : Nat} (h : RefAt w ob P K) (hK : K ≤ 1000) (n : List UInt8) {vl : Value} {U : List Tp} (hU : RowP P Tp.cs 3 w vl U) (hUl : U.length ≤ K + 1) :
  Calls Tryz.prog 43 #[.pointer (some ⟨ob, 0, none⟩), .string ⟨n.toArray⟩, vl] w fun e w' => e = .returned (.tuple #[]) ∧ ∃ P', RefAt w' ob P' (K + 1) ∧ (∀ b, P' b → P b ∨ w.heap.size ≤ b) ∧ (∀ b, P b → P' b) ∧ Kq (fun b => b = ob) w w' := by
 obtain ⟨i0, hi, hz0, hz1, hz2⟩ := info_parts infoEnt
 have hmx : maxLen = 9223372036854775807 := rfl
 obtain ⟨V, E, hM⟩ := h
 have HM := Lib.hid hM
 obtain ⟨⟨a, cap, rfl, la, -⟩, -⟩ := hM.row
 have HVk0 : EntOk w P (K + 1) (n, vl) := ⟨U, hU, hUl⟩
 obtain ⟨⟨va, vc, rfl, -, -⟩, -⟩ := hU
 have HVk := Lib.hid HVk0
 obtain ⟨ne, hN⟩ : ∃ ne, ne = E.length := ⟨_, rfl⟩
 have HN := Lib.hid (show ne = E.length ∧ ne ≤ K from ⟨hN, by have := hM.len; omega⟩)
 have HL := Lib.hid (show ne ≤ 1000 by have := HN.out.2; omega)
 have HR := Lib.hid (And.intro hM.reg hK)
 have kr0 := hM.reg.cells
 rw [← hN] at la kr0
 obtain ⟨b0, hb0⟩ : ∃ b0 : Bool, b0 = ((U.length : Int) == 0) := ⟨_, rfl⟩
 clear hN hM hK hUl HVk0
 go_enter Tryz.func43, Tryz.ntmps43
 go_wp2
 go_loopg [6, 7, 8] (ne + 1) (fun g vo ib i wr => ∃ (k : Nat) (b : Bool) (Y : List Ent), ib = .bool b ∧ i = .int .i64 k ∧ Hid (g + k = ne + 1 ∧ k ≤ ne ∧ Y.length ≤ k + b.toNat ∧ OwnE wr w.heap.size vo Y ∧ ∀ x ∈ Y, EntOk w P (K + 1) x) ∧ Hid (Below w.heap.size w wr))
 case atStart => exact ⟨0, _, [], rfl, rfl, Lib.hid ⟨by omega, by omega, by simp, World.ownsRow_nil _ _ _ _, fun x hx => by cases hx⟩, Lib.hid (Below.refl _ _)⟩
 case round =>
  obtain ⟨k, b, Y, rfl, rfl, HG0, HI⟩ := hrel
  obtain ⟨ao, co, rfl⟩ := owns_shape (by decide) HG0.out.2.2.2.1
  have HG := Lib.hid HG0.out
  have kr := (HR.out.1.below HI.out HR.out.1.lt).cells
  rw [← HN.out.1] at kr
  have hbn : b.toNat ≤ 1 := by cases b <;> decide
  have HYL := Lib.hid (show Y.length ≤ 1001 from by have := HG.out.2.2.1; have := HG.out.2.1; have := HL.out; omega)
  clear hbn HG0 kr0
  by_cases hlt : k < ne
  ·have hka : k < E.length := by rw [← HN.out.1]; exact hlt
   obtain ⟨b1, o1, rfl, l1, c1⟩ := (HM.out.row.1.below HI.out).at k hka
   obtain ⟨en, ev, hx⟩ : ∃ en ev, E[k] = (en, ev) := ⟨_, _, rfl⟩
   have hok := HM.out.all _ (List.getElem_mem hka)
   rw [hx] at c1 hok
   have x0 : wr.cell? ⟨b1, o1 + k * 2, none⟩ = some (.string ⟨en.toArray⟩) := c1 0 _ rfl
   have x1 : wr.cell? ⟨b1, o1 + k * 2 + 1, none⟩ = some ev := c1 1 _ rfl
   have hok2 := hok.mono (K' := K + 1) (fun _ h => h) (by omega)
   obtain ⟨T, hT, -⟩ := hok
   obtain ⟨⟨ta, tc, rfl, -, -⟩, -⟩ := hT
   have HEk := Lib.hid hok2
   have d1 : decide ((k : Int) < ne) = true := decide_eq_true (by omega)
   have hki : (k : Int) < ne := by omega
   have hkw : wrap64 ((k : Int) + 1) = (k : Int) + 1 := by have := HL.out; unfold wrap64; omega
   clear hx c1 hka hok2
   cases b with
   | true =>
    by_cases hn : en = n
    ·subst hn
     go_wp2
     go_roundg (gk - 1)
     case measure => have := HG.out.1; omega
     case rel => exact ⟨k + 1, true, Y, rfl, by go_num, Lib.hid ⟨by have := HG.out.1; omega, by omega, by have := HG.out.2.2.1; simp at this ⊢; omega, HG.out.2.2.2.1.alloc _, HG.out.2.2.2.2⟩, Lib.hid (below_al HI.out _)⟩
    ·have dn : (en == n) = false := by simpa using hn
     have dn2 : (en != n) = true := by simpa using hn
     clear hn
     go_wp2_with (at_builtin; refine wpList_append_own _ rfl _ _ 124 rfl w.heap.size 165 i0 (.agg #[.string ⟨#[]⟩, .slice none 0 0]) 2 40 Tryz.underlying124 hi hz0 hz1 hz2 rfl (by decide) _ _ _ rfl ((HG.out.2.2.2.1.alloc _).alloc _) ⟨wr.heap.size + 1, 0, none⟩ 1 1 [.string ⟨en.toArray⟩, (.slice ta T.length tc)] rfl rfl (ent_newG _ _ (by simp) en (.slice ta T.length tc)) (by simp [Value.oneCell']) (by have := HL.out; have := HYL.out; rw [hmx]; omega) (by have := HL.out; have := HYL.out; omega) (by have := HI.out.size; simp; omega) ?_; intro v' w1 hown' hgrow' _; have HA1 := Lib.hid (And.intro hown' hgrow'); clear hown' hgrow')
     have HS := Lib.hid (app_step (HG.out.2.2.2.1.alloc (.cells #[.string ⟨en.toArray⟩, .slice ta T.length tc] 165 (0, 0))) (below_al HI.out (.cells #[.string ⟨en.toArray⟩, .slice ta T.length tc] 165 (0, 0))) (Nat.le_refl _) HA1.out.2)
     go_wp2
     go_roundg (gk - 1)
     case measure => have := HG.out.1; omega
     case rel => exact ⟨k + 1, true, Y ++ [(en, (.slice ta T.length tc))], rfl, by go_num, Lib.hid ⟨by have := HG.out.1; omega, by omega, by rw [List.length_append, List.length_singleton]; have := HG.out.2.2.1; simp at this ⊢; omega, OwnE.app HA1.out.1, ents_app HG.out.2.2.2.2 HEk.out⟩, Lib.hid HS.out.1⟩
   | false =>
    by_cases hn : en = n
    ·subst hn
     cases hc : Op.bytesLess en en with
     | true =>
      go_wp2_with (at_builtin; refine wpList_append_own _ rfl _ _ 124 rfl w.heap.size 165 i0 (.agg #[.string ⟨#[]⟩, .slice none 0 0]) 2 40 Tryz.underlying124 hi hz0 hz1 hz2 rfl (by decide) _ _ _ rfl ((HG.out.2.2.2.1.alloc _).alloc _) ⟨wr.heap.size + 1, 0, none⟩ 1 1 [.string ⟨en.toArray⟩, (.slice va U.length vc)] rfl rfl (ent_newG _ _ (by simp) en (.slice va U.length vc)) (by simp [Value.oneCell']) (by have := HL.out; have := HYL.out; rw [hmx]; omega) (by have := HL.out; have := HYL.out; omega) (by have := HI.out.size; simp; omega) ?_; intro v' w1 hown' hgrow' _; have HA1 := Lib.hid (And.intro hown' hgrow'); clear hown' hgrow'; have HS := Lib.hid (app_step (HG.out.2.2.2.1.alloc (.cells #[.string ⟨en.toArray⟩, .slice ta T.length tc] 165 (0, 0))) (below_al HI.out (.cells #[.string ⟨en.toArray⟩, .slice ta T.length tc] 165 (0, 0))) (Nat.le_refl _) HA1.out.2); obtain ⟨Y2, hY2⟩ : ∃ Y2, Y2 = Y ++ [((en, (.slice va U.length vc)) : Ent)] := ⟨_, rfl⟩; have H1 := Lib.hid (And.intro (show OwnE w1 w.heap.size v' Y2 by rw [hY2]; exact OwnE.app HA1.out.1) (And.intro (show Y2.length ≤ k + 1 by rw [hY2, List.length_append, List.length_singleton]; have := HG.out.2.2.1; simp at this ⊢; omega) (show ∀ x ∈ Y2, EntOk w P (K + 1) x by rw [hY2]; exact ents_app HG.out.2.2.2.2 HVk.out))); have HYL2 := Lib.hid (show Y2.length ≤ 1001 from by have := H1.out.2.1; have := HG.out.2.1; have := HL.out; omega); obtain ⟨a1, e1, rfl⟩ := owns_shape (by decide) H1.out.1; have hO1 := app_far (Obj?.new wr #[.string ⟨en.toArray⟩, .slice ta T.length tc] 165) HA1.out.2 (fun e => by have := (HG.out.2.2.2.1.lt _ e).2; omega); have kx := hO1.cells; clear hO1 hY2)
      go_wp2
      go_roundg (gk - 1)
      case measure => have := HG.out.1; omega
      case rel => exact ⟨k + 1, true, Y2, rfl, by go_num, Lib.hid ⟨by have := HG.out.1; omega, by omega, by have := H1.out.2.1; simp at this ⊢; omega, H1.out.1, H1.out.2.2⟩, Lib.hid HS.out.1⟩
     | false =>
      go_wp2
      go_roundg (gk - 1)
      case measure => have := HG.out.1; omega
      case rel => exact ⟨k + 1, false, Y, rfl, by go_num, Lib.hid ⟨by have := HG.out.1; omega, by omega, by have := HG.out.2.2.1; simp at this ⊢; omega, HG.out.2.2.2.1.alloc _, HG.out.2.2.2.2⟩, Lib.hid (below_al HI.out _)⟩
    ·have dn : (en == n) = false := by simpa using hn
     have dn2 : (en != n) = true := by simpa using hn
     clear hn
     cases hc : Op.bytesLess n en with
     | true =>
      go_wp2_with (first | (at_builtin; refine wpList_append_own _ rfl _ _ 124 rfl w.heap.size 165 i0 (.agg #[.string ⟨#[]⟩, .slice none 0 0]) 2 40 Tryz.underlying124 hi hz0 hz1 hz2 rfl (by decide) _ _ _ rfl (World.ownsRow.alloc H1.out.1 _) ⟨w1.heap.size, 0, none⟩ 1 1 [.string ⟨en.toArray⟩, (.slice ta T.length tc)] rfl rfl (ent_newG _ _ (by simp) en (.slice ta T.length tc)) (by simp [Value.oneCell']) (by have := HL.out; have := HYL2.out; rw [hmx]; omega) (by have := HL.out; have := HYL2.out; omega) (by have := HS.out.1.size; simp; omega) ?_; intro v2 w2 hown' hgrow' _; have HA2 := Lib.hid (And.intro hown' hgrow'); clear hown' hgrow') | (at_builtin; refine wpList_append_own _ rfl _ _ 124 rfl w.heap.size 165 i0 (.agg #[.string ⟨#[]⟩, .slice none 0 0]) 2 40 Tryz.underlying124 hi hz0 hz1 hz2 rfl (by decide) _ _ _ rfl ((HG.out.2.2.2.1.alloc _).alloc _) ⟨wr.heap.size + 1, 0, none⟩ 1 1 [.string ⟨n.toArray⟩, (.slice va U.length vc)] rfl rfl (ent_newG _ _ (by simp) n (.slice va U.length vc)) (by simp [Value.oneCell']) (by have := HL.out; have := HYL.out; rw [hmx]; omega) (by have := HL.out; have := HYL.out; omega) (by have := HI.out.size; simp; omega) ?_; intro v' w1 hown' hgrow' _; have HA1 := Lib.hid (And.intro hown' hgrow'); clear hown' hgrow'; have HS := Lib.hid (app_step (HG.out.2.2.2.1.alloc (.cells #[.string ⟨en.toArray⟩, .slice ta T.length tc] 165 (0, 0))) (below_al HI.out (.cells #[.string ⟨en.toArray⟩, .slice ta T.length tc] 165 (0, 0))) (Nat.le_refl _) HA1.out.2); obtain ⟨Y2, hY2⟩ : ∃ Y2, Y2 = Y ++ [((n, (.slice va U.length vc)) : Ent)] := ⟨_, rfl⟩; have H1 := Lib.hid (And.intro (show OwnE w1 w.heap.size v' Y2 by rw [hY2]; exact OwnE.app HA1.out.1) (And.intro (show Y2.length ≤ k + 1 by rw [hY2, List.length_append, List.length_singleton]; have := HG.out.2.2.1; simp at this ⊢; omega) (show ∀ x ∈ Y2, EntOk w P (K + 1) x by rw [hY2]; exact ents_app HG.out.2.2.2.2 HVk.out))); have HYL2 := Lib.hid (show Y2.length ≤ 1001 from by have := H1.out.2.1; have := HG.out.2.1; have := HL.out; omega); obtain ⟨a1, e1, rfl⟩ := owns_shape (by decide) H1.out.1; have hO1 := app_far (Obj?.new wr #[.string ⟨en.toArray⟩, .slice ta T.length tc] 165) HA1.out.2 (fun e => by have := (HG.out.2.2.2.1.lt _ e).2; omega); have kx := hO1.cells; clear hO1 hY2))
      have HS2 := Lib.hid (app_step H1.out.1 HS.out.1 (Nat.le_refl _) HA2.out.2)
      go_wp2
      go_roundg (gk - 1)
      case measure => have := HG.out.1; omega
      case rel => exact ⟨k + 1, true, Y2 ++ [(en, (.slice ta T.length tc))], rfl, by go_num, Lib.hid ⟨by have := HG.out.1; omega, by omega, by rw [List.length_append, List.length_singleton]; have := H1.out.2.1; simp at this ⊢; omega, OwnE.app HA2.out.1, ents_app H1.out.2.2 HEk.out⟩, Lib.hid HS2.out.1⟩
     | false =>
      go_wp2_with (at_builtin; refine wpList_append_own _ rfl _ _ 124 rfl w.heap.size 165 i0 (.agg #[.string ⟨#[]⟩, .slice none 0 0]) 2 40 Tryz.underlying124 hi hz0 hz1 hz2 rfl (by decide) _ _ _ rfl ((HG.out.2.2.2.1.alloc _).alloc _) ⟨wr.heap.size + 1, 0, none⟩ 1 1 [.string ⟨en.toArray⟩, (.slice ta T.length tc)] rfl rfl (ent_newG _ _ (by simp) en (.slice ta T.length tc)) (by simp [Value.oneCell']) (by have := HL.out; have := HYL.out; rw [hmx]; omega) (by have := HL.out; have := HYL.out; omega) (by have := HI.out.size; simp; omega) ?_; intro v' w1 hown' hgrow' _; have HA1 := Lib.hid (And.intro hown' hgrow'); clear hown' hgrow')
      have HS := Lib.hid (app_step (HG.out.2.2.2.1.alloc (.cells #[.string ⟨en.toArray⟩, .slice ta T.length tc] 165 (0, 0))) (below_al HI.out (.cells #[.string ⟨en.toArray⟩, .slice ta T.length tc] 165 (0, 0))) (Nat.le_refl _) HA1.out.2)
      go_wp2
      go_roundg (gk - 1)
      case measure => have := HG.out.1; omega
      case rel => exact ⟨k + 1, false, Y ++ [(en, (.slice ta T.length tc))], rfl, by go_num, Lib.hid ⟨by have := HG.out.1; omega, by omega, by rw [List.length_append, List.length_singleton]; have := HG.out.2.2.1; simp at this ⊢; omega, OwnE.app HA1.out.1, ents_app HG.out.2.2.2.2 HEk.out⟩, Lib.hid HS.out.1⟩
  ·obtain rfl : k = ne := by have := HG.out.2.1; omega
   have c0 : wr.cell? ⟨ob, 0, none⟩ = some (.slice a k cap) := kr 0
   have f0 := (HR.out.1.below HI.out HR.out.1.lt).frozen 0
   cases b with
   | true =>
    go_wp2_with fail
    have hfin := set_end HM.out HR.out.2 HG.out.2.2.2.1 (by have h1 := HG.out.2.2.1; have h2 := HN.out.2; simp at h1; omega) HG.out.2.2.2.2 HI.out
    go_end0
    exact ⟨rfl, hfin⟩
   | false =>
    go_upto_region 11 with fail
    go_wp2_with (at_builtin; refine wpList_append_own _ rfl _ _ 124 rfl w.heap.size 165 i0 (.agg #[.string ⟨#[]⟩, .slice none 0 0]) 2 40 Tryz.underlying124 hi hz0 hz1 hz2 rfl (by decide) _ _ _ rfl (HG.out.2.2.2.1.alloc _) ⟨wr.heap.size, 0, none⟩ 1 1 [.string ⟨n.toArray⟩, (.slice va U.length vc)] rfl rfl (ent_newG _ _ (by simp) n (.slice va U.length vc)) (by simp [Value.oneCell']) (by have := HL.out; have := HYL.out; rw [hmx]; omega) (by have := HL.out; have := HYL.out; omega) (by have := HI.out.size; simp; omega) ?_; intro v' w1 hown' hgrow' _; have HA1 := Lib.hid (And.intro hown' hgrow'); clear hown' hgrow'; have HS := Lib.hid (app_step HG.out.2.2.2.1 HI.out (Nat.le_refl _) HA1.out.2); obtain ⟨Y2, hY2⟩ : ∃ Y2, Y2 = Y ++ [((n, (.slice va U.length vc)) : Ent)] := ⟨_, rfl⟩; have H1 := Lib.hid (And.intro (show OwnE w1 w.heap.size v' Y2 by rw [hY2]; exact OwnE.app HA1.out.1) (And.intro (show Y2.length ≤ k + 1 by rw [hY2, List.length_append, List.length_singleton]; have := HG.out.2.2.1; simp at this ⊢; omega) (show ∀ x ∈ Y2, EntOk w P (K + 1) x by rw [hY2]; exact ents_app HG.out.2.2.2.2 HVk.out))); obtain ⟨a1, e1, rfl⟩ := owns_shape (by decide) H1.out.1; have c1 := (HR.out.1.below HS.out.1 HR.out.1.lt).cell 0 _ rfl; have f1 := (HR.out.1.below HS.out.1 HR.out.1.lt).frozen 0; clear hY2)
    have hfin := set_end HM.out HR.out.2 H1.out.1 (by have := H1.out.2.1; have := HN.out.2; omega) H1.out.2.2 HS.out.1
    go_wp2_with fail
    go_end0
    exact ⟨rfl, hfin⟩
end Go.Proofs.YtanofjmkkhocaaaGreatDoor
namespace Go.Proofs.YtanofjmkkhocaaaGreatDoor
open Go Go.RowKit Go.MapKept
def RefSays (w : World) (ob : Nat) (P : Nat → Prop) (K : Nat) (w' : World) : Prop := ∃ P', RefAt w' ob P' K ∧ (∀ b, P' b → P b ∨ w.heap.size ≤ b) ∧ (∀ b, P b → P' b) ∧ Kq (fun b => b = ob) w w'
theorem RefSays.same {w w' : World} {ob : Nat} {P : Nat → Prop} {K K' : Nat} (h : RefAt w ob P K) (hb : Below w.heap.size w w') (hK : K ≤ K') : RefSays w ob P K' w' := by
 obtain ⟨V, E, h⟩ := h
 have h1 := h.below hb
 exact ⟨P, ⟨V, E, h1.mono (fun _ h => h) h1.nob h1.old hK⟩, fun b hb => .inl hb, fun b hb => hb, .of_below hb⟩
theorem rset_new {w W : World} {ob : Nat} {P : Nat → Prop} {K : Nat} (h : RefAt w ob P K) (hK : K ≤ 1000) (n : List UInt8) {vl : Value} {U : List Tp} (hB : Below w.heap.size w W) (hU : RowG w.heap.size Tp.cs 3 W vl U) (hUl : U.length ≤ K + 1) (hne : U ≠ []) :
  Calls Tryz.prog 43 #[.pointer (some ⟨ob, 0, none⟩), .string ⟨n.toArray⟩, vl] W fun e w' => e = .returned (.tuple #[]) ∧ RefSays w ob P (K + 1) w' := by
 obtain ⟨V, E, h⟩ := h
 have h1 := h.below hB
 have h2 : RefM W ob (fun b => P b ∨ w.heap.size ≤ b ∧ b < W.heap.size) K V E := h1.mono (fun _ h => .inl h) (by rintro (hb | ⟨hb, -⟩); exact h.nob hb; have := h.reg.lt; omega) (by rintro b (hb | ⟨-, hb⟩); exact h1.old b hb; exact hb) (Nat.le_refl _)
 have hU2 : RowP (fun b => P b ∨ w.heap.size ≤ b ∧ b < W.heap.size) Tp.cs 3 W vl U := by
  refine ⟨hU.1, ?_⟩
  rintro b off n cap rfl
  obtain ⟨a, c, e, -, hc⟩ := hU.1
  rcases hc with rfl | ⟨b', o', e2, hlt, -⟩
  ·exact absurd rfl hne
  ·cases e; cases e2; exact .inr ⟨hU.2 _ _ _ _ rfl, hlt⟩
 refine (rset_any ⟨V, E, h2⟩ hK n hU2 hUl).mono ?_
 rintro e w' ⟨rfl, P', hR, hP1, hP2, hk⟩
 refine ⟨rfl, P', hR, fun b hb => ?_, fun b hb => hP2 b (.inl hb), (Kq.of_below hB).then hk (fun _ _ e => e)⟩
 rcases hP1 b hb with (h3 | h3) | h3
 ·exact .inl h3
 ·exact .inr h3.1
 ·exact .inr (Nat.le_trans hB.size h3)
theorem rreg24_any {w : World} {ob : Nat} {P : Nat → Prop} {K : Nat} (h : RefAt w ob P K) (hK : K ≤ 999) (n name : List UInt8) (hn : (name.length : Int) ≤ 4611686018427380000) :
  Calls Tryz.prog 19 #[.pointer (some ⟨ob, 0, none⟩), .string ⟨n.toArray⟩, .string ⟨name.toArray⟩] w fun e w' => ∃ x y z, e = .returned (.tuple #[.int .i64 x, .bool y, .int .i64 z]) ∧ RefSays w ob P (K + 1) w' := by
 have HN := Lib.hid (fun W => rtname_any name hn W)
 have HR := Lib.hid h
 have HK := Lib.hid hK
 have HT := Lib.hid (rtopics24_any h (by omega) n)
 cases hb : nameB name with
 | false =>
  rw [hb] at HN
  clear h hK hb hn
  go_enter Tryz.func19, Tryz.ntmps19
  go_wp2_with fail
  refine (HN.out _).mono ?_
  rintro e w1 ⟨rfl, rfl⟩
  go_wp2_with fail
  go_ret3
  exact ⟨_, _, _, rfl, RefSays.same HR.out (Below.refl _ _) (by omega)⟩
 | true =>
  rw [hb] at HN
  clear h hK hb hn
  go_enter Tryz.func19, Tryz.ntmps19
  go_wp2_with fail
  refine (HN.out _).mono ?_
  rintro e w1 ⟨rfl, rfl⟩
  go_wp2_with fail
  refine HT.out.mono ?_
  rintro e w1 ⟨v, T, rfl, hT, hTl, hB⟩
  have HTr := Lib.hid hT
  have HB := Lib.hid hB
  obtain ⟨⟨a, cap, rfl, la, -⟩, -⟩ := hT
  obtain ⟨ne, hN⟩ : ∃ ne, ne = T.length := ⟨_, rfl⟩
  rw [← hN] at la HTr ⊢
  have HL := Lib.hid (show ne = T.length ∧ ne ≤ K ∧ ne ≤ 999 by have := HK.out; omega)
  clear hN hTl hB HT HN
  go_wp2_with fail
  go_loopg [10, 11] (ne + 1) (fun g fr i wr => ∃ (k c : Nat), fr = .int .i64 c ∧ i = .int .i64 k ∧ wr = w1 ∧ Hid (g + k = ne + 1 ∧ k ≤ ne ∧ c ≤ k + 1))
  case atStart => exact ⟨0, 1, rfl, rfl, rfl, Lib.hid ⟨by omega, by omega, by omega⟩⟩
  case round =>
   obtain ⟨k, c, rfl, rfl, rfl, HG⟩ := hrel
   by_cases hlt : k < ne
   ·have hka : k < T.length := by rw [← HL.out.1]; exact hlt
    obtain ⟨b1, o1, rfl, l1, c1⟩ := HTr.out.1.at k hka
    obtain ⟨xi, xn, xf, hx⟩ : ∃ xi xn xf, T[k] = ⟨xi, xn, xf⟩ := ⟨_, _, _, rfl⟩
    rw [hx] at c1
    have x0 : wr.cell? ⟨b1, o1 + k * 3, none⟩ = some (.int .i64 xi) := c1 0 _ rfl
    have x1 : wr.cell? ⟨b1, o1 + k * 3 + 1, none⟩ = some (.string ⟨xn.toArray⟩) := c1 1 _ rfl
    have d1 : decide ((k : Int) < ne) = true := decide_eq_true (by omega)
    have hki : (k : Int) < ne := by omega
    have hkw : wrap64 ((k : Int) + 1) = (k : Int) + 1 := by have := HL.out; unfold wrap64; omega
    have hcw : wrap64 ((c : Int) + 1) = (c : Int) + 1 := by have := HL.out; have := HG.out; unfold wrap64; omega
    clear hx c1 hka
    by_cases he : xn = name
    ·subst he
     go_wp2_with fail
     go_ret3
     exact ⟨_, _, _, rfl, RefSays.same HR.out HB.out (by omega)⟩
    ·have dn : (xn == name) = false := by simpa using he
     clear he
     by_cases hc : xi = c
     ·subst hc
      go_wp2_with fail
      go_roundg (gk - 1)
      case measure => have := HG.out.1; omega
      case rel => exact ⟨k + 1, c + 1, by go_num, by go_num, rfl, Lib.hid ⟨by have := HG.out.1; omega, by omega, by have := HG.out.2.2; omega⟩⟩
     ·have dc : (xi == (c : Int)) = false := by simpa using hc
      clear hc
      go_wp2_with fail
      go_roundg (gk - 1)
      case measure => have := HG.out.1; omega
      case rel => exact ⟨k + 1, c, rfl, by go_num, rfl, Lib.hid ⟨by have := HG.out.1; omega, by omega, by have := HG.out.2.2; omega⟩⟩
   ·have hcl : ¬ (65534 : Int) < c := by have := HG.out; have := HL.out; omega
    have hkn : k = ne := by have := HG.out.2.1; omega
    have HKn := Lib.hid hkn
    have d1 : decide ((k : Int) < ne) = false := decide_eq_false (by omega)
    have hki : ¬ (k : Int) < ne := by omega
    clear hkn hlt
    go_wp2_with fail
    refine (rput_any c name false HTr.out.1 (by have := HL.out; omega)).mono ?_
    rintro e w2 ⟨v2, T2, rfl, hT2, hO2, hB2⟩
    have HS := Lib.hid (rset_new HR.out (by have := HK.out; omega) n (below_thn HB.out hB2) (U := T2) (vl := v2) ⟨(OwnT.rowG hO2 (by have := HL.out; omega)).1, fun b off n cap e => Nat.le_trans HB.out.size ((OwnT.rowG hO2 (by have := HL.out; omega)).2 b off n cap e)⟩ (by have := HL.out; omega) (by intro h0; rw [h0] at hT2; simp at hT2))
    clear hT2 hO2 hB2
    go_wp2_with fail
    refine HS.out.mono ?_
    rintro e w3 ⟨rfl, hS⟩
    have HSS := Lib.hid hS
    clear hS
    go_wp2_with fail
    go_ret3
    exact ⟨_, _, _, rfl, HSS.out⟩
end Go.Proofs.YtanofjmkkhocaaaGreatDoor
namespace Go.Proofs.YtanofjmkkhocaaaGreatDoor
open Go Go.RowKit Go.MapKept
theorem eql_tp3 (xi id : Int) (xn name : List UInt8) (xf fx : Bool) : ∃ c : Bool, ∀ w : World, (binOp .eql 69 (.agg #[.int .i64 xi, .string ⟨xn.toArray⟩, .bool xf]) (.agg #[.int .i64 id, .string ⟨name.toArray⟩, .bool fx])).run Tryz.prog w = .ok (.bool c) w := by
 refine ⟨decide (xi = id ∧ xn = name ∧ xf = fx), fun w => ?_⟩
 go_simp
 by_cases h0 : xi = id <;> by_cases h1 : xn = name <;> by_cases h2 : xf = fx <;> simp [h0, h1, h2]
end Go.Proofs.YtanofjmkkhocaaaGreatDoor
namespace Go.Proofs.YtanofjmkkhocaaaGreatDoor
open Go Go.RowKit Go.MapKept
attribute [local go_sem ↓] load_Tp
attribute [local irreducible] rowSem rowStore
theorem load_tpo {w : World} {b : Nat} {id : Int} {name : List UInt8} {fx : Bool} (h : Obj? w b #[.int .i64 id, .string ⟨name.toArray⟩, .bool fx] 69) : (rowSem 69 ⟨b, 0, none⟩).run Tryz.prog w = .ok (.agg #[.int .i64 id, .string ⟨name.toArray⟩, .bool fx]) w :=
 rowSem_run w b 69 69 _ _ h Tryz.underlying69 rfl (by kernel_rfl)
theorem rpre24_any {w : World} {ob : Nat} {P : Nat → Prop} {K : Nat} (h : RefAt w ob P K) (hK : K ≤ 999) (n name : List UInt8) (id : Int) (hn : (name.length : Int) ≤ 4611686018427380000) :
  Calls Tryz.prog 21 #[.pointer (some ⟨ob, 0, none⟩), .string ⟨n.toArray⟩, .string ⟨name.toArray⟩, .int .i64 id] w fun e w' => ∃ z, e = .returned (.int .i64 z) ∧ RefSays w ob P (K + 1) w' := by
 have HN := Lib.hid (fun W => rtname_any name hn W)
 have HR := Lib.hid h
 have HK := Lib.hid hK
 have HT := Lib.hid (rtopics24_any h (by omega) n)
 cases hb : nameB name with
 | false =>
  rw [hb] at HN
  clear h hK hb hn
  go_enter Tryz.func21, Tryz.ntmps21
  go_wp2_with fail
  refine (HN.out _).mono ?_
  rintro e w1 ⟨rfl, rfl⟩
  go_wp2_with fail
  go_ret
  exact ⟨_, rfl, RefSays.same HR.out (Below.refl _ _) (by omega)⟩
 | true =>
  rw [hb] at HN
  clear h hK hb hn
  by_cases hid : id < 1 ∨ 65534 < id
  ·rcases hid with hid | hid
   ·go_enter Tryz.func21, Tryz.ntmps21
    go_wp2_with fail
    refine (HN.out _).mono ?_
    rintro e w1 ⟨rfl, rfl⟩
    go_wp2_with fail
    go_ret
    exact ⟨_, rfl, RefSays.same HR.out (Below.refl _ _) (by omega)⟩
   ·have hid2 : ¬ id < 1 := by omega
    go_enter Tryz.func21, Tryz.ntmps21
    go_wp2_with fail
    refine (HN.out _).mono ?_
    rintro e w1 ⟨rfl, rfl⟩
    go_wp2_with fail
    go_ret
    exact ⟨_, rfl, RefSays.same HR.out (Below.refl _ _) (by omega)⟩
  have hid1 : ¬ id < 1 := by omega
  have hid2 : ¬ 65534 < id := by omega
  clear hid
  go_enter Tryz.func21, Tryz.ntmps21
  go_wp2_with fail
  refine (HN.out _).mono ?_
  rintro e w1 ⟨rfl, rfl⟩
  go_wp2_with fail
  refine HT.out.mono ?_
  rintro e w1 ⟨v, T, rfl, hT, hTl, hB⟩
  have HTr := Lib.hid hT
  have HB := Lib.hid hB
  obtain ⟨⟨a, cap, rfl, la, -⟩, -⟩ := hT
  obtain ⟨ne, hN⟩ : ∃ ne, ne = T.length := ⟨_, rfl⟩
  rw [← hN] at la HTr ⊢
  have HL := Lib.hid (show ne = T.length ∧ ne ≤ K ∧ ne ≤ 999 by have := HK.out; omega)
  clear hN hTl hB HT HN hid1 hid2
  have hO2 := Obj?.new w1 #[.int .i64 id, .string ⟨name.toArray⟩, .bool true] 69
  go_wp2_with fail
  obtain ⟨W2, hW2⟩ : ∃ W2, W2 = w1.alloc (.cells #[.int .i64 id, .string ⟨name.toArray⟩, .bool true] 69 (0, 0)) := ⟨_, rfl⟩
  have hB12 : Below w1.heap.size w1 W2 := by rw [hW2]; exact below_al (Below.refl _ _) _
  have HB2 := Lib.hid (below_thn HB.out hB12)
  have HT2 := Lib.hid (HTr.out.1.below hB12)
  rw [← hW2] at hO2 ⊢
  have HO := Lib.hid hO2
  clear hW2 hB12 hO2
  go_loopg [11] (ne + 1) (fun g i wr => ∃ (k q : Nat), i = .int .i64 k ∧ wr = W2.drewN q ∧ Hid (g + k = ne + 1 ∧ k ≤ ne))
  case atStart => exact ⟨0, 0, rfl, rfl, Lib.hid ⟨by omega, by omega⟩⟩
  case round =>
   obtain ⟨k, q, rfl, rfl, HG⟩ := hrel
   by_cases hlt : k < ne
   ·have hka : k < T.length := by rw [← HL.out.1]; exact hlt
    obtain ⟨b1, o1, rfl, l1, c1⟩ := HT2.out.at k hka
    obtain ⟨xi, xn, xf, hx⟩ : ∃ xi xn xf, T[k] = ⟨xi, xn, xf⟩ := ⟨_, _, _, rfl⟩
    rw [hx] at c1
    have k1 := fun n => row_tp (W := W2.drewN n) c1
    have k2 := fun n => load_tpo (w := W2.drewN n) (HO.out)
    unfold Tp.cs at k1
    have d1 : decide ((k : Int) < ne) = true := decide_eq_true (by omega)
    have hki : (k : Int) < ne := by omega
    have hkw : wrap64 ((k : Int) + 1) = (k : Int) + 1 := by have := HL.out; unfold wrap64; omega
    obtain ⟨c, qc⟩ := eql_tp3 xi id xn name xf true
    clear hx c1 hka
    cases c with
    | true =>
     go_wp2
     go_quiet (fail)
     go_wp2
     go_ret
     exact ⟨_, rfl, RefSays.same HR.out (below_drewNh (below_drewNh HB2.out _) _) (by omega)⟩
    | false =>
     go_wp2
     go_quiet (fail)
     go_wp2
     go_roundg (gk - 1)
     case measure => have := HG.out.1; omega
     case rel => exact ⟨k + 1, _, by go_num, rfl, Lib.hid ⟨by have := HG.out.1; omega, by omega⟩⟩
   ·have hkn : k = ne := by have := HG.out.2; omega
    have HKn := Lib.hid hkn
    have d1 : decide ((k : Int) < ne) = false := decide_eq_false (by omega)
    have hki : ¬ (k : Int) < ne := by omega
    clear hkn hlt
    obtain ⟨W3, hW3⟩ : ∃ W3, W3 = W2.drewN q := ⟨_, rfl⟩
    have HB3 := Lib.hid (show Below w.heap.size w W3 by rw [hW3]; exact below_drewNh HB2.out _)
    have HO3 := Lib.hid (show Obj? W3 w1.heap.size #[.int .i64 id, .string ⟨name.toArray⟩, .bool true] 69 by rw [hW3]; exact HO.out)
    have HT3 := Lib.hid (show RowOf Tp.cs 3 W3 (.slice a ne cap) T by rw [hW3]; exact HT2.out.below (below_drewNh (Below.refl _ _) _))
    rw [← hW3]
    clear hW3 HB2 HT2 HO
    go_wp2
    go_loopg [12] (ne + 1) (fun g i wr => ∃ (k : Nat), i = .int .i64 k ∧ wr = W3 ∧ Hid (g + k = ne + 1 ∧ k ≤ ne))
    case atStart => exact ⟨0, rfl, rfl, Lib.hid ⟨by omega, by omega⟩⟩
    case round =>
     clear HG d1 hki HKn
     obtain ⟨k, rfl, rfl, HG⟩ := hrel
     by_cases hlt : k < ne
     ·have hka : k < T.length := by rw [← HL.out.1]; exact hlt
      obtain ⟨b1, o1, rfl, l1, c1⟩ := HT3.out.at k hka
      obtain ⟨xi, xn, xf, hx⟩ : ∃ xi xn xf, T[k] = ⟨xi, xn, xf⟩ := ⟨_, _, _, rfl⟩
      rw [hx] at c1
      have x0 : wr.cell? ⟨b1, o1 + k * 3, none⟩ = some (.int .i64 xi) := c1 0 _ rfl
      have x1 : wr.cell? ⟨b1, o1 + k * 3 + 1, none⟩ = some (.string ⟨xn.toArray⟩) := c1 1 _ rfl
      have d1 : decide ((k : Int) < ne) = true := decide_eq_true (by omega)
      have hki : (k : Int) < ne := by omega
      have hkw : wrap64 ((k : Int) + 1) = (k : Int) + 1 := by have := HL.out; unfold wrap64; omega
      clear hx c1 hka
      by_cases hc : xi = id
      ·subst hc
       go_wp2_with fail
       go_ret
       exact ⟨_, rfl, RefSays.same HR.out HB3.out (by omega)⟩
      ·have dc : (xi == id) = false := by simpa using hc
       clear hc
       by_cases he : xn = name
       ·subst he
        go_wp2_with fail
        go_ret
        exact ⟨_, rfl, RefSays.same HR.out HB3.out (by omega)⟩
       ·have dn : (xn == name) = false := by simpa using he
        clear he
        go_wp2_with fail
        go_roundg (gk - 1)
        case measure => have := HG.out.1; omega
        case rel => exact ⟨k + 1, by go_num, rfl, Lib.hid ⟨by have := HG.out.1; omega, by omega⟩⟩
     ·have hkn : k = ne := by have := HG.out.2; omega
      have d1 : decide ((k : Int) < ne) = false := decide_eq_false (by omega)
      have hki : ¬ (k : Int) < ne := by omega
      have k2 := load_tpo HO3.out
      clear hkn hlt
      go_wp2_with fail
      refine (rput_any id name true HT3.out (by have := HL.out; omega)).mono ?_
      rintro e w2 ⟨v2, T2, rfl, hT2, hO2, hB2⟩
      have HS := Lib.hid (rset_new HR.out (by have := HK.out; omega) n (below_thn HB3.out hB2) (U := T2) (vl := v2) ⟨(OwnT.rowG hO2 (by have := HL.out; omega)).1, fun b off n cap e => Nat.le_trans HB3.out.size ((OwnT.rowG hO2 (by have := HL.out; omega)).2 b off n cap e)⟩ (by have := HL.out; omega) (by intro h0; rw [h0] at hT2; simp at hT2))
      clear hT2 hO2 hB2
      go_wp2_with fail
      refine HS.out.mono ?_
      rintro e w3 ⟨rfl, hS⟩
      have HSS := Lib.hid hS
      clear hS
      go_wp2_with fail
      go_ret
      exact ⟨_, rfl, HSS.out⟩
end Go.Proofs.YtanofjmkkhocaaaGreatDoor
