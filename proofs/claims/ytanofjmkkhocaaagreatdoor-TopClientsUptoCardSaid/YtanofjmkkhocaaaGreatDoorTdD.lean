/- polyglottop: light, both. -/
import Derived.Test.YtanofjmkkhocaaaGreatDoorTdC
import Derived.Test.YtanofjmkkhocaaaGreatDoorTcJ
import Derived.Test.YtanofjmkkhocaaaGreatDoorTcK
import Derived.Deep.RegionWith
set_option linter.unusedVariables false
set_option linter.unusedSimpArgs false
set_option maxRecDepth 100000
set_option maxHeartbeats 3200000
namespace Go.Proofs.YtanofjmkkhocaaaGreatDoor
open Go Go.RowKit Go.MapKept
structure Tt where
 cl : List UInt8
 nm : List UInt8
 id : Int
def Tt.cs (t : Tt) : Array Value := #[.string ⟨t.cl.toArray⟩, .string ⟨t.nm.toArray⟩, .int .i64 t.id]
def LightT (t : List Tt) : Prop := t.length ≤ 20 ∧ ∀ x ∈ t, x.cl.length ≤ 100 ∧ x.nm.length ≤ 200
def LightSaid (w : World) (t : List Tt) (e : Ending) (w' : World) : Prop := ∃ b, e = .returned (.bool b) ∧ w' = w ∧ (b = true → LightT t)
def stepT (M : List UInt8 → Option Cl) (x : Tt) : List UInt8 → Option Cl := fun m => if m = x.cl then (if x.id = 0 then (regC (M x.cl) x.nm).2 else (preC (M x.cl) x.nm x.id).2) else M m
def bothC (t : List Tt) : List UInt8 → Option Cl := t.foldl stepT (fun _ => none)
theorem wt_step (M : List UInt8 → Option Cl) (x : Tt) (W : Nat) (h : ∀ m, wtO (M m) ≤ W) : ∀ m, wtO (stepT M x m) ≤ W + 1 := by
 intro m
 unfold stepT
 split
 ·split
  ·exact Nat.le_trans (wt_reg _ _) (by have := h x.cl; omega)
  ·exact Nat.le_trans (wt_pre _ _ _) (by have := h x.cl; omega)
 ·exact Nat.le_trans (h m) (by omega)
theorem wt_both (t : List Tt) : ∀ m, wtO (bothC t m) ≤ t.length := by
 have key : ∀ (t : List Tt) (M : List UInt8 → Option Cl) (W : Nat), (∀ m, wtO (M m) ≤ W) → ∀ m, wtO (t.foldl stepT M m) ≤ W + t.length := by
  intro t
  induction t with
  | nil => intro M W h m; exact h m
  | cons x r ih =>
   intro M W h m
   have := ih (stepT M x) (W + 1) (wt_step M x W h) m
   rw [List.foldl_cons, List.length_cons]
   omega
 intro m
 have := key t (fun _ => none) 0 (fun _ => by simp [wtO]) m
 simpa [bothC] using this
theorem tt_at {W : World} {b o : Nat} {x : Tt} (h : ∀ j u, (Tt.cs x)[j]? = some u → W.cell? ⟨b, o + j, none⟩ = some u) : W.cell? ⟨b, o, none⟩ = some (.string ⟨x.cl.toArray⟩) ∧ W.cell? ⟨b, o + 1, none⟩ = some (.string ⟨x.nm.toArray⟩) ∧ W.cell? ⟨b, o + 2, none⟩ = some (.int .i64 x.id) := ⟨h 0 _ rfl, h 1 _ rfl, h 2 _ rfl⟩
theorem light_any {w : World} {v : Value} {t : List Tt} (h : RowOf Tt.cs 3 w v t) : Calls Tryz.prog 5 #[v] w (LightSaid w t) := by
 have HA := Lib.hid h
 obtain ⟨a, cap, rfl, la, -⟩ := h
 obtain ⟨n, hN⟩ : ∃ n, n = t.length := ⟨_, rfl⟩
 rw [← hN] at la HA ⊢
 have HN := Lib.hid hN
 clear hN
 go_enter Tryz.func5, Tryz.ntmps5
 go_wp2
 go_loopg [3] (n + 1) (fun g i wr => ∃ k : Nat, i = .int .i64 k ∧ wr = w ∧ Hid (g + k = n + 1 ∧ k ≤ n ∧ ∀ j (hj : j < t.length), j < k → t[j].cl.length ≤ 100 ∧ t[j].nm.length ≤ 200))
 case atStart => exact ⟨0, rfl, rfl, Lib.hid ⟨by omega, by omega, fun j hj h => by omega⟩⟩
 case round =>
  obtain ⟨k, rfl, rfl, HG⟩ := hrel
  by_cases hlt : k < n
  ·have hka : k < t.length := by rw [← HN.out]; exact hlt
   obtain ⟨b1, o1, rfl, l1, c1⟩ := HA.out.at k hka
   obtain ⟨x0, x1, -⟩ := tt_at c1
   obtain ⟨x, hx⟩ : ∃ x, x = t[k] := ⟨_, rfl⟩
   rw [← hx] at x0 x1
   have HXk := Lib.hid hx
   have d1 : decide ((k : Int) < n) = true := decide_eq_true (by omega)
   have hki : (k : Int) < n := by omega
   have hkw : wrap64 ((k : Int) + 1) = (k : Int) + 1 := by unfold wrap64; omega
   clear c1 hx
   by_cases h1 : 100 < x.cl.length
   ·have h1' : (100 : Int) < x.cl.length := by omega
    clear h1
    go_wp2_with fail
    go_ret
    exact ⟨_, rfl, rfl, fun e => by cases e⟩
   ·have h1' : ¬ (100 : Int) < x.cl.length := by omega
    by_cases h2 : 200 < x.nm.length
    ·have h2' : (200 : Int) < x.nm.length := by omega
     clear h2
     go_wp2_with fail
     go_ret
     exact ⟨_, rfl, rfl, fun e => by cases e⟩
    ·have h2' : ¬ (200 : Int) < x.nm.length := by omega
     have HS := Lib.hid (show x.cl.length ≤ 100 ∧ x.nm.length ≤ 200 by omega)
     clear h1 h2
     go_wp2_with fail
     go_roundg (gk - 1)
     case measure => have := HG.out.1; omega
     case rel => exact ⟨k + 1, by go_num, rfl, Lib.hid ⟨by have := HG.out.1; omega, by omega, fun j hj hjk => by
      by_cases e : j = k
      ·subst e; rw [← HXk.out]; exact HS.out
      ·exact HG.out.2.2 j hj (by omega)⟩⟩
  ·obtain rfl : k = n := by have := HG.out.2.1; omega
   go_wp2_with fail
   go_ret
   refine ⟨_, rfl, rfl, fun e => ⟨?_, fun x hx => ?_⟩⟩
   ·rw [← HN.out]
    have h := of_decide_eq_true e
    omega
   ·obtain ⟨j, hj, rfl⟩ := List.getElem_of_mem hx
    exact HG.out.2.2 j hj (by rw [HN.out]; exact hj)
structure Bst (w wr : World) (rb ob : Nat) (M : List UInt8 → Option Cl) (K : Nat) (O : Nat → Own) (L : List UInt8 → Option (Nat × Cl)) (P : Nat → Prop) : Prop where
 reg : RegAt wr rb O L
 map : ∀ m, (L m).map (·.2) = M m
 own : ∀ b, O b ≠ none → w.heap.size ≤ b
 ref : RefAt wr ob P K
 oldP : ∀ b, P b → w.heap.size ≤ b
 obn : O ob = none
 disj : ∀ b, P b → O b = none
 below : Below w.heap.size w wr
theorem RefAt.oblt {w : World} {ob : Nat} {P : Nat → Prop} {K : Nat} (h : RefAt w ob P K) : ob < w.heap.size := by
 obtain ⟨V, E, h⟩ := h
 exact h.reg.lt
theorem RefAt.plt {w : World} {ob : Nat} {P : Nat → Prop} {K : Nat} (h : RefAt w ob P K) : ∀ b, P b → b < w.heap.size := by
 obtain ⟨V, E, h⟩ := h
 exact h.old
theorem Bst.r {w wr w2 : World} {rb ob : Nat} {M : List UInt8 → Option Cl} {K : Nat} {O : Nat → Own} {L : List UInt8 → Option (Nat × Cl)} {P : Nat → Prop} (h : Bst w wr rb ob M K O L P) (x : Tt) {y : Option Cl} (hy : stepT M x x.cl = y) (hs : RegSays wr rb O L x.cl y w2) : ∃ O' L', Bst w w2 rb ob (stepT M x) K O' L' P := by
 obtain ⟨O', X, h1, h2, h3, h4⟩ := hs
 refine ⟨O', updL L x.cl X, h1, fun m => ?_, fun b hb => ?_, ?_, h.oldP, ?_, fun b hb => ?_, ?_⟩
 ·by_cases e : m = x.cl
  ·rw [e, updL_same, h2, hy]
  ·rw [updL_ne L _ e, h.map m]
   unfold stepT
   rw [if_neg e]
 ·rcases Nat.lt_or_ge b wr.heap.size with h5 | h5
  ·exact h.own b (by rw [← h4 b h5]; exact hb)
  ·exact Nat.le_trans h.below.size h5
 ·exact h.ref.kp h3 (fun b hb e => e (h.disj b hb)) (fun e => e h.obn)
 ·rw [h4 ob h.ref.oblt]; exact h.obn
 ·rw [h4 b (h.ref.plt b hb)]; exact h.disj b hb
 ·exact h.below.trans (h3.to_below h.below.size (fun i hi e => by have := h.own i e; omega))
theorem Bst.o {w wr w2 : World} {rb ob : Nat} {M : List UInt8 → Option Cl} {K K' : Nat} {O : Nat → Own} {L : List UInt8 → Option (Nat × Cl)} {P : Nat → Prop} (h : Bst w wr rb ob M K O L P) (hob : w.heap.size ≤ ob) (hs : RefSays wr ob P K' w2) : ∃ P', Bst w w2 rb ob M K' O L P' := by
 obtain ⟨P', h1, h2, h3, h4⟩ := hs
 refine ⟨P', h.reg.kp h4 (fun b hb e => hb (e ▸ h.obn)), h.map, h.own, h1, fun b hb => ?_, h.obn, fun b hb => ?_, ?_⟩
 ·rcases h2 b hb with h5 | h5
  ·exact h.oldP b h5
  ·exact Nat.le_trans h.below.size h5
 ·rcases h2 b hb with h5 | h5
  ·exact h.disj b h5
  ·cases ho : O b with
   | none => rfl
   | some o => have := h.reg.fresh b (by rw [ho]; simp); omega
 ·exact h.below.trans (h4.to_below h.below.size (fun i hi e => by omega))
theorem Bst.drew {w wr : World} {rb ob : Nat} {M : List UInt8 → Option Cl} {K : Nat} {O : Nat → Own} {L : List UInt8 → Option (Nat × Cl)} {P : Nat → Prop} (h : Bst w wr rb ob M K O L P) : Bst w wr.drew rb ob M K O L P :=
 ⟨h.reg.kp (S := fun _ => False) (Kq.refl _ wr).drew (fun _ _ e => e), h.map, h.own, h.ref.kp (S := fun _ => False) (Kq.refl _ wr).drew (fun _ _ e => e) (fun e => e), h.oldP, h.obn, h.disj, below_grown' h.below⟩
theorem bothC_snoc (t : List Tt) (k : Nat) (hk : k < t.length) : bothC (t.take (k + 1)) = stepT (bothC (t.take k)) t[k] := by
 unfold bothC
 rw [List.take_succ_eq_append_getElem hk, List.foldl_append]
 rfl
def BothSaid (w : World) (t : List Tt) (e : Ending) (w' : World) : Prop := ∃ rb ob O L, e = .returned (.tuple #[.pointer (some ⟨rb, 0, none⟩), .pointer (some ⟨ob, 0, none⟩)]) ∧ RegAt w' rb O L ∧ (∀ m, (L m).map (·.2) = bothC t m) ∧ (∀ b, O b ≠ none → w.heap.size ≤ b) ∧ Below w.heap.size w w'
theorem both_any {w : World} {v : Value} {t : List Tt} (h : RowOf Tt.cs 3 w v t) (hl : LightT t) : Calls Tryz.prog 7 #[v] w (BothSaid w t) := by
 have HA := Lib.hid h
 obtain ⟨a, cap, rfl, la, -⟩ := h
 obtain ⟨n, hN⟩ : ∃ n, n = t.length := ⟨_, rfl⟩
 rw [← hN] at la HA ⊢
 have HN := Lib.hid hN
 have HL := Lib.hid hl
 clear hN hl
 go_enter Tryz.func7, Tryz.ntmps7
 go_wp2_with fail
 refine (rnew_any _).mono ?_
 rintro e w1 ⟨rb, O, rfl, hR, hB, hO⟩
 have H1 := Lib.hid (And.intro hR (And.intro hB hO))
 clear hR hB hO
 go_wp2_with fail
 refine (rnew24_any _).mono ?_
 rintro e w2 ⟨rfl, hB, hR, hlt⟩
 obtain ⟨ob, hob⟩ : ∃ ob, ob = w1.heap.size := ⟨_, rfl⟩
 have HOb := Lib.hid (show w.heap.size ≤ ob by rw [hob]; exact H1.out.2.1.size)
 have H2 := Lib.hid (show Bst w w2 rb ob (bothC (t.take 0)) 0 O (fun _ => none) (fun _ => False) from ⟨H1.out.1.below hB, fun m => rfl, H1.out.2.2, by rw [hob]; exact hR, fun b hb => hb.elim, by cases ho : O ob with
  | none => rfl
  | some o => have := H1.out.1.fresh ob (by rw [ho]; simp); omega, fun b hb => hb.elim, below_thn H1.out.2.1 hB⟩)
 rw [← hob]
 clear hob hB hR hlt H1
 go_wp2_with fail
 go_loopg [6] (n + 1) (fun g i wr => ∃ k : Nat, i = .int .i64 k ∧ Hid (g + k = n + 1 ∧ k ≤ n) ∧ Hid (∃ O L P, Bst w wr rb ob (bothC (t.take k)) k O L P))
 case atStart => exact ⟨0, rfl, Lib.hid ⟨by omega, by omega⟩, Lib.hid ⟨_, _, _, H2.out⟩⟩
 case round =>
  obtain ⟨k, rfl, HG, HI⟩ := hrel
  obtain ⟨O', L, P, hS⟩ := HI.out
  have HS := Lib.hid hS
  have hB := hS.below
  clear hS H2 HI
  by_cases hlt : k < n
  ·have hka : k < t.length := by rw [← HN.out]; exact hlt
   obtain ⟨b1, o1, rfl, l1, c1⟩ := (HA.out.below hB).at k hka
   obtain ⟨x0, x1, x2⟩ := tt_at c1
   have HXl := Lib.hid (HL.out.2 t[k] (List.getElem_mem hka))
   have HXs := Lib.hid (bothC_snoc t k hka)
   obtain ⟨x, hx⟩ : ∃ x, x = t[k] := ⟨_, rfl⟩
   rw [← hx] at x0 x1 x2 HXl HXs
   have HXk := Lib.hid hx
   have d1 : decide ((k : Int) < n) = true := decide_eq_true (by omega)
   have hki : (k : Int) < n := by omega
   have hkw : wrap64 ((k : Int) + 1) = (k : Int) + 1 := by unfold wrap64; omega
   have HWt := Lib.hid (show wtO ((L x.cl).map (·.2)) ≤ 1000000000 by rw [HS.out.map]; have := wt_both (t.take k) x.cl; have := HL.out.1; simp at *; omega)
   have HSt := Lib.hid (show stepT (bothC (t.take k)) x x.cl = (if x.id = 0 then (regC (bothC (t.take k) x.cl) x.nm).2 else (preC (bothC (t.take k) x.cl) x.nm x.id).2) by unfold stepT; rw [if_pos rfl])
   clear c1 hx
   by_cases hid : x.id = 0
   ·rw [hid] at x2
    rw [if_pos hid] at HSt
    have HId := Lib.hid hid
    clear hid
    have HReg := Lib.hid (rreg_any (w := wr.drew) HS.out.drew.reg x.cl x.nm (by have := HXl.out; omega) HWt.out)
    go_wp2_with fail
    go_region_with ((go_at_call 18; ((with_reducible refine HReg.out.mono ?_); (rintro e w2 ⟨rfl, hs⟩; have HR2 := Lib.hid (HS.out.drew.r x (by rw [HSt.out, HS.out.map]) hs); clear hs))))
    all_goals
     obtain ⟨O2, L2, hS2⟩ := HR2.out
     have HS2 := Lib.hid hS2
     obtain ⟨b2, o2, e2, l2, c2⟩ := (HA.out.below hS2.below).at k (by rw [← HN.out]; exact hlt)
     obtain ⟨rfl, rfl⟩ : b2 = b1 ∧ o2 = o1 := by cases e2; exact ⟨rfl, rfl⟩
     rw [← HXk.out] at c2
     obtain ⟨y0, y1, y2⟩ := tt_at c2
     rw [HId.out] at y2
     have HRef := Lib.hid (rreg24_any (w := w2.drew) HS2.out.drew.ref (by have := HL.out.1; have := HN.out; omega) x.cl x.nm (by have := HXl.out; omega))
     clear hS2 e2 c2 x0 x1 x2 l2
     go_wp2_with fail
     go_region_with ((go_at_call 19; ((with_reducible refine HRef.out.mono ?_); (rintro e w3 ⟨z1, z2, z3, rfl, hs⟩; have HR3 := Lib.hid (HS2.out.drew.o HOb.out hs); clear hs))))
     all_goals
      obtain ⟨P3, hS3⟩ := HR3.out
      have HS3 := Lib.hid hS3
      clear hS3
      go_wp2_with fail
      go_roundg (gk - 1)
      case measure => have := HG.out.1; omega
      case rel => exact ⟨k + 1, by go_num, Lib.hid ⟨by have := HG.out.1; omega, by omega⟩, Lib.hid ⟨_, _, _, by rw [HXs.out]; exact HS3.out⟩⟩
   ·rw [if_neg hid] at HSt
    have did : (x.id == 0) = false := by simpa using hid
    clear hid
    have HReg := Lib.hid (rpre_any (w := wr.drew) HS.out.drew.reg x.cl x.nm x.id (by have := HXl.out; omega))
    go_wp2_with fail
    go_region_with ((go_at_call 20; ((with_reducible refine HReg.out.mono ?_); (rintro e w2 ⟨rfl, hs⟩; have HR2 := Lib.hid (HS.out.drew.r x (by rw [HSt.out, HS.out.map]) hs); clear hs))))
    all_goals
     obtain ⟨O2, L2, hS2⟩ := HR2.out
     have HS2 := Lib.hid hS2
     obtain ⟨b2, o2, e2, l2, c2⟩ := (HA.out.below hS2.below).at k (by rw [← HN.out]; exact hlt)
     obtain ⟨rfl, rfl⟩ : b2 = b1 ∧ o2 = o1 := by cases e2; exact ⟨rfl, rfl⟩
     rw [← HXk.out] at c2
     obtain ⟨y0, y1, y2⟩ := tt_at c2
     skip
     have HRef := Lib.hid (rpre24_any (w := w2.drew) HS2.out.drew.ref (by have := HL.out.1; have := HN.out; omega) x.cl x.nm x.id (by have := HXl.out; omega))
     clear hS2 e2 c2 x0 x1 x2 l2
     go_wp2_with fail
     go_region_with ((go_at_call 21; ((with_reducible refine HRef.out.mono ?_); (rintro e w3 ⟨z1, rfl, hs⟩; have HR3 := Lib.hid (HS2.out.drew.o HOb.out hs); clear hs))))
     all_goals
      obtain ⟨P3, hS3⟩ := HR3.out
      have HS3 := Lib.hid hS3
      clear hS3
      go_wp2_with fail
      go_roundg (gk - 1)
      case measure => have := HG.out.1; omega
      case rel => exact ⟨k + 1, by go_num, Lib.hid ⟨by have := HG.out.1; omega, by omega⟩, Lib.hid ⟨_, _, _, by rw [HXs.out]; exact HS3.out⟩⟩
  ·obtain rfl : k = n := by have := HG.out.2; omega
   go_wp2_with fail
   go_ret2
   refine ⟨rb, ob, O', L, rfl, HS.out.reg, ?_, HS.out.own, hB⟩
   have := HS.out.map
   rw [HN.out, List.take_length] at this
   exact this
end Go.Proofs.YtanofjmkkhocaaaGreatDoor
