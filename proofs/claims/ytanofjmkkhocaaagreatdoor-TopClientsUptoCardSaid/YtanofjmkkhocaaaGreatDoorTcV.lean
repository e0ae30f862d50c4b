/- session: overSN's feed: a chunk read, seen, learnt. A session of MQTT-SN: New, Feed, Told. -/
import Derived.Test.YtanofjmkkhocaaaGreatDoorTcS
import Derived.Test.YtanofjmkkhocaaaGreatDoorTcN
import Derived.Test.YtanofjmkkhocaaaGreatDoorTrO
set_option linter.unusedVariables false
set_option linter.unusedSimpArgs false
set_option maxRecDepth 100000
set_option maxHeartbeats 3200000
namespace Go.Proofs.YtanofjmkkhocaaaGreatDoor
open Go Go.RowKit Go.MapKept
attribute [local go_sem ↓] load_Msg store_Msg load_Dg store_Dg load_EvX store_EvX
attribute [local irreducible] rowSem rowStore
def snC (n : List UInt8) (rb : Nat) : Array Value := #[.int .i64 3, .int .i64 4096, .int .i64 6, .string ⟨n.toArray⟩, .pointer (some ⟨rb, 0, none⟩)]
def HsSmall (hs : List Hp) : Prop := (∀ x ∈ hs, (x.node.length : Int) ≤ 9223372036854775807) ∧ (hs.length : Int) ≤ 9223372036854775807
def EvsAt (w : World) (B : Nat) (v : Value) : Option Ev → Prop
 | none => v = .slice none 0 0
 | some ev => ∃ g hv, v = .slice (some ⟨g, 0, none⟩) 1 1 ∧ B ≤ g ∧ g < w.heap.size ∧ (∀ j, w.cell? ⟨g, j, none⟩ = (evE hv ev)[j]?) ∧ w.ownsRow B 155 2 hv ev.hs.length (hopCells ev.hs) ∧ HsSmall ev.hs
def FeedSaid (w : World) (rb : Nat) (O : Nat → Own) (L : List UInt8 → Option (Nat × Cl)) (n : List UInt8) (x : Option Ev × Int × Option Cl) (e : Ending) (w' : World) : Prop :=
 ∃ v, e = .returned (.tuple #[v, .int .i64 x.2.1]) ∧ RegSays w rb O L n x.2.2 w' ∧ EvsAt w' w.heap.size v x.1
theorem fill_at {α : Type} (l : List α) : ∀ (k : Nat) (Z : Array α) (j : Nat), k + l.length ≤ Z.size → ((l.zipIdx k).foldl (fun c x => c.setIfInBounds x.2 x.1) Z)[j]? = if k ≤ j ∧ j < k + l.length then l[j - k]? else Z[j]? := by
 induction l with
 | nil => intro k Z j _; simp; omega
 | cons a r ih =>
  intro k Z j h
  simp only [List.length_cons] at h
  rw [List.zipIdx_cons, List.foldl_cons, ih (k + 1) _ j (by simp; omega)]
  by_cases h1 : j = k
  ·subst h1
   rw [if_neg (by omega), if_pos (by simp)]
   simp [Array.getElem?_setIfInBounds]
   omega
  ·by_cases h2 : k + 1 ≤ j ∧ j < k + 1 + r.length
   ·rw [if_pos h2, if_pos (by simp; omega)]
    obtain ⟨d, rfl⟩ : ∃ d, j = k + 1 + d := ⟨j - (k + 1), by omega⟩
    rw [show k + 1 + d - (k + 1) = d by omega, show k + 1 + d - k = d + 1 by omega, List.getElem?_cons_succ]
   ·rw [if_neg h2, if_neg (by simp; omega)]
    simp [Array.getElem?_setIfInBounds, Ne.symm h1]
theorem fill_full {α : Type} (Z cs : Array α) (n : Nat) (hc : cs.size = n) (hz : Z.size = n) : Array.foldl (fun c x => c.setIfInBounds x.2 x.1) Z cs.zipIdx 0 n = cs := by
 subst hc
 have e : Array.foldl (fun c (x : α × Nat) => c.setIfInBounds x.2 x.1) Z cs.zipIdx 0 cs.size = (cs.toList.zipIdx 0).foldl (fun c x => c.setIfInBounds x.2 x.1) Z := by
  have h1 : cs.size = cs.zipIdx.size := by simp
  rw [h1, ← Array.foldl_toList, Array.toList_zipIdx]
 rw [e]
 apply Array.ext_getElem?
 intro j
 rw [fill_at _ 0 Z j (by simp; omega)]
 by_cases hj : j < cs.size
 ·rw [if_pos (by simp; omega)]; simp
 ·rw [if_neg (by simp; omega), Array.getElem?_eq_none (by omega), Array.getElem?_eq_none (by omega)]
theorem toC_ok {o : Option Cl} {hs : List Hp} {m : Ms} (h : (toC o hs m).2 = 0) : ∃ ev, (toC o hs m).1 = some ev ∧ ev.hs = hs := by
 unfold toC at h ⊢
 split at h
 ·rename_i h1
  exact (h1 h).elim
 ·rename_i h1
  rw [if_neg h1]
  split at h
  ·rename_i h2
   rw [if_pos h2]
   exact ⟨_, rfl, rfl⟩
  ·rename_i h2
   rw [if_neg h2]
   split at h
   ·cases h
   ·rename_i h3
    rw [if_neg h3]
    exact ⟨_, rfl, rfl⟩
theorem evE_fit {W : World} {B n z : Nat} {t : TypeId} {hv : Value} {xs : List Value} (ev : Ev) (hz : 0 < z) (h : W.ownsRow B t z hv n xs) : (evE hv ev).size = 57 ∧ (evE hv ev).all (·.oneCell') = true := by
 obtain ⟨a, c, rfl⟩ := owns_shape hz h
 unfold evE
 split
 ·exact ⟨evX_size _ _ _ _ _ _ _ _ _ _ _, evX_one _ _ _ _ _ _ _ _ _ _ rfl⟩
 ·exact ⟨evX_size _ _ _ _ _ _ _ _ _ _ _, evX_one _ _ _ _ _ _ _ _ _ _ rfl⟩
theorem RegSays.alloc {w w' : World} {rb : Nat} {O : Nat → Own} {L : List UInt8 → Option (Nat × Cl)} {n : List UInt8} {x : Option Cl} (h : RegSays w rb O L n x w') (o : Obj) : RegSays w rb O L n x (w'.alloc o) := by
 obtain ⟨O', X', h1, h2, h3, h4⟩ := h
 exact ⟨O', X', h1.below (below_al (Below.refl _ _) o), h2, h3.alloc o, h4⟩
theorem RegSays.same {w w' : World} {rb : Nat} {O : Nat → Own} {L : List UInt8 → Option (Nat × Cl)} (h : RegAt w rb O L) (n : List UInt8) {x : Option Cl} (hx : (L n).map (·.2) = x) (hb : Below w.heap.size w w') : RegSays w rb O L n x w' := by
 refine ⟨O, L n, ?_, hx, .of_below hb, fun _ _ => rfl⟩
 rw [updL_self]
 exact h.below hb
theorem snfeed_any {w : World} {rb : Nat} {O : Nat → Own} {L : List UInt8 → Option (Nat × Cl)} (h : RegAt w rb O L) (n s : List UInt8) (hl : (s.length : Int) ≤ 1000000) (hmx : Mx w) (hw : wtO ((L n).map (·.2)) ≤ 400000000) :
  Calls Tryz.prog 438 #[.agg (snC n rb), .string ⟨s.toArray⟩] w (FeedSaid w rb O L n (feedC ((L n).map (·.2)) s)) := by
 have hB0 := below_al (Below.refl _ w) (.cells (snC n rb) 99 (0, 0))
 have O0 := Obj?.new w (snC n rb) 99
 have HR := Lib.hid (wrapread_any s (by omega) 4096 6 (w.alloc (.cells (snC n rb) 99 (0, 0))) (hmx.below hB0 hmx.1))
 have HG := Lib.hid (And.intro h (And.intro hmx hw))
 have hsm := wrapR_small s 4096 6
 obtain ⟨X, hX⟩ : ∃ X, X = feedC ((L n).map (·.2)) s := ⟨_, rfl⟩
 rw [← hX]
 unfold feedC at hX
 obtain ⟨hs, m, E1, hwr⟩ : ∃ hs m E1, wrapR s 4096 6 = (hs, m, E1) := ⟨_, _, _, rfl⟩
 rw [hwr] at hX HR hsm
 have HX := Lib.hid hX
 have HS := Lib.hid hsm
 have HO := Lib.hid (And.intro O0 hB0)
 have k0 := O0.cells
 unfold snC at k0 HR ⊢
 clear hB0 O0 h hmx hw hl hsm hX hwr
 go_enter Tryz.func438, Tryz.ntmps438
 go_wp2_with fail
 refine HR.out.mono ?_
 rintro e w1 ⟨v, rfl, hH, hb⟩
 have hv := hH.one
 have hst := store_newdg w1 v m hv
 have hB1 := HO.out.2.trans (hb.mono HO.out.2.size)
 have OD := Obj?.new w1 (dgCs v m) 119
 have O1 := (HO.out.1.below hb HO.out.1.lt).alloc (.cells (dgCs v m) 119 (0, 0))
 have hB2 := below_al hB1 (.cells (dgCs v m) 119 (0, 0))
 obtain ⟨W2, hW2⟩ : ∃ W2, W2 = w1.alloc (.cells (dgCs v m) 119 (0, 0)) := ⟨_, rfl⟩
 have hH2 : HopsAt W2 v hs := by rw [hW2]; exact hH.below (below_al (Below.refl _ _) _)
 have hS2 : w.heap.size < w1.heap.size ∧ w1.heap.size < W2.heap.size := ⟨Nat.lt_of_lt_of_le HO.out.1.lt hb.size, by rw [hW2, World.size_alloc]; omega⟩
 rw [← hW2] at OD O1 hB2
 have H2 := Lib.hid (And.intro OD (And.intro O1 (And.intro hB2 (And.intro hH2 hS2))))
 clear OD O1 hB2 hH2 hS2 hb hH hB1 k0 hv
 obtain ⟨o, ho⟩ : ∃ o, o = (L n).map (·.2) := ⟨_, rfl⟩
 rw [← ho] at HX
 have HOo := Lib.hid ho
 clear ho
 by_cases hE1 : E1 = 0
 ·subst hE1
  have HX1 := Lib.hid (HX.out.trans (if_neg (by simp)))
  clear HX
  obtain ⟨T, hT⟩ : ∃ T, T = toC o hs m := ⟨_, rfl⟩
  have HTo := Lib.hid hT
  have HT := to_any n H2.out.2.2.2.1 HS.out.1 HS.out.2 (HG.out.2.1.below H2.out.2.2.1 HG.out.2.1.1) (HG.out.1.below H2.out.2.2.1)
  rw [← HOo.out, ← hT] at HT
  rw [← hT] at HX1
  have hld := load_dg H2.out.1
  have k1 := H2.out.2.1.cells
  rw [hW2] at HT hld k1
  have HTS := Lib.hid HT
  clear hT HT
  unfold snC at k1
  go_wp2_with fail
  rw [← hW2] at HTS ⊢
  refine HTS.out.mono ?_
  rintro e w3 ⟨cs, rfl, hb, hcs⟩
  have hfit : cs.size = 57 ∧ cs.all (·.oneCell') = true := by
   rcases hcs with ⟨-, rfl⟩ | ⟨ev, hv, -, rfl, hrow⟩
   ·exact ⟨rfl, evZ_one⟩
   ·exact evE_fit ev (by decide) hrow
  have hst3 := store_newevx (w := w3) (old := evZ) (cs := cs) rfl hfit.1 hfit.2
  obtain ⟨W4, hW4⟩ : ∃ W4, W4 = w3.alloc (.cells cs 43 (0, 0)) := ⟨_, rfl⟩
  have hB4 : Below W2.heap.size W2 W4 := by rw [hW4]; exact below_al hb _
  have hB0 := below_thn H2.out.2.2.1 hB4
  have hO4 : Obj? W4 w3.heap.size cs 43 := by rw [hW4]; exact Obj?.new w3 cs 43
  have hw3 : W2.heap.size ≤ w3.heap.size := hb.size
  have hc4 : (T.1 = none ∧ cs = evZ) ∨ ∃ ev hv, T.1 = some ev ∧ cs = evE hv ev ∧ W4.ownsRow W2.heap.size 155 2 hv ev.hs.length (hopCells ev.hs) := by
   rcases hcs with h1 | ⟨ev, hv, h1, h2, h3⟩
   ·exact .inl h1
   ·exact .inr ⟨ev, hv, h1, h2, by rw [hW4]; exact h3.alloc _⟩
  have H4 := Lib.hid (And.intro hB4 (And.intro hB0 (And.intro hO4 (And.intro hw3 (And.intro hc4 hfit)))))
  clear hB4 hB0 hO4 hw3 hc4 hcs hb hfit HTS hst hld k1
  unfold evZ at hst3
  obtain ⟨E2, hE2⟩ : ∃ E2, E2 = T.2 := ⟨_, rfl⟩
  rw [← hE2] at HX1 ⊢
  have HE2 := Lib.hid hE2
  clear hE2
  by_cases hz : E2 = 0
  ·subst hz
   have HX2 := Lib.hid (HX1.out.trans (if_neg (by simp)))
   have OD4 := H2.out.1.below H4.out.1 H2.out.1.lt
   have O14 := H2.out.2.1.below H4.out.1 H2.out.2.1.lt
   have hLn := fLearn_any (HG.out.1.below H4.out.2.1) n m HS.out.1 HS.out.2 (HG.out.2.1.below H4.out.2.1 HG.out.2.1.1) HG.out.2.2
   rw [← HOo.out] at hLn
   obtain ⟨l, hl⟩ : ∃ l, l = learnC o m := ⟨_, rfl⟩
   rw [← hl] at hLn HX2
   have HLn := Lib.hid hLn
   have hldm := load_dgmsg OD4
   have k4 := O14.cells
   unfold snC at k4
   rw [hW4] at hldm k4
   clear hl hLn HX1 OD4 O14
   go_wp2_with fail
   rw [← hW4]
   refine HLn.out.mono ?_
   rintro e w5 ⟨rfl, hR5⟩
   have HR5 := Lib.hid hR5
   have hR : RegSays w rb O L n l.2 w5 := by
    obtain ⟨O', X', h1, h2, h3, h4⟩ := hR5
    exact ⟨O', X', h1, h2, (Kq.of_below H4.out.2.1).trans h3, fun b hb => h4 b (Nat.lt_of_lt_of_le hb H4.out.2.1.size)⟩
   have HR := Lib.hid hR
   obtain ⟨O', X', -, -, hK5, -⟩ := hR5
   have hno : ∀ b, w.heap.size ≤ b → ¬ O b ≠ none := fun b hb e => by have := HG.out.1.fresh b e; omega
   have hE5 := H4.out.2.2.1.kp hK5 (hno _ (by have := H2.out.2.2.1.size; have := H4.out.2.2.2.1; omega))
   have hld5 := load_evx hE5 H4.out.2.2.2.2.2.1
   have hrow5 : ∀ (ev : Ev) (hv : Value), W4.ownsRow W2.heap.size 155 2 hv ev.hs.length (hopCells ev.hs) → w5.ownsRow w.heap.size 155 2 hv ev.hs.length (hopCells ev.hs) := fun ev hv h => row_less (row_kp h hK5 (fun b e => hno b (by have := (h.lt b e).1; have := H2.out.2.2.1.size; omega))) H2.out.2.2.1.size
   have H5 := Lib.hid (And.intro hE5 hrow5)
   have hsz5 : w.heap.size ≤ w5.heap.size := Nat.le_trans H4.out.2.1.size hK5.size
   clear hR hK5 hE5 hrow5 hno hst3 hldm k4 hW2 hW4 HLn
   obtain ⟨E3, hE3⟩ : ∃ E3, E3 = l.1 := ⟨_, rfl⟩
   rw [← hE3] at HX2 ⊢
   clear hE3
   by_cases hz3 : E3 = 0
   ·subst hz3
    have hX := Lib.hid (HX2.out.trans (if_neg (by simp)))
    have hfs := H4.out.2.2.2.2.2.1
    clear HX2
    have hne : T.2 = 0 := HE2.out.symm
    have hO6 := Obj?.new w5 cs 43
    go_wp2_with fail
    rw [fill_full _ cs 57 hfs rfl]
    go_ret2
    rw [hX.out]
    refine ⟨_, rfl, HR.out.alloc _, ?_⟩
    obtain ⟨ev, hev, hhs⟩ := toC_ok (by rw [← HTo.out]; exact hne)
    rw [← HTo.out] at hev
    rcases H4.out.2.2.2.2.1 with ⟨h1, -⟩ | ⟨ev', hv, h1, h2, h3⟩
    ·rw [hev] at h1; cases h1
    ·have hr := H5.out.2 ev' hv h3
     have hee : ev' = ev := by rw [hev] at h1; exact (Option.some.inj h1).symm
     show EvsAt _ _ _ T.1
     rw [h1]
     refine ⟨w5.heap.size, hv, rfl, hsz5, by rw [World.size_alloc]; omega, fun j => ?_, hr.alloc _, by rw [hee, hhs]; exact H2.out.2.2.2.1.small⟩
     rw [← h2]
     exact hO6.cells j
   ·have hX := Lib.hid (HX2.out.trans (if_pos hz3))
    have d1 : (E3 != 0) = true := by simpa using hz3
    clear hz3
    go_wp2_with fail
    go_ret2
    rw [hX.out]
    exact ⟨_, rfl, HR.out, rfl⟩
  ·have hX := Lib.hid (HX1.out.trans (if_pos hz))
   have d1 : (E2 != 0) = true := by simpa using hz
   clear hz
   go_wp2_with fail
   rw [← hW4]
   go_ret2
   rw [hX.out]
   exact ⟨_, rfl, RegSays.same HG.out.1 n HOo.out.symm H4.out.2.1, rfl⟩
 ·have hX : X = (none, E1, o) := HX.out.trans (if_pos hE1)
  have d1 : (E1 != 0) = true := by simpa using hE1
  have HE := Lib.hid hX
  clear hX hE1 HX
  go_wp2_with fail
  rw [← hW2]
  go_ret2
  rw [HE.out]
  exact ⟨_, rfl, RegSays.same HG.out.1 n HOo.out.symm H2.out.2.2.1, rfl⟩
end Go.Proofs.YtanofjmkkhocaaaGreatDoor
namespace Go.Proofs.YtanofjmkkhocaaaGreatDoor
open Go Go.RowKit Go.MapKept
attribute [local irreducible] rowSem rowStore
attribute [local go_sem] store_func
def ssN (n : List UInt8) (d f : Value) (e t : Int) : Array Value := #[.int .i64 3, .int .i64 4096, .int .i64 6, .string ⟨n.toArray⟩, d, f, .int .i64 e, .int .i64 t]
def snI (n : List UInt8) (rb : Nat) : Value := .iface 99 (.agg #[.int .i64 3, .int .i64 4096, .int .i64 6, .string ⟨n.toArray⟩, .pointer (some ⟨rb, 0, none⟩)])
def snF (n : List UInt8) (rb : Nat) : Value := .func (.method "polyglot/session.feed") #[snI n rb] #[]
def SessAt (w : World) (ss : Nat) (n : List UInt8) (rb : Nat) (e t : Int) : Prop := Obj? w ss (ssN n (snI n rb) (snF n rb) e t) 85
theorem snew_sn (n : List UInt8) (rb : Nat) (w : World) : Calls Tryz.prog 9 #[.agg #[.int .i64 3, .int .i64 4096, .int .i64 6, .string ⟨n.toArray⟩], .pointer (some ⟨rb, 0, none⟩)] w fun e w' => ∃ ss, e = .returned (.tuple #[.pointer (some ⟨ss, 0, none⟩), .int .i64 0]) ∧ Below w.heap.size w w' ∧ w.heap.size ≤ ss ∧ SessAt w' ss n rb 0 0 := by
 have hmf := mkfun
 have HO0 := Lib.hid (Obj?.new w #[.int .i64 3, .int .i64 4096, .int .i64 6, .string ⟨n.toArray⟩] 56)
 have HB0 := Lib.hid (below_al (Below.refl _ w) (.cells #[.int .i64 3, .int .i64 4096, .int .i64 6, .string ⟨n.toArray⟩] 56 (0, 0)))
 go_enter Tryz.func9, Tryz.ntmps9
 go_wp2_with fail
 refine (sright_any _).mono ?_
 rintro e w1 ⟨rfl, hb⟩
 have HB1 := Lib.hid (below_thn HB0.out hb)
 have HO1 := Lib.hid (HO0.out.below hb HO0.out.lt)
 have k1 := HO1.out.cells
 have HO2 := Lib.hid (HO1.out.alloc (.cells (ssN n .nilIface .nilFunc 0 0) 85 (0, 0)))
 have k2 := HO2.out.cells
 have HS1 := Lib.hid (Obj?.new w1 (ssN n .nilIface .nilFunc 0 0) 85)
 have ks := HS1.out.cells
 have fs := HS1.out.froz
 have HB2 := Lib.hid (below_al HB1.out (.cells (ssN n .nilIface .nilFunc 0 0) 85 (0, 0)))
 have HZ := Lib.hid (show w.heap.size ≤ w1.heap.size from HB1.out.size)
 have HS4 := Lib.hid (HS1.out.set 4 (snI n rb))
 have c5 := HS4.out.cell 5 .nilFunc rfl
 have c4 := HS4.out.cell 4 (snI n rb) rfl
 have f5 := HS4.out.frozen 5
 unfold ssN at k2 ks fs c5 c4 f5
 unfold snI at c5 c4 f5
 clear hb HB0 HO0
 go_wp2_with fail
 go_ret2
 exact ⟨w1.heap.size, rfl, below_al HB1.out _, HZ.out, Obj?.new w1 _ _⟩
def sessC (o : Option Cl) (e t : Int) (s : List UInt8) : Option Ev × Int × Int × Option Cl :=
 if e ≠ 0 then (none, e, t, o) else ((feedC o s).1, (feedC o s).2.1, (if (feedC o s).1.isSome then t + 1 else t), (feedC o s).2.2)
def FedSaid (w : World) (ss rb : Nat) (O : Nat → Own) (L : List UInt8 → Option (Nat × Cl)) (n : List UInt8) (x : Option Ev × Int × Int × Option Cl) (e : Ending) (w' : World) : Prop :=
 ∃ v O' X, e = .returned (.tuple #[v, .int .i64 x.2.1]) ∧ SessAt w' ss n rb x.2.1 x.2.2.1 ∧ RegAt w' rb O' (updL L n X) ∧ X.map (·.2) = x.2.2.2 ∧ Kq (fun b => O b ≠ none ∨ b = ss) w w' ∧ (∀ b, b < w.heap.size → O' b = O b) ∧ EvsAt w' w.heap.size v x.1
theorem EvsAt.far {w w' : World} {B b : Nat} {v : Value} {x : Option Ev} (h : EvsAt w B v x) (hg : w.grownBy w' (some b)) (hb : b < B) : EvsAt w' B v x := by
 cases x with
 | none => exact h
 | some ev =>
  obtain ⟨g, hv, h1, h2, h3, h4, h5, h6⟩ := h
  exact ⟨g, hv, h1, h2, Nat.lt_of_lt_of_le h3 hg.size, fun j => (show w'.cell? ⟨g, j, none⟩ = w.cell? ⟨g, j, none⟩ by unfold World.cell?; rw [hg.block g h3 (fun e => by have := Option.some.inj e; omega)]).trans (h4 j), own_far h5 hg (fun k e => by have := (h5.lt k e).1; omega), h6⟩
theorem fed_end {w w1 : World} {ss rb : Nat} {O O' : Nat → Own} {L : List UInt8 → Option (Nat × Cl)} {n : List UInt8} {x : Option Ev} {E t t' : Int} {o' : Option Cl} {X : Option Ev × Int × Int × Option Cl} {Y : Option (Nat × Cl)} {v : Value} (hX : X = (x, E, t', o')) (hOs : O ss = none) (hlt : ss < w.heap.size)
  (hR : RegAt w1 rb O' (updL L n Y)) (hY : Y.map (·.2) = o') (hK : Kq (fun b => O b ≠ none) w w1) (hO' : ∀ b, b < w.heap.size → O' b = O b) (hE : EvsAt w1 w.heap.size v x) (hS : SessAt w1 ss n rb 0 t) :
  FedSaid w ss rb O L n X (.returned (.tuple #[v, .int .i64 E])) ((w1.setCell ⟨ss, 7, none⟩ (.int .i64 t')).setCell ⟨ss, 6, none⟩ (.int .i64 E)) := by
 subst hX
 have g1 : w1.grownBy (w1.setCell ⟨ss, 7, none⟩ (.int .i64 t')) (some ss) := grown_set (World.grownBy.refl _ _) (p := ⟨ss, 7, none⟩) rfl _
 have g2 : (w1.setCell ⟨ss, 7, none⟩ (.int .i64 t')).grownBy ((w1.setCell ⟨ss, 7, none⟩ (.int .i64 t')).setCell ⟨ss, 6, none⟩ (.int .i64 E)) (some ss) := grown_set (World.grownBy.refl _ _) (p := ⟨ss, 6, none⟩) rfl _
 have hno : ∀ b, O' b ≠ none → ¬ b = ss := fun b hb e => by rw [e, hO' ss hlt] at hb; exact hb hOs
 refine ⟨v, O', Y, rfl, (hS.set 7 _).set 6 _, ?_, hY, ?_, hO', (hE.far g1 hlt).far g2 hlt⟩
 ·exact hR.kp (((Kq.refl (fun b => b = ss) w1).set (p := ⟨ss, 7, none⟩) (.inl rfl) _).set (p := ⟨ss, 6, none⟩) (.inl rfl) _) hno
 ·exact ((hK.mono (fun _ _ e => .inl e)).set (p := ⟨ss, 7, none⟩) (.inl (.inr rfl)) _).set (p := ⟨ss, 6, none⟩) (.inl (.inr rfl)) _
theorem snFed_any {w : World} {ss rb : Nat} {O : Nat → Own} {L : List UInt8 → Option (Nat × Cl)} (n s : List UInt8) (e t : Int) (hS : SessAt w ss n rb e t) (hOs : O ss = none) (h : RegAt w rb O L) (ht : 0 ≤ t ∧ t ≤ 1000000) (hl : (s.length : Int) ≤ 1000000) (hmx : Mx w) (hw : wtO ((L n).map (·.2)) ≤ 400000000) :
  Calls Tryz.prog 10 #[.pointer (some ⟨ss, 0, none⟩), .string ⟨s.toArray⟩] w (FedSaid w ss rb O L n (sessC ((L n).map (·.2)) e t s)) := by
 have hq : ∀ W : World, (binOp .eql 64 (snF n rb) .nilFunc).run Tryz.prog W = .ok (.bool false) W := fun W => by unfold snF snI; kernel_rfl
 have hm : ∀ (W : World), (method 603 99 (.agg (snC n rb)) "polyglot/session.feed").run Tryz.prog W = .ok (438, .agg (snC n rb)) W := fun W => by unfold snC; kernel_rfl
 have c5 := hS.cell 5 (snF n rb) rfl
 have c6 := hS.cell 6 (.int .i64 e) rfl
 have HS := Lib.hid hS
 have HR := Lib.hid h
 have HF := Lib.hid (snfeed_any h n s hl hmx hw)
 obtain ⟨o, ho⟩ : ∃ o, o = (L n).map (·.2) := ⟨_, rfl⟩
 rw [← ho] at HF ⊢
 have HOo := Lib.hid ho
 have HOs := Lib.hid hOs
 have HT := Lib.hid ht
 obtain ⟨X, hX⟩ : ∃ X, X = sessC o e t s := ⟨_, rfl⟩
 rw [← hX]
 have HX := Lib.hid hX
 clear hS h hl hmx hw ho hOs ht hX
 unfold snF snI at hq c5
 unfold snC at hm HF
 by_cases he : e = 0
 ·subst he
  have hX : X = ((feedC o s).1, (feedC o s).2.1, (if (feedC o s).1.isSome then t + 1 else t), (feedC o s).2.2) := HX.out.trans (if_neg (by simp))
  obtain ⟨⟨ev, E, o'⟩, hf⟩ : ∃ f, f = feedC o s := ⟨_, rfl⟩
  rw [← hf] at hX HF
  have HX2 := Lib.hid hX
  clear hX HX hf
  go_enter Tryz.func10, Tryz.ntmps10
  go_wp2_with fail
  refine HF.out.mono ?_
  rintro r w1 ⟨v, rfl, ⟨O', Y, hR, hY, hK, hO'⟩, hE⟩
  have hS1 := HS.out.kp hK (by rw [HOs.out]; simp)
  have e7 := hS1.cell 7 (.int .i64 t) rfl
  have e6 := hS1.cell 6 (.int .i64 0) rfl
  have f7 := hS1.frozen 7
  have f6 := hS1.frozen 6
  have H1 := Lib.hid (And.intro hR (And.intro hY (And.intro hK (And.intro hO' (And.intro hE hS1)))))
  clear hR hY hK hO' hS1 HF hm hq c5 c6
  have ew0 : wrap64 t = t := by have := HT.out; unfold wrap64; omega
  have ew1 : wrap64 (t + 1) = t + 1 := by have := HT.out; unfold wrap64; omega
  cases ev with
  | none =>
   obtain rfl : v = .slice none 0 0 := hE
   go_wp2_with fail
   go_ret2
   exact fed_end HX2.out HOs.out HS.out.lt H1.out.1 H1.out.2.1 H1.out.2.2.1 H1.out.2.2.2.1 H1.out.2.2.2.2.1 H1.out.2.2.2.2.2
  | some ev =>
   obtain ⟨g, hv, rfl, -⟩ := hE
   go_wp2_with fail
   go_ret2
   exact fed_end HX2.out HOs.out HS.out.lt H1.out.1 H1.out.2.1 H1.out.2.2.1 H1.out.2.2.2.1 H1.out.2.2.2.2.1 H1.out.2.2.2.2.2
 ·have d1 : (e != 0) = true := by simpa using he
  have hX : X = (none, e, t, o) := HX.out.trans (by unfold sessC; rw [if_pos he])
  have HX2 := Lib.hid hX
  clear hX he
  go_enter Tryz.func10, Tryz.ntmps10
  go_wp2_with fail
  go_region
  go_wp2_with fail
  go_ret2
  rw [HX2.out]
  refine ⟨_, O, L n, rfl, HS.out, ?_, HOo.out.symm, (Kq.refl _ w).drew, fun _ _ => rfl, rfl⟩
  rw [updL_self]
  exact HR.out.kp (S := fun _ => False) (Kq.refl _ w).drew (fun _ _ e => e)
theorem snTold_any {w : World} {ss rb : Nat} {n : List UInt8} {e t : Int} (hS : SessAt w ss n rb e t) : Calls Tryz.prog 12 #[.pointer (some ⟨ss, 0, none⟩)] w fun r w' => r = .returned (.int .i64 t) ∧ w' = w := by
 have c7 := hS.cell 7 (.int .i64 t) rfl
 clear hS
 go_enter Tryz.func12, Tryz.ntmps12
 go_wp2_with fail
 go_ret
 exact ⟨rfl, rfl⟩
end Go.Proofs.YtanofjmkkhocaaaGreatDoor
