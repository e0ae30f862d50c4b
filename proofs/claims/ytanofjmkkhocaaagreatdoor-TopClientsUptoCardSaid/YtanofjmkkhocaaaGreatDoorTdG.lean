/- polyglottop.TopClients: what stands while chunks are fed; one chunk more. -/
import Derived.Test.YtanofjmkkhocaaaGreatDoorTdF
import Derived.Test.YtanofjmkkhocaaaGreatDoorTdD
set_option linter.unusedVariables false
set_option linter.unusedSimpArgs false
namespace Go.Proofs.YtanofjmkkhocaaaGreatDoor
open Go Go.RowKit Go.MapKept
def wtB (k : Nat) : Nat := 21 * 2 ^ k - 1
theorem wtB_step (k : Nat) : 2 * wtB k + 1 = wtB (k + 1) := by
 unfold wtB
 have : 0 < 2 ^ k := Nat.two_pow_pos k
 rw [Nat.pow_succ]
 omega
theorem wtB_mono (k : Nat) : wtB k ≤ wtB (k + 1) := by rw [← wtB_step]; omega
theorem wtB_small {k : Nat} (h : k ≤ 20) : wtB k ≤ 400000000 := by
 unfold wtB
 have : 2 ^ k ≤ 2 ^ 20 := Nat.pow_le_pow_right (by omega) h
 have e : 2 ^ 20 = 1048576 := by decide
 omega
theorem sess_wt (o : Option Cl) (e t : Int) (s : List UInt8) {k : Nat} (h : wtO o ≤ wtB k) : wtO (sessC o e t s).2.2.2 ≤ wtB (k + 1) := by
 have h1 := wt_feed o s
 have h2 := wtB_step k
 unfold sessC
 split
 ·exact Nat.le_trans h (wtB_mono k)
 ·simp only; omega
theorem sess_told (o : Option Cl) (e t : Int) (s : List UInt8) {k : Nat} (h : 0 ≤ t ∧ t ≤ k) : 0 ≤ (sessC o e t s).2.2.1 ∧ (sessC o e t s).2.2.1 ≤ (k + 1 : Nat) := by
 unfold sessC
 split
 ·simp only; omega
 ·simp only; split <;> omega
structure Inn (w1 wr : World) (me oth : List UInt8) (M : List UInt8 → Option Cl) (k : Nat) (ra ro x y z : Nat) (O1 O2 : Nat → Own) (L1 L2 : List UInt8 → Option (Nat × Cl)) (e t e' t' : Int) : Prop where
 reg1 : RegAt wr ra O1 L1
 reg2 : RegAt wr ro O2 L2
 same : (L1 me).map (·.2) = (L2 me).map (·.2)
 rest : ∀ m, m ≠ me → (L2 m).map (·.2) = M m
 wt1 : ∀ m, wtO ((L1 m).map (·.2)) ≤ wtB k
 sx : SessAt wr x me ra e t
 sz : SessAt wr z me ro e t
 sy : SessAt wr y oth ra e' t'
 told : 0 ≤ t ∧ t ≤ k
 told' : 0 ≤ t' ∧ t' ≤ k
 new1 : ∀ b, O1 b ≠ none → w1.heap.size ≤ b
 new2 : ∀ b, O2 b ≠ none → w1.heap.size ≤ b
 newx : w1.heap.size ≤ x
 newy : w1.heap.size ≤ y
 newz : w1.heap.size ≤ z
 disj : ∀ b, O1 b ≠ none → O2 b = none
 ox : O1 x = none ∧ O2 x = none
 oy : O1 y = none ∧ O2 y = none
 oz : O1 z = none ∧ O2 z = none
 xy : x ≠ y
 xz : x ≠ z
 yz : y ≠ z
 below : Below w1.heap.size w1 wr
theorem Inn.one {w1 wr w' : World} {me oth : List UInt8} {M : List UInt8 → Option Cl} {k ra ro x y z : Nat} {O1 O2 : Nat → Own} {L1 L2 : List UInt8 → Option (Nat × Cl)} {e t e' t' : Int} (h : Inn w1 wr me oth M k ra ro x y z O1 O2 L1 L2 e t e' t') (hne : me ≠ oth) {s : List UInt8} {r : Ending}
  (hs : FedSaid wr y ra O1 L1 oth (sessC ((L1 oth).map (·.2)) e' t' s) r w') : ∃ O1' L1' e2 t2, Inn w1 w' me oth M (k + 1) ra ro x y z O1' O2 L1' L2 e t e2 t2 := by
 obtain ⟨v, O', X, -, hS, hR, hX, hK, hO, -⟩ := hs
 have hx := h.sx.lt
 have hy := h.sy.lt
 have hz := h.sz.lt
 refine ⟨O', updL L1 oth X, _, _, ⟨hR, ?_, ?_, h.rest, ?_, ?_, ?_, hS, ⟨h.told.1, by have := h.told.2; omega⟩, sess_told _ _ _ _ h.told', ?_, h.new2, h.newx, h.newy, h.newz, ?_, ⟨(hO x hx).trans h.ox.1, h.ox.2⟩, ⟨(hO y hy).trans h.oy.1, h.oy.2⟩, ⟨(hO z hz).trans h.oz.1, h.oz.2⟩, h.xy, h.xz, h.yz, ?_⟩⟩
 ·exact h.reg2.kp hK (fun b hb e => by
   rcases e with e | e
   ·exact hb (h.disj b e)
   ·rw [e, h.oy.2] at hb; exact hb rfl)
 ·rw [updL_ne _ _ hne]; exact h.same
 ·intro m
  by_cases hm : m = oth
  ·rw [hm, updL_same, hX]
   exact sess_wt _ _ _ _ (h.wt1 oth)
  ·rw [updL_ne _ _ hm]
   exact Nat.le_trans (h.wt1 m) (wtB_mono k)
 ·exact h.sx.kp hK (fun e => by rcases e with e | e; exact e h.ox.1; exact h.xy e)
 ·exact h.sz.kp hK (fun e => by rcases e with e | e; exact e h.oz.1; exact h.yz e.symm)
 ·intro b hb
  rcases Nat.lt_or_ge b wr.heap.size with h5 | h5
  ·exact h.new1 b (by rw [← hO b h5]; exact hb)
  ·exact Nat.le_trans h.below.size h5
 ·intro b hb
  rcases Nat.lt_or_ge b wr.heap.size with h5 | h5
  ·exact h.disj b (by rw [← hO b h5]; exact hb)
  ·cases h2 : O2 b with
   | none => rfl
   | some o => have := h.reg2.fresh b (by rw [h2]; simp); omega
 ·exact h.below.trans (hK.to_below h.below.size (fun i hi e => by
   rcases e with e | e
   ·have := h.new1 i e; omega
   ·have := h.newy; omega))
theorem EvsAt.kp {w w' : World} {B : Nat} {S : Nat → Prop} {v : Value} {x : Option Ev} (h : EvsAt w B v x) (k : Kq S w w') (hS : ∀ b, B ≤ b → ¬ S b) : EvsAt w' B v x := by
 cases x with
 | none => exact h
 | some ev =>
  obtain ⟨g, hv, h1, h2, h3, h4, h5, h6⟩ := h
  exact ⟨g, hv, h1, h2, Nat.lt_of_lt_of_le h3 k.size, fun j => (show w'.cell? ⟨g, j, none⟩ = w.cell? ⟨g, j, none⟩ by unfold World.cell?; rw [k.block g h3 (hS g h2)]).trans (h4 j), row_kp h5 k (fun b e => hS b (h5.lt b e).1), h6⟩
theorem Inn.mid {w1 wr w2 : World} {me oth : List UInt8} {M : List UInt8 → Option Cl} {k ra ro x y z : Nat} {O1 O2 : Nat → Own} {L1 L2 : List UInt8 → Option (Nat × Cl)} {e t e' t' : Int} (h : Inn w1 wr me oth M k ra ro x y z O1 O2 L1 L2 e t e' t') {X : Option Ev × Int × Int × Option Cl} {r : Ending}
  (hs : FedSaid wr x ra O1 L1 me X r w2) : RegAt w2 ro O2 L2 ∧ SessAt w2 z me ro e t ∧ Below w1.heap.size w1 w2 := by
 obtain ⟨v, O', Y, -, -, -, -, hK, -, -⟩ := hs
 refine ⟨h.reg2.kp hK (fun b hb e => ?_), h.sz.kp hK (fun e => ?_), h.below.trans (hK.to_below h.below.size (fun i hi e => ?_))⟩
 ·rcases e with e | e
  ·exact hb (h.disj b e)
  ·rw [e, h.ox.2] at hb; exact hb rfl
 ·rcases e with e | e
  ·exact e h.oz.1
  ·exact h.xz e.symm
 ·rcases e with e | e
  ·have := h.new1 i e; omega
  ·have := h.newx; omega
theorem Inn.two {w1 wr w2 w3 : World} {me oth : List UInt8} {M : List UInt8 → Option Cl} {k ra ro x y z : Nat} {O1 O2 : Nat → Own} {L1 L2 : List UInt8 → Option (Nat × Cl)} {e t e' t' : Int} (h : Inn w1 wr me oth M k ra ro x y z O1 O2 L1 L2 e t e' t') {s : List UInt8} {r1 r2 : Ending}
  (hs : FedSaid wr x ra O1 L1 me (sessC ((L1 me).map (·.2)) e t s) r1 w2) (hs2 : FedSaid w2 z ro O2 L2 me (sessC ((L2 me).map (·.2)) e t s) r2 w3) :
  ∃ v1 v2 ev E T O1' L1' O2' L2', r1 = .returned (.tuple #[v1, .int .i64 E]) ∧ r2 = .returned (.tuple #[v2, .int .i64 E]) ∧ EvsAt w3 wr.heap.size v1 ev ∧ EvsAt w3 w2.heap.size v2 ev ∧ Inn w1 w3 me oth M (k + 1) ra ro x y z O1' O2' L1' L2' E T e' t' := by
 rw [← h.same] at hs2
 have hso := sess_told ((L1 me).map (·.2)) e t s h.told
 have hsw := sess_wt ((L1 me).map (·.2)) e t s (h.wt1 me)
 obtain ⟨⟨ev, E, T, o'⟩, hX⟩ : ∃ X, X = sessC ((L1 me).map (·.2)) e t s := ⟨_, rfl⟩
 rw [← hX] at hs hs2 hso hsw
 obtain ⟨hm1, hm2, hm3⟩ := h.mid hs
 obtain ⟨v1, O1', X1, hr1, hS1, hR1, hX1, hK1, hO1, hE1⟩ := hs
 obtain ⟨v2, O2', X2, hr2, hS2, hR2, hX2, hK2, hO2, hE2⟩ := hs2
 have hx := h.sx.lt
 have hy := h.sy.lt
 have hz := h.sz.lt
 have hsz := hK1.size
 have n1 : ∀ b, O1' b ≠ none → w1.heap.size ≤ b := fun b hb => by
  rcases Nat.lt_or_ge b wr.heap.size with h5 | h5
  ·exact h.new1 b (by rw [← hO1 b h5]; exact hb)
  ·exact Nat.le_trans h.below.size h5
 have n2 : ∀ b, O2' b ≠ none → w1.heap.size ≤ b := fun b hb => by
  rcases Nat.lt_or_ge b w2.heap.size with h5 | h5
  ·exact h.new2 b (by rw [← hO2 b h5]; exact hb)
  ·exact Nat.le_trans hm3.size h5
 have ax : O1' x = none := (hO1 x hx).trans h.ox.1
 have ay : O1' y = none := (hO1 y hy).trans h.oy.1
 have az : O1' z = none := (hO1 z hz).trans h.oz.1
 have d12 : ∀ b, O1' b ≠ none → O2 b = none := fun b hb => by
  rcases Nat.lt_or_ge b wr.heap.size with h5 | h5
  ·exact h.disj b (by rw [← hO1 b h5]; exact hb)
  ·cases h2 : O2 b with
   | none => rfl
   | some o => have := h.reg2.fresh b (by rw [h2]; simp); omega
 refine ⟨v1, v2, ev, E, T, O1', updL L1 me X1, O2', updL L2 me X2, hr1, hr2, hE1.kp hK2 (fun b hb e => ?_), hE2, ⟨hR1.kp hK2 (fun b hb e => ?_), hR2, ?_, fun m hm => ?_, fun m => ?_, hS1.kp hK2 (fun e => ?_), hS2, (h.sy.kp hK1 (fun e => ?_)).kp hK2 (fun e => ?_), hso, ⟨h.told'.1, by have := h.told'.2; omega⟩, n1, n2, h.newx, h.newy, h.newz, fun b hb => ?_, ⟨ax, (hO2 x (by omega)).trans h.ox.2⟩, ⟨ay, (hO2 y (by omega)).trans h.oy.2⟩, ⟨az, (hO2 z (by omega)).trans h.oz.2⟩, h.xy, h.xz, h.yz, ?_⟩⟩
 ·rcases e with e | e
  ·have := h.reg2.fresh b e; omega
  ·omega
 ·rcases e with e | e
  ·exact e (d12 b hb)
  ·rw [e, az] at hb; exact hb rfl
 ·rw [updL_same, updL_same, hX1, hX2]
 ·rw [updL_ne _ _ hm]; exact h.rest m hm
 ·by_cases hm : m = me
  ·rw [hm, updL_same, hX1]; exact hsw
  ·rw [updL_ne _ _ hm]; exact Nat.le_trans (h.wt1 m) (wtB_mono k)
 ·rcases e with e | e
  ·exact e h.ox.2
  ·exact h.xz e
 ·rcases e with e | e
  ·exact e h.oy.1
  ·exact h.xy e.symm
 ·rcases e with e | e
  ·exact e h.oy.2
  ·exact h.yz e
 ·rcases Nat.lt_or_ge b w2.heap.size with h5 | h5
  ·rw [hO2 b h5]; exact d12 b hb
  ·have := hR1.fresh b hb; omega
 ·exact hm3.trans (hK2.to_below hm3.size (fun i hi e => by
   rcases e with e | e
   ·have := h.new2 i e; omega
   ·have := h.newz; omega))
theorem Inn.start {w1 W5 W6 W7 W8 W9 : World} {me oth : List UInt8} {M : List UInt8 → Option Cl} {ra ro x y z : Nat} {O1 O2 : Nat → Own} {L1 L2 : List UInt8 → Option (Nat × Cl)}
  (hwt : ∀ m, wtO (M m) ≤ 20) (hb5 : Below w1.heap.size w1 W5) (hR2 : RegAt W5 ro O2 L2) (hM2 : ∀ m, (L2 m).map (·.2) = M m) (hN2 : ∀ b, O2 b ≠ none → w1.heap.size ≤ b)
  (hb6 : Below W5.heap.size W5 W6) (hR1 : RegAt W6 ra O1 L1) (hM1 : ∀ m, (L1 m).map (·.2) = M m) (hN1 : ∀ b, O1 b ≠ none → W5.heap.size ≤ b)
  (hx : W6.heap.size ≤ x) (sx : SessAt W7 x me ra 0 0) (hb7 : Below W6.heap.size W6 W7) (hy : W7.heap.size ≤ y) (sy : SessAt W8 y oth ra 0 0) (hb8 : Below W7.heap.size W7 W8) (hz : W8.heap.size ≤ z) (sz : SessAt W9 z me ro 0 0) (hb9 : Below W8.heap.size W8 W9) :
  Inn w1 W9 me oth M 0 ra ro x y z O1 O2 L1 L2 0 0 0 0 := by
 have s5 := hb5.size
 have s6 := hb6.size
 have s7 := hb7.size
 have s8 := hb8.size
 have lx := sx.lt
 have ly := sy.lt
 have f1 : ∀ b, W6.heap.size ≤ b → O1 b = none := fun b hb => by
  cases h : O1 b with
  | none => rfl
  | some o => have := hR1.fresh b (by rw [h]; simp); omega
 have f2 : ∀ b, W5.heap.size ≤ b → O2 b = none := fun b hb => by
  cases h : O2 b with
  | none => rfl
  | some o => have := hR2.fresh b (by rw [h]; simp); omega
 have b79 : Below W7.heap.size W7 W9 := below_thn hb8 hb9
 have b69 : Below W6.heap.size W6 W9 := below_thn hb7 b79
 have b59 : Below W5.heap.size W5 W9 := below_thn hb6 b69
 exact ⟨hR1.below b69, hR2.below b59, by rw [hM1, hM2], fun m _ => hM2 m, fun m => by rw [hM1]; exact Nat.le_trans (hwt m) (by decide), Obj?.below sx b79 lx, sz, Obj?.below sy hb9 ly, ⟨by omega, by omega⟩, ⟨by omega, by omega⟩,
  fun b hb => Nat.le_trans s5 (hN1 b hb), hN2, by omega, by omega, by omega, fun b hb => f2 b (hN1 b hb), ⟨f1 x hx, f2 x (by omega)⟩, ⟨f1 y (by omega), f2 y (by omega)⟩, ⟨f1 z (by omega), f2 z (by omega)⟩, by omega, by omega, by omega, below_thn hb5 b59⟩
theorem Inn.next {w1 wr w' : World} {me oth : List UInt8} {M : List UInt8 → Option Cl} {k ra ro x y z : Nat} {O1 O2 : Nat → Own} {L1 L2 : List UInt8 → Option (Nat × Cl)} {e t e' t' : Int} (h : Inn w1 wr me oth M k ra ro x y z O1 O2 L1 L2 e t e' t') (hb : Below wr.heap.size wr w') :
  Inn w1 w' me oth M k ra ro x y z O1 O2 L1 L2 e t e' t' :=
 ⟨h.reg1.below hb, h.reg2.below hb, h.same, h.rest, h.wt1, Obj?.below h.sx hb h.sx.lt, Obj?.below h.sz hb h.sz.lt, Obj?.below h.sy hb h.sy.lt, h.told, h.told', h.new1, h.new2, h.newx, h.newy, h.newz, h.disj, h.ox, h.oy, h.oz, h.xy, h.xz, h.yz, below_thn h.below hb⟩
def TopsSaid (V : World) (T : List Tp) (e : Ending) (w' : World) : Prop := ∃ v, e = .returned v ∧ RowG V.heap.size Tp.cs 3 w' v T ∧ Below V.heap.size V w'
def TopsAll (ra ro rs : Nat) (me oth : List UInt8) (T1 T2 : List Tp) (V : World) : Prop :=
 Calls Tryz.prog 14 #[.pointer (some ⟨ra, 0, none⟩), .string ⟨me.toArray⟩] V (TopsSaid V T1) ∧ Calls Tryz.prog 14 #[.pointer (some ⟨ro, 0, none⟩), .string ⟨me.toArray⟩] V (TopsSaid V T1) ∧
 Calls Tryz.prog 14 #[.pointer (some ⟨ro, 0, none⟩), .string ⟨oth.toArray⟩] V (TopsSaid V T2) ∧ Calls Tryz.prog 14 #[.pointer (some ⟨rs, 0, none⟩), .string ⟨oth.toArray⟩] V (TopsSaid V T2)
theorem Inn.topics {w1 wr : World} {me oth : List UInt8} {M : List UInt8 → Option Cl} {k ra ro rs x y z : Nat} {O1 O2 Os : Nat → Own} {L1 L2 Ls : List UInt8 → Option (Nat × Cl)} {e t e' t' : Int} (h : Inn w1 wr me oth M k ra ro x y z O1 O2 L1 L2 e t e' t') (hk : k ≤ 20) (hne : me ≠ oth)
  (hwt : ∀ m, wtO (M m) ≤ 20) (hR : RegAt wr rs Os Ls) (hM : ∀ m, (Ls m).map (·.2) = M m) : ∃ T1 T2, ∀ V, Below wr.heap.size wr V → TopsAll ra ro rs me oth T1 T2 V := by
 refine ⟨topsC ((L1 me).map (·.2)), topsC (M oth), fun V hV => ⟨?_, ?_, ?_, ?_⟩⟩
 ·exact rtopics_any (h.reg1.below hV) me (Nat.le_trans (h.wt1 me) (Nat.le_trans (wtB_small hk) (by decide)))
 ·have := rtopics_any (h.reg2.below hV) me (by rw [← h.same]; exact Nat.le_trans (h.wt1 me) (Nat.le_trans (wtB_small hk) (by decide)))
  rw [← h.same] at this
  exact this
 ·have := rtopics_any (h.reg2.below hV) oth (by rw [h.rest oth (Ne.symm hne)]; exact Nat.le_trans (hwt oth) (by decide))
  rw [h.rest oth (Ne.symm hne)] at this
  exact this
 ·have := rtopics_any (hR.below hV) oth (by rw [hM]; exact Nat.le_trans (hwt oth) (by decide))
  rw [hM] at this
  exact this
end Go.Proofs.YtanofjmkkhocaaaGreatDoor
