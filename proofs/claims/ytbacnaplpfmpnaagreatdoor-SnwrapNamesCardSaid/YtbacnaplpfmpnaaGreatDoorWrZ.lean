/- SnwrapNames. -/
import Derived.Test.YtbacnaplpfmpnaaGreatDoorWrP
import Derived.Test.YtbacnaplpfmpnaaGreatDoorTimes
import Derived.Test.YtbacnaplpfmpnaaGreatDoorRegI
import Derived.Great.Walk
import Derived.Deep.LoopGhost
import Derived.Deep.RegionWith
import Derived.Deep.RegionHeld3
import Derived.Deep.CutRange
namespace Go.Proofs.YtbacnaplpfmpnaaGreatDoor
open Go Go.RowKit Go.Shelf
set_option linter.unusedVariables false
set_option linter.unusedSimpArgs false
attribute [local go_sem ↓] load_Msg store_Msg load_Dg store_Dg
attribute [local irreducible] rowSem rowStore

theorem below_stp {w W w' : World} (h : Below w.heap.size w W) (hb : Below W.heap.size W w') : Below w.heap.size w w' := h.trans (hb.mono h.size)
theorem rep_len1 (c : UInt8) (n : Nat) : (rep n [c]).length = n := by simp [rep]
def hx1 : Hp := ⟨1, [120]⟩
def wrongH (B : List UInt8) : Nat → List Hp
  | 0 => [hx1, hx1, hx1, hx1, hx1]
  | 1 => [⟨4, [97]⟩]
  | 2 => [⟨0, []⟩]
  | 3 => [⟨0, B⟩]
  | _ => []
def wrongW (P : Ms) (D : List UInt8) : Nat → Ms
  | 4 => ⟨3, ⟨false, 0, false, false, false, 0⟩, 0, 0, 0, false, 0, 0, 0, [], []⟩
  | 5 => ⟨12, ⟨false, 0, false, false, false, 0⟩, 0, 0, 0, false, 1, 0, 0, [], D⟩
  | _ => P
def wantW : Nat → Int
  | 0 => 12 | 1 => 2 | 2 => 2 | 3 => 2 | 4 => 8 | _ => 4
theorem wrongW_any (k : Nat) (h : k < 6) : (wrapB (wrongH (rep 33 [97]) k) (wrongW pongM (rep 4095 [97]) k) 4096 6).2 = wantW k := by
  match k, h with
  | 0, _ => decide +kernel
  | 1, _ => decide +kernel
  | 2, _ => decide +kernel
  | 3, _ => decide +kernel
  | 4, _ => decide +kernel
  | 5, _ => decide +kernel
def badW : Nat → List UInt8
  | 0 => []
  | 1 => [4, 254, 1, 120]
  | 2 => [4, 254, 1, 120, 4, 254, 1, 120, 4, 254, 1, 120, 4, 254, 1, 120, 4, 254, 1, 120, 2, 23]
  | 3 => [3, 254, 0, 2, 23]
  | 4 => [4, 254, 4, 120, 2, 23]
  | 5 => [5, 254, 0, 97]
  | 6 => [2, 23, 0]
  | _ => [36, 254, 0]
def toldW : Nat → Int
  | 0 => 3 | 1 => 3 | 2 => 12 | 3 => 5 | 4 => 5 | 5 => 3 | 6 => 5 | _ => 5
theorem badW_told (k : Nat) (h : k < 8) : (wrapR (badW k) 4096 6).2.2 = toldW k := by
  match k, h with
  | 0, _ => decide +kernel
  | 1, _ => decide +kernel
  | 2, _ => decide +kernel
  | 3, _ => decide +kernel
  | 4, _ => decide +kernel
  | 5, _ => decide +kernel
  | 6, _ => decide +kernel
  | 7, _ => decide +kernel
def flatD (c : Nat → Array Value) : Nat → Array Value
  | 0 => #[]
  | n + 1 => flatD c n ++ c n
theorem flatD_size {c : Nat → Array Value} {z : Nat} (hc : ∀ k, (c k).size = z) : ∀ n, (flatD c n).size = n * z
  | 0 => by simp [flatD]
  | n + 1 => by rw [flatD, Array.size_append, flatD_size hc n, hc, Nat.succ_mul]
theorem flatD_at {c : Nat → Array Value} {z : Nat} (hc : ∀ k, (c k).size = z) : ∀ n k, k < n → ∃ p q, flatD c n = p ++ c k ++ q ∧ p.size = k * z
  | n + 1, k, hk => by
    by_cases h : k = n
    · subst h
      exact ⟨flatD c k, #[], by simp [flatD], flatD_size hc k⟩
    · obtain ⟨p, q, e, hp⟩ := flatD_at hc n k (by omega)
      exact ⟨p, q ++ c n, by rw [flatD, e]; simp [Array.append_assoc], hp⟩
theorem rowD_at {w : World} {b : Nat} {c : Nat → Array Value} {n : Nat} (h : Obj? w b (flatD c n) 45) (hc : ∀ k, (c k).size = 17) (k : Nat) (hk : k < n) : (rowSem 45 ⟨b, k * 17, none⟩).run Tryz.prog w = .ok (.agg (c k)) w := by
  obtain ⟨p, q, e, hp⟩ := flatD_at hc n k hk
  rw [e] at h
  refine rowSem_mid w b (k * 17) 45 (c k) _ (fun j v hv => ?_) Tryz.underlying45 rfl (by rw [infoDg, hc])
  have := Obj?.mid h j v hv
  rw [hp] at this; exact this
/-- The hops' slices. -/
def wrongV (b0 b1 b2 b3 : Nat) : Nat → Value
  | 0 => .slice (some ⟨b0, 0, none⟩) 5 5
  | 1 => .slice (some ⟨b1, 0, none⟩) 1 1
  | 2 => .slice (some ⟨b2, 0, none⟩) 1 1
  | 3 => .slice (some ⟨b3, 0, none⟩) 1 1
  | _ => .slice none 0 0
def flatW (P : Ms) (D : List UInt8) (b0 b1 b2 b3 : Nat) : Array Value := flatD (fun k => dgCs (wrongV b0 b1 b2 b3 k) (wrongW P D k)) 6
def sixBs (parts : Array (Nat × Value)) : Sem Value := Instr.buildSlice 65 6 parts
theorem six_bs (parts : Array (Nat × Value)) : Instr.buildSlice 65 6 parts = sixBs parts := rfl
set_option maxRecDepth 100000 in
theorem build6_run (P : Ms) (D : List UInt8) (b0 b1 b2 b3 : Nat) (w : World) : (sixBs #[(0, .agg (dgCs (wrongV b0 b1 b2 b3 0) (wrongW P D 0))), (1, .agg (dgCs (wrongV b0 b1 b2 b3 1) (wrongW P D 1))), (2, .agg (dgCs (wrongV b0 b1 b2 b3 2) (wrongW P D 2))), (3, .agg (dgCs (wrongV b0 b1 b2 b3 3) (wrongW P D 3))), (4, .agg (dgCs (wrongV b0 b1 b2 b3 4) (wrongW P D 4))), (5, .agg (dgCs (wrongV b0 b1 b2 b3 5) (wrongW P D 5)))]).run Tryz.prog w
    = .ok (.slice (some ⟨w.heap.size, 0, none⟩) 6 6) (w.alloc (.cells (flatW P D b0 b1 b2 b3) 45 (0, 0))) := by
  kernel_rfl
/-- Hops laid anew. -/
theorem hops_lit {w : World} {cs : Array Value} {hs : List Hp} {n : Nat} (hc : cs.toList = hopCells hs) (hn : hs.length = n) (h1 : n ≤ 1000) (h2 : ∀ x ∈ hs, x.node.length ≤ 1000) : HopsAt (w.alloc (.cells cs 49 (0, 0))) (.slice (some ⟨w.heap.size, 0, none⟩) n n) hs := by
  subst hn
  have hz : cs.size = hs.length * 2 := by rw [← Array.length_toList, hc, hopCells_len]
  have := World.ownsRow_lit (base := 0) (e := 49) (size := 2) w cs hs.length (Nat.zero_le _) (by unfold maxLen; omega) hz
  rw [hc] at this
  exact hopsat_of_row this (fun x hx => by have := h2 x hx; omega) (by omega)
def SlW (n : Nat) (hs : List Hp) (v : Value) (w : World) : Prop := ∃ b, v = .slice (some ⟨b, 0, none⟩) n n ∧ HopsAt w (.slice (some ⟨b, 0, none⟩) n n) hs
def DgW (n : Nat) (hs : List Hp) (P : Ms) (v : Value) (w : World) : Prop := ∃ b, v = .agg (dgCs (.slice (some ⟨b, 0, none⟩) n n) P) ∧ HopsAt w (.slice (some ⟨b, 0, none⟩) n n) hs
def AllW (P : Ms) (A D : List UInt8) (v : Value) (w : World) : Prop := ∃ b b0 b1 b2 b3 : Nat, v = .slice (some ⟨b, 0, none⟩) 6 6 ∧ Obj? w b (flatW P D b0 b1 b2 b3) 45 ∧ ∀ k, k < 6 → HopsAt w (wrongV b0 b1 b2 b3 k) (wrongH A k)
theorem wrongH_small {A : List UInt8} (hA : A.length = 33) (k : Nat) : ∀ x ∈ wrongH A k, x.node.length ≤ 1000 := by
  unfold wrongH
  split <;> simp [hx1, hA]
/-- What an operation that has come up has left. -/
def PhiW (P : Ms) (A D : List UInt8) (i : Nat) (v : Value) (w : World) : Prop :=
  match i with
  | 0 => v = .agg #[.int .i64 1, .string ⟨#[120]⟩]
  | 1 => v = .agg #[.int .i64 1, .string ⟨#[120]⟩]
  | 2 => v = .agg #[.int .i64 1, .string ⟨#[120]⟩]
  | 3 => v = .agg #[.int .i64 1, .string ⟨#[120]⟩]
  | 4 => v = .agg #[.int .i64 1, .string ⟨#[120]⟩]
  | 5 => SlW 5 (wrongH A 0) v w
  | 6 => v = .agg P.cs
  | 7 => DgW 5 (wrongH A 0) P v w
  | 8 => v = .agg #[.int .i64 4, .string ⟨#[97]⟩]
  | 9 => SlW 1 (wrongH A 1) v w
  | 10 => v = .agg P.cs
  | 11 => DgW 1 (wrongH A 1) P v w
  | 12 => v = .agg #[.int .i64 0, .string ⟨#[]⟩]
  | 13 => SlW 1 (wrongH A 2) v w
  | 14 => v = .agg P.cs
  | 15 => DgW 1 (wrongH A 2) P v w
  | 16 => v = .string ⟨A.toArray⟩
  | 17 => v = .agg #[.int .i64 0, .string ⟨A.toArray⟩]
  | 18 => SlW 1 (wrongH A 3) v w
  | 19 => v = .agg P.cs
  | 20 => DgW 1 (wrongH A 3) P v w
  | 21 => v = .agg (wrongW P D 4).cs
  | 22 => v = .agg (dgCs (.slice none 0 0) (wrongW P D 4))
  | 23 => v = .string ⟨D.toArray⟩
  | 24 => v = .agg (wrongW P D 5).cs
  | 25 => v = .agg (dgCs (.slice none 0 0) (wrongW P D 5))
  | _ => AllW P A D v w
theorem SlW.below {n : Nat} {hs : List Hp} {v : Value} {w w' : World} (h : SlW n hs v w) (hb : Below w.heap.size w w') : SlW n hs v w' := by
  obtain ⟨b, e, h⟩ := h
  exact ⟨b, e, h.below hb⟩
theorem DgW.below {n : Nat} {hs : List Hp} {P : Ms} {v : Value} {w w' : World} (h : DgW n hs P v w) (hb : Below w.heap.size w w') : DgW n hs P v w' := by
  obtain ⟨b, e, h⟩ := h
  exact ⟨b, e, h.below hb⟩
theorem AllW.below {P : Ms} {A D : List UInt8} {v : Value} {w w' : World} (h : AllW P A D v w) (hb : Below w.heap.size w w') : AllW P A D v w' := by
  obtain ⟨b, b0, b1, b2, b3, e, h1, h2⟩ := h
  exact ⟨b, b0, b1, b2, b3, e, h1.below hb h1.lt, fun k hk => (h2 k hk).below hb⟩
theorem PhiW.below {P : Ms} {A D : List UInt8} {i : Nat} {v : Value} {w w' : World} (h : PhiW P A D i v w) (hb : Below w.heap.size w w') : PhiW P A D i v w' := by
  unfold PhiW at h ⊢
  split at h <;> first | exact h | exact SlW.below h hb | exact DgW.below h hb | exact AllW.below h hb
def updW (x : Nat → Value) (i : Nat) (v : Value) (j : Nat) : Value := if j = i then v else x j
def putW (a : Act) (x : Nat → Value) : Act := { a with tmps := ((((((((((((((((((((((((((((a.tmps.setIfInBounds 30 (x 0)).setIfInBounds 31 (x 1)).setIfInBounds 32 (x 2)).setIfInBounds 33 (x 3)).setIfInBounds 34 (x 4)).setIfInBounds 35 (x 5)).setIfInBounds 36 (x 6)).setIfInBounds 37 (x 7)).setIfInBounds 38 (x 8)).setIfInBounds 39 (x 9)).setIfInBounds 40 (x 10)).setIfInBounds 41 (x 11)).setIfInBounds 42 (x 12)).setIfInBounds 43 (x 13)).setIfInBounds 44 (x 14)).setIfInBounds 45 (x 15)).setIfInBounds 46 (x 16)).setIfInBounds 47 (x 17)).setIfInBounds 48 (x 18)).setIfInBounds 49 (x 19)).setIfInBounds 50 (x 20)).setIfInBounds 51 (x 21)).setIfInBounds 52 (x 22)).setIfInBounds 53 (x 23)).setIfInBounds 54 (x 24)).setIfInBounds 55 (x 25)).setIfInBounds 56 (x 26)).setIfInBounds 3 (x 27)) }
def InvN (P : Ms) (A D : List UInt8) (W4 : World) (a0 : Act) (L : Array Bool) (a : Act) (w : World) : Prop := ∃ x, a = putW a0 x ∧ Below W4.heap.size W4 w ∧ ∀ i, i < 28 → L.getD i false = true → PhiW P A D i (x i) w
/-- An operation has come up. -/
theorem InvN.next {P : Ms} {A D : List UInt8} {W4 : World} {a0 : Act} {L : Array Bool} {a' : Act} {x : Nat → Value} {w w' : World} (i : Nat) (v : Value) (hB : Below W4.heap.size W4 w) (hΦ : ∀ i, i < 28 → L.getD i false = true → PhiW P A D i (x i) w) (hb : Below w.heap.size w w')
    (ha : a' = putW a0 (updW x i v)) (hv : PhiW P A D i v w') : InvN P A D W4 a0 (L.setIfInBounds i true) a' w' := by
  refine ⟨_, ha, hB.trans (hb.mono hB.size), fun j hj hl => ?_⟩
  unfold updW
  by_cases hji : j = i
  · rw [if_pos hji, hji]; exact hv
  · rw [if_neg hji]
    refine (hΦ j hj ?_).below hb
    have e : (L.setIfInBounds i true).getD j false = L.getD j false := by
      simp only [Array.getD_eq_getD_getElem?]
      rw [Array.getElem?_setIfInBounds_ne (Ne.symm hji)]
    rw [← e]; exact hl
theorem upd_same {x : Nat → Value} {j : Nat} {u : Value} (e : x j = u) : updW x j u = x := by
  funext k
  unfold updW
  by_cases h : k = j
  · rw [if_pos h, h, e]
  · rw [if_neg h]
theorem upd1 {x : Nat → Value} {j1 : Nat} {u1 : Value} (e1 : x j1 = u1) : updW x j1 u1 = x := by rw [upd_same e1]
theorem upd2 {x : Nat → Value} {j1 : Nat} {u1 : Value} {j2 : Nat} {u2 : Value} (e1 : x j1 = u1) (e2 : x j2 = u2) : updW (updW x j1 u1) j2 u2 = x := by rw [upd_same e1, upd_same e2]
theorem upd5 {x : Nat → Value} {j1 : Nat} {u1 : Value} {j2 : Nat} {u2 : Value} {j3 : Nat} {u3 : Value} {j4 : Nat} {u4 : Value} {j5 : Nat} {u5 : Value} (e1 : x j1 = u1) (e2 : x j2 = u2) (e3 : x j3 = u3) (e4 : x j4 = u4) (e5 : x j5 = u5) : updW (updW (updW (updW (updW x j1 u1) j2 u2) j3 u3) j4 u4) j5 u5 = x := by rw [upd_same e1, upd_same e2, upd_same e3, upd_same e4, upd_same e5]
theorem upd6 {x : Nat → Value} {j1 : Nat} {u1 : Value} {j2 : Nat} {u2 : Value} {j3 : Nat} {u3 : Value} {j4 : Nat} {u4 : Value} {j5 : Nat} {u5 : Value} {j6 : Nat} {u6 : Value} (e1 : x j1 = u1) (e2 : x j2 = u2) (e3 : x j3 = u3) (e4 : x j4 = u4) (e5 : x j5 = u5) (e6 : x j6 = u6) : updW (updW (updW (updW (updW (updW x j1 u1) j2 u2) j3 u3) j4 u4) j5 u5) j6 u6 = x := by rw [upd_same e1, upd_same e2, upd_same e3, upd_same e4, upd_same e5, upd_same e6]
/-- An operation has come up; what it read is told. -/
theorem InvN.nextX {P : Ms} {A D : List UInt8} {W4 : World} {a0 : Act} {L : Array Bool} {a' : Act} {x y : Nat → Value} {w w' : World} (i : Nat) (v : Value) (hB : Below W4.heap.size W4 w) (hΦ : ∀ i, i < 28 → L.getD i false = true → PhiW P A D i (x i) w) (hb : Below w.heap.size w w')
    (hy : y = x) (ha : a' = putW a0 (updW y i v)) (hv : PhiW P A D i v w') : InvN P A D W4 a0 (L.setIfInBounds i true) a' w' := InvN.next i v hB hΦ hb (by rw [hy] at ha; exact ha) hv
theorem wpOp_go {P : Program} {ops : Array Oper} {Q : Exit → Act → World → Prop} {i : Nat} {o : Oper} {K : Act → World → Prop} {a : Act} {w : World} (ho : ops[i]? = some o) (hg : o.guard = none)
    (h : ∀ K' : Act → World → Prop, (∀ a' w', K a' w' → K' a' w') → Oper.wp P o a w K' Q) : wpOp P ops Q i K a w := by
  unfold wpOp
  rw [ho]
  have hw : Region.wanted o (yielded ops a.tmps) = true := by simp [Region.wanted, hg]
  simp only [hw, if_true]
  exact .inl (h K fun _ _ h => h)
theorem hops5 (A : List UInt8) : (#[.int .i64 1, .string ⟨#[120]⟩, .int .i64 1, .string ⟨#[120]⟩, .int .i64 1, .string ⟨#[120]⟩, .int .i64 1, .string ⟨#[120]⟩, .int .i64 1, .string ⟨#[120]⟩] : Array Value).toList = hopCells (wrongH A 0) := rfl
theorem after_new {A B : World} (o : Obj) (hb : Below A.drew.heap.size A.drew B) : Below A.heap.size A (B.alloc o) := below_al (below_stp (below_grown (quiet_grown ⟨1, rfl⟩ none)) hb) o
theorem after_row {A B : World} {C : Array Value} {t : TypeId} (C' : Array Value) (hb : Below ((A.alloc (.cells C t (0, 0))).drew).heap.size ((A.alloc (.cells C t (0, 0))).drew) B) : Below A.heap.size A (B.setRow A.heap.size C') := below_row (new_below hb) (Nat.le_refl _) C'
theorem drew_stp {A B : World} (hb : Below A.drew.heap.size A.drew B) : Below A.heap.size A B := below_stp (below_grown (quiet_grown ⟨1, rfl⟩ none)) hb
/-- What stands behind the list of invalid datagrams. -/
def GN (w : World) (P : Ms) (A D : List UInt8) (bl b b0 b1 b2 b3 : Nat) (W : World) : Prop :=
  Below w.heap.size w W ∧ Obj? W bl #[.int .i64 4096, .int .i64 6] 56 ∧ Obj? W (bl + 1) #[.int .i64 1, .string ⟨#[120]⟩] 49 ∧ Obj? W b (flatW P D b0 b1 b2 b3) 45 ∧ ∀ k, k < 6 → HopsAt W (wrongV b0 b1 b2 b3 k) (wrongH A k)
theorem GN.below {w : World} {P : Ms} {A D : List UInt8} {bl b b0 b1 b2 b3 : Nat} {W W' : World} (h : GN w P A D bl b b0 b1 b2 b3 W) (hb : Below W.heap.size W W') : GN w P A D bl b b0 b1 b2 b3 W' :=
  ⟨h.1.trans (hb.mono h.1.size), h.2.1.below hb h.2.1.lt, h.2.2.1.below hb h.2.2.1.lt, h.2.2.2.1.below hb h.2.2.2.1.lt, fun k hk => (h.2.2.2.2 k hk).below hb⟩
theorem wrongW_small {P : Ms} {D : List UInt8} (h : D.length = 4095 ∧ P.name.length = 0 ∧ P.data.length = 0) (k : Nat) : ((wrongW P D k).name.length : Int) ≤ 100000 ∧ ((wrongW P D k).data.length : Int) ≤ 100000 := by
  obtain ⟨h1, h2, h3⟩ := h
  unfold wrongW
  split <;> simp [h1, h2, h3]
def wantNA : Array Value := #[.int .i64 12, .int .i64 2, .int .i64 2, .int .i64 2, .int .i64 8, .int .i64 4]
theorem wantNA_at (k : Nat) (h : k < 6) : wantNA[k]? = some (.int .i64 (wantW k)) := by
  match k, h with
  | 0, _ => rfl
  | 1, _ => rfl
  | 2, _ => rfl
  | 3, _ => rfl
  | 4, _ => rfl
  | 5, _ => rfl
def badNA : Array Value := #[.string ⟨#[]⟩, .string ⟨#[4, 254, 1, 120]⟩, .string ⟨#[4, 254, 1, 120, 4, 254, 1, 120, 4, 254, 1, 120, 4, 254, 1, 120, 4, 254, 1, 120, 2, 23]⟩, .string ⟨#[3, 254, 0, 2, 23]⟩, .string ⟨#[4, 254, 4, 120, 2, 23]⟩, .string ⟨#[5, 254, 0, 97]⟩, .string ⟨#[2, 23, 0]⟩, .string ⟨#[36, 254, 0]⟩]
def toldNA : Array Value := #[.int .i64 3, .int .i64 3, .int .i64 12, .int .i64 5, .int .i64 5, .int .i64 3, .int .i64 5, .int .i64 5]
theorem badNA_at (k : Nat) (h : k < 8) : badNA[k]? = some (.string ⟨(badW k).toArray⟩) ∧ toldNA[k]? = some (.int .i64 (toldW k)) := by
  match k, h with
  | 0, _ => exact ⟨rfl, rfl⟩
  | 1, _ => exact ⟨rfl, rfl⟩
  | 2, _ => exact ⟨rfl, rfl⟩
  | 3, _ => exact ⟨rfl, rfl⟩
  | 4, _ => exact ⟨rfl, rfl⟩
  | 5, _ => exact ⟨rfl, rfl⟩
  | 6, _ => exact ⟨rfl, rfl⟩
  | 7, _ => exact ⟨rfl, rfl⟩
theorem badW_len (k : Nat) : (badW k).length ≤ 22 := by unfold badW; split <;> decide
/-- What the orders of a round keep. -/
abbrev SZ (w : World) (P : Ms) (A D : List UInt8) (bl b b0 b1 b2 b3 bw k : Nat) (c : Array Value) (e : Int) (W : World) : Prop :=
  Hid (GN w P A D bl b b0 b1 b2 b3 W ∧ Obj? W bw wantNA 28) ∧ (rowSem 45 ⟨b, k * 17, none⟩).run Tryz.prog W = .ok (.agg c) W ∧ (∀ j, W.cell? ⟨bl, j, none⟩ = (#[.int .i64 4096, .int .i64 6] : Array Value)[j]?) ∧ W.cell? ⟨bw, k, none⟩ = some (.int .i64 e)
theorem sZ_mk {w : World} {P : Ms} {A D : List UInt8} {bl b b0 b1 b2 b3 bw k : Nat} {W : World} (hk : k < 6) (h : GN w P A D bl b b0 b1 b2 b3 W ∧ Obj? W bw wantNA 28) : SZ w P A D bl b b0 b1 b2 b3 bw k (dgCs (wrongV b0 b1 b2 b3 k) (wrongW P D k)) (wantW k) W :=
  ⟨Lib.hid h, rowD_at (c := fun k => dgCs (wrongV b0 b1 b2 b3 k) (wrongW P D k)) h.1.2.2.2.1 (fun k => rfl) k hk, h.1.2.1.cells, h.2.cell _ _ (wantNA_at k hk)⟩
theorem sZ_step {w : World} {P : Ms} {A D : List UInt8} {bl b b0 b1 b2 b3 bw k : Nat} {W W' : World} (hk : k < 6) (h : Hid (GN w P A D bl b b0 b1 b2 b3 W ∧ Obj? W bw wantNA 28)) (hb : Below W.heap.size W W') : SZ w P A D bl b b0 b1 b2 b3 bw k (dgCs (wrongV b0 b1 b2 b3 k) (wrongW P D k)) (wantW k) W' :=
  sZ_mk hk ⟨h.out.1.below hb, h.out.2.below hb h.out.2.lt⟩
/-- What the second loop keeps. -/
def JN (w : World) (P : Ms) (A D : List UInt8) (bl b b0 b1 b2 b3 bs : Nat) (W : World) : Prop := GN w P A D bl b b0 b1 b2 b3 W ∧ Obj? W bs badNA 9 ∧ Obj? W (bs + 1) toldNA 28
theorem JN.below {w : World} {P : Ms} {A D : List UInt8} {bl b b0 b1 b2 b3 bs : Nat} {W W' : World} (h : JN w P A D bl b b0 b1 b2 b3 bs W) (hb : Below W.heap.size W W') : JN w P A D bl b b0 b1 b2 b3 bs W' :=
  ⟨h.1.below hb, h.2.1.below hb h.2.1.lt, h.2.2.below hb h.2.2.lt⟩
/-- A datagram that was made. -/
def GotN (wr : World) (b10 : Nat) (vx : Value) (H1 : List Hp) (M1 : Ms) (wx : World) : Prop :=
  Obj? wx b10 (dgCs vx M1) 45 ∧ HopsAt wx vx H1 ∧ CapOk vx ∧ Below wr.heap.size wr wx
theorem gotN_new {wr w7 : World} {n : Nat} {vx : Value} {H1 : List Hp} {M1 : Ms} (hH : HopsAt w7 vx H1) (hr : w7.ownsRow n 49 2 vx H1.length (hopCells H1)) (hb : Below wr.heap.size wr w7) : GotN wr w7.heap.size vx H1 M1 (w7.alloc (.cells (dgCs vx M1) 45 (0, 0))) :=
  ⟨Obj?.new _ _ _, hH.below (below_al (Below.refl _ _) _), cap_of_row hr, below_al hb _⟩
theorem gotN_old {wr w7 : World} {n b : Nat} {C : Array Value} {vx : Value} {H1 : List Hp} {M1 : Ms} (hO : Obj? w7 b C 45) (hH : HopsAt w7 vx H1) (hr : w7.ownsRow n 49 2 vx H1.length (hopCells H1)) (hn : b < n) (hwb : wr.heap.size ≤ b) (hb : Below wr.heap.size wr w7) : GotN wr b vx H1 M1 (w7.setRow b (dgCs vx M1)) := by
  have hrow := row_far hr (setRow_grown w7 b (dgCs vx M1)) (fun j e => by obtain rfl := Option.some.inj e; omega)
  exact ⟨hO.setRow _, hopsat_of_row hrow hH.small.1 hH.small.2, cap_of_row hr, below_row hb hwb _⟩
theorem GotN.below {wr : World} {b10 : Nat} {vx : Value} {H1 : List Hp} {M1 : Ms} {A B : World} (h : GotN wr b10 vx H1 M1 A) (hb : Below A.heap.size A B) : GotN wr b10 vx H1 M1 B :=
  ⟨h.1.below hb h.1.lt, h.2.1.below hb, h.2.2.1, h.2.2.2.trans (hb.mono h.2.2.2.size)⟩
theorem eql_hx (w : World) : (binOp .eql 49 (.agg #[.int .i64 1, .string ⟨#[120]⟩]) (.agg #[.int .i64 1, .string ⟨#[120]⟩])).run Tryz.prog w = .ok (.bool true) w := by
  go_simp
/-- What stands behind the datagrams that were made. -/
def FN (w : World) (P : Ms) (A D : List UInt8) (bl b b0 b1 b2 b3 b12 b14 : Nat) (v12 v15 : Value) (W : World) : Prop :=
  GN w P A D bl b b0 b1 b2 b3 W ∧ Obj? W b12 (dgCs v12 P) 45 ∧ HopsAt W v12 [hx1] ∧ Obj? W b14 #[.int .i64 1, .string ⟨#[120]⟩] 49 ∧ Obj? W (b14 + 1) (dgCs v15 P) 45 ∧ HopsAt W v15 []
theorem FN.below {w : World} {P : Ms} {A D : List UInt8} {bl b b0 b1 b2 b3 b12 b14 : Nat} {v12 v15 : Value} {W W' : World} (h : FN w P A D bl b b0 b1 b2 b3 b12 b14 v12 v15 W) (hb : Below W.heap.size W W') : FN w P A D bl b b0 b1 b2 b3 b12 b14 v12 v15 W' :=
  ⟨h.1.below hb, h.2.1.below hb h.2.1.lt, h.2.2.1.below hb, h.2.2.2.1.below hb h.2.2.2.1.lt, h.2.2.2.2.1.below hb h.2.2.2.2.1.lt, h.2.2.2.2.2.below hb⟩
/-- What the orders of the last region keep. -/
abbrev SE (w : World) (P : Ms) (A D : List UInt8) (bl b b0 b1 b2 b3 b12 b14 : Nat) (v12 v15 : Value) (W : World) : Prop :=
  Hid (FN w P A D bl b b0 b1 b2 b3 b12 b14 v12 v15 W) ∧ (rowSem 45 ⟨b12, 0, none⟩).run Tryz.prog W = .ok (.agg (dgCs v12 P)) W ∧ (rowSem 45 ⟨b14 + 1, 0, none⟩).run Tryz.prog W = .ok (.agg (dgCs v15 P)) W ∧ (∀ j, W.cell? ⟨b14, j, none⟩ = (#[.int .i64 1, .string ⟨#[120]⟩] : Array Value)[j]?) ∧ (∀ j, W.cell? ⟨bl + 1, j, none⟩ = (#[.int .i64 1, .string ⟨#[120]⟩] : Array Value)[j]?)
theorem sE_mk {w : World} {P : Ms} {A D : List UInt8} {bl b b0 b1 b2 b3 b12 b14 : Nat} {v12 v15 : Value} {W : World} (h : FN w P A D bl b b0 b1 b2 b3 b12 b14 v12 v15 W) : SE w P A D bl b b0 b1 b2 b3 b12 b14 v12 v15 W :=
  ⟨Lib.hid h, load_dg h.2.1, load_dg h.2.2.2.2.1, h.2.2.2.1.cells, h.1.2.2.1.cells⟩
theorem sE_step {w : World} {P : Ms} {A D : List UInt8} {bl b b0 b1 b2 b3 b12 b14 : Nat} {v12 v15 : Value} {W W' : World} (h : Hid (FN w P A D bl b b0 b1 b2 b3 b12 b14 v12 v15 W)) (hb : Below W.heap.size W W') : SE w P A D bl b b0 b1 b2 b3 b12 b14 v12 v15 W' := sE_mk (h.out.below hb)
attribute [local go_sem ↓] six_bs
attribute [local irreducible] sixBs
set_option maxRecDepth 100000 in
set_option maxHeartbeats 6400000 in
theorem snwrapNames_walk (w : World) (hm : Mx w) :
    Calls Tryz.prog 6 #[] w fun e w' => e = .returned (.bool true) ∧ Below w.heap.size w w' := by
  have HL := Lib.hid lives23
  have HM := Lib.hid hm
  have HLm := Lib.hid limits_any
  obtain ⟨P, hP⟩ : ∃ P, P = pongM := ⟨_, rfl⟩
  obtain ⟨A, hA⟩ : ∃ A, A = rep 33 [97] := ⟨_, rfl⟩
  obtain ⟨D, hD⟩ : ∃ D, D = rep 4095 [97] := ⟨_, rfl⟩
  have HPo := Lib.hid pong_any
  have HT1 := Lib.hid (show ∀ w : World, Calls Tryz.prog 34 #[.string ⟨#[97]⟩, .int .i64 33] w fun e w' => e = .returned (.string ⟨(rep 33 [97]).toArray⟩) ∧ w = w' from fun w => times_any [97] 33 (by decide) (by decide) w)
  have HT2 := Lib.hid (show ∀ w : World, Calls Tryz.prog 34 #[.string ⟨#[97]⟩, .int .i64 4095] w fun e w' => e = .returned (.string ⟨(rep 4095 [97]).toArray⟩) ∧ w = w' from fun w => times_any [97] 4095 (by decide) (by decide) w)
  have HWA := Lib.hid (fun k (hk : k < 6) => (show (wrapB (wrongH A k) (wrongW P D k) 4096 6).2 = wantW k by rw [hA, hD, hP]; exact wrongW_any k hk))
  have HSMl := Lib.hid (show A.length = 33 ∧ D.length = 4095 ∧ P.name.length = 0 ∧ P.data.length = 0 by rw [hA, hD, hP]; exact ⟨rep_len1 _ _, rep_len1 _ _, rfl, rfl⟩)
  have HWS := Lib.hid (wrongH_small HSMl.out.1)
  rw [← hP] at HPo
  rw [← hA] at HT1
  rw [← hD] at HT2
  unfold Ms.cs at HPo
  clear hm hA hD hP
  go_enter Tryz.func6, Tryz.ntmps6
  refine wp_hide fun Q1 hQ1 => ?_
  have HQ1 := Lib.hid hQ1
  clear hQ1
  go_wp2_with fail
  refine (HL.out _ HM.out).mono ?_
  rintro r w1 ⟨rfl, hb⟩
  have HB1 := Lib.hid hb
  clear hb
  go_wp2_with fail
  refine (HLm.out _).mono ?_
  rintro r w2 ⟨rfl, hb⟩
  have HB2 := Lib.hid (HB1.out.trans (hb.mono HB1.out.size))
  clear hb
  go_upto_region 5 with fail
  obtain ⟨W4, hW4⟩ : ∃ W4, W4 = (w2.alloc (.cells #[.int .i64 4096, .int .i64 6] 56 (0, 0))).alloc (.cells #[.int .i64 1, .string ⟨#[120]⟩] 49 (0, 0)) := ⟨_, rfl⟩
  have OL4 : Obj? W4 w2.heap.size #[.int .i64 4096, .int .i64 6] 56 := by rw [hW4]; exact (Obj?.new w2 _ _).alloc _
  have OH4 : Obj? W4 (w2.heap.size + 1) #[.int .i64 1, .string ⟨#[120]⟩] 49 := by
    have := Obj?.new (w2.alloc (.cells #[.int .i64 4096, .int .i64 6] 56 (0, 0))) #[.int .i64 1, .string ⟨#[120]⟩] 49
    rw [World.size_alloc] at this
    rw [hW4]; exact this
  have hB4 : Below w.heap.size w W4 := by rw [hW4]; exact below_al (below_al HB2.out _) _
  rw [← hW4]
  clear hW4
  obtain ⟨bl, hbl⟩ : ∃ b, b = w2.heap.size := ⟨_, rfl⟩
  rw [← hbl] at OL4 OH4
  rw [← hbl]
  clear hbl
  have HB4 := Lib.hid (And.intro hB4 (And.intro OL4 OH4))
  have HSF := Lib.hid (show ∀ W, Below W4.heap.size W4 W → Below W4.heap.size W4 W ∧ (∀ j, W.cell? ⟨bl + 1, j, none⟩ = (#[.int .i64 1, .string ⟨#[120]⟩] : Array Value)[j]?) from fun W hW => ⟨hW, (OH4.below hW OH4.lt).cells⟩)
  have hS0 := HSF.out W4 (Below.refl _ _)
  have hS1 := HSF.out W4.drew (below_grown (quiet_grown ⟨1, rfl⟩ none))
  have HPa := HPo
  have HPb := HPo
  have HPc := HPo
  have HPd := HPo
  clear OL4 OH4 hB4 HB1 HB2 HL HLm
  go_cut [3] from 30 to 56 (fun (v : Value) (wx : World) => ∃ b b0 b1 b2 b3 : Nat, v = .slice (some ⟨b, 0, none⟩) 6 6 ∧ Hid (Below W4.heap.size W4 wx ∧ Obj? wx b (flatW P D b0 b1 b2 b3) 45 ∧ ∀ k, k < 6 → HopsAt wx (wrongV b0 b1 b2 b3 k) (wrongH A k)))
  case first =>
    refine region_inv_at rfl (by kernel_rfl) (InvN P A D W4) ?_ ?_ ?_
    · exact ⟨fun i => match i with | 27 => undef | _ => undef, by kernel_rfl, below_grown (quiet_grown ⟨1, rfl⟩ none), fun i hi h => absurd h (by rw [getD_repl]; decide)⟩
    · rintro L a w ⟨x, rfl, hB, hΦ⟩ i o ho hd
      have hlt : i < 28 := (Array.getElem?_eq_some_iff.1 ho).1
      simp only [putW, List.setIfInBounds_toArray, List.set_cons_zero, List.set_cons_succ]
      have hcase : i = 0 ∨ i = 1 ∨ i = 2 ∨ i = 3 ∨ i = 4 ∨ i = 5 ∨ i = 6 ∨ i = 7 ∨ i = 8 ∨ i = 9 ∨ i = 10 ∨ i = 11 ∨ i = 12 ∨ i = 13 ∨ i = 14 ∨ i = 15 ∨ i = 16 ∨ i = 17 ∨ i = 18 ∨ i = 19 ∨ i = 20 ∨ i = 21 ∨ i = 22 ∨ i = 23 ∨ i = 24 ∨ i = 25 ∨ i = 26 ∨ i = 27 := by omega
      rcases hcase with rfl | rfl | rfl | rfl | rfl | rfl | rfl | rfl | rfl | rfl | rfl | rfl | rfl | rfl | rfl | rfl | rfl | rfl | rfl | rfl | rfl | rfl | rfl | rfl | rfl | rfl | rfl | rfl
      all_goals
        have ho' := ho
        simp only [List.getElem?_toArray, List.getElem?_cons_zero, List.getElem?_cons_succ, Option.some.injEq] at ho'
        subst ho'
        refine wpOp_go ho rfl (fun K' hK => ?_)
        have HK := Lib.hid hK
        clear hK ho hlt
      · have kc := (HB4.out.2.2.below hB HB4.out.2.2.lt).cells
        go_simp
        refine HK.out _ _ (InvN.nextX 0 _ hB hΦ (Below.refl _ _) rfl ?_ rfl)
        kernel_rfl
      · have kc := (HB4.out.2.2.below hB HB4.out.2.2.lt).cells
        go_simp
        refine HK.out _ _ (InvN.nextX 1 _ hB hΦ (Below.refl _ _) rfl ?_ rfl)
        kernel_rfl
      · have kc := (HB4.out.2.2.below hB HB4.out.2.2.lt).cells
        go_simp
        refine HK.out _ _ (InvN.nextX 2 _ hB hΦ (Below.refl _ _) rfl ?_ rfl)
        kernel_rfl
      · have kc := (HB4.out.2.2.below hB HB4.out.2.2.lt).cells
        go_simp
        refine HK.out _ _ (InvN.nextX 3 _ hB hΦ (Below.refl _ _) rfl ?_ rfl)
        kernel_rfl
      · have kc := (HB4.out.2.2.below hB HB4.out.2.2.lt).cells
        go_simp
        refine HK.out _ _ (InvN.nextX 4 _ hB hΦ (Below.refl _ _) rfl ?_ rfl)
        kernel_rfl
      · have e0 := hΦ 0 (by decide) (by first | exact hd _ (Array.getElem_mem (i := 0) (by decide)) rfl | exact hd _ (Array.getElem_mem (i := 1) (by decide)) rfl | exact hd _ (Array.getElem_mem (i := 2) (by decide)) rfl | exact hd _ (Array.getElem_mem (i := 3) (by decide)) rfl | exact hd _ (Array.getElem_mem (i := 4) (by decide)) rfl | exact hd _ (Array.getElem_mem (i := 5) (by decide)) rfl | exact hd _ (Array.getElem_mem (i := 6) (by decide)) rfl | exact hd _ (Array.getElem_mem (i := 7) (by decide)) rfl)
        have e1 := hΦ 1 (by decide) (by first | exact hd _ (Array.getElem_mem (i := 0) (by decide)) rfl | exact hd _ (Array.getElem_mem (i := 1) (by decide)) rfl | exact hd _ (Array.getElem_mem (i := 2) (by decide)) rfl | exact hd _ (Array.getElem_mem (i := 3) (by decide)) rfl | exact hd _ (Array.getElem_mem (i := 4) (by decide)) rfl | exact hd _ (Array.getElem_mem (i := 5) (by decide)) rfl | exact hd _ (Array.getElem_mem (i := 6) (by decide)) rfl | exact hd _ (Array.getElem_mem (i := 7) (by decide)) rfl)
        have e2 := hΦ 2 (by decide) (by first | exact hd _ (Array.getElem_mem (i := 0) (by decide)) rfl | exact hd _ (Array.getElem_mem (i := 1) (by decide)) rfl | exact hd _ (Array.getElem_mem (i := 2) (by decide)) rfl | exact hd _ (Array.getElem_mem (i := 3) (by decide)) rfl | exact hd _ (Array.getElem_mem (i := 4) (by decide)) rfl | exact hd _ (Array.getElem_mem (i := 5) (by decide)) rfl | exact hd _ (Array.getElem_mem (i := 6) (by decide)) rfl | exact hd _ (Array.getElem_mem (i := 7) (by decide)) rfl)
        have e3 := hΦ 3 (by decide) (by first | exact hd _ (Array.getElem_mem (i := 0) (by decide)) rfl | exact hd _ (Array.getElem_mem (i := 1) (by decide)) rfl | exact hd _ (Array.getElem_mem (i := 2) (by decide)) rfl | exact hd _ (Array.getElem_mem (i := 3) (by decide)) rfl | exact hd _ (Array.getElem_mem (i := 4) (by decide)) rfl | exact hd _ (Array.getElem_mem (i := 5) (by decide)) rfl | exact hd _ (Array.getElem_mem (i := 6) (by decide)) rfl | exact hd _ (Array.getElem_mem (i := 7) (by decide)) rfl)
        have e4 := hΦ 4 (by decide) (by first | exact hd _ (Array.getElem_mem (i := 0) (by decide)) rfl | exact hd _ (Array.getElem_mem (i := 1) (by decide)) rfl | exact hd _ (Array.getElem_mem (i := 2) (by decide)) rfl | exact hd _ (Array.getElem_mem (i := 3) (by decide)) rfl | exact hd _ (Array.getElem_mem (i := 4) (by decide)) rfl | exact hd _ (Array.getElem_mem (i := 5) (by decide)) rfl | exact hd _ (Array.getElem_mem (i := 6) (by decide)) rfl | exact hd _ (Array.getElem_mem (i := 7) (by decide)) rfl)
        simp only [PhiW] at e0 e1 e2 e3 e4
        go_simp
        refine HK.out _ _ (InvN.nextX 5 _ hB hΦ (below_al (Below.refl _ _) _) (upd5 e0 e1 e2 e3 e4) ?_ ⟨_, rfl, hops_lit (hops5 A) rfl (by decide) (HWS.out 0)⟩)
        kernel_rfl
      · go_simp
        go_at_call 33
        refine (HPo.out _).mono ?_
        rintro e w1 ⟨rfl, hb⟩
        (try dsimp only)
        refine HK.out _ _ (InvN.nextX 6 _ hB hΦ hb rfl ?_ rfl)
        kernel_rfl
      · have e1 := hΦ 5 (by decide) (by first | exact hd _ (Array.getElem_mem (i := 0) (by decide)) rfl | exact hd _ (Array.getElem_mem (i := 1) (by decide)) rfl | exact hd _ (Array.getElem_mem (i := 2) (by decide)) rfl | exact hd _ (Array.getElem_mem (i := 3) (by decide)) rfl | exact hd _ (Array.getElem_mem (i := 4) (by decide)) rfl | exact hd _ (Array.getElem_mem (i := 5) (by decide)) rfl | exact hd _ (Array.getElem_mem (i := 6) (by decide)) rfl | exact hd _ (Array.getElem_mem (i := 7) (by decide)) rfl)
        have e2 := hΦ 6 (by decide) (by first | exact hd _ (Array.getElem_mem (i := 0) (by decide)) rfl | exact hd _ (Array.getElem_mem (i := 1) (by decide)) rfl | exact hd _ (Array.getElem_mem (i := 2) (by decide)) rfl | exact hd _ (Array.getElem_mem (i := 3) (by decide)) rfl | exact hd _ (Array.getElem_mem (i := 4) (by decide)) rfl | exact hd _ (Array.getElem_mem (i := 5) (by decide)) rfl | exact hd _ (Array.getElem_mem (i := 6) (by decide)) rfl | exact hd _ (Array.getElem_mem (i := 7) (by decide)) rfl)
        obtain ⟨b, e1, h1⟩ := e1
        simp only [PhiW] at e2
        unfold Ms.cs at e2
        go_simp
        refine HK.out _ _ (InvN.nextX 7 _ hB hΦ (Below.refl _ _) (upd2 e1 e2) ?_ ⟨b, rfl, h1⟩)
        kernel_rfl
      · go_simp
        refine HK.out _ _ (InvN.nextX 8 _ hB hΦ (Below.refl _ _) rfl ?_ rfl)
        kernel_rfl
      · have e1 := hΦ 8 (by decide) (by first | exact hd _ (Array.getElem_mem (i := 0) (by decide)) rfl | exact hd _ (Array.getElem_mem (i := 1) (by decide)) rfl | exact hd _ (Array.getElem_mem (i := 2) (by decide)) rfl | exact hd _ (Array.getElem_mem (i := 3) (by decide)) rfl | exact hd _ (Array.getElem_mem (i := 4) (by decide)) rfl | exact hd _ (Array.getElem_mem (i := 5) (by decide)) rfl | exact hd _ (Array.getElem_mem (i := 6) (by decide)) rfl | exact hd _ (Array.getElem_mem (i := 7) (by decide)) rfl)
        simp only [PhiW] at e1
        go_simp
        refine HK.out _ _ (InvN.nextX 9 _ hB hΦ (below_al (Below.refl _ _) _) (upd1 e1) ?_ ⟨_, rfl, hops_lit rfl rfl (by decide) (HWS.out 1)⟩)
        kernel_rfl
      · go_simp
        go_at_call 33
        refine (HPo.out _).mono ?_
        rintro e w1 ⟨rfl, hb⟩
        (try dsimp only)
        refine HK.out _ _ (InvN.nextX 10 _ hB hΦ hb rfl ?_ rfl)
        kernel_rfl
      · have e1 := hΦ 9 (by decide) (by first | exact hd _ (Array.getElem_mem (i := 0) (by decide)) rfl | exact hd _ (Array.getElem_mem (i := 1) (by decide)) rfl | exact hd _ (Array.getElem_mem (i := 2) (by decide)) rfl | exact hd _ (Array.getElem_mem (i := 3) (by decide)) rfl | exact hd _ (Array.getElem_mem (i := 4) (by decide)) rfl | exact hd _ (Array.getElem_mem (i := 5) (by decide)) rfl | exact hd _ (Array.getElem_mem (i := 6) (by decide)) rfl | exact hd _ (Array.getElem_mem (i := 7) (by decide)) rfl)
        have e2 := hΦ 10 (by decide) (by first | exact hd _ (Array.getElem_mem (i := 0) (by decide)) rfl | exact hd _ (Array.getElem_mem (i := 1) (by decide)) rfl | exact hd _ (Array.getElem_mem (i := 2) (by decide)) rfl | exact hd _ (Array.getElem_mem (i := 3) (by decide)) rfl | exact hd _ (Array.getElem_mem (i := 4) (by decide)) rfl | exact hd _ (Array.getElem_mem (i := 5) (by decide)) rfl | exact hd _ (Array.getElem_mem (i := 6) (by decide)) rfl | exact hd _ (Array.getElem_mem (i := 7) (by decide)) rfl)
        obtain ⟨b, e1, h1⟩ := e1
        simp only [PhiW] at e2
        unfold Ms.cs at e2
        go_simp
        refine HK.out _ _ (InvN.nextX 11 _ hB hΦ (Below.refl _ _) (upd2 e1 e2) ?_ ⟨b, rfl, h1⟩)
        kernel_rfl
      · go_simp
        refine HK.out _ _ (InvN.nextX 12 _ hB hΦ (Below.refl _ _) rfl ?_ rfl)
        kernel_rfl
      · have e1 := hΦ 12 (by decide) (by first | exact hd _ (Array.getElem_mem (i := 0) (by decide)) rfl | exact hd _ (Array.getElem_mem (i := 1) (by decide)) rfl | exact hd _ (Array.getElem_mem (i := 2) (by decide)) rfl | exact hd _ (Array.getElem_mem (i := 3) (by decide)) rfl | exact hd _ (Array.getElem_mem (i := 4) (by decide)) rfl | exact hd _ (Array.getElem_mem (i := 5) (by decide)) rfl | exact hd _ (Array.getElem_mem (i := 6) (by decide)) rfl | exact hd _ (Array.getElem_mem (i := 7) (by decide)) rfl)
        simp only [PhiW] at e1
        go_simp
        refine HK.out _ _ (InvN.nextX 13 _ hB hΦ (below_al (Below.refl _ _) _) (upd1 e1) ?_ ⟨_, rfl, hops_lit rfl rfl (by decide) (HWS.out 2)⟩)
        kernel_rfl
      · go_simp
        go_at_call 33
        refine (HPo.out _).mono ?_
        rintro e w1 ⟨rfl, hb⟩
        (try dsimp only)
        refine HK.out _ _ (InvN.nextX 14 _ hB hΦ hb rfl ?_ rfl)
        kernel_rfl
      · have e1 := hΦ 13 (by decide) (by first | exact hd _ (Array.getElem_mem (i := 0) (by decide)) rfl | exact hd _ (Array.getElem_mem (i := 1) (by decide)) rfl | exact hd _ (Array.getElem_mem (i := 2) (by decide)) rfl | exact hd _ (Array.getElem_mem (i := 3) (by decide)) rfl | exact hd _ (Array.getElem_mem (i := 4) (by decide)) rfl | exact hd _ (Array.getElem_mem (i := 5) (by decide)) rfl | exact hd _ (Array.getElem_mem (i := 6) (by decide)) rfl | exact hd _ (Array.getElem_mem (i := 7) (by decide)) rfl)
        have e2 := hΦ 14 (by decide) (by first | exact hd _ (Array.getElem_mem (i := 0) (by decide)) rfl | exact hd _ (Array.getElem_mem (i := 1) (by decide)) rfl | exact hd _ (Array.getElem_mem (i := 2) (by decide)) rfl | exact hd _ (Array.getElem_mem (i := 3) (by decide)) rfl | exact hd _ (Array.getElem_mem (i := 4) (by decide)) rfl | exact hd _ (Array.getElem_mem (i := 5) (by decide)) rfl | exact hd _ (Array.getElem_mem (i := 6) (by decide)) rfl | exact hd _ (Array.getElem_mem (i := 7) (by decide)) rfl)
        obtain ⟨b, e1, h1⟩ := e1
        simp only [PhiW] at e2
        unfold Ms.cs at e2
        go_simp
        refine HK.out _ _ (InvN.nextX 15 _ hB hΦ (Below.refl _ _) (upd2 e1 e2) ?_ ⟨b, rfl, h1⟩)
        kernel_rfl
      · go_simp
        go_at_call 34
        refine (HT1.out _).mono ?_
        rintro e w1 ⟨rfl, rfl⟩
        (try dsimp only)
        refine HK.out _ _ (InvN.nextX 16 _ hB hΦ (Below.refl _ _) rfl ?_ rfl)
        kernel_rfl
      · have e1 := hΦ 16 (by decide) (by first | exact hd _ (Array.getElem_mem (i := 0) (by decide)) rfl | exact hd _ (Array.getElem_mem (i := 1) (by decide)) rfl | exact hd _ (Array.getElem_mem (i := 2) (by decide)) rfl | exact hd _ (Array.getElem_mem (i := 3) (by decide)) rfl | exact hd _ (Array.getElem_mem (i := 4) (by decide)) rfl | exact hd _ (Array.getElem_mem (i := 5) (by decide)) rfl | exact hd _ (Array.getElem_mem (i := 6) (by decide)) rfl | exact hd _ (Array.getElem_mem (i := 7) (by decide)) rfl)
        simp only [PhiW] at e1
        go_simp
        refine HK.out _ _ (InvN.nextX 17 _ hB hΦ (Below.refl _ _) (upd1 e1) ?_ rfl)
        kernel_rfl
      · have e1 := hΦ 17 (by decide) (by first | exact hd _ (Array.getElem_mem (i := 0) (by decide)) rfl | exact hd _ (Array.getElem_mem (i := 1) (by decide)) rfl | exact hd _ (Array.getElem_mem (i := 2) (by decide)) rfl | exact hd _ (Array.getElem_mem (i := 3) (by decide)) rfl | exact hd _ (Array.getElem_mem (i := 4) (by decide)) rfl | exact hd _ (Array.getElem_mem (i := 5) (by decide)) rfl | exact hd _ (Array.getElem_mem (i := 6) (by decide)) rfl | exact hd _ (Array.getElem_mem (i := 7) (by decide)) rfl)
        simp only [PhiW] at e1
        go_simp
        refine HK.out _ _ (InvN.nextX 18 _ hB hΦ (below_al (Below.refl _ _) _) (upd1 e1) ?_ ⟨_, rfl, hops_lit rfl rfl (by decide) (HWS.out 3)⟩)
        kernel_rfl
      · go_simp
        go_at_call 33
        refine (HPo.out _).mono ?_
        rintro e w1 ⟨rfl, hb⟩
        (try dsimp only)
        refine HK.out _ _ (InvN.nextX 19 _ hB hΦ hb rfl ?_ rfl)
        kernel_rfl
      · have e1 := hΦ 18 (by decide) (by first | exact hd _ (Array.getElem_mem (i := 0) (by decide)) rfl | exact hd _ (Array.getElem_mem (i := 1) (by decide)) rfl | exact hd _ (Array.getElem_mem (i := 2) (by decide)) rfl | exact hd _ (Array.getElem_mem (i := 3) (by decide)) rfl | exact hd _ (Array.getElem_mem (i := 4) (by decide)) rfl | exact hd _ (Array.getElem_mem (i := 5) (by decide)) rfl | exact hd _ (Array.getElem_mem (i := 6) (by decide)) rfl | exact hd _ (Array.getElem_mem (i := 7) (by decide)) rfl)
        have e2 := hΦ 19 (by decide) (by first | exact hd _ (Array.getElem_mem (i := 0) (by decide)) rfl | exact hd _ (Array.getElem_mem (i := 1) (by decide)) rfl | exact hd _ (Array.getElem_mem (i := 2) (by decide)) rfl | exact hd _ (Array.getElem_mem (i := 3) (by decide)) rfl | exact hd _ (Array.getElem_mem (i := 4) (by decide)) rfl | exact hd _ (Array.getElem_mem (i := 5) (by decide)) rfl | exact hd _ (Array.getElem_mem (i := 6) (by decide)) rfl | exact hd _ (Array.getElem_mem (i := 7) (by decide)) rfl)
        obtain ⟨b, e1, h1⟩ := e1
        simp only [PhiW] at e2
        unfold Ms.cs at e2
        go_simp
        refine HK.out _ _ (InvN.nextX 20 _ hB hΦ (Below.refl _ _) (upd2 e1 e2) ?_ ⟨b, rfl, h1⟩)
        kernel_rfl
      · go_simp
        refine HK.out _ _ (InvN.nextX 21 _ hB hΦ (Below.refl _ _) rfl ?_ rfl)
        kernel_rfl
      · have e1 := hΦ 21 (by decide) (by first | exact hd _ (Array.getElem_mem (i := 0) (by decide)) rfl | exact hd _ (Array.getElem_mem (i := 1) (by decide)) rfl | exact hd _ (Array.getElem_mem (i := 2) (by decide)) rfl | exact hd _ (Array.getElem_mem (i := 3) (by decide)) rfl | exact hd _ (Array.getElem_mem (i := 4) (by decide)) rfl | exact hd _ (Array.getElem_mem (i := 5) (by decide)) rfl | exact hd _ (Array.getElem_mem (i := 6) (by decide)) rfl | exact hd _ (Array.getElem_mem (i := 7) (by decide)) rfl)
        simp only [PhiW, wrongW] at e1
        unfold Ms.cs at e1
        go_simp
        refine HK.out _ _ (InvN.nextX 22 _ hB hΦ (Below.refl _ _) (upd1 e1) ?_ rfl)
        kernel_rfl
      · go_simp
        go_at_call 34
        refine (HT2.out _).mono ?_
        rintro e w1 ⟨rfl, rfl⟩
        (try dsimp only)
        refine HK.out _ _ (InvN.nextX 23 _ hB hΦ (Below.refl _ _) rfl ?_ rfl)
        kernel_rfl
      · have e1 := hΦ 23 (by decide) (by first | exact hd _ (Array.getElem_mem (i := 0) (by decide)) rfl | exact hd _ (Array.getElem_mem (i := 1) (by decide)) rfl | exact hd _ (Array.getElem_mem (i := 2) (by decide)) rfl | exact hd _ (Array.getElem_mem (i := 3) (by decide)) rfl | exact hd _ (Array.getElem_mem (i := 4) (by decide)) rfl | exact hd _ (Array.getElem_mem (i := 5) (by decide)) rfl | exact hd _ (Array.getElem_mem (i := 6) (by decide)) rfl | exact hd _ (Array.getElem_mem (i := 7) (by decide)) rfl)
        simp only [PhiW] at e1
        go_simp
        refine HK.out _ _ (InvN.nextX 24 _ hB hΦ (Below.refl _ _) (upd1 e1) ?_ rfl)
        kernel_rfl
      · have e1 := hΦ 24 (by decide) (by first | exact hd _ (Array.getElem_mem (i := 0) (by decide)) rfl | exact hd _ (Array.getElem_mem (i := 1) (by decide)) rfl | exact hd _ (Array.getElem_mem (i := 2) (by decide)) rfl | exact hd _ (Array.getElem_mem (i := 3) (by decide)) rfl | exact hd _ (Array.getElem_mem (i := 4) (by decide)) rfl | exact hd _ (Array.getElem_mem (i := 5) (by decide)) rfl | exact hd _ (Array.getElem_mem (i := 6) (by decide)) rfl | exact hd _ (Array.getElem_mem (i := 7) (by decide)) rfl)
        simp only [PhiW, wrongW] at e1
        unfold Ms.cs at e1
        go_simp
        refine HK.out _ _ (InvN.nextX 25 _ hB hΦ (Below.refl _ _) (upd1 e1) ?_ rfl)
        kernel_rfl
      · have e0 := hΦ 7 (by decide) (by first | exact hd _ (Array.getElem_mem (i := 0) (by decide)) rfl | exact hd _ (Array.getElem_mem (i := 1) (by decide)) rfl | exact hd _ (Array.getElem_mem (i := 2) (by decide)) rfl | exact hd _ (Array.getElem_mem (i := 3) (by decide)) rfl | exact hd _ (Array.getElem_mem (i := 4) (by decide)) rfl | exact hd _ (Array.getElem_mem (i := 5) (by decide)) rfl | exact hd _ (Array.getElem_mem (i := 6) (by decide)) rfl | exact hd _ (Array.getElem_mem (i := 7) (by decide)) rfl)
        have e1 := hΦ 11 (by decide) (by first | exact hd _ (Array.getElem_mem (i := 0) (by decide)) rfl | exact hd _ (Array.getElem_mem (i := 1) (by decide)) rfl | exact hd _ (Array.getElem_mem (i := 2) (by decide)) rfl | exact hd _ (Array.getElem_mem (i := 3) (by decide)) rfl | exact hd _ (Array.getElem_mem (i := 4) (by decide)) rfl | exact hd _ (Array.getElem_mem (i := 5) (by decide)) rfl | exact hd _ (Array.getElem_mem (i := 6) (by decide)) rfl | exact hd _ (Array.getElem_mem (i := 7) (by decide)) rfl)
        have e2 := hΦ 15 (by decide) (by first | exact hd _ (Array.getElem_mem (i := 0) (by decide)) rfl | exact hd _ (Array.getElem_mem (i := 1) (by decide)) rfl | exact hd _ (Array.getElem_mem (i := 2) (by decide)) rfl | exact hd _ (Array.getElem_mem (i := 3) (by decide)) rfl | exact hd _ (Array.getElem_mem (i := 4) (by decide)) rfl | exact hd _ (Array.getElem_mem (i := 5) (by decide)) rfl | exact hd _ (Array.getElem_mem (i := 6) (by decide)) rfl | exact hd _ (Array.getElem_mem (i := 7) (by decide)) rfl)
        have e3 := hΦ 20 (by decide) (by first | exact hd _ (Array.getElem_mem (i := 0) (by decide)) rfl | exact hd _ (Array.getElem_mem (i := 1) (by decide)) rfl | exact hd _ (Array.getElem_mem (i := 2) (by decide)) rfl | exact hd _ (Array.getElem_mem (i := 3) (by decide)) rfl | exact hd _ (Array.getElem_mem (i := 4) (by decide)) rfl | exact hd _ (Array.getElem_mem (i := 5) (by decide)) rfl | exact hd _ (Array.getElem_mem (i := 6) (by decide)) rfl | exact hd _ (Array.getElem_mem (i := 7) (by decide)) rfl)
        have e4 := hΦ 22 (by decide) (by first | exact hd _ (Array.getElem_mem (i := 0) (by decide)) rfl | exact hd _ (Array.getElem_mem (i := 1) (by decide)) rfl | exact hd _ (Array.getElem_mem (i := 2) (by decide)) rfl | exact hd _ (Array.getElem_mem (i := 3) (by decide)) rfl | exact hd _ (Array.getElem_mem (i := 4) (by decide)) rfl | exact hd _ (Array.getElem_mem (i := 5) (by decide)) rfl | exact hd _ (Array.getElem_mem (i := 6) (by decide)) rfl | exact hd _ (Array.getElem_mem (i := 7) (by decide)) rfl)
        have e5 := hΦ 25 (by decide) (by first | exact hd _ (Array.getElem_mem (i := 0) (by decide)) rfl | exact hd _ (Array.getElem_mem (i := 1) (by decide)) rfl | exact hd _ (Array.getElem_mem (i := 2) (by decide)) rfl | exact hd _ (Array.getElem_mem (i := 3) (by decide)) rfl | exact hd _ (Array.getElem_mem (i := 4) (by decide)) rfl | exact hd _ (Array.getElem_mem (i := 5) (by decide)) rfl | exact hd _ (Array.getElem_mem (i := 6) (by decide)) rfl | exact hd _ (Array.getElem_mem (i := 7) (by decide)) rfl)
        obtain ⟨b0, e0, h0⟩ := e0
        obtain ⟨b1, e1, h1⟩ := e1
        obtain ⟨b2, e2, h2⟩ := e2
        obtain ⟨b3, e3, h3⟩ := e3
        simp only [PhiW, wrongW, dgCs] at e0 e1 e2 e3 e4 e5
        have hbs := fun b0 b1 b2 b3 W => build6_run P D b0 b1 b2 b3 W
        simp only [dgCs, wrongV, wrongW] at hbs
        go_simp
        refine HK.out _ _ (InvN.nextX 26 _ hB hΦ (below_al (Below.refl _ _) _) (upd6 e0 e1 e2 e3 e4 e5) ?_ ⟨_, b0, b1, b2, b3, rfl, Obj?.new _ _ _, fun k hk => ?_⟩)
        · kernel_rfl
        · match k, hk with
          | 0, _ => exact h0.below (below_al (Below.refl _ _) _)
          | 1, _ => exact h1.below (below_al (Below.refl _ _) _)
          | 2, _ => exact h2.below (below_al (Below.refl _ _) _)
          | 3, _ => exact h3.below (below_al (Below.refl _ _) _)
          | 4, _ => exact hopsat_nil _
          | 5, _ => exact hopsat_nil _
      · have e1 := hΦ 26 (by decide) (by first | exact hd _ (Array.getElem_mem (i := 0) (by decide)) rfl | exact hd _ (Array.getElem_mem (i := 1) (by decide)) rfl | exact hd _ (Array.getElem_mem (i := 2) (by decide)) rfl | exact hd _ (Array.getElem_mem (i := 3) (by decide)) rfl | exact hd _ (Array.getElem_mem (i := 4) (by decide)) rfl | exact hd _ (Array.getElem_mem (i := 5) (by decide)) rfl | exact hd _ (Array.getElem_mem (i := 6) (by decide)) rfl | exact hd _ (Array.getElem_mem (i := 7) (by decide)) rfl)
        go_simp
        refine HK.out _ _ (InvN.nextX 27 _ hB hΦ (Below.refl _ _) rfl ?_ e1)
        kernel_rfl
    · rintro L a w ⟨x, rfl, hB, hΦ⟩ hall
      obtain ⟨b, b0, b1, b2, b3, e, h1, h2⟩ := (show AllW P A D (x 27) w from hΦ 27 (by decide) (hall 27 (by decide)))
      simp only [putW, List.setIfInBounds_toArray, List.set_cons_zero, List.set_cons_succ]
      rw [e]
      go_wp2_with fail
      go_meet
      exact ⟨b, b0, b1, b2, b3, rfl, Lib.hid ⟨hB, h1, h2⟩⟩
  case rest =>
  obtain ⟨b, b0, b1, b2, b3, rfl, HG⟩ := hcut
  have HGN := Lib.hid (show GN w P A D bl b b0 b1 b2 b3 wc from ⟨HB4.out.1.trans (HG.out.1.mono HB4.out.1.size), HB4.out.2.1.below HG.out.1 HB4.out.2.1.lt, HB4.out.2.2.below HG.out.1 HB4.out.2.2.lt, HG.out.2.1, HG.out.2.2⟩)
  have HCk := Lib.hid (show ∀ k, k < 6 → ∀ W, GN w P A D bl b b0 b1 b2 b3 W → Calls Tryz.prog 32 #[.agg (dgCs (wrongV b0 b1 b2 b3 k) (wrongW P D k)), .agg #[.int .i64 4096, .int .i64 6]] W fun e w' => e = .returned (.int .i64 (wantW k)) ∧ Below W.heap.size W w' from fun k hk W h => by
    have := wrapcheck_any (mp := 4096) (md := 6) (h.2.2.2.2 k hk) (wrongW_small HSMl.out.2 k).1 (wrongW_small HSMl.out.2 k).2 (HM.out.below h.1 HM.out.1)
    rw [HWA.out k hk] at this
    exact this)
  have HW1 := Lib.hid (show ∀ W, Calls Tryz.prog 25 #[.agg #[.int .i64 1, .string ⟨#[120]⟩], .agg (dgCs (.slice none 0 0) P)] W (WrapSaid W [hx1] P 0) from fun W => wrap_ok hx1 (by decide) (hopsat_nil W) (by decide) (by decide))
  have HW0 := Lib.hid (show ∀ W v, HopsAt W v [hx1] → Calls Tryz.prog 25 #[.agg #[.int .i64 0, .string ⟨#[]⟩], .agg (dgCs v P)] W (WrapSaid W [] ms0 2) from fun W v h => wrap_bad h0 (by decide) h (by decide))
  have HW5 := Lib.hid (show ∀ W, GN w P A D bl b b0 b1 b2 b3 W → Calls Tryz.prog 25 #[.agg #[.int .i64 1, .string ⟨#[120]⟩], .agg (dgCs (wrongV b0 b1 b2 b3 0) (wrongW P D 0))] W (WrapSaid W [] ms0 12) from fun W h => wrap_full hx1 (by decide) (h.2.2.2.2 0 (by decide)) (by decide) (show 4 ≤ (wrongH A 0).length from Nat.le_of_ble_eq_true rfl))
  have HU1 := Lib.hid (show ∀ W v, HopsAt W v [hx1] → CapOk v → Calls Tryz.prog 26 #[.agg (dgCs v P)] W fun e w' => ∃ v', e = .returned (.tuple #[.agg #[.int .i64 1, .string ⟨#[120]⟩], .agg (dgCs v' P), .bool true]) ∧ HopsAt w' v' [] ∧ Below W.heap.size W w' from fun W v h hc => (unwrap_some (m := P) h hc (by decide)).mono fun e w' ⟨v', h1, h2, _, h3⟩ => ⟨v', h1, h2, h3⟩)
  have HU0 := Lib.hid (show ∀ W v, HopsAt W v [] → Calls Tryz.prog 26 #[.agg (dgCs v P)] W fun e w' => ∃ v', e = .returned (.tuple #[.agg #[.int .i64 0, .string ⟨#[]⟩], .agg (dgCs v' ms0), .bool false]) ∧ HopsAt w' v' [] ∧ Below W.heap.size W w' from fun W v h => (unwrap_none (m := P) h).mono fun e w' ⟨v', h1, h2, _, h3⟩ => ⟨v', h1, h2, h3⟩)
  have HR0 := Lib.hid (show ∀ W, GN w P A D bl b b0 b1 b2 b3 W → Calls Tryz.prog 30 #[.string ⟨#[]⟩, .agg #[.int .i64 0, .int .i64 0]] W (WReadSaid W [] ms0 2) from fun W h => by
    have := wrapread_any [] (by decide) 0 0 W (HM.out.below h.1 HM.out.1)
    rw [show wrapR [] 0 0 = ([], ms0, 2) by decide +kernel] at this
    exact this)
  have HRd := Lib.hid (show ∀ k, k < 8 → ∀ W, GN w P A D bl b b0 b1 b2 b3 W → ∃ hs m, Calls Tryz.prog 30 #[.string ⟨(badW k).toArray⟩, .agg #[.int .i64 4096, .int .i64 6]] W (WReadSaid W hs m (toldW k)) from fun k hk W h => by
    have := wrapread_any (badW k) (by have := badW_len k; omega) 4096 6 W (HM.out.below h.1 HM.out.1)
    rw [badW_told k hk] at this
    exact ⟨_, _, this⟩)
  have HI0 := Lib.hid (show GN w P A D bl b b0 b1 b2 b3 (wc.alloc (.cells wantNA 28 (0, 0))) ∧ Obj? (wc.alloc (.cells wantNA 28 (0, 0))) wc.heap.size wantNA 28 from ⟨HGN.out.below (below_al (Below.refl _ _) _), Obj?.new _ _ _⟩)
  unfold wantNA at HI0
  clear HT1 HT2 HWA HSMl HWS HB4 HSF hS0 hS1 HPa HPb HPc HPd HG
  go_wp2
  go_loopg [5] 7 (fun g i wr => ∃ k : Nat, g + k = 7 ∧ k ≤ 6 ∧ i = .int .i64 k ∧ Hid (GN w P A D bl b b0 b1 b2 b3 wr ∧ Obj? wr wc.heap.size wantNA 28))
  case atStart => exact ⟨0, by omega, by omega, rfl, HI0⟩
  case round =>
    obtain ⟨k, hgk, hk6, rfl, HI⟩ := hrel
    have HGK := Lib.hid (And.intro hgk hk6)
    clear hgk
    by_cases hlt : k < 6
    · have d1 : decide ((k : Int) < 6) = true := decide_eq_true (by omega)
      have hki : (k : Int) < 6 := by omega
      have HCk' := Lib.hid (fun W (h : Hid (GN w P A D bl b b0 b1 b2 b3 W ∧ Obj? W wc.heap.size wantNA 28)) => HCk.out k hlt W h.out.1)
      have hS0 := sZ_mk hlt HI.out
      obtain ⟨e, he⟩ : ∃ e, e = wantW k := ⟨_, rfl⟩
      obtain ⟨c, hc⟩ : ∃ c, c = dgCs (wrongV b0 b1 b2 b3 k) (wrongW P D k) := ⟨_, rfl⟩
      rw [← he, ← hc] at HCk' hS0
      have HST := Lib.hid (show ∀ (W W' : World), Hid (GN w P A D bl b b0 b1 b2 b3 W ∧ Obj? W wc.heap.size wantNA 28) → Below W.heap.size W W' → SZ w P A D bl b b0 b1 b2 b3 wc.heap.size k c e W' from fun W W' h hb => by rw [he, hc]; exact sZ_step hlt h hb)
      have hS1 := HST.out wr wr.drew HI (below_grown (quiet_grown ⟨1, rfl⟩ none))
      have HLT := Lib.hid hlt
      clear he hc hlt HI
      go_wp2
      go_region_held3 (fun W => Hid (GN w P A D bl b b0 b1 b2 b3 W ∧ Obj? W wc.heap.size wantNA 28) ∧ (rowSem 45 ⟨b, k * 17, none⟩).run Tryz.prog W = .ok (.agg c) W ∧ (∀ j, W.cell? ⟨bl, j, none⟩ = (#[.int .i64 4096, .int .i64 6] : Array Value)[j]?) ∧ W.cell? ⟨wc.heap.size, k, none⟩ = some (.int .i64 e))
        ((first | assumption | exact HST.out _ _ (by assumption) (below_grown (quiet_grown ⟨1, rfl⟩ none))))
        ((go_split_ands; first
          | (go_at_call 32; refine (HCk'.out _ (by assumption)).mono ?_; rintro e' w' ⟨rfl, hb⟩; have hS := HST.out _ _ (by assumption) hb)))
      have HSG := hS.1
      clear hS
      go_wp2
      go_roundg (gk - 1)
      case measure => have := HGK.out; omega
      case rel => exact ⟨k + 1, by have := HGK.out; omega, by have := HLT.out; omega, by go_num, HSG⟩
    · obtain rfl : k = 6 := by omega
      have HBr := Lib.hid HI.out.1
      clear HI HI0 HCk HGK HGN
      obtain ⟨wo, hwo⟩ : ∃ wo, wo = wr := ⟨_, rfl⟩
      subst hwo
      have HI1 := Lib.hid (show JN w P A D bl b b0 b1 b2 b3 wo.heap.size ((wo.alloc (.cells badNA 9 (0, 0))).alloc (.cells toldNA 28 (0, 0))) from ⟨HBr.out.below (below_al (below_al (Below.refl _ _) _) _), (Obj?.new wo _ _).alloc _, by
        have := Obj?.new (wo.alloc (.cells badNA 9 (0, 0))) toldNA 28
        rw [World.size_alloc] at this
        exact this⟩)
      unfold badNA toldNA at HI1
      go_wp2
      go_loopg [9] 9 (fun g i wr2 => ∃ k : Nat, g + k = 9 ∧ k ≤ 8 ∧ i = .int .i64 k ∧ Hid (JN w P A D bl b b0 b1 b2 b3 wo.heap.size wr2))
      case atStart => exact ⟨0, by omega, by omega, rfl, HI1⟩
      case round =>
        obtain ⟨k, hgk, hk8, rfl, HI⟩ := hrel
        have HGK := Lib.hid (And.intro hgk hk8)
        clear hgk
        by_cases hlt : k < 8
        · have d1 : decide ((k : Int) < 8) = true := decide_eq_true (by omega)
          have hki : (k : Int) < 8 := by omega
          have c0 := HI.out.2.1.cell _ _ (badNA_at k hlt).1
          have c0B := (HI.out.2.1.alloc (.cells #[.slice none 0 0, .int .i64 0, .bool false, .int .i64 0, .bool false, .bool false, .bool false, .int .i64 0, .int .i64 0, .int .i64 0, .int .i64 0, .bool false, .int .i64 0, .int .i64 0, .int .i64 0, .string ⟨#[]⟩, .string ⟨#[]⟩] 45 (0, 0))).cell _ _ (badNA_at k hlt).1
          have kl := HI.out.1.2.1.cells
          have klB := (HI.out.1.2.1.alloc (.cells #[.slice none 0 0, .int .i64 0, .bool false, .int .i64 0, .bool false, .bool false, .bool false, .int .i64 0, .int .i64 0, .int .i64 0, .int .i64 0, .bool false, .int .i64 0, .int .i64 0, .int .i64 0, .string ⟨#[]⟩, .string ⟨#[]⟩] 45 (0, 0))).cells
          obtain ⟨hsA, mA, hRA⟩ := HRd.out k hlt wr.drew (HI.out.1.below (below_grown (quiet_grown ⟨1, rfl⟩ none)))
          obtain ⟨hsB, mB, hRB⟩ := HRd.out k hlt (wr.alloc (.cells #[.slice none 0 0, .int .i64 0, .bool false, .int .i64 0, .bool false, .bool false, .bool false, .int .i64 0, .int .i64 0, .int .i64 0, .int .i64 0, .bool false, .int .i64 0, .int .i64 0, .int .i64 0, .string ⟨#[]⟩, .string ⟨#[]⟩] 45 (0, 0))).drew ((HI.out.1.below (below_al (Below.refl _ _) _)).below (below_grown (quiet_grown ⟨1, rfl⟩ none)))
          have HRA := Lib.hid hRA
          have HRB := Lib.hid hRB
          obtain ⟨e, he⟩ : ∃ e, e = toldW k := ⟨_, rfl⟩
          obtain ⟨t, ht⟩ : ∃ t, t = badW k := ⟨_, rfl⟩
          rw [← he, ← ht] at HRA HRB
          rw [← ht] at c0 c0B
          have HLT := Lib.hid (And.intro hlt he)
          clear he ht hlt hRA hRB
          go_upto_region 18 with fail
          go_cut [10, 11] from 94 to 102 (fun _ ev wx => ev = .int .i64 e ∧ Hid (JN w P A D bl b b0 b1 b2 b3 wo.heap.size wx))
          case first =>
            go_region_with ((first
              | (go_at_call 30; ((with_reducible refine HRA.out.mono ?_); (rintro r w7 ⟨v2, rfl, hH2, hb⟩; have hst := store_newdg w7 v2 mA hH2.one; have HS8 := Lib.hid (HI.out.below (after_new (.cells (dgCs v2 mA) 45 (0, 0)) hb)); clear hH2 hb)))
              | (go_at_call 30; ((with_reducible refine HRB.out.mono ?_); (rintro r w7 ⟨v2, rfl, hH2, hb⟩; have hst := store_dg (v0 := nilV) (m0 := ms0) (v := v2) (m := mB) hH2.one (new_kept hb); have HS8 := Lib.hid (HI.out.below (after_row (dgCs v2 mB) hb)); clear hH2 hb)))))
            all_goals
              go_wp2_with fail
              go_meet
              exact ⟨rfl, HS8⟩
          case rest =>
          obtain ⟨rfl, HS8⟩ := hcut
          have k2 := HS8.out.2.2.cell _ _ (badNA_at k HLT.out.1).2
          rw [← HLT.out.2] at k2
          clear c0 c0B kl klB HRA HRB HI
          go_wp2
          go_roundg (gk - 1)
          case measure => have := HGK.out; omega
          case rel => exact ⟨k + 1, by have := HGK.out; omega, by have := HLT.out.1; omega, by go_num, HS8⟩
        · obtain rfl : k = 8 := by omega
          have HG8 := Lib.hid HI.out.1
          clear HI HI1 HGK hlt HBr HRd
          obtain ⟨wq, hwq⟩ : ∃ wq, wq = wr := ⟨_, rfl⟩
          subst hwq
          have hw1 := HW1.out
          unfold dgCs at hw1
          have HW1' := Lib.hid hw1
          have kh := HG8.out.2.2.1.cells
          have khB := (HG8.out.2.2.1.alloc (.cells #[.slice none 0 0, .int .i64 0, .bool false, .int .i64 0, .bool false, .bool false, .bool false, .int .i64 0, .int .i64 0, .int .i64 0, .int .i64 0, .bool false, .int .i64 0, .int .i64 0, .int .i64 0, .string ⟨#[]⟩, .string ⟨#[]⟩] 45 (0, 0))).cells
          clear hw1 HW1
          go_upto_region 21 with fail
          go_cut [12, 13] from 109 to 115 (fun p e wx => ∃ (b12 : Nat) (v12 : Value), p = .pointer (some ⟨b12, 0, none⟩) ∧ e = .int .i64 0 ∧ Hid (GotN wq b12 v12 [hx1] P wx))
          case first =>
            go_region_with ((first
              | (go_at_call 33; ((with_reducible refine (HPo.out _).mono ?_); (rintro r w5 ⟨rfl, hb⟩; have HP5 : Hid (Below wq.heap.size wq w5) := Lib.hid (drew_stp hb); have kh5 := (HG8.out.below HP5.out).2.2.1.cells; have kh5B := ((HG8.out.below HP5.out).2.2.1.alloc (.cells #[.slice none 0 0, .int .i64 0, .bool false, .int .i64 0, .bool false, .bool false, .bool false, .int .i64 0, .int .i64 0, .int .i64 0, .int .i64 0, .bool false, .int .i64 0, .int .i64 0, .int .i64 0, .string ⟨#[]⟩, .string ⟨#[]⟩] 45 (0, 0))).cells; clear hb)))
              | (go_at_call 33; ((with_reducible refine (HPo.out _).mono ?_); (rintro r w5 ⟨rfl, hb⟩; have HP5 : Hid (Below wq.heap.size wq w5 ∧ Obj? w5 wq.heap.size #[.slice none 0 0, .int .i64 0, .bool false, .int .i64 0, .bool false, .bool false, .bool false, .int .i64 0, .int .i64 0, .int .i64 0, .int .i64 0, .bool false, .int .i64 0, .int .i64 0, .int .i64 0, .string ⟨#[]⟩, .string ⟨#[]⟩] 45) := Lib.hid ⟨new_below hb, new_kept hb⟩; have kh5 := (HG8.out.below HP5.out.1).2.2.1.cells; clear hb)))
              | (go_at_call 25; ((with_reducible refine (HW1'.out _).mono ?_); (rintro r w7 ⟨v2, rfl, hH2, hr2, hb⟩; have HS8 := Lib.hid (gotN_new (M1 := P) hH2 hr2 (below_stp HP5.out hb)); have hst := store_newdg w7 v2 P hH2.one; clear hH2 hr2 hb)))
              | (go_at_call 25; ((with_reducible refine (HW1'.out _).mono ?_); (rintro r w7 ⟨v2, rfl, hH2, hr2, hb⟩; have hO := HP5.out.2.below hb HP5.out.2.lt; have HS8 := Lib.hid (gotN_old (M1 := P) hO hH2 hr2 HP5.out.2.lt (Nat.le_refl _) (below_stp HP5.out.1 hb)); have hst := store_dg (v0 := nilV) (m0 := ms0) (v := v2) (m := P) hH2.one hO; clear hH2 hr2 hb hO)))
              | (go_at_call 25; ((with_reducible refine (HW1'.out _).mono ?_); (rintro r w7 ⟨v2, rfl, hH2, hr2, hb⟩; have hO := (Obj?.new w5 #[.slice none 0 0, .int .i64 0, .bool false, .int .i64 0, .bool false, .bool false, .bool false, .int .i64 0, .int .i64 0, .int .i64 0, .int .i64 0, .bool false, .int .i64 0, .int .i64 0, .int .i64 0, .string ⟨#[]⟩, .string ⟨#[]⟩] 45).below hb (Obj?.new w5 #[.slice none 0 0, .int .i64 0, .bool false, .int .i64 0, .bool false, .bool false, .bool false, .int .i64 0, .int .i64 0, .int .i64 0, .int .i64 0, .bool false, .int .i64 0, .int .i64 0, .int .i64 0, .string ⟨#[]⟩, .string ⟨#[]⟩] 45).lt; have HS8 := Lib.hid (gotN_old (M1 := P) hO hH2 hr2 (Obj?.new w5 #[.slice none 0 0, .int .i64 0, .bool false, .int .i64 0, .bool false, .bool false, .bool false, .int .i64 0, .int .i64 0, .int .i64 0, .int .i64 0, .bool false, .int .i64 0, .int .i64 0, .int .i64 0, .string ⟨#[]⟩, .string ⟨#[]⟩] 45).lt HP5.out.size (below_stp (below_al HP5.out _) hb)); have hst := store_dg (v0 := nilV) (m0 := ms0) (v := v2) (m := P) hH2.one hO; clear hH2 hr2 hb hO)))))
            all_goals
              go_wp2_with fail
              go_meet
              exact ⟨_, _, rfl, rfl, HS8⟩
          case rest =>
          obtain ⟨b12, v12, rfl, rfl, HG12⟩ := hcut
          have HGa := Lib.hid (HG8.out.below HG12.out.2.2.2)
          have hld := load_dg HG12.out.1
          clear kh khB HW1' HG8
          go_wp2_with fail
          refine (HU1.out _ _ HG12.out.2.1 HG12.out.2.2.1).mono ?_
          rintro r w8 ⟨v15, rfl, hH15, hb⟩
          have hst := store_newdg (w8.alloc (.cells #[.int .i64 1, .string ⟨#[120]⟩] 49 (0, 0))) v15 P hH15.one
          rw [World.size_alloc] at hst
          have hbb := below_al (below_al hb (.cells #[.int .i64 1, .string ⟨#[120]⟩] 49 (0, 0))) (.cells (dgCs v15 P) 45 (0, 0))
          have hO := Obj?.new (w8.alloc (.cells #[.int .i64 1, .string ⟨#[120]⟩] 49 (0, 0))) (dgCs v15 P) 45
          rw [World.size_alloc] at hO
          have HF9 := Lib.hid (show FN w P A D bl b b0 b1 b2 b3 b12 w8.heap.size v12 v15 ((w8.alloc (.cells #[.int .i64 1, .string ⟨#[120]⟩] 49 (0, 0))).alloc (.cells (dgCs v15 P) 45 (0, 0))) from
            ⟨HGa.out.below hbb, HG12.out.1.below hbb HG12.out.1.lt, HG12.out.2.1.below hbb, (Obj?.new w8 _ _).alloc _, hO, hH15.below (below_al (below_al (Below.refl _ _) _) _)⟩)
          clear hb hbb hO hH15 hld
          go_upto_region 23 with fail
          obtain ⟨W9, hW9⟩ : ∃ W9, W9 = (w8.alloc (.cells #[.int .i64 1, .string ⟨#[120]⟩] 49 (0, 0))).alloc (.cells (dgCs v15 P) 45 (0, 0)) := ⟨_, rfl⟩
          rw [← hW9] at HF9
          rw [← hW9]
          clear hW9 hst
          obtain ⟨b14, hb14⟩ : ∃ b, b = w8.heap.size := ⟨_, rfl⟩
          rw [← hb14] at HF9
          rw [← hb14]
          clear hb14 HGa HG12 HU1
          have hld := load_dg HF9.out.2.2.2.2.1
          go_wp2_with fail
          refine (HU0.out _ _ HF9.out.2.2.2.2.2).mono ?_
          rintro r w10 ⟨v18, rfl, hH18, hb⟩
          have hst := store_newdg (w10.alloc (.cells #[.int .i64 0, .string ⟨#[]⟩] 49 (0, 0))) v18 ms0 hH18.one
          rw [World.size_alloc] at hst
          have HF11 := Lib.hid (HF9.out.below (below_al (below_al hb (.cells #[.int .i64 0, .string ⟨#[]⟩] 49 (0, 0))) (.cells (dgCs v18 ms0) 45 (0, 0))))
          clear hb hH18 hld HU0
          go_upto_region 24 with fail
          obtain ⟨W11, hW11⟩ : ∃ W11, W11 = (w10.alloc (.cells #[.int .i64 0, .string ⟨#[]⟩] 49 (0, 0))).alloc (.cells (dgCs v18 ms0) 45 (0, 0)) := ⟨_, rfl⟩
          rw [← hW11] at HF11
          rw [← hW11]
          clear hW11 hst HF9
          have hld := load_dg HF11.out.2.1
          go_wp2_with fail
          refine (HW0.out _ _ HF11.out.2.2.1).mono ?_
          rintro r w12 ⟨v20, rfl, hH20, -, hb⟩
          have hst := store_newdg w12 v20 ms0 hH20.one
          have HF13 := Lib.hid (HF11.out.below (below_al hb (.cells (dgCs v20 ms0) 45 (0, 0))))
          clear hb hH20 hld HW0
          go_upto_region 25 with fail
          obtain ⟨W13, hW13⟩ : ∃ W13, W13 = w12.alloc (.cells (dgCs v20 ms0) 45 (0, 0)) := ⟨_, rfl⟩
          rw [← hW13] at HF13
          rw [← hW13]
          clear hW13 hst HF11
          have kh := HF13.out.1.2.2.1.cells
          have khB := (HF13.out.1.2.2.1.alloc (.cells #[.slice none 0 0, .int .i64 0, .bool false, .int .i64 0, .bool false, .bool false, .bool false, .int .i64 0, .int .i64 0, .int .i64 0, .int .i64 0, .bool false, .int .i64 0, .int .i64 0, .int .i64 0, .string ⟨#[]⟩, .string ⟨#[]⟩] 45 (0, 0))).cells
          have HFd := Lib.hid (HF13.out.below (below_grown (quiet_grown ⟨1, rfl⟩ none) : Below W13.heap.size W13 W13.drew))
          have HFe := Lib.hid (show FN w P A D bl b b0 b1 b2 b3 b12 b14 v12 v15 (W13.alloc (.cells #[.slice none 0 0, .int .i64 0, .bool false, .int .i64 0, .bool false, .bool false, .bool false, .int .i64 0, .int .i64 0, .int .i64 0, .int .i64 0, .bool false, .int .i64 0, .int .i64 0, .int .i64 0, .string ⟨#[]⟩, .string ⟨#[]⟩] 45 (0, 0))).drew from (HF13.out.below (below_al (Below.refl _ _) (.cells #[.slice none 0 0, .int .i64 0, .bool false, .int .i64 0, .bool false, .bool false, .bool false, .int .i64 0, .int .i64 0, .int .i64 0, .int .i64 0, .bool false, .int .i64 0, .int .i64 0, .int .i64 0, .string ⟨#[]⟩, .string ⟨#[]⟩] 45 (0, 0)))).below (below_grown (quiet_grown ⟨1, rfl⟩ none)))
          have hr0 := rowD_at (c := fun k => dgCs (wrongV b0 b1 b2 b3 k) (wrongW P D k)) HFd.out.1.2.2.2.1 (fun k => rfl) 0 (by decide)
          have hr1 := rowD_at (c := fun k => dgCs (wrongV b0 b1 b2 b3 k) (wrongW P D k)) HFe.out.1.2.2.2.1 (fun k => rfl) 0 (by decide)
          have HWd := Lib.hid (HW5.out _ HFd.out.1)
          have HWe := Lib.hid (HW5.out _ HFe.out.1)
          simp only [Nat.zero_mul] at hr0 hr1
          obtain ⟨c, hc⟩ : ∃ c, c = dgCs (wrongV b0 b1 b2 b3 0) (wrongW P D 0) := ⟨_, rfl⟩
          rw [← hc] at HWd HWe hr0 hr1
          clear hc HW5 HFd HFe
          go_cut [22, 23] from 134 to 141 (fun _ e wx => e = .int .i64 12 ∧ Hid (FN w P A D bl b b0 b1 b2 b3 b12 b14 v12 v15 wx))
          case first =>
            go_region_with ((first
              | (go_at_call 25; ((with_reducible refine HWd.out.mono ?_); (rintro r w7 ⟨v2, rfl, hH2, -, hb⟩; have hst := store_newdg w7 v2 ms0 hH2.one; have HS8 := Lib.hid (HF13.out.below (after_new (.cells (dgCs v2 ms0) 45 (0, 0)) hb)); clear hH2 hb)))
              | (go_at_call 25; ((with_reducible refine HWe.out.mono ?_); (rintro r w7 ⟨v2, rfl, hH2, -, hb⟩; have hst := store_dg (v0 := nilV) (m0 := ms0) (v := v2) (m := ms0) hH2.one (new_kept hb); have HS8 := Lib.hid (HF13.out.below (after_row (dgCs v2 ms0) hb)); clear hH2 hb)))))
            all_goals
              go_wp2_with fail
              go_meet
              exact ⟨rfl, HS8⟩
          case rest =>
          obtain ⟨rfl, HF14⟩ := hcut
          clear kh khB hr0 hr1 HWd HWe HF13
          go_wp2_with fail
          refine (HR0.out _ HF14.out.1).mono ?_
          rintro r w15 ⟨v24, rfl, hH24, hb⟩
          have hst := store_newdg w15 v24 ms0 hH24.one
          have HF16 := Lib.hid (HF14.out.below (below_al hb (.cells (dgCs v24 ms0) 45 (0, 0))))
          clear hb hH24 HR0
          go_upto_region 27 with fail
          (try dsimp only [List.append])
          obtain ⟨W16, hW16⟩ : ∃ W16, W16 = w15.alloc (.cells (dgCs v24 ms0) 45 (0, 0)) := ⟨_, rfl⟩
          rw [← hW16] at HF16
          rw [← hW16]
          clear hW16 hst HF14
          have hsam : ∀ W, Hid (FN w P A D bl b b0 b1 b2 b3 b12 b14 v12 v15 W) → Calls Tryz.prog 27 #[.agg (dgCs v15 P), .agg (dgCs (.slice none 0 0) P)] W fun e w' => e = .returned (.bool true) ∧ Below W.heap.size W w' := fun W h => by
            have := same_eq P h.out.2.2.2.2.2 (hopsat_nil W)
            rw [decide_eq_true rfl] at this
            exact this
          have hsam2 : ∀ W, Hid (FN w P A D bl b b0 b1 b2 b3 b12 b14 v12 v15 W) → Calls Tryz.prog 27 #[.agg (dgCs v15 P), .agg (dgCs v12 P)] W fun e w' => e = .returned (.bool false) ∧ Below W.heap.size W w' := fun W h => by
            have := same_eq P h.out.2.2.2.2.2 h.out.2.2.1
            rw [decide_eq_false (by decide)] at this
            exact this
          obtain ⟨C, hC⟩ : ∃ C, C = dgCs (.slice none 0 0) P := ⟨_, rfl⟩
          rw [← hC] at hsam
          unfold dgCs at hC
          rw [hC] at hsam
          have HSa := Lib.hid hsam
          have HSb := Lib.hid hsam2
          have HST := Lib.hid (show ∀ W W', Hid (FN w P A D bl b b0 b1 b2 b3 b12 b14 v12 v15 W) → Below W.heap.size W W' → SE w P A D bl b b0 b1 b2 b3 b12 b14 v12 v15 W' from fun W W' h hb => sE_step h hb)
          have hS0 := sE_mk HF16.out
          have hS1 := HST.out W16 W16.drew HF16 (below_grown (quiet_grown ⟨1, rfl⟩ none))
          have qh := fun W => eql_hx W
          clear hsam hsam2 hC
          go_region_held3 (fun W => Hid (FN w P A D bl b b0 b1 b2 b3 b12 b14 v12 v15 W) ∧ (rowSem 45 ⟨b12, 0, none⟩).run Tryz.prog W = .ok (.agg (dgCs v12 P)) W ∧ (rowSem 45 ⟨b14 + 1, 0, none⟩).run Tryz.prog W = .ok (.agg (dgCs v15 P)) W ∧ (∀ j, W.cell? ⟨b14, j, none⟩ = (#[.int .i64 1, .string ⟨#[120]⟩] : Array Value)[j]?) ∧ (∀ j, W.cell? ⟨bl + 1, j, none⟩ = (#[.int .i64 1, .string ⟨#[120]⟩] : Array Value)[j]?))
            ((first | assumption | exact HST.out _ _ (by assumption) (below_grown (quiet_grown ⟨1, rfl⟩ none))))
            ((go_split_ands; first
              | (go_at_call 33; ((with_reducible refine (HPo.out _).mono ?_); (rintro e w' ⟨rfl, hb⟩; have hS := HST.out _ _ (by assumption) hb)))
              | (go_at_call 27; ((with_reducible refine (HSa.out _ (by assumption)).mono ?_); (rintro e w' ⟨rfl, hb⟩; have hS := HST.out _ _ (by assumption) hb)))
              | (go_at_call 27; ((with_reducible refine (HSb.out _ (by assumption)).mono ?_); (rintro e w' ⟨rfl, hb⟩; have hS := HST.out _ _ (by assumption) hb)))))
          all_goals
            go_wp2_with fail
            refine HQ1.out _ _ _ ?_
            go_ret
            exact ⟨rfl, by first | exact hS.1.out.1.1⟩
end Go.Proofs.YtbacnaplpfmpnaaGreatDoor
