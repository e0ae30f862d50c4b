/- A drawn region by an invariant: what has come up has its value, and one store of a struct is told apart. -/
import Derived.Test.YtlfgkdiehmoohaaGreatDoorHeE
namespace Go.Proofs.YtlfgkdiehmoohaaGreatDoor
open Go Go.RowKit
set_option linter.unusedVariables false

theorem wpAny_inv2 {P : Program} {ops : Array Oper} {Q : Exit → Act → World → Prop} (hf : forward ops = true) (I : Array Bool → Act → World → Prop)
    (hstep : ∀ (L : Array Bool) (a : Act) (w : World), L.size = ops.size → I L a w → ∀ (i : Nat) (o : Oper), ops[i]? = some o → L.getD i true = false → (∀ e ∈ o.after, Region.binds .any e = true → L.getD e.on false = true) → wpOp P ops Q i (fun a' w' => I (L.setIfInBounds i true) a' w') a w)
    (hdone : ∀ (L : Array Bool) (a : Act) (w : World), I L a w → (∀ i, i < ops.size → L.getD i false = true) → Q .normal a w) :
    ∀ (fuel : Nat) (L : Array Bool) (a : Act) (w : World), L.size = ops.size → unlisted L ≤ fuel → I L a w → wpAny P .any ops Q fuel L a w
  | 0, L, a, w, hL, hu, hI => by
    have hr : Region.ready .any ops L = [] := by
      cases hr : Region.ready .any ops L with
      | nil => rfl
      | cons j r =>
        have hj : j ∈ Region.ready .any ops L := by rw [hr]; exact List.mem_cons_self
        have := unlisted_set (mem_ready.1 hj).1
        omega
    exact ⟨hr, hdone L a w hI (ready_all hf hL hr)⟩
  | fuel + 1, L, a, w, hL, hu, hI => by
    refine ⟨fun hr => hdone L a w hI (ready_all hf hL hr), fun i hi => ?_⟩
    obtain ⟨h1, o, ho, hd⟩ := mem_ready.1 hi
    have h2 := unlisted_set h1
    exact wpOp_mono (fun a' w' h' => wpAny_inv2 hf I hstep hdone fuel _ a' w' (by simpa using hL) (by omega) h') (hstep L a w hL hI i o ho h1 hd)
theorem region_inv2 {P : Program} {id : Nat} {ops : Array Oper} {Q : Exit → Act → World → Prop} {a : Act} {w : World} (hm : P.follows .mixedOrders = true) (hf : forward ops = true) (I : Array Bool → Act → World → Prop)
    (h0 : I (Array.replicate ops.size false) a w.drew)
    (hstep : ∀ (L : Array Bool) (a' : Act) (w : World), L.size = ops.size → I L a' w → ∀ (i : Nat) (o : Oper), ops[i]? = some o → L.getD i true = false → (∀ e ∈ o.after, Region.binds .any e = true → L.getD e.on false = true) → wpOp P ops Q i (fun a' w' => I (L.setIfInBounds i true) a' w') a' w)
    (hdone : ∀ (L : Array Bool) (a' : Act) (w : World), I L a' w → (∀ i, i < ops.size → L.getD i false = true) → Q .normal a' w) : (Code.region id ops true).wp P Q a w :=
  wp_region_any hm (wpAny_inv2 hf I hstep hdone ops.size _ a w.drew (by simp) (by simp [unlisted]) h0)
theorem getD_set_ne {L : Array Bool} {i j : Nat} (h : j ≠ i) (d : Bool) : (L.setIfInBounds i true).getD j d = L.getD j d := by
  simp only [Array.getD_eq_getD_getElem?]
  rw [Array.getElem?_setIfInBounds_ne (Ne.symm h)]
theorem getD_set_same {L : Array Bool} {i : Nat} (h : i < L.size) (d : Bool) : (L.setIfInBounds i true).getD i d = true := by
  simp only [Array.getD_eq_getD_getElem?]
  simp [h]
theorem getD_not {L : Array Bool} {i : Nat} (h : L.getD i true = false) : L.getD i false = false := by
  simp only [Array.getD_eq_getD_getElem?] at h ⊢
  cases hc : L[i]? with
  | none => rfl
  | some b => rw [hc] at h; exact h
theorem upd_ne {x : Nat → Value} {i j : Nat} {v : Value} (h : j ≠ i) : updS x i v j = x j := if_neg h
theorem upd_at {x : Nat → Value} {i : Nat} {v : Value} : updS x i v i = v := if_pos rfl
theorem upds3 {x : Nat → Value} {i j k : Nat} {u v t : Value} (e1 : x i = u) (e2 : x j = v) (e3 : x k = t) : updS (updS (updS x i u) j v) k t = x := by rw [upds_same e1, upds_same e2, upds_same e3]
/-- What has come up has its value, but for the operations of S. -/
def InvG (N : Nat) (V : List Value) (S : List Nat) (R : Array Bool → (Nat → Value) → World → Prop) (A : (Nat → Value) → Act) (L : Array Bool) (a : Act) (w : World) : Prop :=
  ∃ x, a = A x ∧ R L x w ∧ ∀ i, i < N → i ∉ S → L.getD i false = true → x i = V.getD i undef
theorem InvG.next {N : Nat} {V : List Value} {S : List Nat} {R : Array Bool → (Nat → Value) → World → Prop} {A : (Nat → Value) → Act} {L : Array Bool} {a' : Act} {x y : Nat → Value} {w' : World} (i : Nat) (v : Value)
    (hΦ : ∀ i, i < N → i ∉ S → L.getD i false = true → x i = V.getD i undef) (hy : y = x) (ha : a' = A (updS y i v)) (hR : R (L.setIfInBounds i true) (updS x i v) w') (hv : i ∈ S ∨ v = V.getD i undef) : InvG N V S R A (L.setIfInBounds i true) a' w' := by
  subst hy
  refine ⟨_, ha, hR, fun j hj hs hl => ?_⟩
  by_cases hji : j = i
  · subst hji
    rw [upd_at]
    exact hv.resolve_left hs
  · rw [upd_ne hji]
    exact hΦ j hj hs (by rwa [getD_set_ne hji] at hl)
/-- A block is laid by the operation ia and filled by the operation is, both of the region. -/
structure PairR (B0 : Nat) (W0 : World) (E : Array Bool → (Nat → Value) → World → Prop) (ia is : Nat) (T : TypeId) (z c : Array Value) (L : Array Bool) (x : Nat → Value) (w : World) : Prop where
  low : B0 ≤ W0.heap.size
  bel : Below B0 W0 w
  ex : E L x w
  dep : L.getD is false = true → L.getD ia false = true
  at' : L.getD ia false = true → ∃ b, x ia = .pointer (some ⟨b, 0, none⟩) ∧ B0 ≤ b ∧ Obj? w b (if L.getD is false = true then c else z) T
section pair
variable {B0 : Nat} {W0 : World} {E : Array Bool → (Nat → Value) → World → Prop} {ia is : Nat} {T : TypeId} {z c : Array Value} {L : Array Bool} {x : Nat → Value} {w w' : World}
theorem PairR.start (hl : B0 ≤ W0.heap.size) (hb : Below B0 W0 w) (n : Nat) (x : Nat → Value) (hk : E (Array.replicate n false) x w) : PairR B0 W0 E ia is T z c (Array.replicate n false) x w :=
  ⟨hl, hb, hk, fun h => (by rw [getD_repl] at h; cases h), fun h => (by rw [getD_repl] at h; cases h)⟩
theorem PairR.pure (h : PairR B0 W0 E ia is T z c L x w) (i : Nat) (v : Value) (h1 : i ≠ ia) (h2 : i ≠ is) (hb : Below w.heap.size w w') (hK : E (L.setIfInBounds i true) (updS x i v) w') : PairR B0 W0 E ia is T z c (L.setIfInBounds i true) (updS x i v) w' :=
  ⟨h.low, h.bel.trans (hb.mono (Nat.le_trans h.low h.bel.size)), hK, fun hd => by rw [getD_set_ne (Ne.symm h1)]; rw [getD_set_ne (Ne.symm h2)] at hd; exact h.dep hd, fun hd => by
    rw [getD_set_ne (Ne.symm h1)] at hd
    obtain ⟨b, e, hB, hO⟩ := h.at' hd
    rw [getD_set_ne (Ne.symm h2), upd_ne (Ne.symm h1)]
    exact ⟨b, e, hB, hO.below hb hO.lt⟩⟩
theorem PairR.alloc (h : PairR B0 W0 E ia is T z c L x w) (hne : ia ≠ is) (hL : ia < L.size) (hn : L.getD ia true = false) (hB : B0 ≤ w.heap.size) (hK : E (L.setIfInBounds ia true) (updS x ia (.pointer (some ⟨w.heap.size, 0, none⟩))) (w.alloc (.cells z T (0, 0)))) : PairR B0 W0 E ia is T z c (L.setIfInBounds ia true) (updS x ia (.pointer (some ⟨w.heap.size, 0, none⟩))) (w.alloc (.cells z T (0, 0))) := by
  have hs : L.getD is false = false := by
    cases hc : L.getD is false with
    | false => rfl
    | true =>
      have := h.dep hc
      rw [getD_not hn] at this
      cases this
  refine ⟨h.low, h.bel.alloc hB _, hK, fun hd => getD_set_same hL _, fun _ => ⟨w.heap.size, upd_at, hB, ?_⟩⟩
  rw [getD_set_ne (Ne.symm hne), hs]
  exact Obj?.new w z T
theorem PairR.open' (h : PairR B0 W0 E ia is T z c L x w) (hd : L.getD ia false = true) (hn : L.getD is true = false) : ∃ b, x ia = .pointer (some ⟨b, 0, none⟩) ∧ B0 ≤ b ∧ Obj? w b z T := by
  obtain ⟨b, e, hB, hO⟩ := h.at' hd
  rw [getD_not hn] at hO
  exact ⟨b, e, hB, hO⟩
theorem PairR.store (h : PairR B0 W0 E ia is T z c L x w) {b : Nat} (v : Value) (hne : ia ≠ is) (hL : is < L.size) (hx : x ia = .pointer (some ⟨b, 0, none⟩)) (hd : L.getD ia false = true) (hB : B0 ≤ b) (hO : Obj? w b z T) (hK : E (L.setIfInBounds is true) (updS x is v) (w.setRow b c)) : PairR B0 W0 E ia is T z c (L.setIfInBounds is true) (updS x is v) (w.setRow b c) := by
  refine ⟨h.low, below_row h.bel hB _, hK, fun _ => by rw [getD_set_ne hne]; exact hd, fun _ => ⟨b, by rw [upd_ne hne]; exact hx, hB, ?_⟩⟩
  rw [getD_set_same hL]
  exact hO.setRow c
theorem PairR.done (h : PairR B0 W0 E ia is T z c L x w) (h1 : L.getD ia false = true) (h2 : L.getD is false = true) : ∃ b, x ia = .pointer (some ⟨b, 0, none⟩) ∧ B0 ≤ b ∧ Obj? w b c T := by
  obtain ⟨b, e, hB, hO⟩ := h.at' h1
  rw [h2] at hO
  exact ⟨b, e, hB, hO⟩
end pair
/-- A known block is filled by the operation is of the region. -/
structure FixR (B0 : Nat) (W0 : World) (E : Array Bool → (Nat → Value) → World → Prop) (is b : Nat) (T : TypeId) (z c : Array Value) (L : Array Bool) (x : Nat → Value) (w : World) : Prop where
  low : B0 ≤ W0.heap.size
  bel : Below B0 W0 w
  ex : E L x w
  at' : Obj? w b (if L.getD is false = true then c else z) T
section fix
variable {B0 : Nat} {W0 : World} {E : Array Bool → (Nat → Value) → World → Prop} {is b : Nat} {T : TypeId} {z c : Array Value} {L : Array Bool} {x : Nat → Value} {w w' : World}
theorem FixR.start (hl : B0 ≤ W0.heap.size) (hb : Below B0 W0 w) (hO : Obj? w b z T) (n : Nat) (x : Nat → Value) (hk : E (Array.replicate n false) x w) : FixR B0 W0 E is b T z c (Array.replicate n false) x w :=
  ⟨hl, hb, hk, by rw [getD_repl]; exact hO⟩
theorem FixR.pure (h : FixR B0 W0 E is b T z c L x w) (i : Nat) (v : Value) (h2 : i ≠ is) (hb : Below w.heap.size w w') (hK : E (L.setIfInBounds i true) (updS x i v) w') : FixR B0 W0 E is b T z c (L.setIfInBounds i true) (updS x i v) w' :=
  ⟨h.low, h.bel.trans (hb.mono (Nat.le_trans h.low h.bel.size)), hK, by rw [getD_set_ne (Ne.symm h2)]; exact h.at'.below hb h.at'.lt⟩
theorem FixR.open' (h : FixR B0 W0 E is b T z c L x w) (hn : L.getD is true = false) : Obj? w b z T := by
  have hO := h.at'
  rw [getD_not hn] at hO
  exact hO
theorem FixR.store (h : FixR B0 W0 E is b T z c L x w) (v : Value) (hL : is < L.size) (hn : L.getD is true = false) (hB : B0 ≤ b) (hK : E (L.setIfInBounds is true) (updS x is v) (w.setRow b c)) : FixR B0 W0 E is b T z c (L.setIfInBounds is true) (updS x is v) (w.setRow b c) := by
  refine ⟨h.low, below_row h.bel hB _, hK, ?_⟩
  rw [getD_set_same hL]
  exact (h.open' hn).setRow c
theorem FixR.done (h : FixR B0 W0 E is b T z c L x w) (h2 : L.getD is false = true) : Obj? w b c T := by
  have hO := h.at'
  rw [h2] at hO
  exact hO
end fix
end Go.Proofs.YtlfgkdiehmoohaaGreatDoor
