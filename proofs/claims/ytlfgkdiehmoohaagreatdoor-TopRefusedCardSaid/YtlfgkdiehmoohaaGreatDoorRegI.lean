/- A region that draws its order, by a condition on what has come up: each operation keeps it, whichever comes up. -/
import Derived.Test.YtlfgkdiehmoohaaGreatDoorBase
import Derived.Orders
import Derived.OrdersHeld
namespace Go.Proofs.YtlfgkdiehmoohaaGreatDoor
open Go
set_option linter.unusedVariables false

/-- Each operation waits for earlier ones alone. -/
def forward (ops : Array Oper) : Bool := (List.range ops.size).all fun i => match ops[i]? with
  | some o => o.after.all fun e => !(Region.binds .any e) || decide (e.on < i)
  | none => true
theorem forward_spec {ops : Array Oper} (h : forward ops = true) {i : Nat} {o : Oper} (ho : ops[i]? = some o) {e : Edge} (he : e ∈ o.after) (hb : Region.binds .any e = true) : e.on < i := by
  have hi : i < ops.size := (Array.getElem?_eq_some_iff.1 ho).1
  have h1 := List.all_eq_true.1 h i (List.mem_range.2 hi)
  rw [ho] at h1
  simp only [Array.all_eq_true'] at h1
  have h2 := h1 e he
  rw [hb] at h2
  simpa using h2
theorem ready_some {ops : Array Oper} (hf : forward ops = true) {L : Array Bool} (hL : L.size = ops.size) : Region.ready .any ops L = [] → ∀ i, i < ops.size → L.getD i true = true := by
  intro hr i
  induction i using Nat.strongRecOn with
  | _ i ih =>
    intro hi
    cases hc : L.getD i true with
    | true => rfl
    | false =>
      have ho : ops[i]? = some ops[i] := Array.getElem?_eq_getElem hi
      have : i ∈ Region.ready .any ops L := mem_ready.2 ⟨hc, ops[i], ho, fun e he hb => by
        have hlt := forward_spec hf ho he hb
        have h1 := ih e.on hlt (by omega)
        have h2 : e.on < L.size := by omega
        simp only [Array.getD, h2, dite_true] at h1 ⊢
        exact h1⟩
      rw [hr] at this
      cases this
theorem ready_all {ops : Array Oper} (hf : forward ops = true) {L : Array Bool} (hL : L.size = ops.size) (hr : Region.ready .any ops L = []) (i : Nat) (hi : i < ops.size) : L.getD i false = true := by
  have h := ready_some hf hL hr i hi
  have h2 : i < L.size := by omega
  simp only [Array.getD, h2, dite_true] at h ⊢
  exact h
theorem getD_repl (n i : Nat) : (Array.replicate n false).getD i false = false := by
  unfold Array.getD
  split <;> simp
def unlisted (L : Array Bool) : Nat := L.toList.count false
theorem count_set : ∀ (l : List Bool) (i : Nat), l[i]? = some false → (l.set i true).count false + 1 = l.count false
  | b :: l, 0, h => by
    obtain rfl : b = false := by simpa using h
    simp
  | b :: l, i + 1, h => by
    have h1 := count_set l i (by simpa using h)
    rw [List.set_cons_succ, List.count_cons, List.count_cons]
    omega
theorem unlisted_set {L : Array Bool} {i : Nat} (h : L.getD i true = false) : unlisted (L.setIfInBounds i true) + 1 = unlisted L := by
  have hi : i < L.size := by
    rcases Nat.lt_or_ge i L.size with h1 | h1
    · exact h1
    · simp [Array.getD, Nat.not_lt.2 h1] at h
  unfold unlisted
  have e : (L.setIfInBounds i true).toList = L.toList.set i true := by simp
  rw [e]
  refine count_set _ _ ?_
  simp only [Array.getD, hi, dite_true] at h
  simp [hi]
  exact h
theorem wpAny_inv {P : Program} {ops : Array Oper} {Q : Exit → Act → World → Prop} (hf : forward ops = true) (I : Array Bool → Act → World → Prop)
    (hstep : ∀ (L : Array Bool) (a : Act) (w : World), I L a w → ∀ (i : Nat) (o : Oper), ops[i]? = some o → (∀ e ∈ o.after, Region.binds .any e = true → L.getD e.on false = true) → wpOp P ops Q i (fun a' w' => I (L.setIfInBounds i true) a' w') a w)
    (hdone : ∀ (L : Array Bool) (a : Act) (w : World), I L a w → (∀ i, i < ops.size → L.getD i false = true) → Q .normal a w) :
    ∀ (fuel : Nat) (L : Array Bool) (a : Act) (w : World), L.size = ops.size → unlisted L ≤ fuel → I L a w → wpAny P .any ops Q fuel L a w
  | 0, L, a, w, hL, hu, hI => by
    have hr : Region.ready .any ops L = [] := by
      cases hr : Region.ready .any ops L with
      | nil => rfl
      | cons j r =>
        have hj : j ∈ Region.ready .any ops L := by rw [hr]; exact List.mem_cons_self
        have := unlisted_set (mem_ready.1 hj).1
        omega
    exact ⟨hr, hdone L a w hI (ready_all hf hL hr)⟩
  | fuel + 1, L, a, w, hL, hu, hI => by
    refine ⟨fun hr => hdone L a w hI (ready_all hf hL hr), fun i hi => ?_⟩
    obtain ⟨h1, o, ho, hd⟩ := mem_ready.1 hi
    have h2 := unlisted_set h1
    exact wpOp_mono (fun a' w' h' => wpAny_inv hf I hstep hdone fuel _ a' w' (by simpa using hL) (by omega) h') (hstep L a w hI i o ho hd)
theorem region_inv {P : Program} {id : Nat} {ops : Array Oper} {Q : Exit → Act → World → Prop} {a : Act} {w : World} (hm : P.follows .mixedOrders = true) (hf : forward ops = true) (I : Array Bool → Act → World → Prop)
    (h0 : I (Array.replicate ops.size false) a w.drew)
    (hstep : ∀ (L : Array Bool) (a : Act) (w : World), I L a w → ∀ (i : Nat) (o : Oper), ops[i]? = some o → (∀ e ∈ o.after, Region.binds .any e = true → L.getD e.on false = true) → wpOp P ops Q i (fun a' w' => I (L.setIfInBounds i true) a' w') a w)
    (hdone : ∀ (L : Array Bool) (a : Act) (w : World), I L a w → (∀ i, i < ops.size → L.getD i false = true) → Q .normal a w) : (Code.region id ops true).wp P Q a w :=
  wp_region_any hm (wpAny_inv hf I hstep hdone ops.size _ a w.drew (by simp) (by simp [unlisted]) h0)
theorem region_inv_at {P : Program} {id : Nat} {ops : Array Oper} {Q : Exit → Act → World → Prop} {a : Act} {w : World} (hm : P.follows .mixedOrders = true) (hf : forward ops = true) (I : Act → Array Bool → Act → World → Prop)
    (h0 : I a (Array.replicate ops.size false) a w.drew)
    (hstep : ∀ (L : Array Bool) (a' : Act) (w : World), I a L a' w → ∀ (i : Nat) (o : Oper), ops[i]? = some o → (∀ e ∈ o.after, Region.binds .any e = true → L.getD e.on false = true) → wpOp P ops Q i (fun a' w' => I a (L.setIfInBounds i true) a' w') a' w)
    (hdone : ∀ (L : Array Bool) (a' : Act) (w : World), I a L a' w → (∀ i, i < ops.size → L.getD i false = true) → Q .normal a' w) : (Code.region id ops true).wp P Q a w :=
  region_inv hm hf (I a) h0 hstep hdone
end Go.Proofs.YtlfgkdiehmoohaaGreatDoor
