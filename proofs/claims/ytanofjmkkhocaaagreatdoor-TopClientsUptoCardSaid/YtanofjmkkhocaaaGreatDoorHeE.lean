/- A region that draws its order, by a condition on what has come up: each operation keeps it, whichever comes up. head.Same; polyglotkit.SamePacket at equal packets. A drawn region by an invariant: what has come up has its value, and one store of a struct is told apart. -/
import Derived.Test.YtanofjmkkhocaaaGreatDoorBase
import Derived.Orders
import Derived.OrdersHeld
import Derived.Test.YtanofjmkkhocaaaGreatDoorHeD
set_option linter.unusedVariables false
set_option linter.unusedSimpArgs false
set_option maxRecDepth 100000
set_option maxHeartbeats 6400000
namespace Go.Proofs.YtanofjmkkhocaaaGreatDoor
open Go
def forward (ops : Array Oper) : Bool := (List.range ops.size).all fun i => match ops[i]? with
 | some o => o.after.all fun e => !(Region.binds .any e) || decide (e.on < i)
 | none => true
theorem forward_spec {ops : Array Oper} (h : forward ops = true) {i : Nat} {o : Oper} (ho : ops[i]? = some o) {e : Edge} (he : e ∈ o.after) (hb : Region.binds .any e = true) : e.on < i := by
 have hi : i < ops.size := (Array.getElem?_eq_some_iff.1 ho).1
 have h1 := List.all_eq_true.1 h i (List.mem_range.2 hi)
 rw [ho] at h1
 simp only [Array.all_eq_true'] at h1
 have h2 := h1 e he
 rw [hb] at h2
 simpa using h2
theorem dep_of {L : Array Bool} {o : Oper} (hd : ∀ e ∈ o.after, Region.binds .any e = true → L.getD e.on false = true) (k : Nat) (h : (o.after.toList.any fun e => Region.binds .any e && e.on == k) = true) : L.getD k false = true := by
 obtain ⟨e, he, hb⟩ := List.any_eq_true.1 h
 simp only [Bool.and_eq_true, beq_iff_eq] at hb
 rw [← hb.2]
 exact hd e (Array.mem_toList_iff.1 he) hb.1
theorem ready_some {ops : Array Oper} (hf : forward ops = true) {L : Array Bool} (hL : L.size = ops.size) : Region.ready .any ops L = [] → ∀ i, i < ops.size → L.getD i true = true := by
 intro hr i
 induction i using Nat.strongRecOn with
 | _ i ih =>
  intro hi
  cases hc : L.getD i true with
  | true => rfl
  | false =>
   have ho : ops[i]? = some ops[i] := Array.getElem?_eq_getElem hi
   have : i ∈ Region.ready .any ops L := mem_ready.2 ⟨hc, ops[i], ho, fun e he hb => by
    have hlt := forward_spec hf ho he hb
    have h1 := ih e.on hlt (by omega)
    have h2 : e.on < L.size := by omega
    simp only [Array.getD, h2, dite_true] at h1 ⊢
    exact h1⟩
   rw [hr] at this
   cases this
theorem ready_all {ops : Array Oper} (hf : forward ops = true) {L : Array Bool} (hL : L.size = ops.size) (hr : Region.ready .any ops L = []) (i : Nat) (hi : i < ops.size) : L.getD i false = true := by
 have h := ready_some hf hL hr i hi
 have h2 : i < L.size := by omega
 simp only [Array.getD, h2, dite_true] at h ⊢
 exact h
theorem getD_repl (n i : Nat) : (Array.replicate n false).getD i false = false := by
 unfold Array.getD
 split <;> simp
def unlisted (L : Array Bool) : Nat := L.toList.count false
theorem count_set : ∀ (l : List Bool) (i : Nat), l[i]? = some false → (l.set i true).count false + 1 = l.count false
 | b :: l, 0, h => by
  obtain rfl : b = false := by simpa using h
  simp
 | b :: l, i + 1, h => by
  have h1 := count_set l i (by simpa using h)
  rw [List.set_cons_succ, List.count_cons, List.count_cons]
  omega
theorem unlisted_set {L : Array Bool} {i : Nat} (h : L.getD i true = false) : unlisted (L.setIfInBounds i true) + 1 = unlisted L := by
 have hi : i < L.size := by
  rcases Nat.lt_or_ge i L.size with h1 | h1
  ·exact h1
  ·simp [Array.getD, Nat.not_lt.2 h1] at h
 unfold unlisted
 have e : (L.setIfInBounds i true).toList = L.toList.set i true := by simp
 rw [e]
 refine count_set _ _ ?_
 simp only [Array.getD, hi, dite_true] at h
 simp [hi]
 exact h
theorem wpAny_inv {P : Program} {ops : Array Oper} {Q : Exit → Act → World → Prop} (hf : forward ops = true) (I : Array Bool → Act → World → Prop)
  (hstep : ∀ (L : Array Bool) (a : Act) (w : World), I L a w → ∀ (i : Nat) (o : Oper), ops[i]? = some o → (∀ e ∈ o.after, Region.binds .any e = true → L.getD e.on false = true) → wpOp P ops Q i (fun a' w' => I (L.setIfInBounds i true) a' w') a w)
  (hdone : ∀ (L : Array Bool) (a : Act) (w : World), I L a w → (∀ i, i < ops.size → L.getD i false = true) → Q .normal a w) :
  ∀ (fuel : Nat) (L : Array Bool) (a : Act) (w : World), L.size = ops.size → unlisted L ≤ fuel → I L a w → wpAny P .any ops Q fuel L a w
 | 0, L, a, w, hL, hu, hI => by
  have hr : Region.ready .any ops L = [] := by
   cases hr : Region.ready .any ops L with
   | nil => rfl
   | cons j r =>
    have hj : j ∈ Region.ready .any ops L := by rw [hr]; exact List.mem_cons_self
    have := unlisted_set (mem_ready.1 hj).1
    omega
  exact ⟨hr, hdone L a w hI (ready_all hf hL hr)⟩
 | fuel + 1, L, a, w, hL, hu, hI => by
  refine ⟨fun hr => hdone L a w hI (ready_all hf hL hr), fun i hi => ?_⟩
  obtain ⟨h1, o, ho, hd⟩ := mem_ready.1 hi
  have h2 := unlisted_set h1
  exact wpOp_mono (fun a' w' h' => wpAny_inv hf I hstep hdone fuel _ a' w' (by simpa using hL) (by omega) h') (hstep L a w hI i o ho hd)
theorem region_inv {P : Program} {id : Nat} {ops : Array Oper} {Q : Exit → Act → World → Prop} {a : Act} {w : World} (hm : P.follows .mixedOrders = true) (hf : forward ops = true) (I : Array Bool → Act → World → Prop)
  (h0 : I (Array.replicate ops.size false) a w.drew)
  (hstep : ∀ (L : Array Bool) (a : Act) (w : World), I L a w → ∀ (i : Nat) (o : Oper), ops[i]? = some o → (∀ e ∈ o.after, Region.binds .any e = true → L.getD e.on false = true) → wpOp P ops Q i (fun a' w' => I (L.setIfInBounds i true) a' w') a w)
  (hdone : ∀ (L : Array Bool) (a : Act) (w : World), I L a w → (∀ i, i < ops.size → L.getD i false = true) → Q .normal a w) : (Code.region id ops true).wp P Q a w :=
 wp_region_any hm (wpAny_inv hf I hstep hdone ops.size _ a w.drew (by simp) (by simp [unlisted]) h0)
theorem region_inv_at {P : Program} {id : Nat} {ops : Array Oper} {Q : Exit → Act → World → Prop} {a : Act} {w : World} (hm : P.follows .mixedOrders = true) (hf : forward ops = true) (I : Act → Array Bool → Act → World → Prop)
  (h0 : I a (Array.replicate ops.size false) a w.drew)
  (hstep : ∀ (L : Array Bool) (a' : Act) (w : World), I a L a' w → ∀ (i : Nat) (o : Oper), ops[i]? = some o → (∀ e ∈ o.after, Region.binds .any e = true → L.getD e.on false = true) → wpOp P ops Q i (fun a' w' => I a (L.setIfInBounds i true) a' w') a' w)
  (hdone : ∀ (L : Array Bool) (a' : Act) (w : World), I a L a' w → (∀ i, i < ops.size → L.getD i false = true) → Q .normal a' w) : (Code.region id ops true).wp P Q a w :=
 region_inv hm hf (I a) h0 hstep hdone
end Go.Proofs.YtanofjmkkhocaaaGreatDoor
namespace Go.Proofs.YtanofjmkkhocaaaGreatDoor
open Go Go.RowKit
attribute [local go_sem ↓] load_Pk store_Pk load_Wl store_Br
attribute [local irreducible] rowSem rowStore
theorem eql_br (a b : Sc) (w : World) : (binOp .eql 388 (.agg (scCs a)) (.agg (scCs b))).run Tryz.prog w = .ok (.bool (decide (a = b))) w := by
 obtain ⟨ki1, q1, id1, al1, co1, du1, re1, cl1, hu1, hp1, hw1, se1, top1, pay1, cli1, us1, pw1⟩ := a
 obtain ⟨ki2, q2, id2, al2, co2, du2, re2, cl2, hu2, hp2, hw2, se2, top2, pay2, cli2, us2, pw2⟩ := b
 unfold scCs
 go_simp
 by_cases h : ki1 = ki2
 rotate_left
 ·simp [h]
 subst h
 by_cases h : q1 = q2
 rotate_left
 ·simp [h]
 subst h
 by_cases h : id1 = id2
 rotate_left
 ·simp [h]
 subst h
 by_cases h : al1 = al2
 rotate_left
 ·simp [h]
 subst h
 by_cases h : co1 = co2
 rotate_left
 ·simp [h]
 subst h
 by_cases h : du1 = du2
 rotate_left
 ·simp [h]
 subst h
 by_cases h : re1 = re2
 rotate_left
 ·simp [h]
 subst h
 by_cases h : cl1 = cl2
 rotate_left
 ·simp [h]
 subst h
 by_cases h : hu1 = hu2
 rotate_left
 ·simp [h]
 subst h
 by_cases h : hp1 = hp2
 rotate_left
 ·simp [h]
 subst h
 by_cases h : hw1 = hw2
 rotate_left
 ·simp [h]
 subst h
 by_cases h : se1 = se2
 rotate_left
 ·simp [h]
 subst h
 by_cases h : top1 = top2
 rotate_left
 ·simp [h]
 subst h
 by_cases h : pay1 = pay2
 rotate_left
 ·simp [h]
 subst h
 by_cases h : cli1 = cli2
 rotate_left
 ·simp [h]
 subst h
 by_cases h : us1 = us2
 rotate_left
 ·simp [h]
 subst h
 by_cases h : pw1 = pw2
 rotate_left
 ·simp [h]
 subst h
 simp
def gd (b : Bool) (v : Value) : Value := bif b then v else undef
def sameV (cA sA cB sB wA wB : Array Value) (ac bc af bf ap bp : Value) (g : Nat) (C1 B2 C2 B3 C3 B4 C4 B5 C5 : Bool) : Nat → Value
 | 0 => .agg cA
 | 1 => .agg sA
 | 2 => .agg cB
 | 3 => .agg sB
 | 4 => .bool C1
 | 5 => .bool C1
 | 6 => gd C1 (.pointer (some ⟨g, 15, none⟩))
 | 7 => gd C1 (.agg wA)
 | 8 => gd C1 (.pointer (some ⟨g + 1, 15, none⟩))
 | 9 => gd C1 (.agg wB)
 | 10 => gd C1 (.bool B2)
 | 11 => .bool C2
 | 12 => .bool C2
 | 13 => gd C2 (.pointer (some ⟨g, 22, none⟩))
 | 14 => gd C2 ac
 | 15 => gd C2 (.pointer (some ⟨g + 1, 22, none⟩))
 | 16 => gd C2 bc
 | 17 => gd C2 (.bool B3)
 | 18 => .bool C3
 | 19 => .bool C3
 | 20 => gd C3 (.pointer (some ⟨g, 23, none⟩))
 | 21 => gd C3 af
 | 22 => gd C3 (.pointer (some ⟨g + 1, 23, none⟩))
 | 23 => gd C3 bf
 | 24 => gd C3 (.bool B4)
 | 25 => .bool C4
 | 26 => .bool C4
 | 27 => gd C4 (.pointer (some ⟨g, 24, none⟩))
 | 28 => gd C4 ap
 | 29 => gd C4 (.pointer (some ⟨g + 1, 24, none⟩))
 | 30 => gd C4 bp
 | 31 => gd C4 (.bool B5)
 | 32 => .bool C5
 | 33 => .bool C5
 | _ => undef
def updS (x : Nat → Value) (i : Nat) (v : Value) (j : Nat) : Value := if j = i then v else x j
def putS (a : Act) (x : Nat → Value) : Act := { a with tmps := ((((((((((((((((((((((((((((((((((a.tmps.setIfInBounds 5 (x 0)).setIfInBounds 6 (x 1)).setIfInBounds 7 (x 2)).setIfInBounds 8 (x 3)).setIfInBounds 9 (x 4)).setIfInBounds 10 (x 5)).setIfInBounds 11 (x 6)).setIfInBounds 12 (x 7)).setIfInBounds 13 (x 8)).setIfInBounds 14 (x 9)).setIfInBounds 15 (x 10)).setIfInBounds 16 (x 11)).setIfInBounds 17 (x 12)).setIfInBounds 18 (x 13)).setIfInBounds 19 (x 14)).setIfInBounds 20 (x 15)).setIfInBounds 21 (x 16)).setIfInBounds 22 (x 17)).setIfInBounds 23 (x 18)).setIfInBounds 24 (x 19)).setIfInBounds 25 (x 20)).setIfInBounds 26 (x 21)).setIfInBounds 27 (x 22)).setIfInBounds 28 (x 23)).setIfInBounds 29 (x 24)).setIfInBounds 30 (x 25)).setIfInBounds 31 (x 26)).setIfInBounds 32 (x 27)).setIfInBounds 33 (x 28)).setIfInBounds 34 (x 29)).setIfInBounds 35 (x 30)).setIfInBounds 36 (x 31)).setIfInBounds 37 (x 32)).setIfInBounds 4 (x 33)) }
def InvS (V : Nat → Value) (W0 : World) (a0 : Act) (L : Array Bool) (a : Act) (w : World) : Prop := ∃ x, a = putS a0 x ∧ Below W0.heap.size W0 w ∧ ∀ i, i < 34 → L.getD i false = true → x i = V i
theorem upds_same {x : Nat → Value} {j : Nat} {u : Value} (e : x j = u) : updS x j u = x := by
 funext k
 unfold updS
 by_cases h : k = j
 ·rw [if_pos h, h, e]
 ·rw [if_neg h]
theorem upds1 {x : Nat → Value} {i : Nat} {u : Value} (e1 : x i = u) : updS x i u = x := upds_same e1
theorem upds2 {x : Nat → Value} {i j : Nat} {u v : Value} (e1 : x i = u) (e2 : x j = v) : updS (updS x i u) j v = x := by rw [upds_same e1, upds_same e2]
theorem InvS.next {V : Nat → Value} {W0 : World} {a0 : Act} {L : Array Bool} {a' : Act} {x y : Nat → Value} {w w' : World} (i : Nat) (v : Value) (hB : Below W0.heap.size W0 w) (hΦ : ∀ i, i < 34 → L.getD i false = true → x i = V i) (hb : Below w.heap.size w w')
  (hy : y = x) (ha : a' = putS a0 (updS y i v)) (hv : v = V i) : InvS V W0 a0 (L.setIfInBounds i true) a' w' := by
 subst hy
 refine ⟨_, ha, below_thenh hB hb, fun j hj hl => ?_⟩
 unfold updS
 by_cases hji : j = i
 ·rw [if_pos hji, hji]; exact hv
 ·rw [if_neg hji]
  refine hΦ j hj ?_
  have e : (L.setIfInBounds i true).getD j false = L.getD j false := by
   simp only [Array.getD_eq_getD_getElem?]
   rw [Array.getElem?_setIfInBounds_ne (Ne.symm hji)]
  rw [← e]; exact hl
theorem wpOp_yes {P : Program} {ops : Array Oper} {Q : Exit → Act → World → Prop} {i : Nat} {o : Oper} {K : Act → World → Prop} {a : Act} {w : World} (ho : ops[i]? = some o) (hw : Region.wanted o (yielded ops a.tmps) = true)
  (h : ∀ K' : Act → World → Prop, (∀ a' w', K a' w' → K' a' w') → Oper.wp P o a w K' Q) : wpOp P ops Q i K a w := by
 unfold wpOp
 rw [ho]
 simp only [hw, if_true]
 exact .inl (h K fun _ _ h => h)
theorem wpOp_no {P : Program} {ops : Array Oper} {Q : Exit → Act → World → Prop} {i : Nat} {o : Oper} {K : Act → World → Prop} {a : Act} {w : World} (ho : ops[i]? = some o) (hw : Region.wanted o (yielded ops a.tmps) = false)
  (h : K (a.put o.dst undef) w) : wpOp P ops Q i K a w := by
 unfold wpOp
 rw [ho]
 simp only [hw]
 exact h
theorem hsame_any {a b : Pk} {aw ac af ap bw bc bf bp : Value} {w : World} (hA : PkAt w a aw ac af ap) (hB : PkAt w b bw bc bf bp) :
  Calls Tryz.prog 272 #[.agg (pkCs a aw ac af ap), .agg (pkCs b bw bc bf bp)] w fun e w' => e = .returned (.bool (decide (a = b))) ∧ Below w.heap.size w w' := by
 obtain ⟨W0, hW0, O1, O2, hb0⟩ := pk_world a b aw ac af ap bw bc bf bp w
 have HO := Lib.hid (And.intro O1 (And.intro O2 hb0))
 have HA := Lib.hid (hA.below hb0)
 have HB := Lib.hid (hB.below hb0)
 have HS1 := Lib.hid (fun W => strip_any a aw ac af ap W)
 have HS2 := Lib.hid (fun W => strip_any b bw bc bf bp W)
 have HWl := Lib.hid (fun W (hW : Below W0.heap.size W0 W) => samewill_any (HA.out.rw'.below hW) (HB.out.rw'.below hW))
 have HLi := Lib.hid (fun W (hW : Below W0.heap.size W0 W) => list_in (HA.out.rc.below hW) (HB.out.rc.below hW))
 have HLf := Lib.hid (fun W (hW : Below W0.heap.size W0 W) => list_ft (HA.out.rf.below hW) (HB.out.rf.below hW))
 have HLp := Lib.hid (fun W (hW : Below W0.heap.size W0 W) => list_pp (HA.out.rp.below hW) (HB.out.rp.below hW))
 have HQ := Lib.hid (fun W => eql_br a.s b.s W)
 obtain ⟨C1, hC1⟩ : ∃ B, B = decide (a.s = b.s) := ⟨_, rfl⟩
 obtain ⟨B2, hB2⟩ : ∃ B, B = decide (a.w = b.w) := ⟨_, rfl⟩
 obtain ⟨B3, hB3⟩ : ∃ B, B = decide (a.codes = b.codes) := ⟨_, rfl⟩
 obtain ⟨B4, hB4⟩ : ∃ B, B = decide (a.filters = b.filters) := ⟨_, rfl⟩
 obtain ⟨B5, hB5⟩ : ∃ B, B = decide (a.props = b.props) := ⟨_, rfl⟩
 obtain ⟨C2, hC2⟩ : ∃ B, B = (C1 && B2) := ⟨_, rfl⟩
 obtain ⟨C3, hC3⟩ : ∃ B, B = (C2 && B3) := ⟨_, rfl⟩
 obtain ⟨C4, hC4⟩ : ∃ B, B = (C3 && B4) := ⟨_, rfl⟩
 obtain ⟨C5, hC5⟩ : ∃ B, B = (C4 && B5) := ⟨_, rfl⟩
 have hres : decide (a = b) = C5 := by
  rw [hC5, hC4, hC3, hC2, hC1, hB2, hB3, hB4, hB5]
  obtain ⟨s1, w1, c1, f1, p1⟩ := a
  obtain ⟨s2, w2, c2, f2, p2⟩ := b
  rw [Bool.eq_iff_iff]
  simp [and_assoc]
 rw [hres]
 rw [← hC1] at HQ
 rw [← hB2] at HWl
 rw [← hB3] at HLi
 rw [← hB4] at HLf
 rw [← hB5] at HLp
 have HC := Lib.hid (And.intro hC2 (And.intro hC3 (And.intro hC4 hC5)))
 clear hC1 hB2 hB3 hB4 hB5 hC2 hC3 hC4 hC5 hres
 obtain ⟨cA, hcA⟩ : ∃ c, c = pkCs a aw ac af ap := ⟨_, rfl⟩
 obtain ⟨cB, hcB⟩ : ∃ c, c = pkCs b bw bc bf bp := ⟨_, rfl⟩
 obtain ⟨wA, hwA⟩ : ∃ c, c = wlCs a.w aw := ⟨_, rfl⟩
 obtain ⟨wB, hwB⟩ : ∃ c, c = wlCs b.w bw := ⟨_, rfl⟩
 obtain ⟨sA, hsA⟩ : ∃ c, c = scCs a.s := ⟨_, rfl⟩
 obtain ⟨sB, hsB⟩ : ∃ c, c = scCs b.s := ⟨_, rfl⟩
 rw [← hcA, ← hsA] at HS1
 rw [← hcB, ← hsB] at HS2
 rw [← hsA, ← hsB] at HQ
 rw [← hwA, ← hwB] at HWl
 have HV := Lib.hid (And.intro hcA (And.intro hcB (And.intro hwA hwB)))
 clear O1 O2 hb0 hA hB HA HB hcA hcB hwA hwB hsA hsB
 go_enter Tryz.func272, Tryz.ntmps272
 go_upto_region 1 with fail
 (try rw [hW0])
 clear hW0
 (try dsimp only [List.append])
 refine region_inv_at rfl (by kernel_rfl) (InvS (sameV cA sA cB sB wA wB ac bc af bf ap bp w.heap.size C1 B2 C2 B3 C3 B4 C4 B5 C5) W0) ?_ ?_ ?_
 ·exact ⟨fun i => match i with | 33 => .bool false | _ => undef, by kernel_rfl, below_grown (quiet_grown ⟨1, rfl⟩ none), fun i hi h => absurd h (by rw [getD_repl]; decide)⟩
 ·rintro L a wz ⟨x, rfl, hB, hΦ⟩ i o ho hd
  have hlt : i < 34 := (Array.getElem?_eq_some_iff.1 ho).1
  simp only [putS, List.setIfInBounds_toArray, List.set_cons_zero, List.set_cons_succ]
  have hcase : i = 0 ∨ i = 1 ∨ i = 2 ∨ i = 3 ∨ i = 4 ∨ i = 5 ∨ i = 6 ∨ i = 7 ∨ i = 8 ∨ i = 9 ∨ i = 10 ∨ i = 11 ∨ i = 12 ∨ i = 13 ∨ i = 14 ∨ i = 15 ∨ i = 16 ∨ i = 17 ∨ i = 18 ∨ i = 19 ∨ i = 20 ∨ i = 21 ∨ i = 22 ∨ i = 23 ∨ i = 24 ∨ i = 25 ∨ i = 26 ∨ i = 27 ∨ i = 28 ∨ i = 29 ∨ i = 30 ∨ i = 31 ∨ i = 32 ∨ i = 33 := by omega
  rcases hcase with rfl | rfl | rfl | rfl | rfl | rfl | rfl | rfl | rfl | rfl | rfl | rfl | rfl | rfl | rfl | rfl | rfl | rfl | rfl | rfl | rfl | rfl | rfl | rfl | rfl | rfl | rfl | rfl | rfl | rfl | rfl | rfl | rfl | rfl
  all_goals
   have ho' := ho
   simp only [List.getElem?_toArray, List.getElem?_cons_zero, List.getElem?_cons_succ, Option.some.injEq] at ho'
   subst ho'
   clear hlt
  ·refine wpOp_yes ho rfl (fun K' hK => ?_)
   have HK := Lib.hid hK
   clear hK ho
   have hl := load_pk (HO.out.1.below hB HO.out.1.lt)
   rw [← HV.out.1] at hl
   go_simp
   refine HK.out _ _ (InvS.next 0 _ hB hΦ (Below.refl _ _) rfl ?_ rfl)
   kernel_rfl
  ·refine wpOp_yes ho rfl (fun K' hK => ?_)
   have HK := Lib.hid hK
   clear hK ho
   have e0 := (show x 0 = .agg cA from hΦ 0 (by decide) (dep_of hd _ rfl))
   go_simp
   go_at_call 305
   refine (HS1.out _).mono ?_
   rintro e w1 ⟨rfl, hb⟩
   (try dsimp only)
   refine HK.out _ _ (InvS.next 1 _ hB hΦ hb (upds1 e0) ?_ rfl)
   kernel_rfl
  ·refine wpOp_yes ho rfl (fun K' hK => ?_)
   have HK := Lib.hid hK
   clear hK ho
   have hl := load_pk (HO.out.2.1.below hB HO.out.2.1.lt)
   rw [← HV.out.2.1] at hl
   go_simp
   refine HK.out _ _ (InvS.next 2 _ hB hΦ (Below.refl _ _) rfl ?_ rfl)
   kernel_rfl
  ·refine wpOp_yes ho rfl (fun K' hK => ?_)
   have HK := Lib.hid hK
   clear hK ho
   have e2 := (show x 2 = .agg cB from hΦ 2 (by decide) (dep_of hd _ rfl))
   go_simp
   go_at_call 305
   refine (HS2.out _).mono ?_
   rintro e w1 ⟨rfl, hb⟩
   (try dsimp only)
   refine HK.out _ _ (InvS.next 3 _ hB hΦ hb (upds1 e2) ?_ rfl)
   kernel_rfl
  ·refine wpOp_yes ho rfl (fun K' hK => ?_)
   have HK := Lib.hid hK
   clear hK ho
   have e1 := (show x 1 = .agg sA from hΦ 1 (by decide) (dep_of hd _ rfl))
   have e3 := (show x 3 = .agg sB from hΦ 3 (by decide) (dep_of hd _ rfl))
   have qs := HQ.out
   go_simp
   refine HK.out _ _ (InvS.next 4 _ hB hΦ (Below.refl _ _) (upds2 e1 e3) ?_ rfl)
   kernel_rfl
  ·refine wpOp_yes ho rfl (fun K' hK => ?_)
   have HK := Lib.hid hK
   clear hK ho
   have e4 := (show x 4 = .bool C1 from hΦ 4 (by decide) (dep_of hd _ rfl))
   go_simp
   refine HK.out _ _ (InvS.next 5 _ hB hΦ (Below.refl _ _) (upds1 e4) ?_ rfl)
   kernel_rfl
  ·have e5 := (show x 5 = .bool C1 from hΦ 5 (by decide) (dep_of hd _ rfl))
   cases C1 with
   | true =>
    refine wpOp_yes ho (by rw [← upds1 e5]; kernel_rfl) (fun K' hK => ?_)
    have HK := Lib.hid hK
    clear hK ho e5
    go_simp
    refine HK.out _ _ (InvS.next 6 _ hB hΦ (Below.refl _ _) rfl ?_ rfl)
    kernel_rfl
   | false =>
    refine wpOp_no ho (by rw [← upds1 e5]; kernel_rfl) ?_
    refine (InvS.next 6 _ hB hΦ (Below.refl _ _) rfl ?_ rfl)
    kernel_rfl
  ·have e5 := (show x 5 = .bool C1 from hΦ 5 (by decide) (dep_of hd _ rfl))
   cases C1 with
   | true =>
    refine wpOp_yes ho (by rw [← upds1 e5]; kernel_rfl) (fun K' hK => ?_)
    have HK := Lib.hid hK
    clear hK ho e5
    have e6 := (show x 6 = .pointer (some ⟨w.heap.size, 15, none⟩) from hΦ 6 (by decide) (dep_of hd _ rfl))
    have hl := load_wl (HO.out.1.below hB HO.out.1.lt)
    rw [← HV.out.2.2.1] at hl
    go_simp
    refine HK.out _ _ (InvS.next 7 _ hB hΦ (Below.refl _ _) (upds1 e6) ?_ rfl)
    kernel_rfl
   | false =>
    refine wpOp_no ho (by rw [← upds1 e5]; kernel_rfl) ?_
    refine (InvS.next 7 _ hB hΦ (Below.refl _ _) rfl ?_ rfl)
    kernel_rfl
  ·have e5 := (show x 5 = .bool C1 from hΦ 5 (by decide) (dep_of hd _ rfl))
   cases C1 with
   | true =>
    refine wpOp_yes ho (by rw [← upds1 e5]; kernel_rfl) (fun K' hK => ?_)
    have HK := Lib.hid hK
    clear hK ho e5
    go_simp
    refine HK.out _ _ (InvS.next 8 _ hB hΦ (Below.refl _ _) rfl ?_ rfl)
    kernel_rfl
   | false =>
    refine wpOp_no ho (by rw [← upds1 e5]; kernel_rfl) ?_
    refine (InvS.next 8 _ hB hΦ (Below.refl _ _) rfl ?_ rfl)
    kernel_rfl
  ·have e5 := (show x 5 = .bool C1 from hΦ 5 (by decide) (dep_of hd _ rfl))
   cases C1 with
   | true =>
    refine wpOp_yes ho (by rw [← upds1 e5]; kernel_rfl) (fun K' hK => ?_)
    have HK := Lib.hid hK
    clear hK ho e5
    have e8 := (show x 8 = .pointer (some ⟨w.heap.size + 1, 15, none⟩) from hΦ 8 (by decide) (dep_of hd _ rfl))
    have hl := load_wl (HO.out.2.1.below hB HO.out.2.1.lt)
    rw [← HV.out.2.2.2] at hl
    go_simp
    refine HK.out _ _ (InvS.next 9 _ hB hΦ (Below.refl _ _) (upds1 e8) ?_ rfl)
    kernel_rfl
   | false =>
    refine wpOp_no ho (by rw [← upds1 e5]; kernel_rfl) ?_
    refine (InvS.next 9 _ hB hΦ (Below.refl _ _) rfl ?_ rfl)
    kernel_rfl
  ·have e5 := (show x 5 = .bool C1 from hΦ 5 (by decide) (dep_of hd _ rfl))
   cases C1 with
   | true =>
    refine wpOp_yes ho (by rw [← upds1 e5]; kernel_rfl) (fun K' hK => ?_)
    have HK := Lib.hid hK
    clear hK ho e5
    have e7 := (show x 7 = .agg wA from hΦ 7 (by decide) (dep_of hd _ rfl))
    have e9 := (show x 9 = .agg wB from hΦ 9 (by decide) (dep_of hd _ rfl))
    go_simp
    go_at_call 306
    refine (HWl.out _ hB).mono ?_
    rintro e w1 ⟨rfl, hb⟩
    (try dsimp only)
    refine HK.out _ _ (InvS.next 10 _ hB hΦ hb (upds2 e7 e9) ?_ rfl)
    kernel_rfl
   | false =>
    refine wpOp_no ho (by rw [← upds1 e5]; kernel_rfl) ?_
    refine (InvS.next 10 _ hB hΦ (Below.refl _ _) rfl ?_ rfl)
    kernel_rfl
  ·have e5 := (show x 5 = .bool C1 from hΦ 5 (by decide) (dep_of hd _ rfl))
   have e10 := (show x 10 = gd C1 (.bool B2) from hΦ 10 (by decide) (dep_of hd _ rfl))
   have hC := HC.out.1
   refine wpOp_yes ho rfl (fun K' hK => ?_)
   have HK := Lib.hid hK
   clear hK ho
   cases C1 with
   | true =>
    have e10 := (show x 10 = .bool B2 from e10)
    go_simp
    refine HK.out _ _ (InvS.next 11 _ hB hΦ (Below.refl _ _) (upds2 e5 e10) ?_ (show Value.bool B2 = .bool C2 by rw [hC]; rfl))
    kernel_rfl
   | false =>
    clear e10
    go_simp
    refine HK.out _ _ (InvS.next 11 _ hB hΦ (Below.refl _ _) (upds1 e5) ?_ (show Value.bool false = .bool C2 by rw [hC]; rfl))
    kernel_rfl
  ·refine wpOp_yes ho rfl (fun K' hK => ?_)
   have HK := Lib.hid hK
   clear hK ho
   have e11 := (show x 11 = .bool C2 from hΦ 11 (by decide) (dep_of hd _ rfl))
   go_simp
   refine HK.out _ _ (InvS.next 12 _ hB hΦ (Below.refl _ _) (upds1 e11) ?_ rfl)
   kernel_rfl
  ·have e12 := (show x 12 = .bool C2 from hΦ 12 (by decide) (dep_of hd _ rfl))
   cases C2 with
   | true =>
    refine wpOp_yes ho (by rw [← upds1 e12]; kernel_rfl) (fun K' hK => ?_)
    have HK := Lib.hid hK
    clear hK ho e12
    go_simp
    refine HK.out _ _ (InvS.next 13 _ hB hΦ (Below.refl _ _) rfl ?_ rfl)
    kernel_rfl
   | false =>
    refine wpOp_no ho (by rw [← upds1 e12]; kernel_rfl) ?_
    refine (InvS.next 13 _ hB hΦ (Below.refl _ _) rfl ?_ rfl)
    kernel_rfl
  ·have e12 := (show x 12 = .bool C2 from hΦ 12 (by decide) (dep_of hd _ rfl))
   cases C2 with
   | true =>
    refine wpOp_yes ho (by rw [← upds1 e12]; kernel_rfl) (fun K' hK => ?_)
    have HK := Lib.hid hK
    clear hK ho e12
    have e13 := (show x 13 = .pointer (some ⟨w.heap.size, 22, none⟩) from hΦ 13 (by decide) (dep_of hd _ rfl))
    have hk := (HO.out.1.below hB HO.out.1.lt).cells
    simp only [pkCs] at hk
    go_simp
    refine HK.out _ _ (InvS.next 14 _ hB hΦ (Below.refl _ _) (upds1 e13) ?_ rfl)
    kernel_rfl
   | false =>
    refine wpOp_no ho (by rw [← upds1 e12]; kernel_rfl) ?_
    refine (InvS.next 14 _ hB hΦ (Below.refl _ _) rfl ?_ rfl)
    kernel_rfl
  ·have e12 := (show x 12 = .bool C2 from hΦ 12 (by decide) (dep_of hd _ rfl))
   cases C2 with
   | true =>
    refine wpOp_yes ho (by rw [← upds1 e12]; kernel_rfl) (fun K' hK => ?_)
    have HK := Lib.hid hK
    clear hK ho e12
    go_simp
    refine HK.out _ _ (InvS.next 15 _ hB hΦ (Below.refl _ _) rfl ?_ rfl)
    kernel_rfl
   | false =>
    refine wpOp_no ho (by rw [← upds1 e12]; kernel_rfl) ?_
    refine (InvS.next 15 _ hB hΦ (Below.refl _ _) rfl ?_ rfl)
    kernel_rfl
  ·have e12 := (show x 12 = .bool C2 from hΦ 12 (by decide) (dep_of hd _ rfl))
   cases C2 with
   | true =>
    refine wpOp_yes ho (by rw [← upds1 e12]; kernel_rfl) (fun K' hK => ?_)
    have HK := Lib.hid hK
    clear hK ho e12
    have e15 := (show x 15 = .pointer (some ⟨w.heap.size + 1, 22, none⟩) from hΦ 15 (by decide) (dep_of hd _ rfl))
    have hk := (HO.out.2.1.below hB HO.out.2.1.lt).cells
    simp only [pkCs] at hk
    go_simp
    refine HK.out _ _ (InvS.next 16 _ hB hΦ (Below.refl _ _) (upds1 e15) ?_ rfl)
    kernel_rfl
   | false =>
    refine wpOp_no ho (by rw [← upds1 e12]; kernel_rfl) ?_
    refine (InvS.next 16 _ hB hΦ (Below.refl _ _) rfl ?_ rfl)
    kernel_rfl
  ·have e12 := (show x 12 = .bool C2 from hΦ 12 (by decide) (dep_of hd _ rfl))
   cases C2 with
   | true =>
    refine wpOp_yes ho (by rw [← upds1 e12]; kernel_rfl) (fun K' hK => ?_)
    have HK := Lib.hid hK
    clear hK ho e12
    have e14 := (show x 14 = ac from hΦ 14 (by decide) (dep_of hd _ rfl))
    have e16 := (show x 16 = bc from hΦ 16 (by decide) (dep_of hd _ rfl))
    go_simp
    go_at_call 307
    refine (HLi.out _ hB).mono ?_
    rintro e w1 ⟨rfl, hb⟩
    (try dsimp only)
    refine HK.out _ _ (InvS.next 17 _ hB hΦ hb (upds2 e14 e16) ?_ rfl)
    kernel_rfl
   | false =>
    refine wpOp_no ho (by rw [← upds1 e12]; kernel_rfl) ?_
    refine (InvS.next 17 _ hB hΦ (Below.refl _ _) rfl ?_ rfl)
    kernel_rfl
  ·have e12 := (show x 12 = .bool C2 from hΦ 12 (by decide) (dep_of hd _ rfl))
   have e17 := (show x 17 = gd C2 (.bool B3) from hΦ 17 (by decide) (dep_of hd _ rfl))
   have hC := HC.out.2.1
   refine wpOp_yes ho rfl (fun K' hK => ?_)
   have HK := Lib.hid hK
   clear hK ho
   cases C2 with
   | true =>
    have e17 := (show x 17 = .bool B3 from e17)
    go_simp
    refine HK.out _ _ (InvS.next 18 _ hB hΦ (Below.refl _ _) (upds2 e12 e17) ?_ (show Value.bool B3 = .bool C3 by rw [hC]; rfl))
    kernel_rfl
   | false =>
    clear e17
    go_simp
    refine HK.out _ _ (InvS.next 18 _ hB hΦ (Below.refl _ _) (upds1 e12) ?_ (show Value.bool false = .bool C3 by rw [hC]; rfl))
    kernel_rfl
  ·refine wpOp_yes ho rfl (fun K' hK => ?_)
   have HK := Lib.hid hK
   clear hK ho
   have e18 := (show x 18 = .bool C3 from hΦ 18 (by decide) (dep_of hd _ rfl))
   go_simp
   refine HK.out _ _ (InvS.next 19 _ hB hΦ (Below.refl _ _) (upds1 e18) ?_ rfl)
   kernel_rfl
  ·have e19 := (show x 19 = .bool C3 from hΦ 19 (by decide) (dep_of hd _ rfl))
   cases C3 with
   | true =>
    refine wpOp_yes ho (by rw [← upds1 e19]; kernel_rfl) (fun K' hK => ?_)
    have HK := Lib.hid hK
    clear hK ho e19
    go_simp
    refine HK.out _ _ (InvS.next 20 _ hB hΦ (Below.refl _ _) rfl ?_ rfl)
    kernel_rfl
   | false =>
    refine wpOp_no ho (by rw [← upds1 e19]; kernel_rfl) ?_
    refine (InvS.next 20 _ hB hΦ (Below.refl _ _) rfl ?_ rfl)
    kernel_rfl
  ·have e19 := (show x 19 = .bool C3 from hΦ 19 (by decide) (dep_of hd _ rfl))
   cases C3 with
   | true =>
    refine wpOp_yes ho (by rw [← upds1 e19]; kernel_rfl) (fun K' hK => ?_)
    have HK := Lib.hid hK
    clear hK ho e19
    have e20 := (show x 20 = .pointer (some ⟨w.heap.size, 23, none⟩) from hΦ 20 (by decide) (dep_of hd _ rfl))
    have hk := (HO.out.1.below hB HO.out.1.lt).cells
    simp only [pkCs] at hk
    go_simp
    refine HK.out _ _ (InvS.next 21 _ hB hΦ (Below.refl _ _) (upds1 e20) ?_ rfl)
    kernel_rfl
   | false =>
    refine wpOp_no ho (by rw [← upds1 e19]; kernel_rfl) ?_
    refine (InvS.next 21 _ hB hΦ (Below.refl _ _) rfl ?_ rfl)
    kernel_rfl
  ·have e19 := (show x 19 = .bool C3 from hΦ 19 (by decide) (dep_of hd _ rfl))
   cases C3 with
   | true =>
    refine wpOp_yes ho (by rw [← upds1 e19]; kernel_rfl) (fun K' hK => ?_)
    have HK := Lib.hid hK
    clear hK ho e19
    go_simp
    refine HK.out _ _ (InvS.next 22 _ hB hΦ (Below.refl _ _) rfl ?_ rfl)
    kernel_rfl
   | false =>
    refine wpOp_no ho (by rw [← upds1 e19]; kernel_rfl) ?_
    refine (InvS.next 22 _ hB hΦ (Below.refl _ _) rfl ?_ rfl)
    kernel_rfl
  ·have e19 := (show x 19 = .bool C3 from hΦ 19 (by decide) (dep_of hd _ rfl))
   cases C3 with
   | true =>
    refine wpOp_yes ho (by rw [← upds1 e19]; kernel_rfl) (fun K' hK => ?_)
    have HK := Lib.hid hK
    clear hK ho e19
    have e22 := (show x 22 = .pointer (some ⟨w.heap.size + 1, 23, none⟩) from hΦ 22 (by decide) (dep_of hd _ rfl))
    have hk := (HO.out.2.1.below hB HO.out.2.1.lt).cells
    simp only [pkCs] at hk
    go_simp
    refine HK.out _ _ (InvS.next 23 _ hB hΦ (Below.refl _ _) (upds1 e22) ?_ rfl)
    kernel_rfl
   | false =>
    refine wpOp_no ho (by rw [← upds1 e19]; kernel_rfl) ?_
    refine (InvS.next 23 _ hB hΦ (Below.refl _ _) rfl ?_ rfl)
    kernel_rfl
  ·have e19 := (show x 19 = .bool C3 from hΦ 19 (by decide) (dep_of hd _ rfl))
   cases C3 with
   | true =>
    refine wpOp_yes ho (by rw [← upds1 e19]; kernel_rfl) (fun K' hK => ?_)
    have HK := Lib.hid hK
    clear hK ho e19
    have e21 := (show x 21 = af from hΦ 21 (by decide) (dep_of hd _ rfl))
    have e23 := (show x 23 = bf from hΦ 23 (by decide) (dep_of hd _ rfl))
    go_simp
    go_at_call 308
    refine (HLf.out _ hB).mono ?_
    rintro e w1 ⟨rfl, hb⟩
    (try dsimp only)
    refine HK.out _ _ (InvS.next 24 _ hB hΦ hb (upds2 e21 e23) ?_ rfl)
    kernel_rfl
   | false =>
    refine wpOp_no ho (by rw [← upds1 e19]; kernel_rfl) ?_
    refine (InvS.next 24 _ hB hΦ (Below.refl _ _) rfl ?_ rfl)
    kernel_rfl
  ·have e19 := (show x 19 = .bool C3 from hΦ 19 (by decide) (dep_of hd _ rfl))
   have e24 := (show x 24 = gd C3 (.bool B4) from hΦ 24 (by decide) (dep_of hd _ rfl))
   have hC := HC.out.2.2.1
   refine wpOp_yes ho rfl (fun K' hK => ?_)
   have HK := Lib.hid hK
   clear hK ho
   cases C3 with
   | true =>
    have e24 := (show x 24 = .bool B4 from e24)
    go_simp
    refine HK.out _ _ (InvS.next 25 _ hB hΦ (Below.refl _ _) (upds2 e19 e24) ?_ (show Value.bool B4 = .bool C4 by rw [hC]; rfl))
    kernel_rfl
   | false =>
    clear e24
    go_simp
    refine HK.out _ _ (InvS.next 25 _ hB hΦ (Below.refl _ _) (upds1 e19) ?_ (show Value.bool false = .bool C4 by rw [hC]; rfl))
    kernel_rfl
  ·refine wpOp_yes ho rfl (fun K' hK => ?_)
   have HK := Lib.hid hK
   clear hK ho
   have e25 := (show x 25 = .bool C4 from hΦ 25 (by decide) (dep_of hd _ rfl))
   go_simp
   refine HK.out _ _ (InvS.next 26 _ hB hΦ (Below.refl _ _) (upds1 e25) ?_ rfl)
   kernel_rfl
  ·have e26 := (show x 26 = .bool C4 from hΦ 26 (by decide) (dep_of hd _ rfl))
   cases C4 with
   | true =>
    refine wpOp_yes ho (by rw [← upds1 e26]; kernel_rfl) (fun K' hK => ?_)
    have HK := Lib.hid hK
    clear hK ho e26
    go_simp
    refine HK.out _ _ (InvS.next 27 _ hB hΦ (Below.refl _ _) rfl ?_ rfl)
    kernel_rfl
   | false =>
    refine wpOp_no ho (by rw [← upds1 e26]; kernel_rfl) ?_
    refine (InvS.next 27 _ hB hΦ (Below.refl _ _) rfl ?_ rfl)
    kernel_rfl
  ·have e26 := (show x 26 = .bool C4 from hΦ 26 (by decide) (dep_of hd _ rfl))
   cases C4 with
   | true =>
    refine wpOp_yes ho (by rw [← upds1 e26]; kernel_rfl) (fun K' hK => ?_)
    have HK := Lib.hid hK
    clear hK ho e26
    have e27 := (show x 27 = .pointer (some ⟨w.heap.size, 24, none⟩) from hΦ 27 (by decide) (dep_of hd _ rfl))
    have hk := (HO.out.1.below hB HO.out.1.lt).cells
    simp only [pkCs] at hk
    go_simp
    refine HK.out _ _ (InvS.next 28 _ hB hΦ (Below.refl _ _) (upds1 e27) ?_ rfl)
    kernel_rfl
   | false =>
    refine wpOp_no ho (by rw [← upds1 e26]; kernel_rfl) ?_
    refine (InvS.next 28 _ hB hΦ (Below.refl _ _) rfl ?_ rfl)
    kernel_rfl
  ·have e26 := (show x 26 = .bool C4 from hΦ 26 (by decide) (dep_of hd _ rfl))
   cases C4 with
   | true =>
    refine wpOp_yes ho (by rw [← upds1 e26]; kernel_rfl) (fun K' hK => ?_)
    have HK := Lib.hid hK
    clear hK ho e26
    go_simp
    refine HK.out _ _ (InvS.next 29 _ hB hΦ (Below.refl _ _) rfl ?_ rfl)
    kernel_rfl
   | false =>
    refine wpOp_no ho (by rw [← upds1 e26]; kernel_rfl) ?_
    refine (InvS.next 29 _ hB hΦ (Below.refl _ _) rfl ?_ rfl)
    kernel_rfl
  ·have e26 := (show x 26 = .bool C4 from hΦ 26 (by decide) (dep_of hd _ rfl))
   cases C4 with
   | true =>
    refine wpOp_yes ho (by rw [← upds1 e26]; kernel_rfl) (fun K' hK => ?_)
    have HK := Lib.hid hK
    clear hK ho e26
    have e29 := (show x 29 = .pointer (some ⟨w.heap.size + 1, 24, none⟩) from hΦ 29 (by decide) (dep_of hd _ rfl))
    have hk := (HO.out.2.1.below hB HO.out.2.1.lt).cells
    simp only [pkCs] at hk
    go_simp
    refine HK.out _ _ (InvS.next 30 _ hB hΦ (Below.refl _ _) (upds1 e29) ?_ rfl)
    kernel_rfl
   | false =>
    refine wpOp_no ho (by rw [← upds1 e26]; kernel_rfl) ?_
    refine (InvS.next 30 _ hB hΦ (Below.refl _ _) rfl ?_ rfl)
    kernel_rfl
  ·have e26 := (show x 26 = .bool C4 from hΦ 26 (by decide) (dep_of hd _ rfl))
   cases C4 with
   | true =>
    refine wpOp_yes ho (by rw [← upds1 e26]; kernel_rfl) (fun K' hK => ?_)
    have HK := Lib.hid hK
    clear hK ho e26
    have e28 := (show x 28 = ap from hΦ 28 (by decide) (dep_of hd _ rfl))
    have e30 := (show x 30 = bp from hΦ 30 (by decide) (dep_of hd _ rfl))
    go_simp
    go_at_call 309
    refine (HLp.out _ hB).mono ?_
    rintro e w1 ⟨rfl, hb⟩
    (try dsimp only)
    refine HK.out _ _ (InvS.next 31 _ hB hΦ hb (upds2 e28 e30) ?_ rfl)
    kernel_rfl
   | false =>
    refine wpOp_no ho (by rw [← upds1 e26]; kernel_rfl) ?_
    refine (InvS.next 31 _ hB hΦ (Below.refl _ _) rfl ?_ rfl)
    kernel_rfl
  ·have e26 := (show x 26 = .bool C4 from hΦ 26 (by decide) (dep_of hd _ rfl))
   have e31 := (show x 31 = gd C4 (.bool B5) from hΦ 31 (by decide) (dep_of hd _ rfl))
   have hC := HC.out.2.2.2
   refine wpOp_yes ho rfl (fun K' hK => ?_)
   have HK := Lib.hid hK
   clear hK ho
   cases C4 with
   | true =>
    have e31 := (show x 31 = .bool B5 from e31)
    go_simp
    refine HK.out _ _ (InvS.next 32 _ hB hΦ (Below.refl _ _) (upds2 e26 e31) ?_ (show Value.bool B5 = .bool C5 by rw [hC]; rfl))
    kernel_rfl
   | false =>
    clear e31
    go_simp
    refine HK.out _ _ (InvS.next 32 _ hB hΦ (Below.refl _ _) (upds1 e26) ?_ (show Value.bool false = .bool C5 by rw [hC]; rfl))
    kernel_rfl
  ·refine wpOp_yes ho rfl (fun K' hK => ?_)
   have HK := Lib.hid hK
   clear hK ho
   have e32 := (show x 32 = .bool C5 from hΦ 32 (by decide) (dep_of hd _ rfl))
   go_simp
   refine HK.out _ _ (InvS.next 33 _ hB hΦ (Below.refl _ _) (upds1 e32) ?_ rfl)
   kernel_rfl
 ·rintro L a w2 ⟨x, rfl, hB, hΦ⟩ hall
  have e33 := (show x 33 = .bool C5 from hΦ 33 (by decide) (hall 33 (by decide)))
  simp only [putS, List.setIfInBounds_toArray, List.set_cons_zero, List.set_cons_succ]
  rw [e33]
  go_wp2
  go_ret
  exact ⟨rfl, below_thenh HO.out.2.2 hB⟩
end Go.Proofs.YtanofjmkkhocaaaGreatDoor
namespace Go.Proofs.YtanofjmkkhocaaaGreatDoor
open Go Go.RowKit
theorem wpAny_inv2 {P : Program} {ops : Array Oper} {Q : Exit → Act → World → Prop} (hf : forward ops = true) (I : Array Bool → Act → World → Prop)
  (hstep : ∀ (L : Array Bool) (a : Act) (w : World), L.size = ops.size → I L a w → ∀ (i : Nat) (o : Oper), ops[i]? = some o → L.getD i true = false → (∀ e ∈ o.after, Region.binds .any e = true → L.getD e.on false = true) → wpOp P ops Q i (fun a' w' => I (L.setIfInBounds i true) a' w') a w)
  (hdone : ∀ (L : Array Bool) (a : Act) (w : World), I L a w → (∀ i, i < ops.size → L.getD i false = true) → Q .normal a w) :
  ∀ (fuel : Nat) (L : Array Bool) (a : Act) (w : World), L.size = ops.size → unlisted L ≤ fuel → I L a w → wpAny P .any ops Q fuel L a w
 | 0, L, a, w, hL, hu, hI => by
  have hr : Region.ready .any ops L = [] := by
   cases hr : Region.ready .any ops L with
   | nil => rfl
   | cons j r =>
    have hj : j ∈ Region.ready .any ops L := by rw [hr]; exact List.mem_cons_self
    have := unlisted_set (mem_ready.1 hj).1
    omega
  exact ⟨hr, hdone L a w hI (ready_all hf hL hr)⟩
 | fuel + 1, L, a, w, hL, hu, hI => by
  refine ⟨fun hr => hdone L a w hI (ready_all hf hL hr), fun i hi => ?_⟩
  obtain ⟨h1, o, ho, hd⟩ := mem_ready.1 hi
  have h2 := unlisted_set h1
  exact wpOp_mono (fun a' w' h' => wpAny_inv2 hf I hstep hdone fuel _ a' w' (by simpa using hL) (by omega) h') (hstep L a w hL hI i o ho h1 hd)
theorem region_inv2 {P : Program} {id : Nat} {ops : Array Oper} {Q : Exit → Act → World → Prop} {a : Act} {w : World} (hm : P.follows .mixedOrders = true) (hf : forward ops = true) (I : Array Bool → Act → World → Prop)
  (h0 : I (Array.replicate ops.size false) a w.drew)
  (hstep : ∀ (L : Array Bool) (a' : Act) (w : World), L.size = ops.size → I L a' w → ∀ (i : Nat) (o : Oper), ops[i]? = some o → L.getD i true = false → (∀ e ∈ o.after, Region.binds .any e = true → L.getD e.on false = true) → wpOp P ops Q i (fun a' w' => I (L.setIfInBounds i true) a' w') a' w)
  (hdone : ∀ (L : Array Bool) (a' : Act) (w : World), I L a' w → (∀ i, i < ops.size → L.getD i false = true) → Q .normal a' w) : (Code.region id ops true).wp P Q a w :=
 wp_region_any hm (wpAny_inv2 hf I hstep hdone ops.size _ a w.drew (by simp) (by simp [unlisted]) h0)
theorem getD_set_ne {L : Array Bool} {i j : Nat} (h : j ≠ i) (d : Bool) : (L.setIfInBounds i true).getD j d = L.getD j d := by
 simp only [Array.getD_eq_getD_getElem?]
 rw [Array.getElem?_setIfInBounds_ne (Ne.symm h)]
theorem getD_set_same {L : Array Bool} {i : Nat} (h : i < L.size) (d : Bool) : (L.setIfInBounds i true).getD i d = true := by
 simp only [Array.getD_eq_getD_getElem?]
 simp [h]
theorem getD_not {L : Array Bool} {i : Nat} (h : L.getD i true = false) : L.getD i false = false := by
 simp only [Array.getD_eq_getD_getElem?] at h ⊢
 cases hc : L[i]? with
 | none => rfl
 | some b => rw [hc] at h; exact h
theorem upd_ne {x : Nat → Value} {i j : Nat} {v : Value} (h : j ≠ i) : updS x i v j = x j := if_neg h
theorem upd_at {x : Nat → Value} {i : Nat} {v : Value} : updS x i v i = v := if_pos rfl
theorem upds3 {x : Nat → Value} {i j k : Nat} {u v t : Value} (e1 : x i = u) (e2 : x j = v) (e3 : x k = t) : updS (updS (updS x i u) j v) k t = x := by rw [upds_same e1, upds_same e2, upds_same e3]
def InvG (N : Nat) (V : List Value) (S : List Nat) (R : Array Bool → (Nat → Value) → World → Prop) (A : (Nat → Value) → Act) (L : Array Bool) (a : Act) (w : World) : Prop :=
 ∃ x, a = A x ∧ R L x w ∧ ∀ i, i < N → i ∉ S → L.getD i false = true → x i = V.getD i undef
theorem InvG.next {N : Nat} {V : List Value} {S : List Nat} {R : Array Bool → (Nat → Value) → World → Prop} {A : (Nat → Value) → Act} {L : Array Bool} {a' : Act} {x y : Nat → Value} {w' : World} (i : Nat) (v : Value)
  (hΦ : ∀ i, i < N → i ∉ S → L.getD i false = true → x i = V.getD i undef) (hy : y = x) (ha : a' = A (updS y i v)) (hR : R (L.setIfInBounds i true) (updS x i v) w') (hv : i ∈ S ∨ v = V.getD i undef) : InvG N V S R A (L.setIfInBounds i true) a' w' := by
 subst hy
 refine ⟨_, ha, hR, fun j hj hs hl => ?_⟩
 by_cases hji : j = i
 ·subst hji
  rw [upd_at]
  exact hv.resolve_left hs
 ·rw [upd_ne hji]
  exact hΦ j hj hs (by rwa [getD_set_ne hji] at hl)
structure PairR (B0 : Nat) (W0 : World) (E : Array Bool → (Nat → Value) → World → Prop) (ia is : Nat) (T : TypeId) (z c : Array Value) (L : Array Bool) (x : Nat → Value) (w : World) : Prop where
 low : B0 ≤ W0.heap.size
 bel : Below B0 W0 w
 ex : E L x w
 dep : L.getD is false = true → L.getD ia false = true
 at' : L.getD ia false = true → ∃ b, x ia = .pointer (some ⟨b, 0, none⟩) ∧ B0 ≤ b ∧ Obj? w b (if L.getD is false = true then c else z) T
section pair
variable {B0 : Nat} {W0 : World} {E : Array Bool → (Nat → Value) → World → Prop} {ia is : Nat} {T : TypeId} {z c : Array Value} {L : Array Bool} {x : Nat → Value} {w w' : World}
theorem PairR.start (hl : B0 ≤ W0.heap.size) (hb : Below B0 W0 w) (n : Nat) (x : Nat → Value) (hk : E (Array.replicate n false) x w) : PairR B0 W0 E ia is T z c (Array.replicate n false) x w :=
 ⟨hl, hb, hk, fun h => (by rw [getD_repl] at h; cases h), fun h => (by rw [getD_repl] at h; cases h)⟩
theorem PairR.pure (h : PairR B0 W0 E ia is T z c L x w) (i : Nat) (v : Value) (h1 : i ≠ ia) (h2 : i ≠ is) (hb : Below w.heap.size w w') (hK : E (L.setIfInBounds i true) (updS x i v) w') : PairR B0 W0 E ia is T z c (L.setIfInBounds i true) (updS x i v) w' :=
 ⟨h.low, h.bel.trans (hb.mono (Nat.le_trans h.low h.bel.size)), hK, fun hd => by rw [getD_set_ne (Ne.symm h1)]; rw [getD_set_ne (Ne.symm h2)] at hd; exact h.dep hd, fun hd => by
  rw [getD_set_ne (Ne.symm h1)] at hd
  obtain ⟨b, e, hB, hO⟩ := h.at' hd
  rw [getD_set_ne (Ne.symm h2), upd_ne (Ne.symm h1)]
  exact ⟨b, e, hB, hO.below hb hO.lt⟩⟩
theorem PairR.alloc (h : PairR B0 W0 E ia is T z c L x w) (hne : ia ≠ is) (hL : ia < L.size) (hn : L.getD ia true = false) (hB : B0 ≤ w.heap.size) (hK : E (L.setIfInBounds ia true) (updS x ia (.pointer (some ⟨w.heap.size, 0, none⟩))) (w.alloc (.cells z T (0, 0)))) : PairR B0 W0 E ia is T z c (L.setIfInBounds ia true) (updS x ia (.pointer (some ⟨w.heap.size, 0, none⟩))) (w.alloc (.cells z T (0, 0))) := by
 have hs : L.getD is false = false := by
  cases hc : L.getD is false with
  | false => rfl
  | true =>
   have := h.dep hc
   rw [getD_not hn] at this
   cases this
 refine ⟨h.low, h.bel.alloc hB _, hK, fun hd => getD_set_same hL _, fun _ => ⟨w.heap.size, upd_at, hB, ?_⟩⟩
 rw [getD_set_ne (Ne.symm hne), hs]
 exact Obj?.new w z T
theorem PairR.open' (h : PairR B0 W0 E ia is T z c L x w) (hd : L.getD ia false = true) (hn : L.getD is true = false) : ∃ b, x ia = .pointer (some ⟨b, 0, none⟩) ∧ B0 ≤ b ∧ Obj? w b z T := by
 obtain ⟨b, e, hB, hO⟩ := h.at' hd
 rw [getD_not hn] at hO
 exact ⟨b, e, hB, hO⟩
theorem PairR.store (h : PairR B0 W0 E ia is T z c L x w) {b : Nat} (v : Value) (hne : ia ≠ is) (hL : is < L.size) (hx : x ia = .pointer (some ⟨b, 0, none⟩)) (hd : L.getD ia false = true) (hB : B0 ≤ b) (hO : Obj? w b z T) (hK : E (L.setIfInBounds is true) (updS x is v) (w.setRow b c)) : PairR B0 W0 E ia is T z c (L.setIfInBounds is true) (updS x is v) (w.setRow b c) := by
 refine ⟨h.low, below_row h.bel hB _, hK, fun _ => by rw [getD_set_ne hne]; exact hd, fun _ => ⟨b, by rw [upd_ne hne]; exact hx, hB, ?_⟩⟩
 rw [getD_set_same hL]
 exact hO.setRow c
theorem PairR.done (h : PairR B0 W0 E ia is T z c L x w) (h1 : L.getD ia false = true) (h2 : L.getD is false = true) : ∃ b, x ia = .pointer (some ⟨b, 0, none⟩) ∧ B0 ≤ b ∧ Obj? w b c T := by
 obtain ⟨b, e, hB, hO⟩ := h.at' h1
 rw [h2] at hO
 exact ⟨b, e, hB, hO⟩
end pair
structure FixR (B0 : Nat) (W0 : World) (E : Array Bool → (Nat → Value) → World → Prop) (is b : Nat) (T : TypeId) (z c : Array Value) (L : Array Bool) (x : Nat → Value) (w : World) : Prop where
 low : B0 ≤ W0.heap.size
 bel : Below B0 W0 w
 ex : E L x w
 at' : Obj? w b (if L.getD is false = true then c else z) T
section fix
variable {B0 : Nat} {W0 : World} {E : Array Bool → (Nat → Value) → World → Prop} {is b : Nat} {T : TypeId} {z c : Array Value} {L : Array Bool} {x : Nat → Value} {w w' : World}
theorem FixR.start (hl : B0 ≤ W0.heap.size) (hb : Below B0 W0 w) (hO : Obj? w b z T) (n : Nat) (x : Nat → Value) (hk : E (Array.replicate n false) x w) : FixR B0 W0 E is b T z c (Array.replicate n false) x w :=
 ⟨hl, hb, hk, by rw [getD_repl]; exact hO⟩
theorem FixR.pure (h : FixR B0 W0 E is b T z c L x w) (i : Nat) (v : Value) (h2 : i ≠ is) (hb : Below w.heap.size w w') (hK : E (L.setIfInBounds i true) (updS x i v) w') : FixR B0 W0 E is b T z c (L.setIfInBounds i true) (updS x i v) w' :=
 ⟨h.low, h.bel.trans (hb.mono (Nat.le_trans h.low h.bel.size)), hK, by rw [getD_set_ne (Ne.symm h2)]; exact h.at'.below hb h.at'.lt⟩
theorem FixR.open' (h : FixR B0 W0 E is b T z c L x w) (hn : L.getD is true = false) : Obj? w b z T := by
 have hO := h.at'
 rw [getD_not hn] at hO
 exact hO
theorem FixR.store (h : FixR B0 W0 E is b T z c L x w) (v : Value) (hL : is < L.size) (hn : L.getD is true = false) (hB : B0 ≤ b) (hK : E (L.setIfInBounds is true) (updS x is v) (w.setRow b c)) : FixR B0 W0 E is b T z c (L.setIfInBounds is true) (updS x is v) (w.setRow b c) := by
 refine ⟨h.low, below_row h.bel hB _, hK, ?_⟩
 rw [getD_set_same hL]
 exact (h.open' hn).setRow c
theorem FixR.done (h : FixR B0 W0 E is b T z c L x w) (h2 : L.getD is false = true) : Obj? w b c T := by
 have hO := h.at'
 rw [h2] at hO
 exact hO
end fix
end Go.Proofs.YtanofjmkkhocaaaGreatDoor
