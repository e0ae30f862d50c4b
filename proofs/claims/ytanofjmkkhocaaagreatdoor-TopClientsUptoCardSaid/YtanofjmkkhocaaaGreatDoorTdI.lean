/- A list of topics and a list of strings as arguments, opened; what a bound on the reading gives. polyglottop.TopClients: the walk up to the registries. (under way) polyglottop.TopClients: its two drawn regions, by an invariant, over whatever frame. -/
import Derived.Test.YtanofjmkkhocaaaGreatDoorTdG
import Derived.Test.YtanofjmkkhocaaaGreatDoorRows
import Derived.Deep.Slices
import Derived.Deep.Fields
import Derived.ChangeSame
import Derived.ProofKit
import Derived.OpenShut
import Derived.Test.YtanofjmkkhocaaaGreatDoorTrO
set_option linter.unusedVariables false
set_option linter.unusedSimpArgs false
set_option maxRecDepth 100000
set_option maxHeartbeats 1600000
namespace Go.Proofs.YtanofjmkkhocaaaGreatDoor
open Go Go.RowKit Go.ChangeShapes Go.WideShapes Go.Deep
theorem bulk_one {H : Type} (d : DataW H) : 1 ≤ Rows.uptoBulk d := by
 cases d with
 | lit l => cases l <;> simp [Rows.uptoBulk]
 | nil => simp [Rows.uptoBulk]
 | ptr d => simp [Rows.uptoBulk]
 | slice elems spare => simp [Rows.uptoBulk]
 | agg parts => simp [Rows.uptoBulk]
 | iface t d => simp [Rows.uptoBulk]
 | map entries => simp [Rows.uptoBulk]
 | held h => simp [Rows.uptoBulk]
theorem bulk_part {H : Type} {d : DataW H} {l : List (DataW H)} (h : d ∈ l) : Rows.uptoBulk d ≤ Rows.uptoBulkAll l := by
 induction l with
 | nil => cases h
 | cons x r ih =>
  simp only [Rows.uptoBulkAll]
  cases List.mem_cons.1 h with
  | inl e => subst e; omega
  | inr e => have := ih e; omega
theorem bulk_len {H : Type} (l : List (DataW H)) : l.length ≤ Rows.uptoBulkAll l := by
 induction l with
 | nil => simp [Rows.uptoBulkAll]
 | cons x r ih => have := bulk_one x; simp only [Rows.uptoBulkAll, List.length_cons]; omega
theorem bulk_of {H : Type} {l : List (DataW H)} {d : DataW H} (hk : Rows.uptoSmall H l = true) (h : d ∈ l) : Rows.uptoBulk d ≤ 1048576 :=
 Nat.le_trans (bulk_part h) (of_decide_eq_true hk)
section
variable {H : Type} {enc : TypeId × Value → H} {P : Program} {w : World} {base : Nat} {spare : Nat → Bool} {held : Bool}
theorem open_slice_fields {t e : TypeId} {fs : Array Field} {fuel : Nat} {cs : List Value} {x : DataW H × List MemPlace} (ht : P.underlying t = some (.slice e)) (he : P.underlying e = some (.struct fs))
  (hone : oneCellFields P fs = true) (hC : P.cellsOf e = fs.size) (h : DataW.trod enc P w base spare held fuel t cs = some x) :
  (cs = [.slice none 0 0]) ∨
  ∃ (a : Addr) (len cap : Nat), cs = [.slice (some a) len cap] ∧ len ≤ cap ∧ cap ≤ maxLen ∧
   ∀ i, i < len → ∃ (ys : List (DataW H × List MemPlace)) (n : Nat), ys.length = fs.size ∧
    ∀ (j : Nat) (f : Field), fs[j]? = some f → ∃ (v : Value) (y : DataW H × List MemPlace), w.cell? (a.add (i * fs.size + j)) = some v ∧ ys[j]? = some y ∧ DataW.trod enc P w base spare held n f.type [v] = some y := by
 rcases open_slice ht h with h0 | ⟨a, len, cap, m, n, D, Pl, hcs, hb, hl, hm, hmm, hx, hi⟩
 ·exact .inl h0.1
 ·refine .inr ⟨a, len, cap, hcs, hl, hm, fun i him => ?_⟩
  obtain ⟨cs', hc, ht'⟩ := hi i (by rw [hmm]; split <;> omega)
  rw [hC] at hc
  obtain ⟨ys, n', hn', hy, hlen, hyl, hf⟩ := DataW.trod_struct he ht'
  obtain ⟨_, hcl, hat⟩ := World.cells?_some hc
  refine ⟨ys, n', hyl, fun j f hj => ?_⟩
  obtain ⟨ho, hk⟩ := hone_of hone j f hj
  have hjl : j < fs.size := (Array.getElem?_eq_some_iff.1 hj).1
  have hcell := hat j hjl
  have hv : cs'[j]? = some (cs'[j]'(by omega)) := List.getElem?_eq_getElem (by omega)
  have h1 := hf j f hj
  rw [ho, hk] at h1
  have hone' : (cs'.drop j).take 1 = [cs'[j]'(by omega)] := by
   rw [List.drop_eq_getElem_cons (by omega)]
   rfl
  rw [hone'] at h1
  have hys : ys[j]? = some (ys[j]'(by omega)) := List.getElem?_eq_getElem (by omega)
  refine ⟨_, _, ?_, hys, h1.trans hys⟩
  rw [← Go.Deep.add_add, hcell, hv]
end
theorem cell_block {w : World} {b o : Nat} {v : Value} (h : w.cell? ⟨b, o, none⟩ = some v) : b < w.heap.size := by
 rcases Nat.lt_or_ge b w.heap.size with h1 | h1
 ·exact h1
 ·unfold World.cell? at h
  simp [Array.getElem?_eq_none h1] at h
theorem rows_built {X : Type} {Q : X → Prop} {cs : X → Array Value} {z : Nat} {w : World} {b off : Nat} : ∀ n : Nat, (∀ i, i < n → ∃ x : X, Q x ∧ ∀ j u, (cs x)[j]? = some u → w.cell? ⟨b, off + i * z + j, none⟩ = some u) →
  ∃ xs : List X, xs.length = n ∧ (∀ x ∈ xs, Q x) ∧ ∀ i (hi : i < xs.length) j u, (cs xs[i])[j]? = some u → w.cell? ⟨b, off + i * z + j, none⟩ = some u
 | 0, _ => ⟨[], rfl, by simp, by simp⟩
 | n + 1, h => by
  obtain ⟨xs, h1, h2, h3⟩ := rows_built n (fun i hi => h i (by omega))
  obtain ⟨x, x1, x2⟩ := h n (by omega)
  refine ⟨xs ++ [x], by simp [h1], fun y hy => ?_, fun i hi j u hj => ?_⟩
  ·rcases List.mem_append.1 hy with q | q
   ·exact h2 y q
   ·rw [List.mem_singleton.1 q]; exact x1
  by_cases hin : i < xs.length
  ·rw [List.getElem_append_left hin] at hj; exact h3 i hin j u hj
  ·obtain rfl : i = n := by simp at hi; omega
   rw [List.getElem_append_right (by omega)] at hj
   simp only [h1, Nat.sub_self, List.getElem_singleton] at hj
   exact x2 j u hj
theorem rowOf_built {X : Type} {Q : X → Prop} {cs : X → Array Value} {z : Nat} {w : World} {a : Addr} {len cap : Nat} (hl : (len : Int) ≤ 9223372036854775807) (hf : ∀ x, ∃ u, (cs x)[0]? = some u)
  (each : ∀ i, i < len → ∃ x : X, Q x ∧ ∀ j u, (cs x)[j]? = some u → w.cell? (a.add (i * z + j)) = some u) : ∃ xs : List X, xs.length = len ∧ (∀ x ∈ xs, Q x) ∧ RowOf cs z w (.slice (some a) len cap) xs := by
 by_cases h0 : len = 0
 ·subst h0
  exact ⟨[], rfl, by simp, some a, cap, rfl, by simp, .inl rfl⟩
 ·obtain ⟨b, off, spot⟩ := a
  obtain ⟨x0, -, q0⟩ := each 0 (by omega)
  obtain ⟨u0, hu0⟩ := hf x0
  have q1 := q0 0 u0 hu0
  have hspot : spot = none := by simpa [Addr.add] using World.cell?_spot q1
  subst hspot
  have hb : b < w.heap.size := by
   rw [Addr.add_mid] at q1
   exact cell_block q1
  obtain ⟨xs, h1, h2, h3⟩ := rows_built (Q := Q) (cs := cs) (z := z) (w := w) (b := b) (off := off) len (fun i him => by
   obtain ⟨x, hq, hx⟩ := each i him
   refine ⟨x, hq, fun j u hj => ?_⟩
   have := hx j u hj
   rw [Addr.add_mid] at this
   rw [Nat.add_assoc]; exact this)
  subst h1
  exact ⟨xs, rfl, h2, some ⟨b, off, none⟩, cap, rfl, hl, .inr ⟨b, off, rfl, hb, h3⟩⟩
theorem open_tts {H : Type} {enc : TypeId × Value → H} {w : World} {r : Reach} {b0 base : Nat} {spare : Nat → Bool} {held : Bool} {v : Value} {d : DataW H} {p : List MemPlace} (hv : Value.okWide Tryz.prog w r b0 22 v) (h : DataW.Trod enc Tryz.prog w base spare held 22 v d p) :
  ∃ xs : List Tt, RowOf Tt.cs 3 w v xs := by
 obtain ⟨a, len, cap, rfl⟩ := okWide_slice Tryz.underlying22 hv
 obtain ⟨fuel, hf⟩ := h
 rcases open_slice_fields Tryz.underlying22 Tryz.underlying74 (by kernel_rfl) (by kernel_rfl) hf with e | ⟨a', len', cap', e, hl, hm, hi⟩
 ·have e : (Value.slice a len cap) = .slice none 0 0 := by simpa [Value.cells] using e
  cases e
  exact ⟨[], rowOf_nil _ _ w⟩
 ·have e : (Value.slice a len cap) = .slice (some a') len' cap' := by simpa [Value.cells] using e
  cases e
  unfold maxLen at hm
  obtain ⟨xs, -, -, hx⟩ := rowOf_built (Q := fun _ => True) (cs := Tt.cs) (z := 3) (w := w) (a := a') (len := len) (cap := cap) (by omega) (fun x => ⟨_, rfl⟩) (fun i him => by
   obtain ⟨ys, n, hyl, hf⟩ := hi i him
   obtain ⟨v0, y0, c0, -, t0⟩ := hf 0 _ rfl
   obtain ⟨v1, y1, c1, -, t1⟩ := hf 1 _ rfl
   obtain ⟨v2, y2, c2, -, t2⟩ := hf 2 _ rfl
   obtain ⟨⟨⟨s⟩⟩, e0, -, -⟩ := DataW.trod_string Tryz.underlying9 t0
   obtain ⟨⟨⟨s1⟩⟩, e1, -, -⟩ := DataW.trod_string Tryz.underlying9 t1
   obtain ⟨q, e2, -, -⟩ := DataW.trod_int Tryz.underlying3 t2
   cases e0; cases e1; cases e2
   refine ⟨⟨s, s1, q⟩, trivial, fun j u hj => ?_⟩
   match j, hj with
   | 0, hj => cases hj; exact c0
   | 1, hj => cases hj; exact c1
   | 2, hj => cases hj; exact c2
   | j + 3, hj => cases hj)
  exact ⟨xs, hx⟩
def strC (s : List UInt8) : Array Value := #[.string ⟨s.toArray⟩]
theorem open_strs {H : Type} {enc : TypeId × Value → H} {w : World} {r : Reach} {b0 base : Nat} {spare : Nat → Bool} {held : Bool} {v : Value} {d : DataW H} {p : List MemPlace} (hv : Value.okWide Tryz.prog w r b0 23 v) (h : DataW.Trod enc Tryz.prog w base spare held 23 v d p) (hd : Rows.uptoBulk d ≤ 1048576) :
  ∃ xs : List (List UInt8), RowOf strC 1 w v xs ∧ xs.length ≤ 1048576 ∧ ∀ s ∈ xs, s.length ≤ 1048576 := by
 obtain ⟨a, len, cap, rfl⟩ := okWide_slice Tryz.underlying23 hv
 obtain ⟨fuel, hf⟩ := h
 rcases open_slice Tryz.underlying23 hf with ⟨e, -⟩ | ⟨a', len', cap', m, n, D, Pl, e, hb, hl, hm, hmm, hx, hi⟩
 ·have e : (Value.slice a len cap) = .slice none 0 0 := by simpa [Value.cells] using e
  cases e
  exact ⟨[], rowOf_nil _ _ w, by simp, by simp⟩
 ·have e : (Value.slice a len cap) = .slice (some a') len' cap' := by simpa [Value.cells] using e
  cases e
  have hxd : d = .slice ((List.range len).map D) ((List.range (m - len)).map fun j => D (len + j)) := congrArg Prod.fst hx
  rw [hxd] at hd
  simp only [Rows.uptoBulk] at hd
  have hlen := bulk_len ((List.range len).map D)
  rw [List.length_map, List.length_range] at hlen
  unfold maxLen at hm
  have hC : Tryz.prog.cellsOf 9 = 1 := by kernel_rfl
  obtain ⟨xs, h1, h2, h3⟩ := rowOf_built (Q := fun s : List UInt8 => s.length ≤ 1048576) (cs := strC) (z := 1) (w := w) (a := a') (len := len) (cap := cap) (by omega) (fun x => ⟨_, rfl⟩) (fun i him => by
   obtain ⟨cs', hc, ht'⟩ := hi i (by rw [hmm]; split <;> omega)
   rw [hC, Nat.mul_one] at hc
   obtain ⟨_, hcl, hat⟩ := World.cells?_some hc
   obtain ⟨⟨⟨s⟩⟩, e0, ed, -⟩ := DataW.trod_string Tryz.underlying9 ht'
   have hD : D i = .lit (.string s) := congrArg Prod.fst ed
   have hp : Rows.uptoBulk (D i) ≤ Rows.uptoBulkAll ((List.range len).map D) := bulk_part (List.mem_map.2 ⟨i, List.mem_range.2 him, rfl⟩)
   rw [hD] at hp
   simp only [Rows.uptoBulk] at hp
   subst e0
   have h0 := hat 0 (by omega)
   refine ⟨s, by omega, fun j u hj => ?_⟩
   match j, hj with
   | 0, hj =>
    cases hj
    rw [Nat.mul_one]
    rw [show i + 0 = i + 0 from rfl, ← Go.Deep.add_add]
    have h1 : w.cell? ((a'.add i).add 0) = some (.string ⟨s.toArray⟩) := by simpa using h0
    exact h1
   | j + 1, hj => cases hj)
  exact ⟨xs, h3, by omega, h2⟩
theorem open_mx {w : World} (h : w.ShapedOpen Tryz.prog) : Mx w := mx_of_shaped h
end Go.Proofs.YtanofjmkkhocaaaGreatDoor
namespace Go.Proofs.YtanofjmkkhocaaaGreatDoor
open Go Go.RowKit Go.MapKept
theorem infoZAct : (Tryz.prog.info? 45).map (fun i => (i.zero, i.size, i.bytes)) = some (some (.agg (actC [])), 59, 656) := by kernel_rfl
theorem hide_act {Q : Exit → Act → World → Prop} {e : Exit} {a : Act} {w : World} (h : ∀ A, A = a → Q e A w) : Q e a w := h a rfl
theorem wpOp_abs {P : Program} {ops : Array Oper} {Q : Exit → Act → World → Prop} {i : Nat} {o : Oper} {K : Act → World → Prop} {a : Act} {w : World} (ho : ops[i]? = some o) (hw : Region.wanted o (yielded ops a.tmps) = true)
  (h : ∀ (A : Act) (K' : Act → World → Prop), Hid (A = a) → Hid (∀ a' w', K a' w' → K' a' w') → Oper.wp P o A w K' Q) : wpOp P ops Q i K a w :=
 wpOp_yes ho hw fun K' hK => h a K' (Lib.hid rfl) (Lib.hid hK)
theorem wanted_of {ops : Array Oper} {tmps : Array Value} {o : Oper} {j s : Nat} {b : Bool} (hg : o.guard = some (j, b)) (hd : (ops[j]?).bind (·.dst) = some s) (ht : tmps[s]? = some (.bool b)) : Region.wanted o (yielded ops tmps) = true := by
 unfold Region.wanted
 rw [hg]
 simp [yielded, hd, ht]
def putT (a : Act) (l : List (Nat × Nat)) (x : Nat → Value) : Act := { a with tmps := l.foldl (fun t p => t.setIfInBounds p.1 (x p.2)) a.tmps }
def getT (a : Act) (l : List Nat) (i : Nat) : Value := a.tmps.getD (l.getD i 0) undef
theorem fold_out (x : Nat → Value) (s : Nat) : ∀ (l : List (Nat × Nat)) (t : Array Value), (∀ p ∈ l, p.1 ≠ s) → (l.foldl (fun t p => t.setIfInBounds p.1 (x p.2)) t)[s]? = t[s]?
 | [], t, _ => rfl
 | p :: r, t, h => by
  rw [List.foldl_cons, fold_out x s r _ (fun q hq => h q (List.mem_cons_of_mem _ hq)), Array.getElem?_setIfInBounds_ne (h p List.mem_cons_self)]
theorem fold_in (x : Nat → Value) (s i : Nat) : ∀ (l : List (Nat × Nat)) (t : Array Value), s < t.size → (s, i) ∈ l → l.Pairwise (fun p q => p.1 ≠ q.1) → (l.foldl (fun t p => t.setIfInBounds p.1 (x p.2)) t)[s]? = some (x i)
 | [], t, _, h, _ => by cases h
 | p :: r, t, hs, h, hd => by
  rw [List.foldl_cons]
  rcases List.mem_cons.1 h with rfl | h
  ·rw [fold_out x s r _ (fun q hq => Ne.symm ((List.pairwise_cons.1 hd).1 q hq))]
   simp [Array.getElem?_setIfInBounds_self_of_lt hs]
  ·exact fold_in x s i r _ (by simpa using hs) h (List.pairwise_cons.1 hd).2
theorem putT_out {a : Act} {l : List (Nat × Nat)} {x : Nat → Value} {A : Act} {v : Value} (hA : Hid (A = putT a l x)) (s : Nat) (h : ∀ p ∈ l, p.1 ≠ s) (hv : a.tmps[s]? = some v) : A.tmps[s]? = some v := by
 rw [hA.out, ← hv]; exact fold_out x s l _ h
theorem putT_in {a : Act} {l : List (Nat × Nat)} {x : Nat → Value} {A : Act} {v : Value} (hA : Hid (A = putT a l x)) (s i : Nat) (hs : s < a.tmps.size) (hm : (s, i) ∈ l) (hd : l.Pairwise (fun p q => p.1 ≠ q.1)) (hv : x i = v) : A.tmps[s]? = some v := by
 rw [hA.out, ← hv]; exact fold_in x s i l _ hs hm hd
theorem putT_put {a : Act} {l : List (Nat × Nat)} {x : Nat → Value} {A : Act} {v : Value} (hA : Hid (A = putT a l x)) (s i : Nat) (hs : s < a.tmps.size) (hm : (s, i) ∈ l) (hd : l.Pairwise (fun p q => p.1 ≠ q.1)) (hi : ∀ p ∈ l, p.2 = i → p.1 = s) : { A with tmps := A.tmps.setIfInBounds s v } = putT a l (updS x i v) := by
 rw [hA.out]
 unfold putT
 congr 1
 apply Array.ext_getElem?
 intro j
 have hsz : ∀ (x : Nat → Value) (l : List (Nat × Nat)) (t : Array Value), (l.foldl (fun t p => t.setIfInBounds p.1 (x p.2)) t).size = t.size := by
  intro x l
  induction l with
  | nil => intro t; rfl
  | cons p r ih => intro t; rw [List.foldl_cons, ih]; simp
 by_cases hj : s = j
 ·subst hj
  rw [fold_in _ s i l _ hs hm hd, Array.getElem?_setIfInBounds_self_of_lt (by rw [hsz]; exact hs), upd_at]
 ·rw [Array.getElem?_setIfInBounds_ne hj]
  by_cases h : ∃ q, (j, q) ∈ l
  ·obtain ⟨q, hq⟩ := h
   have hne : q ≠ i := fun e => hj (hi _ hq e).symm
   by_cases hlt : j < a.tmps.size
   ·rw [fold_in _ j q l _ hlt hq hd, fold_in _ j q l _ hlt hq hd, upd_ne hne]
   ·rw [Array.getElem?_eq_none (by rw [hsz]; omega), Array.getElem?_eq_none (by rw [hsz]; omega)]
  ·have ho : ∀ p ∈ l, p.1 ≠ j := fun p hp e => h ⟨p.2, by rw [← e]; exact hp⟩
   rw [fold_out _ j l _ ho, fold_out _ j l _ ho]
theorem putT_none {a : Act} {l : List (Nat × Nat)} {x : Nat → Value} {A : Act} (hA : Hid (A = putT a l x)) (i : Nat) (v : Value) (h : ∀ p ∈ l, p.2 ≠ i) : A = putT a l (updS x i v) := by
 have key : ∀ (l : List (Nat × Nat)) (t : Array Value), (∀ p ∈ l, p.2 ≠ i) → l.foldl (fun t p => t.setIfInBounds p.1 (updS x i v p.2)) t = l.foldl (fun t p => t.setIfInBounds p.1 (x p.2)) t := by
  intro l
  induction l with
  | nil => intro t _; rfl
  | cons p r ih =>
   intro t h
   rw [List.foldl_cons, List.foldl_cons, upd_ne (h p List.mem_cons_self)]
   exact ih _ (fun q hq => h q (List.mem_cons_of_mem _ hq))
 rw [hA.out]
 unfold putT
 rw [key l _ h]
theorem set_self (t : Array Value) (s : Nat) : t.setIfInBounds s (t.getD s undef) = t := by
 apply Array.ext_getElem?
 intro j
 by_cases h : s = j
 ·subst h
  by_cases hs : s < t.size
  ·simp [Array.getElem?_setIfInBounds_self_of_lt hs, Array.getD, hs]
  ·simp [Array.setIfInBounds, hs]
 ·rw [Array.getElem?_setIfInBounds_ne h]
theorem putT_getT (a : Act) (l : List (Nat × Nat)) (sl : List Nat) (h : ∀ p ∈ l, sl.getD p.2 0 = p.1) : putT a l (getT a sl) = a := by
 have key : ∀ (l : List (Nat × Nat)), (∀ p ∈ l, sl.getD p.2 0 = p.1) → l.foldl (fun t p => t.setIfInBounds p.1 (getT a sl p.2)) a.tmps = a.tmps := by
  intro l
  induction l with
  | nil => intro _; rfl
  | cons p r ih =>
   intro h
   have hp : getT a sl p.2 = a.tmps.getD p.1 undef := by unfold getT; rw [h p List.mem_cons_self]
   rw [List.foldl_cons, hp, set_self]
   exact ih (fun q hq => h q (List.mem_cons_of_mem _ hq))
 unfold putT
 rw [key l h]
structure RowsR (W0 : World) (T : Nat → Option (List Tp)) (L : Array Bool) (x : Nat → Value) (w : World) : Prop where
 bel : Below W0.heap.size W0 w
 row : ∀ i t, T i = some t → L.getD i false = true → RowOf Tp.cs 3 w (x i) t
theorem RowsR.start {W0 w : World} {T : Nat → Option (List Tp)} (hb : Below W0.heap.size W0 w) (n : Nat) (x : Nat → Value) : RowsR W0 T (Array.replicate n false) x w :=
 ⟨hb, fun i t _ h => absurd h (by rw [getD_repl]; decide)⟩
theorem RowsR.next {W0 w w' : World} {T : Nat → Option (List Tp)} {L : Array Bool} {x : Nat → Value} (h : RowsR W0 T L x w) (i : Nat) (v : Value) (hb : Below w.heap.size w w') (hv : ∀ t, T i = some t → RowOf Tp.cs 3 w' v t) : RowsR W0 T (L.setIfInBounds i true) (updS x i v) w' := by
 refine ⟨below_thn h.bel hb, fun j t ht hl => ?_⟩
 by_cases hji : j = i
 ·subst hji
  rw [upd_at]
  exact hv t ht
 ·rw [upd_ne hji]
  rw [getD_set_ne hji] at hl
  exact (h.row j t ht hl).below hb
def rowsT (T1 T2 : List Tp) : Nat → Option (List Tp)
 | 5 => some T1
 | 11 => some T1
 | 21 => some T2
 | 28 => some T2
 | _ => none
theorem cs8 : ∀ i : Nat, i < 8 → (i = 0 ∨ i = 1 ∨ i = 2 ∨ i = 3 ∨ i = 4 ∨ i = 5 ∨ i = 6 ∨ i = 7) := by decide +kernel
theorem cs32 : ∀ i : Nat, i < 32 → (i = 0 ∨ i = 1 ∨ i = 2 ∨ i = 3 ∨ i = 4 ∨ i = 5 ∨ i = 6 ∨ i = 7 ∨ i = 8 ∨ i = 9 ∨ i = 10 ∨ i = 11 ∨ i = 12 ∨ i = 13 ∨ i = 14 ∨ i = 15 ∨ i = 16 ∨ i = 17 ∨ i = 18 ∨ i = 19 ∨ i = 20 ∨ i = 21 ∨ i = 22 ∨ i = 23 ∨ i = 24 ∨ i = 25 ∨ i = 26 ∨ i = 27 ∨ i = 28 ∨ i = 29 ∨ i = 30 ∨ i = 31) := by decide +kernel
theorem infoCn : (Tryz.prog.info? 56).map (·.size) = some 4 := by kernel_rfl
theorem load_Cn (a : Addr) : loadVar 56 a = rowSem 56 a := rfl
theorem store_Cn (a : Addr) (v : Value) : storeVar 56 a v = rowStore 56 a v := rfl
theorem load_conn {w : World} {b : Nat} {n : List UInt8} (h : Obj? w b #[.int .i64 3, .int .i64 4096, .int .i64 6, .string ⟨n.toArray⟩] 56) : (rowSem 56 ⟨b, 0, none⟩).run Tryz.prog w = .ok (.agg #[.int .i64 3, .int .i64 4096, .int .i64 6, .string ⟨n.toArray⟩]) w :=
 rowSem_run w b 56 56 _ _ h Tryz.underlying56 rfl infoCn
theorem store_conn {w : World} {b : Nat} (n : List UInt8) (h : Obj? w b #[.int .i64 0, .int .i64 0, .int .i64 0, .string ⟨#[]⟩] 56) : (rowStore 56 ⟨b, 0, none⟩ (.agg #[.int .i64 3, .int .i64 4096, .int .i64 6, .string ⟨n.toArray⟩])).run Tryz.prog w = .ok () (w.setRow b #[.int .i64 3, .int .i64 4096, .int .i64 6, .string ⟨n.toArray⟩]) :=
 rowStore_run (P := Tryz.prog) w b 56 56 _ _ h infoCn rfl (by simp [Value.oneCell'])
theorem store_newconn (w : World) (n : List UInt8) : (rowStore 56 ⟨w.heap.size, 0, none⟩ (.agg #[.int .i64 3, .int .i64 4096, .int .i64 6, .string ⟨n.toArray⟩])).run Tryz.prog (w.alloc (.cells #[.int .i64 0, .int .i64 0, .int .i64 0, .string ⟨#[]⟩] 56 (0, 0))) = .ok () (w.alloc (.cells #[.int .i64 3, .int .i64 4096, .int .i64 6, .string ⟨n.toArray⟩] 56 (0, 0))) := by
 have h := store_conn n (Obj?.new w #[.int .i64 0, .int .i64 0, .int .i64 0, .string ⟨#[]⟩] 56)
 rw [World.setRow_alloc_new] at h
 exact h
attribute [local go_sem ↓] load_Tp
attribute [local irreducible] rowSem rowStore
theorem ksame_tp {va vb : Value} {T : List Tp} {w : World} (hA : RowOf Tp.cs 3 w va T) (hB : RowOf Tp.cs 3 w vb T) :
  Calls Tryz.prog 13 #[va, vb] w fun e w' => e = .returned (.bool true) ∧ Below w.heap.size w w' := by
 have HA := Lib.hid hA
 have HB := Lib.hid hB
 obtain ⟨a, cap, rfl, la, -⟩ := hA
 obtain ⟨b, cap', rfl, lb, -⟩ := hB
 obtain ⟨n, hN⟩ : ∃ n, n = T.length := ⟨_, rfl⟩
 rw [← hN] at la lb HA HB
 rw [← hN]
 have HN := Lib.hid hN
 clear hN lb
 go_enter Tryz.func13, Tryz.ntmps13
 go_wp2
 go_loopg [5] (n + 1) (fun g i wr => ∃ k : Nat, g + k = n + 1 ∧ k ≤ n ∧ i = .int .i64 k ∧ Hid (Below w.heap.size w wr))
 case atStart => exact ⟨0, by omega, by omega, rfl, Lib.hid (Below.refl _ _)⟩
 case round =>
  obtain ⟨k, hgk, hkn, rfl, HI⟩ := hrel
  have HGK := Lib.hid (And.intro hgk hkn)
  clear hgk
  by_cases hlt : k < n
  ·have hka : k < T.length := by rw [← HN.out]; exact hlt
   obtain ⟨b1, o1, rfl, l1, c1⟩ := (HA.out.below HI.out).at k hka
   obtain ⟨b2, o2, rfl, l2, c2⟩ := (HB.out.below HI.out).at k hka
   obtain ⟨x, hx⟩ : ∃ x, x = T[k] := ⟨_, rfl⟩
   rw [← hx] at c1 c2
   have d1 : decide ((k : Int) < n) = true := decide_eq_true (by omega)
   have hki : (k : Int) < n := by omega
   have k1 := row_tp c1
   have k2 := row_tp c2
   have k1' := fun n => row_tp (W := wr.drewN n) c1
   have k2' := fun n => row_tp (W := wr.drewN n) c2
   have qn := neq_tp x
   obtain ⟨cx, hcx⟩ : ∃ c, c = x.cs := ⟨_, rfl⟩
   rw [← hcx] at k1 k1' k2 k2' qn
   clear hcx hx hka c1 c2 hkn l1 l2 hlt
   go_wp2
   go_quiet (fail)
   go_wp2
   go_roundg (gk - 1)
   case measure => have := HGK.out; omega
   case rel => exact ⟨k + 1, by have := HGK.out; omega, by have := HGK.out; omega, by go_num, Lib.hid (HI.out.trans (below_drewNh (Below.refl _ _) _))⟩
  ·obtain rfl : k = n := by omega
   go_wp2
   go_ret
   exact ⟨rfl, HI.out⟩
end Go.Proofs.YtanofjmkkhocaaaGreatDoor
namespace Go.Proofs.YtanofjmkkhocaaaGreatDoor
open Go Go.RowKit Go.MapKept
attribute [local go_sem ↓] load_Cn store_Cn
attribute [local irreducible] rowSem rowStore wpOp
def findReg (k : Nat) : Code → Option Code
 | .region id ops d => if id = k then some (.region id ops d) else none
 | .seq a b => (findReg k a).or (findReg k b)
 | .cond _ a b => (findReg k a).or (findReg k b)
 | .block _ b => findReg k b
 | .loop b => findReg k b
 | _ => none
abbrev l16 : List (Nat × Nat) := [(90, 0), (91, 1), (92, 2), (93, 3), (94, 4), (95, 5), (19, 6)]
abbrev l34 : List (Nat × Nat) := [(188, 0), (189, 1), (190, 2), (191, 3), (192, 4), (193, 5), (194, 6), (195, 7), (196, 8), (197, 9), (198, 10), (199, 11), (200, 12), (201, 13), (202, 14), (203, 15), (204, 16), (205, 17), (206, 18), (207, 19), (208, 20), (209, 21), (210, 22), (211, 23), (212, 24), (213, 25), (214, 26), (215, 27), (216, 28), (217, 29), (218, 30), (219, 31)]
noncomputable def tcReg (k : Nat) : Code := (findReg k (Tryz.f3.body.getD .skip)).getD .skip
theorem tc16 {w5 : World} {a0 : Act} {Q : Exit → Act → World → Prop} {bn q p : Nat} (me oth : List UInt8) (h13 : a0.tmps[13]? = some (.slice (some ⟨bn, 0, none⟩) 2 2)) (h16 : a0.tmps[16]? = some (.int .i64 q)) (hz0 : a0.tmps.size = 220) (hq2 : (q : Int) < 2) (hN : ∀ V, Below w5.heap.size w5 V → V.cell? ⟨bn, q, none⟩ = some (.string ⟨me.toArray⟩) ∧ V.cell? ⟨bn, p, none⟩ = some (.string ⟨oth.toArray⟩))
  (hQ : ∀ (x : Nat → Value) (g : Nat) (wz : World), x 6 = .pointer (some ⟨g, 0, none⟩) → w5.heap.size ≤ g → Obj? wz g #[.int .i64 3, .int .i64 4096, .int .i64 6, .string ⟨me.toArray⟩] 56 → Below w5.heap.size w5 wz → Q .normal (putT a0 l16 x) wz) : Code.wp Tryz.prog (tcReg 16) Q a0 w5 := by
 have HQ := Lib.hid hQ
 have HNw := Lib.hid hN
 clear hQ hN
 conv => arg 2; whnf
 refine region_inv2 rfl (by kernel_rfl) (InvG 8 [.agg #[.int .i64 4096, .int .i64 6], .slice (some ⟨bn, 0, none⟩) 2 2, .int .i64 q, .pointer (some ⟨bn, q, none⟩), .string ⟨me.toArray⟩, .agg #[.int .i64 3, .int .i64 4096, .int .i64 6, .string ⟨me.toArray⟩], undef, undef] [6, 7] (PairR w5.heap.size w5 (fun _ _ _ => True) 6 7 56 #[.int .i64 0, .int .i64 0, .int .i64 0, .string ⟨#[]⟩] #[.int .i64 3, .int .i64 4096, .int .i64 6, .string ⟨me.toArray⟩]) (putT a0 l16)) ?_ ?_ ?_
 ·exact ⟨getT a0 [90, 91, 92, 93, 94, 95, 19], (putT_getT _ _ _ (by decide)).symm, PairR.start (Nat.le_refl _) (below_drewB _ _) _ _ trivial, fun i hi hs h => absurd h (by rw [getD_repl]; decide)⟩
 ·clear HQ
  rintro L a wz hsz ⟨x, rfl, HR, hΦ⟩ i o ho hn hd
  have hlt : i < 8 := (Array.getElem?_eq_some_iff.1 ho).1
  replace hsz : L.size = 8 := hsz
  rcases cs8 i hlt with rfl | rfl | rfl | rfl | rfl | rfl | rfl | rfl
  all_goals
   have ho' := ho
   simp only [List.getElem?_toArray, List.getElem?_cons_zero, List.getElem?_cons_succ, Option.some.injEq] at ho'
   subst ho'
   clear hlt
  ·as_aux_lemma =>
   refine wpOp_abs ho rfl fun A K' hA HK => ?_
   clear ho
   go_simp
   go_at_call 8
   refine (limits_any _).mono ?_
   rintro e w1 ⟨rfl, hb⟩
   (try dsimp only)
   exact HK.out _ _ (InvG.next 0 _ hΦ rfl (putT_put hA 90 0 (by rw [hz0]; decide) (by decide) (by decide) (by decide)) (HR.pure 0 _ (by decide) (by decide) hb trivial) (.inr rfl))
  ·as_aux_lemma =>
   refine wpOp_abs ho rfl fun A K' hA HK => ?_
   clear ho
   have f13 := putT_out hA 13 (by decide) h13
   go_simp
   exact HK.out _ _ (InvG.next 1 _ hΦ rfl (putT_put hA 91 1 (by rw [hz0]; decide) (by decide) (by decide) (by decide)) (HR.pure 1 _ (by decide) (by decide) (Below.refl _ _) trivial) (.inr rfl))
  ·as_aux_lemma =>
   refine wpOp_abs ho rfl fun A K' hA HK => ?_
   clear ho
   have f16 := putT_out hA 16 (by decide) h16
   go_simp
   exact HK.out _ _ (InvG.next 2 _ hΦ rfl (putT_put hA 92 2 (by rw [hz0]; decide) (by decide) (by decide) (by decide)) (HR.pure 2 _ (by decide) (by decide) (Below.refl _ _) trivial) (.inr rfl))
  ·as_aux_lemma =>
   refine wpOp_abs ho rfl fun A K' hA HK => ?_
   clear ho
   have f91 := putT_in hA 91 1 (by rw [hz0]; decide) (by decide) (by decide) (show x 1 = .slice (some ⟨bn, 0, none⟩) 2 2 from hΦ 1 (by decide) (by decide) (dep_of hd _ rfl))
   have f92 := putT_in hA 92 2 (by rw [hz0]; decide) (by decide) (by decide) (show x 2 = .int .i64 q from hΦ 2 (by decide) (by decide) (dep_of hd _ rfl))
   go_simp
   exact HK.out _ _ (InvG.next 3 _ hΦ rfl (putT_put hA 93 3 (by rw [hz0]; decide) (by decide) (by decide) (by decide)) (HR.pure 3 _ (by decide) (by decide) (Below.refl _ _) trivial) (.inr rfl))
  ·as_aux_lemma =>
   refine wpOp_abs ho rfl fun A K' hA HK => ?_
   clear ho
   have c4 := (HNw.out _ HR.bel).1
   have f93 := putT_in hA 93 3 (by rw [hz0]; decide) (by decide) (by decide) (show x 3 = .pointer (some ⟨bn, q, none⟩) from hΦ 3 (by decide) (by decide) (dep_of hd _ rfl))
   go_simp
   exact HK.out _ _ (InvG.next 4 _ hΦ rfl (putT_put hA 94 4 (by rw [hz0]; decide) (by decide) (by decide) (by decide)) (HR.pure 4 _ (by decide) (by decide) (Below.refl _ _) trivial) (.inr rfl))
  ·as_aux_lemma =>
   refine wpOp_abs ho rfl fun A K' hA HK => ?_
   clear ho
   have f90 := putT_in hA 90 0 (by rw [hz0]; decide) (by decide) (by decide) (show x 0 = .agg #[.int .i64 4096, .int .i64 6] from hΦ 0 (by decide) (by decide) (dep_of hd _ rfl))
   have f94 := putT_in hA 94 4 (by rw [hz0]; decide) (by decide) (by decide) (show x 4 = .string ⟨me.toArray⟩ from hΦ 4 (by decide) (by decide) (dep_of hd _ rfl))
   go_simp
   exact HK.out _ _ (InvG.next 5 _ hΦ rfl (putT_put hA 95 5 (by rw [hz0]; decide) (by decide) (by decide) (by decide)) (HR.pure 5 _ (by decide) (by decide) (Below.refl _ _) trivial) (.inr rfl))
  ·as_aux_lemma =>
   refine wpOp_abs ho rfl fun A K' hA HK => ?_
   clear ho
   go_simp
   exact HK.out _ _ (InvG.next 6 _ hΦ rfl (putT_put hA 19 6 (by rw [hz0]; decide) (by decide) (by decide) (by decide)) (HR.alloc (by decide) (by rw [hsz]; decide) hn (Nat.le_trans HR.low HR.bel.size) trivial) (.inl (by decide)))
  ·as_aux_lemma =>
   refine wpOp_abs ho rfl fun A K' hA HK => ?_
   clear ho
   obtain ⟨b, e6, hBb, hO⟩ := HR.open' (dep_of hd _ rfl) hn
   have hst := store_conn me hO
   have f19 := putT_in hA 19 6 (by rw [hz0]; decide) (by decide) (by decide) e6
   have f95 := putT_in hA 95 5 (by rw [hz0]; decide) (by decide) (by decide) (show x 5 = .agg #[.int .i64 3, .int .i64 4096, .int .i64 6, .string ⟨me.toArray⟩] from hΦ 5 (by decide) (by decide) (dep_of hd _ rfl))
   go_simp
   exact HK.out _ _ (InvG.next 7 undef hΦ rfl (putT_none hA 7 undef (by decide)) (HR.store undef (by decide) (by rw [hsz]; decide) e6 (dep_of hd _ rfl) hBb hO trivial) (.inl (by decide)))
 ·rintro L a wz ⟨x, rfl, HR, hΦ⟩ hall
  obtain ⟨g, e6, hg, hOg⟩ := HR.done (hall 6 (by decide)) (hall 7 (by decide))
  exact HQ.out x g wz e6 hg hOg HR.bel
theorem tc34 {wr : World} {a0 : Act} {Q : Exit → Act → World → Prop} {bn q p ra ro rs : Nat} (me oth : List UInt8) {T1 T2 : List Tp} (h13 : a0.tmps[13]? = some (.slice (some ⟨bn, 0, none⟩) 2 2)) (h14 : a0.tmps[14]? = some (.pointer (some ⟨rs, 0, none⟩))) (h16 : a0.tmps[16]? = some (.int .i64 q)) (h17 : a0.tmps[17]? = some (.pointer (some ⟨ro, 0, none⟩))) (h21 : a0.tmps[21]? = some (.pointer (some ⟨ra, 0, none⟩))) (hz0 : a0.tmps.size = 220) (hq2 : (q : Int) < 2) (hp2 : (p : Int) < 2) (hpw : IntKind.i64.wrap (1 - (q : Int)) = (p : Int)) (hN : ∀ V, Below wr.heap.size wr V → V.cell? ⟨bn, q, none⟩ = some (.string ⟨me.toArray⟩) ∧ V.cell? ⟨bn, p, none⟩ = some (.string ⟨oth.toArray⟩))
  (hT : ∀ V, Below wr.heap.size wr V → TopsAll ra ro rs me oth T1 T2 V)
  (hQ : ∀ (x : Nat → Value) (wz : World), x 31 = .bool false → Below wr.heap.size wr wz → Q .normal (putT a0 l34 x) wz) : Code.wp Tryz.prog (tcReg 34) Q a0 wr := by
 have HQ := Lib.hid hQ
 have HNx := Lib.hid hN
 have HTp := Lib.hid hT
 clear hQ hN hT
 conv => arg 2; whnf
 refine region_inv2 rfl (by kernel_rfl) (InvG 32 [.pointer (some ⟨ra, 0, none⟩), .slice (some ⟨bn, 0, none⟩) 2 2, .int .i64 q, .pointer (some ⟨bn, q, none⟩), .string ⟨me.toArray⟩, undef, .pointer (some ⟨ro, 0, none⟩), .slice (some ⟨bn, 0, none⟩) 2 2, .int .i64 q, .pointer (some ⟨bn, q, none⟩), .string ⟨me.toArray⟩, undef, .bool true, .bool false, .bool false, .pointer (some ⟨ro, 0, none⟩), .slice (some ⟨bn, 0, none⟩) 2 2, .int .i64 q, .int .i64 p, .pointer (some ⟨bn, p, none⟩), .string ⟨oth.toArray⟩, undef, .pointer (some ⟨rs, 0, none⟩), .slice (some ⟨bn, 0, none⟩) 2 2, .int .i64 q, .int .i64 p, .pointer (some ⟨bn, p, none⟩), .string ⟨oth.toArray⟩, undef, .bool true, .bool false, .bool false] [5, 11, 21, 28] (RowsR wr (rowsT T1 T2)) (putT a0 l34)) ?_ ?_ ?_
 ·exact ⟨getT a0 [188, 189, 190, 191, 192, 193, 194, 195, 196, 197, 198, 199, 200, 201, 202, 203, 204, 205, 206, 207, 208, 209, 210, 211, 212, 213, 214, 215, 216, 217, 218, 219], (putT_getT _ _ _ (by decide)).symm, RowsR.start (below_drewB _ _) _ _, fun i hi hs h => absurd h (by rw [getD_repl]; decide)⟩
 ·clear HQ
  rintro L a wz hsz ⟨x, rfl, HR, hΦ⟩ i o ho hn hd
  have hlt : i < 32 := (Array.getElem?_eq_some_iff.1 ho).1
  replace hsz : L.size = 32 := hsz
  rcases cs32 i hlt with rfl | rfl | rfl | rfl | rfl | rfl | rfl | rfl | rfl | rfl | rfl | rfl | rfl | rfl | rfl | rfl | rfl | rfl | rfl | rfl | rfl | rfl | rfl | rfl | rfl | rfl | rfl | rfl | rfl | rfl | rfl | rfl
  all_goals
   have ho' := ho
   simp only [List.getElem?_toArray, List.getElem?_cons_zero, List.getElem?_cons_succ, Option.some.injEq] at ho'
   subst ho'
   clear hlt
  ·as_aux_lemma =>
   refine wpOp_abs ho rfl fun A K' hA HK => ?_
   clear ho
   have f21 := putT_out hA 21 (by decide) h21
   go_simp
   exact HK.out _ _ (InvG.next 0 _ hΦ rfl (putT_put hA 188 0 (by rw [hz0]; decide) (by decide) (by decide) (by decide)) (HR.next 0 _ (Below.refl _ _) (fun t ht => by cases ht)) (.inr rfl))
  ·as_aux_lemma =>
   refine wpOp_abs ho rfl fun A K' hA HK => ?_
   clear ho
   have f13 := putT_out hA 13 (by decide) h13
   go_simp
   exact HK.out _ _ (InvG.next 1 _ hΦ rfl (putT_put hA 189 1 (by rw [hz0]; decide) (by decide) (by decide) (by decide)) (HR.next 1 _ (Below.refl _ _) (fun t ht => by cases ht)) (.inr rfl))
  ·as_aux_lemma =>
   refine wpOp_abs ho rfl fun A K' hA HK => ?_
   clear ho
   have f16 := putT_out hA 16 (by decide) h16
   go_simp
   exact HK.out _ _ (InvG.next 2 _ hΦ rfl (putT_put hA 190 2 (by rw [hz0]; decide) (by decide) (by decide) (by decide)) (HR.next 2 _ (Below.refl _ _) (fun t ht => by cases ht)) (.inr rfl))
  ·as_aux_lemma =>
   refine wpOp_abs ho rfl fun A K' hA HK => ?_
   clear ho
   have f189 := putT_in hA 189 1 (by rw [hz0]; decide) (by decide) (by decide) (show x 1 = .slice (some ⟨bn, 0, none⟩) 2 2 from hΦ 1 (by decide) (by decide) (dep_of hd _ rfl))
   have f190 := putT_in hA 190 2 (by rw [hz0]; decide) (by decide) (by decide) (show x 2 = .int .i64 q from hΦ 2 (by decide) (by decide) (dep_of hd _ rfl))
   go_simp
   exact HK.out _ _ (InvG.next 3 _ hΦ rfl (putT_put hA 191 3 (by rw [hz0]; decide) (by decide) (by decide) (by decide)) (HR.next 3 _ (Below.refl _ _) (fun t ht => by cases ht)) (.inr rfl))
  ·as_aux_lemma =>
   refine wpOp_abs ho rfl fun A K' hA HK => ?_
   clear ho
   have c4 := (HNx.out _ HR.bel).1
   have f191 := putT_in hA 191 3 (by rw [hz0]; decide) (by decide) (by decide) (show x 3 = .pointer (some ⟨bn, q, none⟩) from hΦ 3 (by decide) (by decide) (dep_of hd _ rfl))
   go_simp
   exact HK.out _ _ (InvG.next 4 _ hΦ rfl (putT_put hA 192 4 (by rw [hz0]; decide) (by decide) (by decide) (by decide)) (HR.next 4 _ (Below.refl _ _) (fun t ht => by cases ht)) (.inr rfl))
  ·as_aux_lemma =>
   refine wpOp_abs ho rfl fun A K' hA HK => ?_
   clear ho
   have HT1 := Lib.hid (HTp.out _ HR.bel)
   have f188 := putT_in hA 188 0 (by rw [hz0]; decide) (by decide) (by decide) (show x 0 = .pointer (some ⟨ra, 0, none⟩) from hΦ 0 (by decide) (by decide) (dep_of hd _ rfl))
   have f192 := putT_in hA 192 4 (by rw [hz0]; decide) (by decide) (by decide) (show x 4 = .string ⟨me.toArray⟩ from hΦ 4 (by decide) (by decide) (dep_of hd _ rfl))
   go_simp
   go_at_call 14
   refine (HT1.out.1).mono ?_
   rintro e w1 ⟨v, rfl, hrow, hb⟩
   (try dsimp only)
   exact HK.out _ _ (InvG.next 5 _ hΦ rfl (putT_put hA 193 5 (by rw [hz0]; decide) (by decide) (by decide) (by decide)) (HR.next 5 _ hb (fun t ht => by cases ht; exact hrow.1)) (.inl (by decide)))
  ·as_aux_lemma =>
   refine wpOp_abs ho rfl fun A K' hA HK => ?_
   clear ho
   have f17 := putT_out hA 17 (by decide) h17
   go_simp
   exact HK.out _ _ (InvG.next 6 _ hΦ rfl (putT_put hA 194 6 (by rw [hz0]; decide) (by decide) (by decide) (by decide)) (HR.next 6 _ (Below.refl _ _) (fun t ht => by cases ht)) (.inr rfl))
  ·as_aux_lemma =>
   refine wpOp_abs ho rfl fun A K' hA HK => ?_
   clear ho
   have f13 := putT_out hA 13 (by decide) h13
   go_simp
   exact HK.out _ _ (InvG.next 7 _ hΦ rfl (putT_put hA 195 7 (by rw [hz0]; decide) (by decide) (by decide) (by decide)) (HR.next 7 _ (Below.refl _ _) (fun t ht => by cases ht)) (.inr rfl))
  ·as_aux_lemma =>
   refine wpOp_abs ho rfl fun A K' hA HK => ?_
   clear ho
   have f16 := putT_out hA 16 (by decide) h16
   go_simp
   exact HK.out _ _ (InvG.next 8 _ hΦ rfl (putT_put hA 196 8 (by rw [hz0]; decide) (by decide) (by decide) (by decide)) (HR.next 8 _ (Below.refl _ _) (fun t ht => by cases ht)) (.inr rfl))
  ·as_aux_lemma =>
   refine wpOp_abs ho rfl fun A K' hA HK => ?_
   clear ho
   have f195 := putT_in hA 195 7 (by rw [hz0]; decide) (by decide) (by decide) (show x 7 = .slice (some ⟨bn, 0, none⟩) 2 2 from hΦ 7 (by decide) (by decide) (dep_of hd _ rfl))
   have f196 := putT_in hA 196 8 (by rw [hz0]; decide) (by decide) (by decide) (show x 8 = .int .i64 q from hΦ 8 (by decide) (by decide) (dep_of hd _ rfl))
   go_simp
   exact HK.out _ _ (InvG.next 9 _ hΦ rfl (putT_put hA 197 9 (by rw [hz0]; decide) (by decide) (by decide) (by decide)) (HR.next 9 _ (Below.refl _ _) (fun t ht => by cases ht)) (.inr rfl))
  ·as_aux_lemma =>
   refine wpOp_abs ho rfl fun A K' hA HK => ?_
   clear ho
   have c4 := (HNx.out _ HR.bel).1
   have f197 := putT_in hA 197 9 (by rw [hz0]; decide) (by decide) (by decide) (show x 9 = .pointer (some ⟨bn, q, none⟩) from hΦ 9 (by decide) (by decide) (dep_of hd _ rfl))
   go_simp
   exact HK.out _ _ (InvG.next 10 _ hΦ rfl (putT_put hA 198 10 (by rw [hz0]; decide) (by decide) (by decide) (by decide)) (HR.next 10 _ (Below.refl _ _) (fun t ht => by cases ht)) (.inr rfl))
  ·as_aux_lemma =>
   refine wpOp_abs ho rfl fun A K' hA HK => ?_
   clear ho
   have HT1 := Lib.hid (HTp.out _ HR.bel)
   have f194 := putT_in hA 194 6 (by rw [hz0]; decide) (by decide) (by decide) (show x 6 = .pointer (some ⟨ro, 0, none⟩) from hΦ 6 (by decide) (by decide) (dep_of hd _ rfl))
   have f198 := putT_in hA 198 10 (by rw [hz0]; decide) (by decide) (by decide) (show x 10 = .string ⟨me.toArray⟩ from hΦ 10 (by decide) (by decide) (dep_of hd _ rfl))
   go_simp
   go_at_call 14
   refine (HT1.out.2.1).mono ?_
   rintro e w1 ⟨v, rfl, hrow, hb⟩
   (try dsimp only)
   exact HK.out _ _ (InvG.next 11 _ hΦ rfl (putT_put hA 199 11 (by rw [hz0]; decide) (by decide) (by decide) (by decide)) (HR.next 11 _ hb (fun t ht => by cases ht; exact hrow.1)) (.inl (by decide)))
  ·as_aux_lemma =>
   refine wpOp_abs ho rfl fun A K' hA HK => ?_
   clear ho
   have f193 := putT_in hA 193 5 (by rw [hz0]; decide) (by decide) (by decide) (rfl : x 5 = x 5)
   have f199 := putT_in hA 199 11 (by rw [hz0]; decide) (by decide) (by decide) (rfl : x 11 = x 11)
   go_simp
   go_at_call 13
   refine (ksame_tp (HR.row 5 T1 rfl (dep_of hd _ rfl)) (HR.row 11 T1 rfl (dep_of hd _ rfl))).mono ?_
   rintro e w1 ⟨rfl, hb⟩
   (try dsimp only)
   exact HK.out _ _ (InvG.next 12 _ hΦ rfl (putT_put hA 200 12 (by rw [hz0]; decide) (by decide) (by decide) (by decide)) (HR.next 12 _ hb (fun t ht => by cases ht)) (.inr rfl))
  ·as_aux_lemma =>
   refine wpOp_abs ho rfl fun A K' hA HK => ?_
   clear ho
   have f200 := putT_in hA 200 12 (by rw [hz0]; decide) (by decide) (by decide) (show x 12 = .bool true from hΦ 12 (by decide) (by decide) (dep_of hd _ rfl))
   go_simp
   exact HK.out _ _ (InvG.next 13 _ hΦ rfl (putT_put hA 201 13 (by rw [hz0]; decide) (by decide) (by decide) (by decide)) (HR.next 13 _ (Below.refl _ _) (fun t ht => by cases ht)) (.inr rfl))
  ·as_aux_lemma =>
   refine wpOp_abs ho rfl fun A K' hA HK => ?_
   clear ho
   have f201 := putT_in hA 201 13 (by rw [hz0]; decide) (by decide) (by decide) (show x 13 = .bool false from hΦ 13 (by decide) (by decide) (dep_of hd _ rfl))
   go_simp
   exact HK.out _ _ (InvG.next 14 _ hΦ rfl (putT_put hA 202 14 (by rw [hz0]; decide) (by decide) (by decide) (by decide)) (HR.next 14 _ (Below.refl _ _) (fun t ht => by cases ht)) (.inr rfl))
  ·as_aux_lemma =>
   have g202 : (putT a0 l34 x).tmps[202]? = some (.bool false) := putT_in (A := putT a0 l34 x) (Lib.hid rfl) 202 14 (by rw [hz0]; decide) (by decide) (by decide) (show x 14 = .bool false from hΦ 14 (by decide) (by decide) (dep_of hd _ rfl))
   refine wpOp_abs ho (wanted_of (j := 14) (s := 202) (b := false) rfl rfl g202) fun A K' hA HK => ?_
   clear g202
   clear ho
   have f17 := putT_out hA 17 (by decide) h17
   go_simp
   exact HK.out _ _ (InvG.next 15 _ hΦ rfl (putT_put hA 203 15 (by rw [hz0]; decide) (by decide) (by decide) (by decide)) (HR.next 15 _ (Below.refl _ _) (fun t ht => by cases ht)) (.inr rfl))
  ·as_aux_lemma =>
   have g202 : (putT a0 l34 x).tmps[202]? = some (.bool false) := putT_in (A := putT a0 l34 x) (Lib.hid rfl) 202 14 (by rw [hz0]; decide) (by decide) (by decide) (show x 14 = .bool false from hΦ 14 (by decide) (by decide) (dep_of hd _ rfl))
   refine wpOp_abs ho (wanted_of (j := 14) (s := 202) (b := false) rfl rfl g202) fun A K' hA HK => ?_
   clear g202
   clear ho
   have f13 := putT_out hA 13 (by decide) h13
   go_simp
   exact HK.out _ _ (InvG.next 16 _ hΦ rfl (putT_put hA 204 16 (by rw [hz0]; decide) (by decide) (by decide) (by decide)) (HR.next 16 _ (Below.refl _ _) (fun t ht => by cases ht)) (.inr rfl))
  ·as_aux_lemma =>
   have g202 : (putT a0 l34 x).tmps[202]? = some (.bool false) := putT_in (A := putT a0 l34 x) (Lib.hid rfl) 202 14 (by rw [hz0]; decide) (by decide) (by decide) (show x 14 = .bool false from hΦ 14 (by decide) (by decide) (dep_of hd _ rfl))
   refine wpOp_abs ho (wanted_of (j := 14) (s := 202) (b := false) rfl rfl g202) fun A K' hA HK => ?_
   clear g202
   clear ho
   have f16 := putT_out hA 16 (by decide) h16
   go_simp
   exact HK.out _ _ (InvG.next 17 _ hΦ rfl (putT_put hA 205 17 (by rw [hz0]; decide) (by decide) (by decide) (by decide)) (HR.next 17 _ (Below.refl _ _) (fun t ht => by cases ht)) (.inr rfl))
  ·as_aux_lemma =>
   have g202 : (putT a0 l34 x).tmps[202]? = some (.bool false) := putT_in (A := putT a0 l34 x) (Lib.hid rfl) 202 14 (by rw [hz0]; decide) (by decide) (by decide) (show x 14 = .bool false from hΦ 14 (by decide) (by decide) (dep_of hd _ rfl))
   refine wpOp_abs ho (wanted_of (j := 14) (s := 202) (b := false) rfl rfl g202) fun A K' hA HK => ?_
   clear g202
   clear ho
   have f205 := putT_in hA 205 17 (by rw [hz0]; decide) (by decide) (by decide) (show x 17 = .int .i64 q from hΦ 17 (by decide) (by decide) (dep_of hd _ rfl))
   go_simp
   exact HK.out _ _ (InvG.next 18 _ hΦ rfl (putT_put hA 206 18 (by rw [hz0]; decide) (by decide) (by decide) (by decide)) (HR.next 18 _ (Below.refl _ _) (fun t ht => by cases ht)) (.inr rfl))
  ·as_aux_lemma =>
   have g202 : (putT a0 l34 x).tmps[202]? = some (.bool false) := putT_in (A := putT a0 l34 x) (Lib.hid rfl) 202 14 (by rw [hz0]; decide) (by decide) (by decide) (show x 14 = .bool false from hΦ 14 (by decide) (by decide) (dep_of hd _ rfl))
   refine wpOp_abs ho (wanted_of (j := 14) (s := 202) (b := false) rfl rfl g202) fun A K' hA HK => ?_
   clear g202
   clear ho
   have f204 := putT_in hA 204 16 (by rw [hz0]; decide) (by decide) (by decide) (show x 16 = .slice (some ⟨bn, 0, none⟩) 2 2 from hΦ 16 (by decide) (by decide) (dep_of hd _ rfl))
   have f206 := putT_in hA 206 18 (by rw [hz0]; decide) (by decide) (by decide) (show x 18 = .int .i64 p from hΦ 18 (by decide) (by decide) (dep_of hd _ rfl))
   go_simp
   exact HK.out _ _ (InvG.next 19 _ hΦ rfl (putT_put hA 207 19 (by rw [hz0]; decide) (by decide) (by decide) (by decide)) (HR.next 19 _ (Below.refl _ _) (fun t ht => by cases ht)) (.inr rfl))
  ·as_aux_lemma =>
   have g202 : (putT a0 l34 x).tmps[202]? = some (.bool false) := putT_in (A := putT a0 l34 x) (Lib.hid rfl) 202 14 (by rw [hz0]; decide) (by decide) (by decide) (show x 14 = .bool false from hΦ 14 (by decide) (by decide) (dep_of hd _ rfl))
   refine wpOp_abs ho (wanted_of (j := 14) (s := 202) (b := false) rfl rfl g202) fun A K' hA HK => ?_
   clear g202
   clear ho
   have c4 := (HNx.out _ HR.bel).2
   have f207 := putT_in hA 207 19 (by rw [hz0]; decide) (by decide) (by decide) (show x 19 = .pointer (some ⟨bn, p, none⟩) from hΦ 19 (by decide) (by decide) (dep_of hd _ rfl))
   go_simp
   exact HK.out _ _ (InvG.next 20 _ hΦ rfl (putT_put hA 208 20 (by rw [hz0]; decide) (by decide) (by decide) (by decide)) (HR.next 20 _ (Below.refl _ _) (fun t ht => by cases ht)) (.inr rfl))
  ·as_aux_lemma =>
   have g202 : (putT a0 l34 x).tmps[202]? = some (.bool false) := putT_in (A := putT a0 l34 x) (Lib.hid rfl) 202 14 (by rw [hz0]; decide) (by decide) (by decide) (show x 14 = .bool false from hΦ 14 (by decide) (by decide) (dep_of hd _ rfl))
   refine wpOp_abs ho (wanted_of (j := 14) (s := 202) (b := false) rfl rfl g202) fun A K' hA HK => ?_
   clear g202
   clear ho
   have HT1 := Lib.hid (HTp.out _ HR.bel)
   have f203 := putT_in hA 203 15 (by rw [hz0]; decide) (by decide) (by decide) (show x 15 = .pointer (some ⟨ro, 0, none⟩) from hΦ 15 (by decide) (by decide) (dep_of hd _ rfl))
   have f208 := putT_in hA 208 20 (by rw [hz0]; decide) (by decide) (by decide) (show x 20 = .string ⟨oth.toArray⟩ from hΦ 20 (by decide) (by decide) (dep_of hd _ rfl))
   go_simp
   go_at_call 14
   refine (HT1.out.2.2.1).mono ?_
   rintro e w1 ⟨v, rfl, hrow, hb⟩
   (try dsimp only)
   exact HK.out _ _ (InvG.next 21 _ hΦ rfl (putT_put hA 209 21 (by rw [hz0]; decide) (by decide) (by decide) (by decide)) (HR.next 21 _ hb (fun t ht => by cases ht; exact hrow.1)) (.inl (by decide)))
  ·as_aux_lemma =>
   have g202 : (putT a0 l34 x).tmps[202]? = some (.bool false) := putT_in (A := putT a0 l34 x) (Lib.hid rfl) 202 14 (by rw [hz0]; decide) (by decide) (by decide) (show x 14 = .bool false from hΦ 14 (by decide) (by decide) (dep_of hd _ rfl))
   refine wpOp_abs ho (wanted_of (j := 14) (s := 202) (b := false) rfl rfl g202) fun A K' hA HK => ?_
   clear g202
   clear ho
   have f14 := putT_out hA 14 (by decide) h14
   go_simp
   exact HK.out _ _ (InvG.next 22 _ hΦ rfl (putT_put hA 210 22 (by rw [hz0]; decide) (by decide) (by decide) (by decide)) (HR.next 22 _ (Below.refl _ _) (fun t ht => by cases ht)) (.inr rfl))
  ·as_aux_lemma =>
   have g202 : (putT a0 l34 x).tmps[202]? = some (.bool false) := putT_in (A := putT a0 l34 x) (Lib.hid rfl) 202 14 (by rw [hz0]; decide) (by decide) (by decide) (show x 14 = .bool false from hΦ 14 (by decide) (by decide) (dep_of hd _ rfl))
   refine wpOp_abs ho (wanted_of (j := 14) (s := 202) (b := false) rfl rfl g202) fun A K' hA HK => ?_
   clear g202
   clear ho
   have f13 := putT_out hA 13 (by decide) h13
   go_simp
   exact HK.out _ _ (InvG.next 23 _ hΦ rfl (putT_put hA 211 23 (by rw [hz0]; decide) (by decide) (by decide) (by decide)) (HR.next 23 _ (Below.refl _ _) (fun t ht => by cases ht)) (.inr rfl))
  ·as_aux_lemma =>
   have g202 : (putT a0 l34 x).tmps[202]? = some (.bool false) := putT_in (A := putT a0 l34 x) (Lib.hid rfl) 202 14 (by rw [hz0]; decide) (by decide) (by decide) (show x 14 = .bool false from hΦ 14 (by decide) (by decide) (dep_of hd _ rfl))
   refine wpOp_abs ho (wanted_of (j := 14) (s := 202) (b := false) rfl rfl g202) fun A K' hA HK => ?_
   clear g202
   clear ho
   have f16 := putT_out hA 16 (by decide) h16
   go_simp
   exact HK.out _ _ (InvG.next 24 _ hΦ rfl (putT_put hA 212 24 (by rw [hz0]; decide) (by decide) (by decide) (by decide)) (HR.next 24 _ (Below.refl _ _) (fun t ht => by cases ht)) (.inr rfl))
  ·as_aux_lemma =>
   have g202 : (putT a0 l34 x).tmps[202]? = some (.bool false) := putT_in (A := putT a0 l34 x) (Lib.hid rfl) 202 14 (by rw [hz0]; decide) (by decide) (by decide) (show x 14 = .bool false from hΦ 14 (by decide) (by decide) (dep_of hd _ rfl))
   refine wpOp_abs ho (wanted_of (j := 14) (s := 202) (b := false) rfl rfl g202) fun A K' hA HK => ?_
   clear g202
   clear ho
   have f212 := putT_in hA 212 24 (by rw [hz0]; decide) (by decide) (by decide) (show x 24 = .int .i64 q from hΦ 24 (by decide) (by decide) (dep_of hd _ rfl))
   go_simp
   exact HK.out _ _ (InvG.next 25 _ hΦ rfl (putT_put hA 213 25 (by rw [hz0]; decide) (by decide) (by decide) (by decide)) (HR.next 25 _ (Below.refl _ _) (fun t ht => by cases ht)) (.inr rfl))
  ·as_aux_lemma =>
   have g202 : (putT a0 l34 x).tmps[202]? = some (.bool false) := putT_in (A := putT a0 l34 x) (Lib.hid rfl) 202 14 (by rw [hz0]; decide) (by decide) (by decide) (show x 14 = .bool false from hΦ 14 (by decide) (by decide) (dep_of hd _ rfl))
   refine wpOp_abs ho (wanted_of (j := 14) (s := 202) (b := false) rfl rfl g202) fun A K' hA HK => ?_
   clear g202
   clear ho
   have f211 := putT_in hA 211 23 (by rw [hz0]; decide) (by decide) (by decide) (show x 23 = .slice (some ⟨bn, 0, none⟩) 2 2 from hΦ 23 (by decide) (by decide) (dep_of hd _ rfl))
   have f213 := putT_in hA 213 25 (by rw [hz0]; decide) (by decide) (by decide) (show x 25 = .int .i64 p from hΦ 25 (by decide) (by decide) (dep_of hd _ rfl))
   go_simp
   exact HK.out _ _ (InvG.next 26 _ hΦ rfl (putT_put hA 214 26 (by rw [hz0]; decide) (by decide) (by decide) (by decide)) (HR.next 26 _ (Below.refl _ _) (fun t ht => by cases ht)) (.inr rfl))
  ·as_aux_lemma =>
   have g202 : (putT a0 l34 x).tmps[202]? = some (.bool false) := putT_in (A := putT a0 l34 x) (Lib.hid rfl) 202 14 (by rw [hz0]; decide) (by decide) (by decide) (show x 14 = .bool false from hΦ 14 (by decide) (by decide) (dep_of hd _ rfl))
   refine wpOp_abs ho (wanted_of (j := 14) (s := 202) (b := false) rfl rfl g202) fun A K' hA HK => ?_
   clear g202
   clear ho
   have c4 := (HNx.out _ HR.bel).2
   have f214 := putT_in hA 214 26 (by rw [hz0]; decide) (by decide) (by decide) (show x 26 = .pointer (some ⟨bn, p, none⟩) from hΦ 26 (by decide) (by decide) (dep_of hd _ rfl))
   go_simp
   exact HK.out _ _ (InvG.next 27 _ hΦ rfl (putT_put hA 215 27 (by rw [hz0]; decide) (by decide) (by decide) (by decide)) (HR.next 27 _ (Below.refl _ _) (fun t ht => by cases ht)) (.inr rfl))
  ·as_aux_lemma =>
   have g202 : (putT a0 l34 x).tmps[202]? = some (.bool false) := putT_in (A := putT a0 l34 x) (Lib.hid rfl) 202 14 (by rw [hz0]; decide) (by decide) (by decide) (show x 14 = .bool false from hΦ 14 (by decide) (by decide) (dep_of hd _ rfl))
   refine wpOp_abs ho (wanted_of (j := 14) (s := 202) (b := false) rfl rfl g202) fun A K' hA HK => ?_
   clear g202
   clear ho
   have HT1 := Lib.hid (HTp.out _ HR.bel)
   have f210 := putT_in hA 210 22 (by rw [hz0]; decide) (by decide) (by decide) (show x 22 = .pointer (some ⟨rs, 0, none⟩) from hΦ 22 (by decide) (by decide) (dep_of hd _ rfl))
   have f215 := putT_in hA 215 27 (by rw [hz0]; decide) (by decide) (by decide) (show x 27 = .string ⟨oth.toArray⟩ from hΦ 27 (by decide) (by decide) (dep_of hd _ rfl))
   go_simp
   go_at_call 14
   refine (HT1.out.2.2.2).mono ?_
   rintro e w1 ⟨v, rfl, hrow, hb⟩
   (try dsimp only)
   exact HK.out _ _ (InvG.next 28 _ hΦ rfl (putT_put hA 216 28 (by rw [hz0]; decide) (by decide) (by decide) (by decide)) (HR.next 28 _ hb (fun t ht => by cases ht; exact hrow.1)) (.inl (by decide)))
  ·as_aux_lemma =>
   have g202 : (putT a0 l34 x).tmps[202]? = some (.bool false) := putT_in (A := putT a0 l34 x) (Lib.hid rfl) 202 14 (by rw [hz0]; decide) (by decide) (by decide) (show x 14 = .bool false from hΦ 14 (by decide) (by decide) (dep_of hd _ rfl))
   refine wpOp_abs ho (wanted_of (j := 14) (s := 202) (b := false) rfl rfl g202) fun A K' hA HK => ?_
   clear g202
   clear ho
   have f209 := putT_in hA 209 21 (by rw [hz0]; decide) (by decide) (by decide) (rfl : x 21 = x 21)
   have f216 := putT_in hA 216 28 (by rw [hz0]; decide) (by decide) (by decide) (rfl : x 28 = x 28)
   go_simp
   go_at_call 13
   refine (ksame_tp (HR.row 21 T2 rfl (dep_of hd _ rfl)) (HR.row 28 T2 rfl (dep_of hd _ rfl))).mono ?_
   rintro e w1 ⟨rfl, hb⟩
   (try dsimp only)
   exact HK.out _ _ (InvG.next 29 _ hΦ rfl (putT_put hA 217 29 (by rw [hz0]; decide) (by decide) (by decide) (by decide)) (HR.next 29 _ hb (fun t ht => by cases ht)) (.inr rfl))
  ·as_aux_lemma =>
   have g202 : (putT a0 l34 x).tmps[202]? = some (.bool false) := putT_in (A := putT a0 l34 x) (Lib.hid rfl) 202 14 (by rw [hz0]; decide) (by decide) (by decide) (show x 14 = .bool false from hΦ 14 (by decide) (by decide) (dep_of hd _ rfl))
   refine wpOp_abs ho (wanted_of (j := 14) (s := 202) (b := false) rfl rfl g202) fun A K' hA HK => ?_
   clear g202
   clear ho
   have f217 := putT_in hA 217 29 (by rw [hz0]; decide) (by decide) (by decide) (show x 29 = .bool true from hΦ 29 (by decide) (by decide) (dep_of hd _ rfl))
   go_simp
   exact HK.out _ _ (InvG.next 30 _ hΦ rfl (putT_put hA 218 30 (by rw [hz0]; decide) (by decide) (by decide) (by decide)) (HR.next 30 _ (Below.refl _ _) (fun t ht => by cases ht)) (.inr rfl))
  ·as_aux_lemma =>
   refine wpOp_abs ho rfl fun A K' hA HK => ?_
   clear ho
   have f202 := putT_in hA 202 14 (by rw [hz0]; decide) (by decide) (by decide) (show x 14 = .bool false from hΦ 14 (by decide) (by decide) (dep_of hd _ rfl))
   have f218 := putT_in hA 218 30 (by rw [hz0]; decide) (by decide) (by decide) (show x 30 = .bool false from hΦ 30 (by decide) (by decide) (dep_of hd _ rfl))
   go_simp
   exact HK.out _ _ (InvG.next 31 _ hΦ rfl (putT_put hA 219 31 (by rw [hz0]; decide) (by decide) (by decide) (by decide)) (HR.next 31 _ (Below.refl _ _) (fun t ht => by cases ht)) (.inr rfl))
 ·rintro L a wz ⟨x, rfl, HR, hΦ⟩ hall
  exact HQ.out x wz (hΦ 31 (by decide) (by decide) (hall 31 (by decide))) HR.bel
end Go.Proofs.YtanofjmkkhocaaaGreatDoor
