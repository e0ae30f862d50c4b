/- A packet as an argument, opened: its lists lie in memory. -/
import Derived.Test.YtjkmfdkhfjhegaaOpenG
import Derived.Test.YtjkmfdkhfjhegaaHeB
import Derived.Deep.Slices
import Derived.Deep.Fields
import Derived.ChangeSame
namespace Go.Proofs.Ytjkmfdkhfjhegaa
open Go Go.RowKit Go.ChangeShapes Go.WideShapes Go.Deep
set_option linter.unusedVariables false

section
variable {H : Type} {enc : TypeId × Value → H} {P : Program} {w : World} {base : Nat} {spare : Nat → Bool} {held : Bool}
theorem open_slice_fields {t e : TypeId} {fs : Array Field} {fuel : Nat} {cs : List Value} {x : DataW H × List MemPlace} (ht : P.underlying t = some (.slice e)) (he : P.underlying e = some (.struct fs))
    (hone : oneCellFields P fs = true) (hC : P.cellsOf e = fs.size) (h : DataW.trod enc P w base spare held fuel t cs = some x) :
    (cs = [.slice none 0 0]) ∨
    ∃ (a : Addr) (len cap : Nat), cs = [.slice (some a) len cap] ∧ len ≤ cap ∧ cap ≤ maxLen ∧
      ∀ i, i < len → ∃ (ys : List (DataW H × List MemPlace)) (n : Nat), ys.length = fs.size ∧
        ∀ (j : Nat) (f : Field), fs[j]? = some f → ∃ (v : Value) (y : DataW H × List MemPlace), w.cell? (a.add (i * fs.size + j)) = some v ∧ ys[j]? = some y ∧ DataW.trod enc P w base spare held n f.type [v] = some y := by
  rcases open_slice ht h with h0 | ⟨a, len, cap, m, n, D, Pl, hcs, hb, hl, hm, hmm, hx, hi⟩
  · exact .inl h0.1
  · refine .inr ⟨a, len, cap, hcs, hl, hm, fun i him => ?_⟩
    obtain ⟨cs', hc, ht'⟩ := hi i (by rw [hmm]; split <;> omega)
    rw [hC] at hc
    obtain ⟨ys, n', hn', hy, hlen, hyl, hf⟩ := DataW.trod_struct he ht'
    obtain ⟨_, hcl, hat⟩ := World.cells?_some hc
    refine ⟨ys, n', hyl, fun j f hj => ?_⟩
    obtain ⟨ho, hk⟩ := hone_of hone j f hj
    have hjl : j < fs.size := (Array.getElem?_eq_some_iff.1 hj).1
    have hcell := hat j hjl
    have hv : cs'[j]? = some (cs'[j]'(by omega)) := List.getElem?_eq_getElem (by omega)
    have h1 := hf j f hj
    rw [ho, hk] at h1
    have hone' : (cs'.drop j).take 1 = [cs'[j]'(by omega)] := by
      rw [List.drop_eq_getElem_cons (by omega)]
      rfl
    rw [hone'] at h1
    have hys : ys[j]? = some (ys[j]'(by omega)) := List.getElem?_eq_getElem (by omega)
    refine ⟨_, _, ?_, hys, h1.trans hys⟩
    rw [← Go.Deep.add_add, hcell, hv]
theorem open_slice_ints {t e : TypeId} {k : IntKind} {fuel : Nat} {cs : List Value} {x : DataW H × List MemPlace} (ht : P.underlying t = some (.slice e)) (he : P.underlying e = some (.int k))
    (hC : P.cellsOf e = 1) (h : DataW.trod enc P w base spare held fuel t cs = some x) :
    (cs = [.slice none 0 0]) ∨
    ∃ (a : Addr) (len cap : Nat), cs = [.slice (some a) len cap] ∧ len ≤ cap ∧ cap ≤ maxLen ∧ ∀ i, i < len → ∃ z : Int, w.cell? (a.add i) = some (.int k z) := by
  rcases open_slice ht h with h0 | ⟨a, len, cap, m, n, D, Pl, hcs, hb, hl, hm, hmm, hx, hi⟩
  · exact .inl h0.1
  · refine .inr ⟨a, len, cap, hcs, hl, hm, fun i him => ?_⟩
    obtain ⟨cs', hc, ht'⟩ := hi i (by rw [hmm]; split <;> omega)
    rw [hC, Nat.mul_one] at hc
    obtain ⟨_, hcl, hat⟩ := World.cells?_some hc
    obtain ⟨z, e0, -, -⟩ := DataW.trod_int he ht'
    subst e0
    have h0 := hat 0 (by omega)
    refine ⟨z, ?_⟩
    rw [show i = i + 0 from rfl, ← Go.Deep.add_add]
    simpa using h0
end
theorem cell_block {w : World} {b o : Nat} {v : Value} (h : w.cell? ⟨b, o, none⟩ = some v) : b < w.heap.size := by
  rcases Nat.lt_or_ge b w.heap.size with h1 | h1
  · exact h1
  · unfold World.cell? at h
    simp [Array.getElem?_eq_none h1] at h
theorem rows_built {X : Type} {cs : X → Array Value} {z : Nat} {w : World} {b off : Nat} : ∀ n : Nat, (∀ i, i < n → ∃ x : X, ∀ j u, (cs x)[j]? = some u → w.cell? ⟨b, off + i * z + j, none⟩ = some u) →
    ∃ xs : List X, xs.length = n ∧ ∀ i (hi : i < xs.length) j u, (cs xs[i])[j]? = some u → w.cell? ⟨b, off + i * z + j, none⟩ = some u
  | 0, _ => ⟨[], rfl, by simp⟩
  | n + 1, h => by
    obtain ⟨xs, h1, h3⟩ := rows_built n (fun i hi => h i (by omega))
    obtain ⟨x, x2⟩ := h n (by omega)
    refine ⟨xs ++ [x], by simp [h1], fun i hi j u hj => ?_⟩
    by_cases hin : i < xs.length
    · rw [List.getElem_append_left hin] at hj; exact h3 i hin j u hj
    · obtain rfl : i = n := by simp at hi; omega
      rw [List.getElem_append_right (by omega)] at hj
      simp only [h1, Nat.sub_self, List.getElem_singleton] at hj
      exact x2 j u hj
theorem rowOf_built {X : Type} {cs : X → Array Value} {z : Nat} {w : World} {a : Addr} {len cap : Nat} (hl : (len : Int) ≤ 9223372036854775807) (hf : ∀ x, ∃ u, (cs x)[0]? = some u)
    (each : ∀ i, i < len → ∃ x : X, ∀ j u, (cs x)[j]? = some u → w.cell? (a.add (i * z + j)) = some u) : ∃ xs : List X, RowOf cs z w (.slice (some a) len cap) xs := by
  by_cases h0 : len = 0
  · subst h0
    exact ⟨[], some a, cap, rfl, by simp, .inl rfl⟩
  · obtain ⟨b, off, spot⟩ := a
    obtain ⟨x0, q0⟩ := each 0 (by omega)
    obtain ⟨u0, hu0⟩ := hf x0
    have q1 := q0 0 u0 hu0
    have hspot : spot = none := by simpa [Addr.add] using World.cell?_spot q1
    subst hspot
    have hb : b < w.heap.size := by
      rw [Addr.add_mid] at q1
      exact cell_block q1
    obtain ⟨xs, h1, h3⟩ := rows_built (cs := cs) (z := z) (w := w) (b := b) (off := off) len (fun i him => by
      obtain ⟨x, hx⟩ := each i him
      refine ⟨x, fun j u hj => ?_⟩
      have := hx j u hj
      rw [Addr.add_mid] at this
      rw [Nat.add_assoc]; exact this)
    subst h1
    exact ⟨xs, some ⟨b, off, none⟩, cap, rfl, hl, .inr ⟨b, off, rfl, hb, h3⟩⟩
set_option maxRecDepth 100000 in
theorem open_fts {H : Type} {enc : TypeId × Value → H} {w : World} {base fuel : Nat} {spare : Nat → Bool} {held : Bool} {cs : List Value} {x : DataW H × List MemPlace} (hf : DataW.trod enc Try.prog w base spare held fuel 33 cs = some x) :
    ∃ v xs, cs = [v] ∧ RowOf Ft.cs 5 w v xs := by
  rcases open_slice_fields Try.underlying33 Try.underlying57 (by kernel_rfl) (by kernel_rfl) hf with rfl | ⟨a, len, cap, rfl, hl, hm, hi⟩
  · exact ⟨_, [], rfl, rowOf_nil _ _ w⟩
  · refine ⟨.slice (some a) len cap, ?_⟩
    unfold maxLen at hm
    obtain ⟨xs, hx⟩ := rowOf_built (cs := Ft.cs) (z := 5) (w := w) (a := a) (len := len) (cap := cap) (by omega) (fun x => ⟨_, rfl⟩) (fun i him => by
      obtain ⟨ys, n, hyl, hf⟩ := hi i him
      obtain ⟨v0, y0, c0, -, t0⟩ := hf 0 _ rfl
      obtain ⟨v1, y1, c1, -, t1⟩ := hf 1 _ rfl
      obtain ⟨v2, y2, c2, -, t2⟩ := hf 2 _ rfl
      obtain ⟨v3, y3, c3, -, t3⟩ := hf 3 _ rfl
      obtain ⟨v4, y4, c4, -, t4⟩ := hf 4 _ rfl
      obtain ⟨⟨⟨s⟩⟩, e0, -, -⟩ := DataW.trod_string Try.underlying9 t0
      obtain ⟨q, e1, -, -⟩ := DataW.trod_int Try.underlying3 t1
      obtain ⟨nl, e2, -⟩ := DataW.trod_bool Try.underlying4 t2
      obtain ⟨ap, e3, -⟩ := DataW.trod_bool Try.underlying4 t3
      obtain ⟨h, e4, -, -⟩ := DataW.trod_int Try.underlying3 t4
      cases e0; cases e1; cases e2; cases e3; cases e4
      refine ⟨⟨s, q, nl, ap, h⟩, fun j u hj => ?_⟩
      match j, hj with
      | 0, hj => cases hj; exact c0
      | 1, hj => cases hj; exact c1
      | 2, hj => cases hj; exact c2
      | 3, hj => cases hj; exact c3
      | 4, hj => cases hj; exact c4
      | j + 5, hj => cases hj)
    exact ⟨xs, rfl, hx⟩
set_option maxRecDepth 100000 in
theorem open_pps {H : Type} {enc : TypeId × Value → H} {w : World} {base fuel : Nat} {spare : Nat → Bool} {held : Bool} {cs : List Value} {x : DataW H × List MemPlace} (hf : DataW.trod enc Try.prog w base spare held fuel 29 cs = some x) :
    ∃ v xs, cs = [v] ∧ RowOf Pp.cs 4 w v xs := by
  rcases open_slice_fields Try.underlying29 Try.underlying40 (by kernel_rfl) (by kernel_rfl) hf with rfl | ⟨a, len, cap, rfl, hl, hm, hi⟩
  · exact ⟨_, [], rfl, rowOf_nil _ _ w⟩
  · refine ⟨.slice (some a) len cap, ?_⟩
    unfold maxLen at hm
    obtain ⟨xs, hx⟩ := rowOf_built (cs := Pp.cs) (z := 4) (w := w) (a := a) (len := len) (cap := cap) (by omega) (fun x => ⟨_, rfl⟩) (fun i him => by
      obtain ⟨ys, n, hyl, hf⟩ := hi i him
      obtain ⟨v0, y0, c0, -, t0⟩ := hf 0 _ rfl
      obtain ⟨v1, y1, c1, -, t1⟩ := hf 1 _ rfl
      obtain ⟨v2, y2, c2, -, t2⟩ := hf 2 _ rfl
      obtain ⟨v3, y3, c3, -, t3⟩ := hf 3 _ rfl
      obtain ⟨q, e0, -, -⟩ := DataW.trod_int Try.underlying3 t0
      obtain ⟨n1, e1, -, -⟩ := DataW.trod_int Try.underlying38 t1
      obtain ⟨⟨⟨s⟩⟩, e2, -, -⟩ := DataW.trod_string Try.underlying9 t2
      obtain ⟨⟨⟨s2⟩⟩, e3, -, -⟩ := DataW.trod_string Try.underlying9 t3
      cases e0; cases e1; cases e2; cases e3
      refine ⟨⟨q, n1, s, s2⟩, fun j u hj => ?_⟩
      match j, hj with
      | 0, hj => cases hj; exact c0
      | 1, hj => cases hj; exact c1
      | 2, hj => cases hj; exact c2
      | 3, hj => cases hj; exact c3
      | j + 4, hj => cases hj)
    exact ⟨xs, rfl, hx⟩
set_option maxRecDepth 100000 in
theorem open_ins {H : Type} {enc : TypeId × Value → H} {w : World} {base fuel : Nat} {spare : Nat → Bool} {held : Bool} {cs : List Value} {x : DataW H × List MemPlace} (hf : DataW.trod enc Try.prog w base spare held fuel 32 cs = some x) :
    ∃ v xs, cs = [v] ∧ RowOf intCs 1 w v xs := by
  rcases open_slice_ints Try.underlying32 Try.underlying3 (by kernel_rfl) hf with rfl | ⟨a, len, cap, rfl, hl, hm, hi⟩
  · exact ⟨_, [], rfl, rowOf_nil _ _ w⟩
  · refine ⟨.slice (some a) len cap, ?_⟩
    unfold maxLen at hm
    obtain ⟨xs, hx⟩ := rowOf_built (cs := intCs) (z := 1) (w := w) (a := a) (len := len) (cap := cap) (by omega) (fun x => ⟨_, rfl⟩) (fun i him => by
      obtain ⟨q, c0⟩ := hi i him
      refine ⟨q, fun j u hj => ?_⟩
      match j, hj with
      | 0, hj => cases hj; rw [Nat.mul_one]; exact c0
      | j + 1, hj => cases hj)
    exact ⟨xs, rfl, hx⟩
theorem take_sub {cs : List Value} {o k j : Nat} {v : Value} (h : ((cs.drop o).take k)[j]? = some v) : cs[o + j]? = some v := by
  have hj : j < k := by
    rcases Nat.lt_or_ge j k with h1 | h1
    · exact h1
    · rw [List.getElem?_eq_none (by simp; omega)] at h; cases h
  rw [List.getElem?_take_of_lt hj, List.getElem?_drop] at h
  exact h
set_option maxRecDepth 100000 in
/-- An argument of type api.Packet. -/
theorem open_packet {H : Type} {enc : TypeId × Value → H} {w : World} {r : Reach} {b0 base : Nat} {spare : Nat → Bool} {held : Bool} {v : Value} {d : DataW H} {p : List MemPlace} (hv : Value.okWide Try.prog w r b0 35 v) (h : DataW.Trod enc Try.prog w base spare held 35 v d p) :
    ∃ (q : Pk) (vw vc vf vp : Value), v = .agg (pkCs q vw vc vf vp) ∧ PkAt w q vw vc vf vp := by
  obtain ⟨cs, rfl, hsz⟩ := okWide_struct Try.underlying35 hv
  obtain ⟨fuel, hf⟩ := h
  have hc : Try.prog.cellsOf 35 = 25 := by kernel_rfl
  rw [hc] at hsz
  have hb : Try.prog.cellsOf 4 = 1 := by kernel_rfl
  have hi : Try.prog.cellsOf 3 = 1 := by kernel_rfl
  have hs : Try.prog.cellsOf 9 = 1 := by kernel_rfl
  obtain ⟨n0, e0, -⟩ := leaf_int (ti := 0) Try.underlying35 hf 0 _ rfl hi .i64 Try.underlying3
  obtain ⟨n1, e1⟩ := leaf_bool Try.underlying35 hf 1 _ rfl hb Try.underlying4
  obtain ⟨n2, e2⟩ := leaf_bool Try.underlying35 hf 2 _ rfl hb Try.underlying4
  obtain ⟨n3, e3, -⟩ := leaf_int (ti := 0) Try.underlying35 hf 3 _ rfl hi .i64 Try.underlying3
  obtain ⟨n4, e4, -⟩ := leaf_int (ti := 0) Try.underlying35 hf 4 _ rfl hi .i64 Try.underlying3
  obtain ⟨n5, e5, -⟩ := leaf_string Try.underlying35 hf 5 _ rfl hs Try.underlying9
  obtain ⟨n6, e6, -⟩ := leaf_string Try.underlying35 hf 6 _ rfl hs Try.underlying9
  obtain ⟨n7, e7⟩ := leaf_bool Try.underlying35 hf 7 _ rfl hb Try.underlying4
  obtain ⟨n8, e8, -⟩ := leaf_int (ti := 0) Try.underlying35 hf 8 _ rfl hi .i64 Try.underlying3
  obtain ⟨n9, e9, -⟩ := leaf_string Try.underlying35 hf 9 _ rfl hs Try.underlying9
  obtain ⟨n10, e10⟩ := leaf_bool Try.underlying35 hf 10 _ rfl hb Try.underlying4
  obtain ⟨n11, e11, -⟩ := leaf_string Try.underlying35 hf 11 _ rfl hs Try.underlying9
  obtain ⟨n12, e12⟩ := leaf_bool Try.underlying35 hf 12 _ rfl hb Try.underlying4
  obtain ⟨n13, e13, -⟩ := leaf_string Try.underlying35 hf 13 _ rfl hs Try.underlying9
  obtain ⟨n14, e14⟩ := leaf_bool Try.underlying35 hf 14 _ rfl hb Try.underlying4
  obtain ⟨fw, yw, hw⟩ := trod_field Try.underlying35 hf 15 _ rfl 5 (by kernel_rfl)
  obtain ⟨nw0, g0, -⟩ := leaf_string Try.underlying31 hw 0 _ rfl hs Try.underlying9
  obtain ⟨nw1, g1, -⟩ := leaf_string Try.underlying31 hw 1 _ rfl hs Try.underlying9
  obtain ⟨nw2, g2, -⟩ := leaf_int (ti := 0) Try.underlying31 hw 2 _ rfl hi .i64 Try.underlying3
  obtain ⟨nw3, g3⟩ := leaf_bool Try.underlying31 hw 3 _ rfl hb Try.underlying4
  have e15 := take_sub g0
  have e16 := take_sub g1
  have e17 := take_sub g2
  have e18 := take_sub g3
  obtain ⟨f4, y4, hw4⟩ := trod_field Try.underlying31 hw 4 _ rfl 1 (by kernel_rfl)
  obtain ⟨vw, lw, g4, rw4⟩ := open_pps hw4
  have e19 := take_sub (take_one g4)
  obtain ⟨n20, e20⟩ := leaf_bool Try.underlying35 hf 16 _ rfl hb Try.underlying4
  obtain ⟨n21, e21, -⟩ := leaf_int (ti := 0) Try.underlying35 hf 17 _ rfl hi .i64 Try.underlying3
  obtain ⟨f5, y5, h5⟩ := trod_field Try.underlying35 hf 18 _ rfl 1 (by kernel_rfl)
  obtain ⟨vc, lc, g5, rw5⟩ := open_ins h5
  have e22 := take_one g5
  obtain ⟨f6, y6, h6⟩ := trod_field Try.underlying35 hf 19 _ rfl 1 (by kernel_rfl)
  obtain ⟨vf, lf, g6, rw6⟩ := open_fts h6
  have e23 := take_one g6
  obtain ⟨f7, y7, h7⟩ := trod_field Try.underlying35 hf 20 _ rfl 1 (by kernel_rfl)
  obtain ⟨vp, lp, g7, rw7⟩ := open_pps h7
  have e24 := take_one g7
  refine ⟨⟨⟨n0, n3, n4, n8, n21, n1, n2, n7, n10, n12, n14, n20, n5, n6, n9, n11, n13⟩, ⟨nw0, nw1, nw2, nw3, lw⟩, lc, lf, lp⟩, vw, vc, vf, vp, ?_, ⟨rw4, rw5, rw6, rw7⟩⟩
  congr 1
  apply Array.toList_inj.1
  apply List.ext_getElem?
  intro i
  rcases Nat.lt_or_ge i 25 with hi | hi
  · match i, hi with
    | 0, _ => exact e0
    | 1, _ => exact e1
    | 2, _ => exact e2
    | 3, _ => exact e3
    | 4, _ => exact e4
    | 5, _ => exact e5
    | 6, _ => exact e6
    | 7, _ => exact e7
    | 8, _ => exact e8
    | 9, _ => exact e9
    | 10, _ => exact e10
    | 11, _ => exact e11
    | 12, _ => exact e12
    | 13, _ => exact e13
    | 14, _ => exact e14
    | 15, _ => exact e15
    | 16, _ => exact e16
    | 17, _ => exact e17
    | 18, _ => exact e18
    | 19, _ => exact e19
    | 20, _ => exact e20
    | 21, _ => exact e21
    | 22, _ => exact e22
    | 23, _ => exact e23
    | 24, _ => exact e24
    | n + 25, h => exact absurd h (by omega)
  · rw [List.getElem?_eq_none (by simp; omega), List.getElem?_eq_none (by simp [pkCs]; omega)]
end Go.Proofs.Ytjkmfdkhfjhegaa
