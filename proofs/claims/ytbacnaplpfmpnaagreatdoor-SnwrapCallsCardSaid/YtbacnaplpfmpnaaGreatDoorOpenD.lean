/- A datagram as an argument, opened: its hops lie in memory. -/
import Derived.Test.YtbacnaplpfmpnaaGreatDoorOpenM
import Derived.Test.YtbacnaplpfmpnaaGreatDoorWrH
import Derived.Deep.Slices
import Derived.Deep.Fields
import Derived.ChangeSame
namespace Go.Proofs.YtbacnaplpfmpnaaGreatDoor
open Go Go.RowKit Go.ChangeShapes Go.WideShapes Go.Deep
set_option linter.unusedVariables false

section
variable {H : Type} {enc : TypeId × Value → H} {P : Program} {w : World} {base : Nat} {spare : Nat → Bool} {held : Bool}
theorem open_slice_fields {t e : TypeId} {fs : Array Field} {fuel : Nat} {cs : List Value} {x : DataW H × List MemPlace} (ht : P.underlying t = some (.slice e)) (he : P.underlying e = some (.struct fs))
    (hone : oneCellFields P fs = true) (hC : P.cellsOf e = fs.size) (h : DataW.trod enc P w base spare held fuel t cs = some x) :
    (cs = [.slice none 0 0]) ∨
    ∃ (a : Addr) (len cap : Nat), cs = [.slice (some a) len cap] ∧ len ≤ cap ∧ cap ≤ maxLen ∧
      ∀ i, i < len → ∃ (ys : List (DataW H × List MemPlace)) (n : Nat), ys.length = fs.size ∧
        ∀ (j : Nat) (f : Field), fs[j]? = some f → ∃ (v : Value) (y : DataW H × List MemPlace), w.cell? (a.add (i * fs.size + j)) = some v ∧ ys[j]? = some y ∧ DataW.trod enc P w base spare held n f.type [v] = some y := by
  rcases open_slice ht h with h0 | ⟨a, len, cap, m, n, D, Pl, hcs, hb, hl, hm, hmm, hx, hi⟩
  · exact .inl h0.1
  · refine .inr ⟨a, len, cap, hcs, hl, hm, fun i him => ?_⟩
    obtain ⟨cs', hc, ht'⟩ := hi i (by rw [hmm]; split <;> omega)
    rw [hC] at hc
    obtain ⟨ys, n', hn', hy, hlen, hyl, hf⟩ := DataW.trod_struct he ht'
    obtain ⟨_, hcl, hat⟩ := World.cells?_some hc
    refine ⟨ys, n', hyl, fun j f hj => ?_⟩
    obtain ⟨ho, hk⟩ := hone_of hone j f hj
    have hjl : j < fs.size := (Array.getElem?_eq_some_iff.1 hj).1
    have hcell := hat j hjl
    have hv : cs'[j]? = some (cs'[j]'(by omega)) := List.getElem?_eq_getElem (by omega)
    have h1 := hf j f hj
    rw [ho, hk] at h1
    have hone' : (cs'.drop j).take 1 = [cs'[j]'(by omega)] := by
      rw [List.drop_eq_getElem_cons (by omega)]
      rfl
    rw [hone'] at h1
    have hys : ys[j]? = some (ys[j]'(by omega)) := List.getElem?_eq_getElem (by omega)
    refine ⟨_, _, ?_, hys, h1.trans hys⟩
    rw [← Go.Deep.add_add, hcell, hv]
end
theorem cell_block {w : World} {b o : Nat} {v : Value} (h : w.cell? ⟨b, o, none⟩ = some v) : b < w.heap.size := by
  rcases Nat.lt_or_ge b w.heap.size with h1 | h1
  · exact h1
  · unfold World.cell? at h
    simp [Array.getElem?_eq_none h1] at h
theorem hops_built {w : World} {b off : Nat} : ∀ n : Nat, (∀ i, i < n → ∃ h : Hp, h.node.length ≤ maxLen ∧ w.cell? ⟨b, off + i * 2, none⟩ = some (.int .i64 h.rad) ∧ w.cell? ⟨b, off + i * 2 + 1, none⟩ = some (.string ⟨h.node.toArray⟩)) →
    ∃ hs : List Hp, hs.length = n ∧ (∀ h ∈ hs, h.node.length ≤ maxLen) ∧ ∀ i (hi : i < hs.length), w.cell? ⟨b, off + i * 2, none⟩ = some (.int .i64 hs[i].rad) ∧ w.cell? ⟨b, off + i * 2 + 1, none⟩ = some (.string ⟨hs[i].node.toArray⟩)
  | 0, _ => ⟨[], rfl, by simp, by simp⟩
  | n + 1, h => by
    obtain ⟨hs, h1, h2, h3⟩ := hops_built n (fun i hi => h i (by omega))
    obtain ⟨x, x1, x2, x3⟩ := h n (by omega)
    refine ⟨hs ++ [x], by simp [h1], fun y hy => ?_, fun i hi => ?_⟩
    · rcases List.mem_append.1 hy with q | q
      · exact h2 y q
      · rw [List.mem_singleton.1 q]; exact x1
    · by_cases hin : i < hs.length
      · rw [List.getElem_append_left hin]; exact h3 i hin
      · obtain rfl : i = n := by simp at hi; omega
        rw [List.getElem_append_right (by omega)]
        simp only [h1, Nat.sub_self, List.getElem_singleton]
        exact ⟨x2, x3⟩
set_option maxRecDepth 100000 in
theorem open_hops_at {H : Type} {enc : TypeId × Value → H} {w : World} {base fuel : Nat} {spare : Nat → Bool} {held : Bool} {cs : List Value} {x : DataW H × List MemPlace} (hf : DataW.trod enc Tryz.prog w base spare held fuel 42 cs = some x) :
    ∃ v hs, cs = [v] ∧ HopsAt w v hs := by
  rcases open_slice_fields Tryz.underlying42 Tryz.underlying49 (by kernel_rfl) (by kernel_rfl) hf with rfl | ⟨a, len, cap, rfl, hl, hm, hi⟩
  · exact ⟨_, [], rfl, hopsat_nil w⟩
  · refine ⟨.slice (some a) len cap, ?_⟩
    by_cases h0 : len = 0
    · subst h0
      exact ⟨[], rfl, ⟨some a, cap, rfl, by simp, by simp, .inl rfl⟩⟩
    · have each : ∀ i, i < len → ∃ h : Hp, h.node.length ≤ maxLen ∧ w.cell? (a.add (i * 2)) = some (.int .i64 h.rad) ∧ w.cell? (a.add (i * 2 + 1)) = some (.string ⟨h.node.toArray⟩) := fun i him => by
        obtain ⟨ys, n, hyl, hf⟩ := hi i him
        obtain ⟨v0, y0, c0, -, t0⟩ := hf 0 _ rfl
        obtain ⟨v1, y1, c1, -, t1⟩ := hf 1 _ rfl
        obtain ⟨z, e0, -, -⟩ := DataW.trod_int Tryz.underlying3 t0
        obtain ⟨⟨⟨s⟩⟩, e1, -, e2⟩ := DataW.trod_string Tryz.underlying9 t1
        cases e0
        cases e1
        exact ⟨⟨z, s⟩, e2, c0, c1⟩
      obtain ⟨b, off, spot⟩ := a
      obtain ⟨x0, -, q0, -⟩ := each 0 (by omega)
      have hspot : spot = none := by simpa [Addr.add] using World.cell?_spot q0
      subst hspot
      have hb : b < w.heap.size := by
        rw [Addr.add_mid] at q0
        exact cell_block q0
      obtain ⟨hs, h1, h2, h3⟩ := hops_built (w := w) (b := b) (off := off) len (fun i him => by
        obtain ⟨h, p1, p2, p3⟩ := each i him
        rw [Addr.add_mid] at p2 p3
        exact ⟨h, p1, p2, by rw [Nat.add_assoc]; exact p3⟩)
      subst h1
      unfold maxLen at h2 hm
      exact ⟨hs, rfl, ⟨some ⟨b, off, none⟩, cap, rfl, fun h hh => by have := h2 h hh; omega, by omega, .inr ⟨b, off, rfl, hb, h3⟩⟩⟩
set_option maxRecDepth 100000 in
theorem open_dg {H : Type} {enc : TypeId × Value → H} {w : World} {r : Reach} {b0 base : Nat} {spare : Nat → Bool} {held : Bool} {v : Value} {d : DataW H} {p : List MemPlace} (hv : Value.okWide Tryz.prog w r b0 45 v) (h : DataW.Trod enc Tryz.prog w base spare held 45 v d p) :
    ∃ (x : Value) (hs : List Hp) (m : Ms), v = .agg (dgCs x m) ∧ HopsAt w x hs ∧ MsWf m := by
  obtain ⟨cs, rfl, hsz⟩ := okWide_struct Tryz.underlying45 hv
  obtain ⟨fuel, hf⟩ := h
  have hc : Tryz.prog.cellsOf 45 = 17 := by kernel_rfl
  rw [hc] at hsz
  obtain ⟨n0, y0, t0⟩ := trod_field Tryz.underlying45 hf 0 _ rfl 1 (by kernel_rfl)
  obtain ⟨n1, y1, t1⟩ := trod_field Tryz.underlying45 hf 1 _ rfl 16 (by kernel_rfl)
  obtain ⟨x, hs, e0, hh⟩ := open_hops_at t0
  obtain ⟨m, e1, hw⟩ := open_msg_at (by simp [Value.cells]; omega) t1
  refine ⟨x, hs, m, ?_, hh, hw⟩
  congr 1
  apply Array.toList_inj.1
  have hl : cs.toList.length = 17 := by simpa using hsz
  match hcs : cs.toList, hl with
  | c :: rest, hl' =>
    simp only [Value.cells] at e0 e1
    rw [hcs] at e0 e1
    have e2 : c = x := by simpa using e0
    have e3 : rest = m.cs.toList := by
      have : (rest.take 16) = m.cs.toList := by simpa using e1
      rw [← this, List.take_of_length_le (by simp at hl'; omega)]
    rw [e2, e3]
    rfl
set_option maxRecDepth 100000 in
theorem open_limits {H : Type} {enc : TypeId × Value → H} {w : World} {r : Reach} {b0 base : Nat} {spare : Nat → Bool} {held : Bool} {v : Value} {d : DataW H} {p : List MemPlace} (hv : Value.okWide Tryz.prog w r b0 56 v) (h : DataW.Trod enc Tryz.prog w base spare held 56 v d p) :
    ∃ mp md : Int, v = .agg #[.int .i64 mp, .int .i64 md] := by
  obtain ⟨cs, rfl, hsz⟩ := okWide_struct Tryz.underlying56 hv
  obtain ⟨fuel, hf⟩ := h
  have hc : Tryz.prog.cellsOf 56 = 2 := by kernel_rfl
  rw [hc] at hsz
  have hi : Tryz.prog.cellsOf 3 = 1 := by kernel_rfl
  obtain ⟨n0, e0, _⟩ := leaf_int (ti := 0) Tryz.underlying56 hf 0 _ rfl hi .i64 Tryz.underlying3
  obtain ⟨n1, e1, _⟩ := leaf_int (ti := 0) Tryz.underlying56 hf 1 _ rfl hi .i64 Tryz.underlying3
  obtain ⟨l⟩ := cs
  match l, hsz with
  | [c0, c1], _ =>
    simp [Value.cells] at e0 e1
    subst e0 e1
    exact ⟨n0, n1, rfl⟩
end Go.Proofs.YtbacnaplpfmpnaaGreatDoor
