/- A hop as an argument; a datagram's hops: no more than there is room for. -/
import Derived.Test.YtbacnaplpfmpnaaGreatDoorOpenD
import Derived.Test.YtbacnaplpfmpnaaGreatDoorWrP
namespace Go.Proofs.YtbacnaplpfmpnaaGreatDoor
open Go Go.RowKit Go.ChangeShapes Go.WideShapes Go.Deep
set_option linter.unusedVariables false

set_option maxRecDepth 100000 in
theorem open_hop {H : Type} {enc : TypeId × Value → H} {w : World} {r : Reach} {b0 base : Nat} {spare : Nat → Bool} {held : Bool} {v : Value} {d : DataW H} {p : List MemPlace} (hv : Value.okWide Tryz.prog w r b0 49 v) (h : DataW.Trod enc Tryz.prog w base spare held 49 v d p) :
    ∃ x : Hp, v = .agg #[.int .i64 x.rad, .string ⟨x.node.toArray⟩] := by
  obtain ⟨cs, rfl, hsz⟩ := okWide_struct Tryz.underlying49 hv
  obtain ⟨fuel, hf⟩ := h
  have hc : Tryz.prog.cellsOf 49 = 2 := by kernel_rfl
  rw [hc] at hsz
  have hi : Tryz.prog.cellsOf 3 = 1 := by kernel_rfl
  have hs : Tryz.prog.cellsOf 9 = 1 := by kernel_rfl
  obtain ⟨n0, e0, _⟩ := leaf_int (ti := 0) Tryz.underlying49 hf 0 _ rfl hi .i64 Tryz.underlying3
  obtain ⟨s1, e1, _⟩ := leaf_string Tryz.underlying49 hf 1 _ rfl hs Tryz.underlying9
  obtain ⟨l⟩ := cs
  match l, hsz with
  | [c0, c1], _ =>
    simp [Value.cells] at e0 e1
    subst e0 e1
    exact ⟨⟨n0, s1⟩, rfl⟩
set_option maxRecDepth 100000 in
theorem open_cap {H : Type} {enc : TypeId × Value → H} {w : World} {base : Nat} {spare : Nat → Bool} {held : Bool} {x : Value} {m : Ms} {d : DataW H} {p : List MemPlace} (h : DataW.Trod enc Tryz.prog w base spare held 45 (.agg (dgCs x m)) d p) : CapOk x := by
  obtain ⟨fuel, hf⟩ := h
  obtain ⟨n0, y0, t0⟩ := trod_field Tryz.underlying45 hf 0 _ rfl 1 (by kernel_rfl)
  rcases open_slice_fields Tryz.underlying42 Tryz.underlying49 (by kernel_rfl) (by kernel_rfl) t0 with h0 | ⟨a, len, cap, h0, hl, -, -⟩
  · have e : x = .slice none 0 0 := by simpa [Value.cells, dgCs] using h0
    exact ⟨_, _, _, e, Nat.le_refl _⟩
  · have e : x = .slice (some a) len cap := by simpa [Value.cells, dgCs] using h0
    exact ⟨_, _, _, e, hl⟩
end Go.Proofs.YtbacnaplpfmpnaaGreatDoor
