/- Limits as an argument, opened. -/
import Derived.Test.YtlfgkdiehmoohaaGreatDoorOpenF
import Derived.WalkKit
import Derived.Deep.Slices
import Derived.Deep.Fields
import Derived.ChangeSame
namespace Go.Proofs.YtlfgkdiehmoohaaGreatDoor
open Go Go.RowKit Go.ChangeShapes Go.WideShapes Go.Deep
set_option linter.unusedVariables false
set_option maxRecDepth 100000 in
theorem open_limits {H : Type} {enc : TypeId × Value → H} {w : World} {r : Reach} {b0 base : Nat} {spare : Nat → Bool} {held : Bool} {v : Value} {d : DataW H} {p : List MemPlace} (hv : Value.okWide Tryz.prog w r b0 23 v) (h : DataW.Trod enc Tryz.prog w base spare held 23 v d p) :
    ∃ mp md : Int, v = .agg #[.int .i64 mp, .int .i64 md] := by
  obtain ⟨cs, rfl, hsz⟩ := okWide_struct Tryz.underlying23 hv
  obtain ⟨fuel, hf⟩ := h
  have hc : Tryz.prog.cellsOf 23 = 2 := by kernel_rfl
  rw [hc] at hsz
  have hi : Tryz.prog.cellsOf 3 = 1 := by kernel_rfl
  obtain ⟨n0, e0, _⟩ := leaf_int (ti := 0) Tryz.underlying23 hf 0 _ rfl hi .i64 Tryz.underlying3
  obtain ⟨n1, e1, _⟩ := leaf_int (ti := 0) Tryz.underlying23 hf 1 _ rfl hi .i64 Tryz.underlying3
  obtain ⟨l⟩ := cs
  match l, hsz with
  | [c0, c1], _ =>
    simp [Value.cells] at e0 e1
    subst e0 e1
    exact ⟨n0, n1, rfl⟩
end Go.Proofs.YtlfgkdiehmoohaaGreatDoor
