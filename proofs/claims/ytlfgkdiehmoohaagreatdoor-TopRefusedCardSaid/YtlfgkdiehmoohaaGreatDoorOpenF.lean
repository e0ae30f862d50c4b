/- A struct argument opened: each field's cell is of its type. -/
import Derived.Test.YtlfgkdiehmoohaaGreatDoorBase
import Derived.Test.YtlfgkdiehmoohaaGreatDoorChecked
import Derived.Deep.Slices
import Derived.ChangeSame
import Derived.ProofKit
import Derived.OpenShut
namespace Go.Proofs.YtlfgkdiehmoohaaGreatDoor
open Go.RowKit Go.ChangeShapes Go.WideShapes
set_option linter.unusedVariables false

section
variable {H : Type} {enc : TypeId × Value → H} {P : Program} {w : World} {base : Nat} {spare : Nat → Bool} {held : Bool}
theorem trod_field {t : TypeId} {fs : Array Field} {fuel : Nat} {cs : List Value} {x : DataW H × List MemPlace} (ht : P.underlying t = some (.struct fs)) (h : DataW.trod enc P w base spare held fuel t cs = some x)
    (i : Nat) (f : Field) (hi : fs[i]? = some f) (k : Nat) (hk : P.cellsOf f.type = k) : ∃ n y, DataW.trod enc P w base spare held n f.type ((cs.drop f.offset).take k) = some y := by
  obtain ⟨xs, n, _, _, _, hlen, hf⟩ := DataW.trod_struct ht h
  have h1 := hf i f hi
  have hlt : i < fs.size := (Array.getElem?_eq_some_iff.1 hi).1
  rw [hk, List.getElem?_eq_getElem (by omega)] at h1
  exact ⟨n, _, h1⟩
theorem take_one {cs : List Value} {o : Nat} {v : Value} (h : (cs.drop o).take 1 = [v]) : cs[o]? = some v := by
  have : ((cs.drop o).take 1)[0]? = some v := by rw [h]; rfl
  rw [List.getElem?_take_of_lt (by omega), List.getElem?_drop] at this
  simpa using this
theorem leaf_int {t ti : TypeId} {fs : Array Field} {fuel : Nat} {cs : List Value} {x : DataW H × List MemPlace} (ht : P.underlying t = some (.struct fs)) (h : DataW.trod enc P w base spare held fuel t cs = some x)
    (i : Nat) (f : Field) (hi : fs[i]? = some f) (hk : P.cellsOf f.type = 1) (k : IntKind) (hu : P.underlying f.type = some (.int k)) : ∃ n, cs[f.offset]? = some (.int k n) ∧ (Lit.int k n).wf = true := by
  obtain ⟨n, y, h1⟩ := trod_field ht h i f hi 1 hk
  obtain ⟨z, h2, _, h3⟩ := DataW.trod_int hu h1
  exact ⟨z, take_one h2, h3⟩
theorem leaf_bool {t : TypeId} {fs : Array Field} {fuel : Nat} {cs : List Value} {x : DataW H × List MemPlace} (ht : P.underlying t = some (.struct fs)) (h : DataW.trod enc P w base spare held fuel t cs = some x)
    (i : Nat) (f : Field) (hi : fs[i]? = some f) (hk : P.cellsOf f.type = 1) (hu : P.underlying f.type = some .bool) : ∃ b, cs[f.offset]? = some (.bool b) := by
  obtain ⟨n, y, h1⟩ := trod_field ht h i f hi 1 hk
  obtain ⟨z, h2, _⟩ := DataW.trod_bool hu h1
  exact ⟨z, take_one h2⟩
theorem leaf_string {t : TypeId} {fs : Array Field} {fuel : Nat} {cs : List Value} {x : DataW H × List MemPlace} (ht : P.underlying t = some (.struct fs)) (h : DataW.trod enc P w base spare held fuel t cs = some x)
    (i : Nat) (f : Field) (hi : fs[i]? = some f) (hk : P.cellsOf f.type = 1) (hu : P.underlying f.type = some .string) : ∃ l : List UInt8, cs[f.offset]? = some (.string ⟨l.toArray⟩) ∧ l.length ≤ maxLen := by
  obtain ⟨n, y, h1⟩ := trod_field ht h i f hi 1 hk
  obtain ⟨⟨⟨z⟩⟩, h2, _, h3⟩ := DataW.trod_string hu h1
  exact ⟨z, take_one h2, h3⟩
end
theorem six_of {cs : Array Value} (h : cs.size = 6) {v0 v1 v2 v3 v4 v5 : Value} (h0 : cs.toList[0]? = some v0) (h1 : cs.toList[1]? = some v1) (h2 : cs.toList[2]? = some v2) (h3 : cs.toList[3]? = some v3) (h4 : cs.toList[4]? = some v4) (h5 : cs.toList[5]? = some v5) :
    cs = #[v0, v1, v2, v3, v4, v5] := by
  obtain ⟨l⟩ := cs
  match l, h with
  | [c0, c1, c2, c3, c4, c5], _ =>
    simp at h0 h1 h2 h3 h4 h5
    subst h0 h1 h2 h3 h4 h5
    rfl
set_option maxRecDepth 100000 in
/-- An argument of type api.Flags. -/
theorem open_flags {H : Type} {enc : TypeId × Value → H} {w : World} {r : Reach} {b0 base : Nat} {spare : Nat → Bool} {held : Bool} {v : Value} {d : DataW H} {p : List MemPlace} (hv : Value.okWide Tryz.prog w r b0 57 v) (h : DataW.Trod enc Tryz.prog w base spare held 57 v d p) :
    ∃ (dup : Bool) (q : Int) (retain will clean : Bool) (t : Int), v = .agg #[.bool dup, .int .i64 q, .bool retain, .bool will, .bool clean, .int .i64 t] ∧ (Lit.int .i64 q).wf = true ∧ (Lit.int .i64 t).wf = true := by
  obtain ⟨cs, rfl, hsz⟩ := okWide_struct Tryz.underlying57 hv
  obtain ⟨fuel, hf⟩ := h
  have hc : Tryz.prog.cellsOf 57 = 6 := by kernel_rfl
  rw [hc] at hsz
  have hb : Tryz.prog.cellsOf 4 = 1 := by kernel_rfl
  have hi : Tryz.prog.cellsOf 3 = 1 := by kernel_rfl
  obtain ⟨b0, e0⟩ := leaf_bool Tryz.underlying57 hf 0 _ rfl hb Tryz.underlying4
  obtain ⟨n1, e1, w1⟩ := leaf_int (ti := 0) Tryz.underlying57 hf 1 _ rfl hi .i64 Tryz.underlying3
  obtain ⟨b2, e2⟩ := leaf_bool Tryz.underlying57 hf 2 _ rfl hb Tryz.underlying4
  obtain ⟨b3, e3⟩ := leaf_bool Tryz.underlying57 hf 3 _ rfl hb Tryz.underlying4
  obtain ⟨b4, e4⟩ := leaf_bool Tryz.underlying57 hf 4 _ rfl hb Tryz.underlying4
  obtain ⟨n5, e5, w5⟩ := leaf_int (ti := 0) Tryz.underlying57 hf 5 _ rfl hi .i64 Tryz.underlying3
  exact ⟨b0, n1, b2, b3, b4, n5, by rw [six_of hsz e0 e1 e2 e3 e4 e5], w1, w5⟩
end Go.Proofs.YtlfgkdiehmoohaaGreatDoor
