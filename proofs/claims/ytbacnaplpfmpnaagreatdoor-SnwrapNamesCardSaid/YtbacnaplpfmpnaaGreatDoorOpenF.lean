/- A struct argument opened: each field's cell is of its type. -/
import Derived.Test.YtbacnaplpfmpnaaGreatDoorBase
import Derived.Test.YtbacnaplpfmpnaaGreatDoorChecked
import Derived.Deep.Slices
import Derived.ChangeSame
import Derived.ProofKit
import Derived.OpenShut
namespace Go.Proofs.YtbacnaplpfmpnaaGreatDoor
open Go.RowKit Go.ChangeShapes Go.WideShapes
set_option linter.unusedVariables false

section
variable {H : Type} {enc : TypeId × Value → H} {P : Program} {w : World} {base : Nat} {spare : Nat → Bool} {held : Bool}
theorem trod_field {t : TypeId} {fs : Array Field} {fuel : Nat} {cs : List Value} {x : DataW H × List MemPlace} (ht : P.underlying t = some (.struct fs)) (h : DataW.trod enc P w base spare held fuel t cs = some x)
    (i : Nat) (f : Field) (hi : fs[i]? = some f) (k : Nat) (hk : P.cellsOf f.type = k) : ∃ n y, DataW.trod enc P w base spare held n f.type ((cs.drop f.offset).take k) = some y := by
  obtain ⟨xs, n, _, _, _, hlen, hf⟩ := DataW.trod_struct ht h
  have h1 := hf i f hi
  have hlt : i < fs.size := (Array.getElem?_eq_some_iff.1 hi).1
  rw [hk, List.getElem?_eq_getElem (by omega)] at h1
  exact ⟨n, _, h1⟩
theorem take_one {cs : List Value} {o : Nat} {v : Value} (h : (cs.drop o).take 1 = [v]) : cs[o]? = some v := by
  have : ((cs.drop o).take 1)[0]? = some v := by rw [h]; rfl
  rw [List.getElem?_take_of_lt (by omega), List.getElem?_drop] at this
  simpa using this
theorem leaf_int {t ti : TypeId} {fs : Array Field} {fuel : Nat} {cs : List Value} {x : DataW H × List MemPlace} (ht : P.underlying t = some (.struct fs)) (h : DataW.trod enc P w base spare held fuel t cs = some x)
    (i : Nat) (f : Field) (hi : fs[i]? = some f) (hk : P.cellsOf f.type = 1) (k : IntKind) (hu : P.underlying f.type = some (.int k)) : ∃ n, cs[f.offset]? = some (.int k n) ∧ (Lit.int k n).wf = true := by
  obtain ⟨n, y, h1⟩ := trod_field ht h i f hi 1 hk
  obtain ⟨z, h2, _, h3⟩ := DataW.trod_int hu h1
  exact ⟨z, take_one h2, h3⟩
theorem leaf_bool {t : TypeId} {fs : Array Field} {fuel : Nat} {cs : List Value} {x : DataW H × List MemPlace} (ht : P.underlying t = some (.struct fs)) (h : DataW.trod enc P w base spare held fuel t cs = some x)
    (i : Nat) (f : Field) (hi : fs[i]? = some f) (hk : P.cellsOf f.type = 1) (hu : P.underlying f.type = some .bool) : ∃ b, cs[f.offset]? = some (.bool b) := by
  obtain ⟨n, y, h1⟩ := trod_field ht h i f hi 1 hk
  obtain ⟨z, h2, _⟩ := DataW.trod_bool hu h1
  exact ⟨z, take_one h2⟩
theorem leaf_string {t : TypeId} {fs : Array Field} {fuel : Nat} {cs : List Value} {x : DataW H × List MemPlace} (ht : P.underlying t = some (.struct fs)) (h : DataW.trod enc P w base spare held fuel t cs = some x)
    (i : Nat) (f : Field) (hi : fs[i]? = some f) (hk : P.cellsOf f.type = 1) (hu : P.underlying f.type = some .string) : ∃ l : List UInt8, cs[f.offset]? = some (.string ⟨l.toArray⟩) ∧ l.length ≤ maxLen := by
  obtain ⟨n, y, h1⟩ := trod_field ht h i f hi 1 hk
  obtain ⟨⟨⟨z⟩⟩, h2, _, h3⟩ := DataW.trod_string hu h1
  exact ⟨z, take_one h2, h3⟩
end
end Go.Proofs.YtbacnaplpfmpnaaGreatDoor
