/- A whole struct loaded in one step: kept from being laid open cell by cell. -/
import Derived.Test.YtbacnaplpfmpnaaDoorBase
import Derived.Deep.DrawnRows
import Derived.Deep.MidRow
namespace Go.Proofs.YtbacnaplpfmpnaaDoor
open Go.RowKit

/-- loadVar, kept whole. -/
def rowSem (t : TypeId) (a : Addr) : Sem Value := loadVar t a
theorem rowSem_run {P : Program} (w : World) (b : Nat) (ty t : TypeId) (cells : Array Value) (d : TypeDesc) (hb : Obj? w b cells t)
    (hu : P.underlying ty = some d) (hd : (match d with | .struct _ | .array _ _ => true | _ => false) = true) (hi : (P.info? ty).map (·.size) = some cells.size) :
    (rowSem ty ⟨b, 0, none⟩).run P w = .ok (.agg cells) w := run_loadVar_row w b t ty cells (0, 0) d hb hu hd hi
theorem rowSem_mid {P : Program} (w : World) (b o : Nat) (ty : TypeId) (cs : Array Value) (d : TypeDesc) (hc : ∀ j v, cs[j]? = some v → w.cell? ⟨b, o + j, none⟩ = some v)
    (hu : P.underlying ty = some d) (hd : (match d with | .struct _ | .array _ _ => true | _ => false) = true) (hi : (P.info? ty).map (·.size) = some cs.size) :
    (rowSem ty ⟨b, o, none⟩).run P w = .ok (.agg cs) w := by
  have := run_loadVar_mid (P := P) w b o ty cs.toList d (fun j v hv => hc j v (by simpa using hv)) hu (by cases d <;> first | rfl | exact hd) (by simpa using hi)
  simpa [rowSem] using this
/-- A row in the middle of a block. -/
theorem Obj?.mid {w : World} {b : Nat} {p cs q : Array Value} {t : TypeId} (h : Obj? w b (p ++ cs ++ q) t) (j : Nat) (v : Value) (hv : cs[j]? = some v) : w.cell? ⟨b, p.size + j, none⟩ = some v := by
  refine h.cell _ _ ?_
  have hj : j < cs.size := by
    rcases Nat.lt_or_ge j cs.size with h1 | h1
    · exact h1
    · rw [Array.getElem?_eq_none h1] at hv; cases hv
  rw [Array.getElem?_append_left (by simp; omega), Array.getElem?_append_right (by omega)]
  simpa using hv
/-- storeVar, kept whole. -/
def rowStore (t : TypeId) (a : Addr) (v : Value) : Sem Unit := storeVar t a v
theorem rowStore_run {P : Program} (w : World) (b : Nat) (ty t : TypeId) (old cells : Array Value) (hb : Obj? w b old t)
    (hi : (P.info? ty).map (·.size) = some cells.size) (ho : old.size = cells.size) (h1 : cells.all (·.oneCell') = true) :
    (rowStore ty ⟨b, 0, none⟩ (.agg cells)).run P w = .ok () (w.setRow b cells) := run_storeVar_row w b t ty old cells hb hi ho h1
theorem Obj?.setRow {w : World} {b : Nat} {cs : Array Value} {t : TypeId} (h : Obj? w b cs t) (C : Array Value) : Obj? (w.setRow b C) b C t := setRow_heap w b cs C t (0, 0) h
theorem Obj?.setRow_ne {w : World} {b g : Nat} {cs C : Array Value} {t : TypeId} (h : Obj? w b cs t) (hne : b ≠ g) : Obj? (w.setRow g C) b cs t := by
  unfold Obj? at *
  rw [setRow_other w g b C hne]; exact h
theorem below_row {B g : Nat} {w0 w : World} (hb : Below B w0 w) (hBg : B ≤ g) (C : Array Value) : Below B w0 (w.setRow g C) :=
  ⟨hb.os, hb.tape, hb.output, by rw [setRow_size]; exact hb.size, fun i hi => by rw [setRow_other w g i C (by omega)]; exact hb.block i hi⟩
end Go.Proofs.YtbacnaplpfmpnaaDoor
