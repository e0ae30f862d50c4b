/- Map literals with integer keys: their entries one after the other, and what is found. -/
import Derived.MapKept
import Derived.WideMake
namespace Go.Proofs.YtlfgkdiehmoohaaGreatDoor
open Go Go.MapKept
set_option linter.unusedVariables false

def entsF : Nat → List (Int × Value) → List MapEntry
  | _, [] => []
  | n, (k, v) :: r => { key := .int .i64 k, val := v, born := n } :: entsF (n + 1) r
/-- A map's block by its entries, as they came. -/
def mapO (l : List (Int × Value)) : Obj := .map (entsF 0 l).toArray l.length
theorem entsF_append (l m : List (Int × Value)) (n : Nat) : entsF n (l ++ m) = entsF n l ++ entsF (n + l.length) m := by
  induction l generalizing n with
  | nil => simp [entsF]
  | cons x r ih =>
    obtain ⟨k, v⟩ := x
    simp only [List.cons_append, entsF, ih, List.length_cons]
    rw [show n + (r.length + 1) = n + 1 + r.length by omega]
def getF : Nat → List (Int × Value) → Int → Option (Nat × Value)
  | _, [], _ => none
  | i, (a, v) :: r, k => if k = a then some (i, v) else getF (i + 1) r k
theorem findNow_ents (l : List (Int × Value)) (n i : Nat) (k : Int) : Instr.findNow (.int .i64) (.int .i64 k) (entsF n l) i = some (getF i l k) := by
  induction l generalizing n i with
  | nil => rfl
  | cons x r ih =>
    obtain ⟨a, v⟩ := x
    by_cases h : k = a
    · subst h; simp [entsF, getF, Instr.findNow, Instr.sameNow]
    · have hb : (k == a) = false := by simpa using h
      simp [entsF, getF, Instr.findNow, Instr.sameNow, h, hb, ih]
theorem set_push (A : Array Obj) (x y : Obj) : (A.push x).setIfInBounds A.size y = A.push y := by
  apply Array.ext
  · simp
  · intro i h1 h2
    by_cases h : i = A.size
    · subst h; simp
    · have h3 : i < A.size := by simp at h2; omega
      rw [Array.getElem_setIfInBounds_ne (by simpa using h1) (by omega), Array.getElem_push_lt h3, Array.getElem_push_lt h3]
theorem run_insertI {P : Program} {w : World} {T kt et : TypeId} {l : List (Int × Value)} {k : Int} {v : Value} (hT : P.underlying T = some (.map kt et)) (hk : P.underlying kt = some (.int .i64)) (hn : getF 0 l k = none) :
    (Instr.mapUpdate T (.map (some w.heap.size)) (.int .i64 k) v).run P (w.alloc (mapO l)) = .ok () (w.alloc (mapO (l ++ [(k, v)]))) := by
  have hb : (w.alloc (mapO l)).heap[w.heap.size]? = some (.map (entsF 0 l).toArray l.length) := (heap_alloc w _).1
  have hc := run_checkKey (P := P) (w := w.alloc (mapO l)) (k := .int .i64 k) hk (by simp [IsKey]) false 9999
  have hf := run_findKey (P := P) (w := w.alloc (mapO l)) hk (findNow_ents l 0 0 k)
  rw [hn] at hf
  have hs := MapKept.run_setObj_map (P := P) (.map ((entsF 0 l).toArray.push { key := .int .i64 k, val := v, born := l.length }) (l.length + 1)) hb
  have he : ({ (w.alloc (mapO l)) with heap := (w.alloc (mapO l)).heap.setIfInBounds w.heap.size (.map ((entsF 0 l).toArray.push { key := .int .i64 k, val := v, born := l.length }) (l.length + 1)) } : World) = w.alloc (mapO (l ++ [(k, v)])) := by
    have e1 : (.map ((entsF 0 l).toArray.push { key := .int .i64 k, val := v, born := l.length }) (l.length + 1) : Obj) = mapO (l ++ [(k, v)]) := by
      unfold mapO
      rw [entsF_append, Nat.zero_add, List.length_append]
      simp [entsF]
    rw [e1]
    show ({ w with heap := (w.heap.push (mapO l)).setIfInBounds w.heap.size (mapO (l ++ [(k, v)])) } : World) = { w with heap := w.heap.push (mapO (l ++ [(k, v)])) }
    rw [set_push]
  rw [he, List.push_toArray] at hs
  simp [Instr.mapUpdate, run_underlying hT, MapKept.run_getObj_map hb, hc, hf, hs, Result.andThen]
/-- A map's block with the first entries of a literal. -/
def mapN (L : List (Int × Value)) (i : Nat) : Obj := mapO (L.take i)
theorem mapN_all (L : List (Int × Value)) : mapN L L.length = mapO L := by unfold mapN; rw [List.take_length]
/-- The i-th entry of a literal is put behind those ahead of it. -/
theorem run_insL {P : Program} {w : World} {T kt et : TypeId} (L : List (Int × Value)) (i j : Nat) (hj : j = i + 1) (k : Int) (v : Value) (hL : L[i]? = some (k, v)) (hn : getF 0 (L.take i) k = none) (hT : P.underlying T = some (.map kt et)) (hk : P.underlying kt = some (.int .i64)) :
    (Instr.mapUpdate T (.map (some w.heap.size)) (.int .i64 k) v).run P (w.alloc (mapN L i)) = .ok () (w.alloc (mapN L j)) := by
  subst hj
  unfold mapN
  rw [run_insertI hT hk hn, List.take_add_one, hL]
  rfl
theorem run_lookupI {P : Program} {w : World} {T kt et : TypeId} {b i : Nat} {l : List (Int × Value)} {k : Int} {v : Value} (hT : P.underlying T = some (.map kt et)) (hk : P.underlying kt = some (.int .i64)) (hb : w.heap[b]? = some (mapO l)) (hg : getF 0 l k = some (i, v)) :
    (Instr.lookup T (.map (some b)) (.int .i64 k) false).run P w = .ok v w := by
  replace hb : w.heap[b]? = some (.map (entsF 0 l).toArray l.length) := hb
  have hc := fun e => run_checkKey (P := P) (w := w) (k := .int .i64 k) hk (by simp [IsKey]) e 9999
  have hf := run_findKey (P := P) (w := w) hk (findNow_ents l 0 0 k)
  rw [hg] at hf
  simp [Instr.lookup, run_underlying hT, MapKept.run_getObj_map hb, hc, hf, Result.andThen]
theorem run_lookupI_ok {P : Program} {w : World} {T kt et : TypeId} {b i : Nat} {l : List (Int × Value)} {k : Int} {v : Value} (hT : P.underlying T = some (.map kt et)) (hk : P.underlying kt = some (.int .i64)) (hb : w.heap[b]? = some (mapO l)) (hg : getF 0 l k = some (i, v)) :
    (Instr.lookup T (.map (some b)) (.int .i64 k) true).run P w = .ok (.tuple #[v, .bool true]) w := by
  replace hb : w.heap[b]? = some (.map (entsF 0 l).toArray l.length) := hb
  have hc := fun e => run_checkKey (P := P) (w := w) (k := .int .i64 k) hk (by simp [IsKey]) e 9999
  have hf := run_findKey (P := P) (w := w) hk (findNow_ents l 0 0 k)
  rw [hg] at hf
  simp [Instr.lookup, run_underlying hT, MapKept.run_getObj_map hb, hc, hf, Result.andThen]
end Go.Proofs.YtlfgkdiehmoohaaGreatDoor
