/- Map literals with integer keys: their entries one after the other, and what is found. control.says and control.known of a PINGREQ; prop.rules; prop.Bytes and Valid of no properties. prop.Bytes and Valid of no properties; control.Valid, Tail, Body and Read of a PINGREQ. mqtt.chapters; the chapter of a PINGREQ. -/
import Derived.MapKept
import Derived.WideMake
import Derived.Test.YtanofjmkkhocaaaGreatDoorHeE
import Derived.LoopN
set_option linter.unusedVariables false
set_option linter.unusedSimpArgs false
set_option maxRecDepth 100000
set_option maxHeartbeats 3200000
namespace Go.Proofs.YtanofjmkkhocaaaGreatDoor
open Go Go.MapKept
def entsF : Nat → List (Int × Value) → List MapEntry
 | _, [] => []
 | n, (k, v) :: r => { key := .int .i64 k, val := v, born := n } :: entsF (n + 1) r
def mapO (l : List (Int × Value)) : Obj := .map (entsF 0 l).toArray l.length
theorem entsF_append (l m : List (Int × Value)) (n : Nat) : entsF n (l ++ m) = entsF n l ++ entsF (n + l.length) m := by
 induction l generalizing n with
 | nil => simp [entsF]
 | cons x r ih =>
  obtain ⟨k, v⟩ := x
  simp only [List.cons_append, entsF, ih, List.length_cons]
  rw [show n + (r.length + 1) = n + 1 + r.length by omega]
def getF : Nat → List (Int × Value) → Int → Option (Nat × Value)
 | _, [], _ => none
 | i, (a, v) :: r, k => if k = a then some (i, v) else getF (i + 1) r k
theorem findNow_ents (l : List (Int × Value)) (n i : Nat) (k : Int) : Instr.findNow (.int .i64) (.int .i64 k) (entsF n l) i = some (getF i l k) := by
 induction l generalizing n i with
 | nil => rfl
 | cons x r ih =>
  obtain ⟨a, v⟩ := x
  by_cases h : k = a
  ·subst h; simp [entsF, getF, Instr.findNow, Instr.sameNow]
  ·have hb : (k == a) = false := by simpa using h
   simp [entsF, getF, Instr.findNow, Instr.sameNow, h, hb, ih]
theorem set_push (A : Array Obj) (x y : Obj) : (A.push x).setIfInBounds A.size y = A.push y := by
 apply Array.ext
 ·simp
 ·intro i h1 h2
  by_cases h : i = A.size
  ·subst h; simp
  ·have h3 : i < A.size := by simp at h2; omega
   rw [Array.getElem_setIfInBounds_ne (by simpa using h1) (by omega), Array.getElem_push_lt h3, Array.getElem_push_lt h3]
theorem run_insertI {P : Program} {w : World} {T kt et : TypeId} {l : List (Int × Value)} {k : Int} {v : Value} (hT : P.underlying T = some (.map kt et)) (hk : P.underlying kt = some (.int .i64)) (hn : getF 0 l k = none) :
  (Instr.mapUpdate T (.map (some w.heap.size)) (.int .i64 k) v).run P (w.alloc (mapO l)) = .ok () (w.alloc (mapO (l ++ [(k, v)]))) := by
 have hb : (w.alloc (mapO l)).heap[w.heap.size]? = some (.map (entsF 0 l).toArray l.length) := (heap_alloc w _).1
 have hc := run_checkKey (P := P) (w := w.alloc (mapO l)) (k := .int .i64 k) hk (by simp [IsKey]) false 9999
 have hf := run_findKey (P := P) (w := w.alloc (mapO l)) hk (findNow_ents l 0 0 k)
 rw [hn] at hf
 have hs := MapKept.run_setObj_map (P := P) (.map ((entsF 0 l).toArray.push { key := .int .i64 k, val := v, born := l.length }) (l.length + 1)) hb
 have he : ({ (w.alloc (mapO l)) with heap := (w.alloc (mapO l)).heap.setIfInBounds w.heap.size (.map ((entsF 0 l).toArray.push { key := .int .i64 k, val := v, born := l.length }) (l.length + 1)) } : World) = w.alloc (mapO (l ++ [(k, v)])) := by
  have e1 : (.map ((entsF 0 l).toArray.push { key := .int .i64 k, val := v, born := l.length }) (l.length + 1) : Obj) = mapO (l ++ [(k, v)]) := by
   unfold mapO
   rw [entsF_append, Nat.zero_add, List.length_append]
   simp [entsF]
  rw [e1]
  show ({ w with heap := (w.heap.push (mapO l)).setIfInBounds w.heap.size (mapO (l ++ [(k, v)])) } : World) = { w with heap := w.heap.push (mapO (l ++ [(k, v)])) }
  rw [set_push]
 rw [he, List.push_toArray] at hs
 simp [Instr.mapUpdate, run_underlying hT, MapKept.run_getObj_map hb, hc, hf, hs, Result.andThen]
def mapN (L : List (Int × Value)) (i : Nat) : Obj := mapO (L.take i)
theorem run_insL {P : Program} {w : World} {T kt et : TypeId} (L : List (Int × Value)) (i j : Nat) (hj : j = i + 1) (k : Int) (v : Value) (hL : L[i]? = some (k, v)) (hn : getF 0 (L.take i) k = none) (hT : P.underlying T = some (.map kt et)) (hk : P.underlying kt = some (.int .i64)) :
  (Instr.mapUpdate T (.map (some w.heap.size)) (.int .i64 k) v).run P (w.alloc (mapN L i)) = .ok () (w.alloc (mapN L j)) := by
 subst hj
 unfold mapN
 rw [run_insertI hT hk hn, List.take_add_one, hL]
 rfl
theorem run_lookupI {P : Program} {w : World} {T kt et : TypeId} {b i : Nat} {l : List (Int × Value)} {k : Int} {v : Value} (hT : P.underlying T = some (.map kt et)) (hk : P.underlying kt = some (.int .i64)) (hb : w.heap[b]? = some (mapO l)) (hg : getF 0 l k = some (i, v)) :
  (Instr.lookup T (.map (some b)) (.int .i64 k) false).run P w = .ok v w := by
 replace hb : w.heap[b]? = some (.map (entsF 0 l).toArray l.length) := hb
 have hc := fun e => run_checkKey (P := P) (w := w) (k := .int .i64 k) hk (by simp [IsKey]) e 9999
 have hf := run_findKey (P := P) (w := w) hk (findNow_ents l 0 0 k)
 rw [hg] at hf
 simp [Instr.lookup, run_underlying hT, MapKept.run_getObj_map hb, hc, hf, Result.andThen]
theorem run_lookupI_ok {P : Program} {w : World} {T kt et : TypeId} {b i : Nat} {l : List (Int × Value)} {k : Int} {v : Value} (hT : P.underlying T = some (.map kt et)) (hk : P.underlying kt = some (.int .i64)) (hb : w.heap[b]? = some (mapO l)) (hg : getF 0 l k = some (i, v)) :
  (Instr.lookup T (.map (some b)) (.int .i64 k) true).run P w = .ok (.tuple #[v, .bool true]) w := by
 replace hb : w.heap[b]? = some (.map (entsF 0 l).toArray l.length) := hb
 have hc := fun e => run_checkKey (P := P) (w := w) (k := .int .i64 k) hk (by simp [IsKey]) e 9999
 have hf := run_findKey (P := P) (w := w) hk (findNow_ents l 0 0 k)
 rw [hg] at hf
 simp [Instr.lookup, run_underlying hT, MapKept.run_getObj_map hb, hc, hf, Result.andThen]
end Go.Proofs.YtanofjmkkhocaaaGreatDoor
namespace Go.Proofs.YtanofjmkkhocaaaGreatDoor
open Go Go.RowKit
theorem mkmap (T : TypeId) (w : World) (L : List (Int × Value)) : (Instr.makeMap T none).run Tryz.prog w = .ok (.map (some w.heap.size)) (w.alloc (mapN L 0)) := run_makeMap_plain w T
theorem mkfun : ∀ (fn : Fn) (first cap : Array Value) (w : World), (Instr.makeFunc fn first cap).run Tryz.prog w = .ok (.func fn first cap) w := fun _ _ _ _ => rfl
def rulesL : List (Int × Value) := [(1, .agg #[.int .i64 1, .int .i64 65544, .int .u32 0, .int .u32 1]), (2, .agg #[.int .i64 3, .int .i64 65544, .int .u32 0, .int .u32 4294967295]), (3, .agg #[.int .i64 5, .int .i64 65544, .int .u32 0, .int .u32 0]), (8, .agg #[.int .i64 5, .int .i64 65544, .int .u32 0, .int .u32 0]), (9, .agg #[.int .i64 6, .int .i64 65544, .int .u32 0, .int .u32 0]), (11, .agg #[.int .i64 4, .int .i64 264, .int .u32 1, .int .u32 268435455]), (17, .agg #[.int .i64 3, .int .i64 16390, .int .u32 0, .int .u32 4294967295]), (18, .agg #[.int .i64 5, .int .i64 4, .int .u32 0, .int .u32 0]), (19, .agg #[.int .i64 2, .int .i64 4, .int .u32 0, .int .u32 65535]), (21, .agg #[.int .i64 5, .int .i64 32774, .int .u32 0, .int .u32 0]), (22, .agg #[.int .i64 6, .int .i64 32774, .int .u32 0, .int .u32 0]), (23, .agg #[.int .i64 1, .int .i64 2, .int .u32 0, .int .u32 1]), (24, .agg #[.int .i64 3, .int .i64 65536, .int .u32 0, .int .u32 4294967295]), (25, .agg #[.int .i64 1, .int .i64 2, .int .u32 0, .int .u32 1]), (26, .agg #[.int .i64 5, .int .i64 4, .int .u32 0, .int .u32 0]), (28, .agg #[.int .i64 5, .int .i64 16388, .int .u32 0, .int .u32 0]), (31, .agg #[.int .i64 5, .int .i64 51956, .int .u32 0, .int .u32 0]), (33, .agg #[.int .i64 2, .int .i64 6, .int .u32 1, .int .u32 65535]), (34, .agg #[.int .i64 2, .int .i64 6, .int .u32 0, .int .u32 65535]), (35, .agg #[.int .i64 2, .int .i64 8, .int .u32 1, .int .u32 65535]), (36, .agg #[.int .i64 1, .int .i64 4, .int .u32 0, .int .u32 1]), (37, .agg #[.int .i64 1, .int .i64 4, .int .u32 0, .int .u32 1]), (38, .agg #[.int .i64 7, .int .i64 118782, .int .u32 0, .int .u32 0]), (39, .agg #[.int .i64 3, .int .i64 6, .int .u32 1, .int .u32 4294967295]), (40, .agg #[.int .i64 1, .int .i64 4, .int .u32 0, .int .u32 1]), (41, .agg #[.int .i64 1, .int .i64 4, .int .u32 0, .int .u32 1]), (42, .agg #[.int .i64 1, .int .i64 4, .int .u32 0, .int .u32 1])]
theorem rules_any (w : World) : Calls Tryz.prog 273 #[] w fun e w' => e = .returned (.map (some w.heap.size)) ∧ Below w.heap.size w w' := by
 have hmm := mkmap 355 w rulesL
 have hI0 := run_insL (P := Tryz.prog) (w := w) (T := 355) rulesL 0 1 rfl 1 (.agg #[.int .i64 1, .int .i64 65544, .int .u32 0, .int .u32 1]) rfl rfl Tryz.underlying355 Tryz.underlying3
 have hI1 := run_insL (P := Tryz.prog) (w := w) (T := 355) rulesL 1 2 rfl 2 (.agg #[.int .i64 3, .int .i64 65544, .int .u32 0, .int .u32 4294967295]) rfl rfl Tryz.underlying355 Tryz.underlying3
 have hI2 := run_insL (P := Tryz.prog) (w := w) (T := 355) rulesL 2 3 rfl 3 (.agg #[.int .i64 5, .int .i64 65544, .int .u32 0, .int .u32 0]) rfl rfl Tryz.underlying355 Tryz.underlying3
 have hI3 := run_insL (P := Tryz.prog) (w := w) (T := 355) rulesL 3 4 rfl 8 (.agg #[.int .i64 5, .int .i64 65544, .int .u32 0, .int .u32 0]) rfl rfl Tryz.underlying355 Tryz.underlying3
 have hI4 := run_insL (P := Tryz.prog) (w := w) (T := 355) rulesL 4 5 rfl 9 (.agg #[.int .i64 6, .int .i64 65544, .int .u32 0, .int .u32 0]) rfl rfl Tryz.underlying355 Tryz.underlying3
 have hI5 := run_insL (P := Tryz.prog) (w := w) (T := 355) rulesL 5 6 rfl 11 (.agg #[.int .i64 4, .int .i64 264, .int .u32 1, .int .u32 268435455]) rfl rfl Tryz.underlying355 Tryz.underlying3
 have hI6 := run_insL (P := Tryz.prog) (w := w) (T := 355) rulesL 6 7 rfl 17 (.agg #[.int .i64 3, .int .i64 16390, .int .u32 0, .int .u32 4294967295]) rfl rfl Tryz.underlying355 Tryz.underlying3
 have hI7 := run_insL (P := Tryz.prog) (w := w) (T := 355) rulesL 7 8 rfl 18 (.agg #[.int .i64 5, .int .i64 4, .int .u32 0, .int .u32 0]) rfl rfl Tryz.underlying355 Tryz.underlying3
 have hI8 := run_insL (P := Tryz.prog) (w := w) (T := 355) rulesL 8 9 rfl 19 (.agg #[.int .i64 2, .int .i64 4, .int .u32 0, .int .u32 65535]) rfl rfl Tryz.underlying355 Tryz.underlying3
 have hI9 := run_insL (P := Tryz.prog) (w := w) (T := 355) rulesL 9 10 rfl 21 (.agg #[.int .i64 5, .int .i64 32774, .int .u32 0, .int .u32 0]) rfl rfl Tryz.underlying355 Tryz.underlying3
 have hI10 := run_insL (P := Tryz.prog) (w := w) (T := 355) rulesL 10 11 rfl 22 (.agg #[.int .i64 6, .int .i64 32774, .int .u32 0, .int .u32 0]) rfl rfl Tryz.underlying355 Tryz.underlying3
 have hI11 := run_insL (P := Tryz.prog) (w := w) (T := 355) rulesL 11 12 rfl 23 (.agg #[.int .i64 1, .int .i64 2, .int .u32 0, .int .u32 1]) rfl rfl Tryz.underlying355 Tryz.underlying3
 have hI12 := run_insL (P := Tryz.prog) (w := w) (T := 355) rulesL 12 13 rfl 24 (.agg #[.int .i64 3, .int .i64 65536, .int .u32 0, .int .u32 4294967295]) rfl rfl Tryz.underlying355 Tryz.underlying3
 have hI13 := run_insL (P := Tryz.prog) (w := w) (T := 355) rulesL 13 14 rfl 25 (.agg #[.int .i64 1, .int .i64 2, .int .u32 0, .int .u32 1]) rfl rfl Tryz.underlying355 Tryz.underlying3
 have hI14 := run_insL (P := Tryz.prog) (w := w) (T := 355) rulesL 14 15 rfl 26 (.agg #[.int .i64 5, .int .i64 4, .int .u32 0, .int .u32 0]) rfl rfl Tryz.underlying355 Tryz.underlying3
 have hI15 := run_insL (P := Tryz.prog) (w := w) (T := 355) rulesL 15 16 rfl 28 (.agg #[.int .i64 5, .int .i64 16388, .int .u32 0, .int .u32 0]) rfl rfl Tryz.underlying355 Tryz.underlying3
 have hI16 := run_insL (P := Tryz.prog) (w := w) (T := 355) rulesL 16 17 rfl 31 (.agg #[.int .i64 5, .int .i64 51956, .int .u32 0, .int .u32 0]) rfl rfl Tryz.underlying355 Tryz.underlying3
 have hI17 := run_insL (P := Tryz.prog) (w := w) (T := 355) rulesL 17 18 rfl 33 (.agg #[.int .i64 2, .int .i64 6, .int .u32 1, .int .u32 65535]) rfl rfl Tryz.underlying355 Tryz.underlying3
 have hI18 := run_insL (P := Tryz.prog) (w := w) (T := 355) rulesL 18 19 rfl 34 (.agg #[.int .i64 2, .int .i64 6, .int .u32 0, .int .u32 65535]) rfl rfl Tryz.underlying355 Tryz.underlying3
 have hI19 := run_insL (P := Tryz.prog) (w := w) (T := 355) rulesL 19 20 rfl 35 (.agg #[.int .i64 2, .int .i64 8, .int .u32 1, .int .u32 65535]) rfl rfl Tryz.underlying355 Tryz.underlying3
 have hI20 := run_insL (P := Tryz.prog) (w := w) (T := 355) rulesL 20 21 rfl 36 (.agg #[.int .i64 1, .int .i64 4, .int .u32 0, .int .u32 1]) rfl rfl Tryz.underlying355 Tryz.underlying3
 have hI21 := run_insL (P := Tryz.prog) (w := w) (T := 355) rulesL 21 22 rfl 37 (.agg #[.int .i64 1, .int .i64 4, .int .u32 0, .int .u32 1]) rfl rfl Tryz.underlying355 Tryz.underlying3
 have hI22 := run_insL (P := Tryz.prog) (w := w) (T := 355) rulesL 22 23 rfl 38 (.agg #[.int .i64 7, .int .i64 118782, .int .u32 0, .int .u32 0]) rfl rfl Tryz.underlying355 Tryz.underlying3
 have hI23 := run_insL (P := Tryz.prog) (w := w) (T := 355) rulesL 23 24 rfl 39 (.agg #[.int .i64 3, .int .i64 6, .int .u32 1, .int .u32 4294967295]) rfl rfl Tryz.underlying355 Tryz.underlying3
 have hI24 := run_insL (P := Tryz.prog) (w := w) (T := 355) rulesL 24 25 rfl 40 (.agg #[.int .i64 1, .int .i64 4, .int .u32 0, .int .u32 1]) rfl rfl Tryz.underlying355 Tryz.underlying3
 have hI25 := run_insL (P := Tryz.prog) (w := w) (T := 355) rulesL 25 26 rfl 41 (.agg #[.int .i64 1, .int .i64 4, .int .u32 0, .int .u32 1]) rfl rfl Tryz.underlying355 Tryz.underlying3
 have hI26 := run_insL (P := Tryz.prog) (w := w) (T := 355) rulesL 26 27 rfl 42 (.agg #[.int .i64 1, .int .i64 4, .int .u32 0, .int .u32 1]) rfl rfl Tryz.underlying355 Tryz.underlying3
 have HB := Lib.hid (below_al (Below.refl _ w) (mapN rulesL 27))
 go_enter Tryz.func273, Tryz.ntmps273
 refine wp_hide fun Q1 hQ1 => ?_
 have HQ1 := Lib.hid hQ1
 clear hQ1
 go_upto_region 1 with fail
 (try dsimp only [List.append])
 go_wp2_with fail
 refine HQ1.out _ _ _ ?_
 go_ret
 exact ⟨rfl, HB.out⟩
def saysL : List (Int × Value) := [(12, .func (.func 287) #[.agg #[]] #[]), (13, .func (.func 287) #[.agg #[]] #[]), (14, .func (.func 288) #[.agg #[]] #[]), (15, .func (.func 288) #[.agg #[]] #[])]
theorem nothing_any (v : Int) (w : World) : Calls Tryz.prog 287 #[.agg #[], .int .i64 v] w fun e w' => e = .returned (.bool false) ∧ Below w.heap.size w w' := by
 go_enter Tryz.func287, Tryz.ntmps287
 go_wp2
 go_ret
 exact ⟨rfl, below_al (Below.refl _ _) _⟩
theorem says_12 (w : World) : Calls Tryz.prog 257 #[.int .i64 4, .int .i64 12] w fun e w' => e = .returned (.tuple #[.bool false, .bool true]) ∧ Below w.heap.size w w' := by
 have hmm := mkmap 372 (w.alloc (.cells #[] 371 (0, 0))) saysL
 have hmf := mkfun
 have hI0 := run_insL (P := Tryz.prog) (w := w.alloc (.cells #[] 371 (0, 0))) (T := 372) saysL 0 1 rfl 12 (.func (.func 287) #[.agg #[]] #[]) rfl rfl Tryz.underlying372 Tryz.underlying3
 have hI1 := run_insL (P := Tryz.prog) (w := w.alloc (.cells #[] 371 (0, 0))) (T := 372) saysL 1 2 rfl 13 (.func (.func 287) #[.agg #[]] #[]) rfl rfl Tryz.underlying372 Tryz.underlying3
 have hI2 := run_insL (P := Tryz.prog) (w := w.alloc (.cells #[] 371 (0, 0))) (T := 372) saysL 2 3 rfl 14 (.func (.func 288) #[.agg #[]] #[]) rfl rfl Tryz.underlying372 Tryz.underlying3
 have hI3 := run_insL (P := Tryz.prog) (w := w.alloc (.cells #[] 371 (0, 0))) (T := 372) saysL 3 4 rfl 15 (.func (.func 288) #[.agg #[]] #[]) rfl rfl Tryz.underlying372 Tryz.underlying3
 have hL := run_lookupI_ok (P := Tryz.prog) (w := (w.alloc (.cells #[] 371 (0, 0))).alloc (mapN saysL 4)) (T := 372) (b := (w.alloc (.cells #[] 371 (0, 0))).heap.size) (l := saysL) (k := 12) Tryz.underlying372 Tryz.underlying3 (MapKept.heap_alloc _ _).1 (i := 0) (v := .func (.func 287) #[.agg #[]] #[]) rfl
 have HB := Lib.hid (below_al (below_al (Below.refl _ w) (.cells #[] 371 (0, 0))) (mapN saysL 4))
 rw [World.size_alloc] at hmm hI0 hI1 hI2 hI3 hL
 go_enter Tryz.func257, Tryz.ntmps257
 go_wp2_with fail
 refine (nothing_any _ _).mono ?_
 rintro e w1 ⟨rfl, hb⟩
 have HB1 := Lib.hid (below_thenh HB.out hb)
 clear hb HB
 go_wp2_with fail
 go_ret2
 exact ⟨rfl, HB1.out⟩
theorem known_12 (w : World) : Calls Tryz.prog 256 #[.int .i64 4, .int .i64 12] w fun e w' => e = .returned (.int .i64 0) ∧ Below w.heap.size w w' := by
 go_enter Tryz.func256, Tryz.ntmps256
 go_wp2_with fail
 refine (says_12 _).mono ?_
 rintro e w1 ⟨rfl, hb⟩
 have HB1 := Lib.hid hb
 clear hb
 go_wp2_with fail
 go_ret
 exact ⟨rfl, HB1.out⟩
theorem lone_any {w : World} {b : Nat} (h : w.cell? ⟨b, 22, none⟩ = some (.int .i64 0)) : Calls Tryz.prog 277 #[.pointer (some ⟨b, 0, none⟩)] w fun e w' => e = .returned (.bool false) ∧ Below w.heap.size w w' := by
 go_enter Tryz.func277, Tryz.ntmps277
 go_wp2_with fail
 go_ret
 exact ⟨rfl, Below.refl _ _⟩
end Go.Proofs.YtanofjmkkhocaaaGreatDoor
namespace Go.Proofs.YtanofjmkkhocaaaGreatDoor
open Go Go.RowKit
theorem pbytes_none (k : Int) (w : World) : Calls Tryz.prog 244 #[.int .i64 k, .slice none 0 0] w fun e w' => e = .returned (.tuple #[.string ⟨[0].toArray⟩, .int .i64 0]) ∧ Below w.heap.size w w' := by
 have HV := Lib.hid (fun W => vbytes_any 0 (by decide) (by decide) W)
 rw [show vbytes 0 = [0] by decide] at HV
 go_enter Tryz.func244, Tryz.ntmps244
 refine wp_hide fun Q1 hQ1 => ?_
 have HQ1 := Lib.hid hQ1
 clear hQ1
 go_wp2_with fail
 refine (rules_any _).mono ?_
 rintro e w1 ⟨rfl, hb⟩
 have HB1 := Lib.hid hb
 clear hb
 go_wp2_with fail
 refine wp_loop_rounds 1 ?_
 rw [rounds_succ]
 go_wp2_with fail
 refine (lone_any ((Obj?.new _ _ _).cell 22 _ rfl)).mono ?_
 rintro e w2 ⟨rfl, hb⟩
 have HB2 := Lib.hid (HB1.out.trans (((below_al (Below.refl _ _) _).trans (hb.mono (by simp))).mono HB1.out.size))
 clear hb HB1
 go_wp2_with fail
 refine (HV.out _).mono ?_
 rintro e w3 ⟨rfl, hb⟩
 have HB3 := Lib.hid (below_thenh HB2.out hb)
 clear hb HB2
 have hcv := run_convert_bytes_nil (P := Tryz.prog) w3 133 5 Tryz.underlying133 Tryz.underlying5 0 0 9 Tryz.underlying9
 go_wp2_with fail
 refine HQ1.out _ _ _ ?_
 go_ret2
 exact ⟨rfl, HB3.out⟩
theorem pvalid_none (k : Int) (w : World) : Calls Tryz.prog 264 #[.int .i64 k, .slice none 0 0] w fun e w' => e = .returned (.int .i64 0) ∧ Below w.heap.size w w' := by
 go_enter Tryz.func264, Tryz.ntmps264
 go_wp2_with fail
 refine (pbytes_none k _).mono ?_
 rintro e w1 ⟨rfl, hb⟩
 go_wp2_with fail
 go_ret
 exact ⟨rfl, hb⟩
theorem tail_none (w : World) : Calls Tryz.prog 255 #[.int .i64 0, .slice none 0 0, .int .i64 12] w fun e w' => e = .returned (.string ⟨#[]⟩) ∧ Below w.heap.size w w' := by
 go_enter Tryz.func255, Tryz.ntmps255
 go_wp2_with fail
 refine (pbytes_none 12 _).mono ?_
 rintro e w1 ⟨rfl, hb⟩
 have HB1 := Lib.hid hb
 clear hb
 go_wp2_with fail
 refine (put_any _ _ _).mono ?_
 rintro e w2 ⟨rfl, hb⟩
 have HB2 := Lib.hid (below_thenh HB1.out hb)
 clear hb HB1
 go_wp2_with fail
 go_ret
 exact ⟨rfl, HB2.out⟩
def p12 : Pk := ⟨⟨12, 0, 0, 0, 0, false, false, false, false, false, false, false, [], [], [], [], []⟩, ⟨[], [], 0, false, []⟩, [], [], []⟩
def c12 : Array Value := #[.int .i64 12, .bool false, .bool false, .int .i64 0, .int .i64 0, .string ⟨#[]⟩, .string ⟨#[]⟩, .bool false, .int .i64 0, .string ⟨#[]⟩, .bool false, .string ⟨#[]⟩, .bool false, .string ⟨#[]⟩, .bool false, .string ⟨#[]⟩, .string ⟨#[]⟩, .int .i64 0, .bool false, .slice none 0 0, .bool false, .int .i64 0, .slice none 0 0, .slice none 0 0, .slice none 0 0]
theorem c12_pk : c12 = pkCs p12 (.slice none 0 0) (.slice none 0 0) (.slice none 0 0) (.slice none 0 0) := rfl
theorem p12_at (w : World) : PkAt w p12 (.slice none 0 0) (.slice none 0 0) (.slice none 0 0) (.slice none 0 0) := ⟨rowOf_nil _ _ _, rowOf_nil _ _ _, rowOf_nil _ _ _, rowOf_nil _ _ _⟩
theorem hsame_12 (w : World) : Calls Tryz.prog 272 #[.agg c12, .agg c12] w fun e w' => e = .returned (.bool true) ∧ Below w.heap.size w w' := by
 have := hsame_any (p12_at w) (p12_at w)
 rw [decide_eq_true rfl, ← c12_pk] at this
 exact this
theorem store_new12 (w : World) : (rowStore 34 ⟨w.heap.size, 0, none⟩ (.agg #[.int .i64 12, .bool false, .bool false, .int .i64 0, .int .i64 0, .string ⟨#[]⟩, .string ⟨#[]⟩, .bool false, .int .i64 0, .string ⟨#[]⟩, .bool false, .string ⟨#[]⟩, .bool false, .string ⟨#[]⟩, .bool false, .string ⟨#[]⟩, .string ⟨#[]⟩, .int .i64 0, .bool false, .slice none 0 0, .bool false, .int .i64 0, .slice none 0 0, .slice none 0 0, .slice none 0 0])).run Tryz.prog (w.alloc (.cells #[.int .i64 0, .bool false, .bool false, .int .i64 0, .int .i64 0, .string ⟨#[]⟩, .string ⟨#[]⟩, .bool false, .int .i64 0, .string ⟨#[]⟩, .bool false, .string ⟨#[]⟩, .bool false, .string ⟨#[]⟩, .bool false, .string ⟨#[]⟩, .string ⟨#[]⟩, .int .i64 0, .bool false, .slice none 0 0, .bool false, .int .i64 0, .slice none 0 0, .slice none 0 0, .slice none 0 0] 34 (0, 0))) = .ok () (w.alloc (.cells c12 34 (0, 0))) := by
 have h := store_pkres (p := p12) (vw := (.slice none 0 0)) (vc := (.slice none 0 0)) (vf := (.slice none 0 0)) (vp := (.slice none 0 0)) (Obj?.new w #[.int .i64 0, .bool false, .bool false, .int .i64 0, .int .i64 0, .string ⟨#[]⟩, .string ⟨#[]⟩, .bool false, .int .i64 0, .string ⟨#[]⟩, .bool false, .string ⟨#[]⟩, .bool false, .string ⟨#[]⟩, .bool false, .string ⟨#[]⟩, .string ⟨#[]⟩, .int .i64 0, .bool false, .slice none 0 0, .bool false, .int .i64 0, .slice none 0 0, .slice none 0 0, .slice none 0 0] 34) rfl (pk_one rfl rfl rfl rfl)
 rw [World.setRow_alloc_new, ← c12_pk] at h
 exact h
theorem store_12 {w : World} {b : Nat} (h : Obj? w b #[.int .i64 0, .bool false, .bool false, .int .i64 0, .int .i64 0, .string ⟨#[]⟩, .string ⟨#[]⟩, .bool false, .int .i64 0, .string ⟨#[]⟩, .bool false, .string ⟨#[]⟩, .bool false, .string ⟨#[]⟩, .bool false, .string ⟨#[]⟩, .string ⟨#[]⟩, .int .i64 0, .bool false, .slice none 0 0, .bool false, .int .i64 0, .slice none 0 0, .slice none 0 0, .slice none 0 0] 34) : (rowStore 34 ⟨b, 0, none⟩ (.agg c12)).run Tryz.prog w = .ok () (w.setRow b c12) := by
 have h := store_pkres (p := p12) (vw := (.slice none 0 0)) (vc := (.slice none 0 0)) (vf := (.slice none 0 0)) (vp := (.slice none 0 0)) h rfl (pk_one rfl rfl rfl rfl)
 rw [← c12_pk] at h
 exact h
theorem load_12 {w : World} {b : Nat} (h : Obj? w b c12 34) : (rowSem 34 ⟨b, 0, none⟩).run Tryz.prog w = .ok (.agg c12) w := by
 rw [c12_pk] at h ⊢
 exact load_pk h
theorem c12_info : (Tryz.prog.info? 34).map (·.size) = some c12.size := by rw [infoPk5]; rfl
theorem c12_one : c12.all (·.oneCell') = true := by unfold c12; exact pk_one (p := p12) (vw := (.slice none 0 0)) (vc := (.slice none 0 0)) (vf := (.slice none 0 0)) (vp := (.slice none 0 0)) rfl rfl rfl rfl
theorem results_rowT {P : Program} {fn : Func} {p u : Tmp} {ty : TypeId} (h : fn.results = #[.cell p ty, .tmp u]) (tmps : Array Value) (w : World) (g : Nat) (t : TypeId) (cs : Array Value) (d : TypeDesc)
  (hp : tmps.getD p undef = .pointer (some ⟨g, 0, none⟩)) (hg : Obj? w g cs t)
  (hu : P.underlying ty = some d) (hd : (match d with | .struct _ | .array _ _ => true | _ => false) = true) (hi : (P.info? ty).map (·.size) = some cs.size) :
  (results fn tmps).run P w = .ok (.tuple #[.agg cs, tmps.getD u undef]) w := by
 rw [results_cell_tmp h, hp]
 simp [asAddr, Result.andThen, run_loadVar_row w g t ty cs (0, 0) d hg hu hd hi]
attribute [local go_sem ↓] load_Pk store_Pk
attribute [local irreducible] rowSem rowStore c12
theorem c12_0 : c12[0]? = some (.int .i64 12) := by unfold c12; rfl
theorem c12_21 : c12[21]? = some (.int .i64 0) := by unfold c12; rfl
theorem c12_24 : c12[24]? = some (.slice none 0 0) := by unfold c12; rfl
theorem cvalid_12 (w : World) : Calls Tryz.prog 254 #[.int .i64 4, .agg c12] w fun e w' => e = .returned (.int .i64 0) ∧ Below w.heap.size w w' := by
 have HB0 := Lib.hid (below_al (Below.refl _ w) (.cells c12 34 (0, 0)))
 have HO0 := Lib.hid (Obj?.new w c12 34)
 have a0 := HO0.out.cell 0 _ c12_0
 go_enter Tryz.func254, Tryz.ntmps254
 refine wp_hide fun Q1 hQ1 => ?_
 have HQ1 := Lib.hid hQ1
 clear hQ1
 go_wp2_with fail
 refine (known_12 _).mono ?_
 rintro e w1 ⟨rfl, hb⟩
 have HB1 := Lib.hid (below_thenh HB0.out hb)
 have HO1 := Lib.hid (HO0.out.below hb HO0.out.lt)
 clear hb HB0 HO0 a0
 have a0 := HO1.out.cell 0 _ c12_0
 have a1 := (HO1.out.alloc (.cells c12 34 (0, 0))).cell 0 _ c12_0
 have hst := store_new12 w1
 go_wp2_with fail
 refine (says_12 _).mono ?_
 rintro e w2 ⟨rfl, hb⟩
 have HB2 := Lib.hid (below_thenh (below_al HB1.out _) hb)
 have HO2 := Lib.hid ((HO1.out.alloc (.cells c12 34 (0, 0))).below hb (by have := HO1.out.lt; simp; omega))
 have HP2 := Lib.hid ((Obj?.new w1 c12 34).below hb (by simp))
 clear hb HB1 HO1 a0 a1 hst
 have l1 := load_12 HO2.out
 have l2 := load_12 HP2.out
 go_wp2_with fail
 refine (hsame_12 _).mono ?_
 rintro e w3 ⟨rfl, hb⟩
 have HB3 := Lib.hid (below_thenh HB2.out hb)
 have HO3 := Lib.hid (HO2.out.below hb HO2.out.lt)
 clear hb HB2 HO2 HP2 l1 l2
 have a0 := HO3.out.cell 0 _ c12_0
 have a1 := HO3.out.cell 24 _ c12_24
 go_wp2_with fail
 refine (pvalid_none 12 _).mono ?_
 rintro e w4 ⟨rfl, hb⟩
 have HB4 := Lib.hid (below_thenh HB3.out hb)
 clear hb HB3 a0 a1
 go_wp2_with fail
 refine HQ1.out _ _ _ ?_
 go_ret
 exact ⟨rfl, HB4.out⟩
theorem cbody_12 (w : World) : Calls Tryz.prog 226 #[.int .i64 4, .agg c12] w fun e w' => e = .returned (.tuple #[.string ⟨#[]⟩, .int .i64 0]) ∧ Below w.heap.size w w' := by
 have HB0 := Lib.hid (below_al (Below.refl _ w) (.cells c12 34 (0, 0)))
 have HO0 := Lib.hid (Obj?.new w c12 34)
 have l0 := load_12 HO0.out
 go_enter Tryz.func226, Tryz.ntmps226
 refine wp_hide fun Q1 hQ1 => ?_
 have HQ1 := Lib.hid hQ1
 clear hQ1
 go_wp2_with fail
 refine (cvalid_12 _).mono ?_
 rintro e w1 ⟨rfl, hb⟩
 have HB1 := Lib.hid (below_thenh HB0.out hb)
 have HO1 := Lib.hid (HO0.out.below hb HO0.out.lt)
 clear hb HB0 HO0 l0
 have a0 := HO1.out.cell 0 _ c12_0
 have a1 := HO1.out.cell 24 _ c12_24
 have a2 := HO1.out.cell 21 _ c12_21
 go_wp2_with fail
 refine (tail_none _).mono ?_
 rintro e w2 ⟨rfl, hb⟩
 have HB2 := Lib.hid (below_thenh HB1.out hb)
 clear hb HB1 a0 a1 a2
 go_wp2_with fail
 refine HQ1.out _ _ _ ?_
 go_ret2
 exact ⟨rfl, HB2.out⟩
theorem cread_12 (w : World) : Calls Tryz.prog 227 #[.int .i64 4, .int .i64 12, .string ⟨#[]⟩] w fun e w' => e = .returned (.tuple #[.agg c12, .int .i64 0]) ∧ Below w.heap.size w w' := by
 have HB0 := Lib.hid (below_al (Below.refl _ w) (.cells #[.int .i64 0, .bool false, .bool false, .int .i64 0, .int .i64 0, .string ⟨#[]⟩, .string ⟨#[]⟩, .bool false, .int .i64 0, .string ⟨#[]⟩, .bool false, .string ⟨#[]⟩, .bool false, .string ⟨#[]⟩, .bool false, .string ⟨#[]⟩, .string ⟨#[]⟩, .int .i64 0, .bool false, .slice none 0 0, .bool false, .int .i64 0, .slice none 0 0, .slice none 0 0, .slice none 0 0] 34 (0, 0)))
 have HO0 := Lib.hid (Obj?.new w #[.int .i64 0, .bool false, .bool false, .int .i64 0, .int .i64 0, .string ⟨#[]⟩, .string ⟨#[]⟩, .bool false, .int .i64 0, .string ⟨#[]⟩, .bool false, .string ⟨#[]⟩, .bool false, .string ⟨#[]⟩, .bool false, .string ⟨#[]⟩, .string ⟨#[]⟩, .int .i64 0, .bool false, .slice none 0 0, .bool false, .int .i64 0, .slice none 0 0, .slice none 0 0, .slice none 0 0] 34)
 go_enter Tryz.func227, Tryz.ntmps227
 go_wp2_with fail
 refine (known_12 _).mono ?_
 rintro e w1 ⟨rfl, hb⟩
 have HB1 := Lib.hid (below_thenh HB0.out hb)
 have HO1 := Lib.hid (HO0.out.below hb HO0.out.lt)
 clear hb HB0 HO0
 have hst := store_new12 w1
 go_wp2_with fail
 refine (says_12 _).mono ?_
 rintro e w2 ⟨rfl, hb⟩
 have HB2 := Lib.hid (below_thenh (below_al HB1.out _) hb)
 have HO2 := Lib.hid ((HO1.out.alloc (.cells c12 34 (0, 0))).below hb (by have := HO1.out.lt; simp; omega))
 have HP2 := Lib.hid ((Obj?.new w1 c12 34).below hb (by simp))
 clear hb HB1 HO1 hst
 have l2 := load_12 HP2.out
 go_wp2_with fail
 refine (cvalid_12 _).mono ?_
 rintro e w3 ⟨rfl, hb⟩
 have HB3 := Lib.hid (below_thenh HB2.out hb)
 have HO3 := Lib.hid (HO2.out.below hb HO2.out.lt)
 have HP3 := Lib.hid (HP2.out.below hb HP2.out.lt)
 clear hb HB2 HO2 HP2 l2
 have l3 := load_12 HP3.out
 have hst := store_pkres (p := p12) (vw := (.slice none 0 0)) (vc := (.slice none 0 0)) (vf := (.slice none 0 0)) (vp := (.slice none 0 0)) HO3.out rfl (pk_one rfl rfl rfl rfl)
 rw [← c12_pk] at hst
 go_wp2_with fail
 refine bodyPost_ret (results_rowT rfl _ _ _ _ _ _ rfl (HO3.out.setRow c12) Tryz.underlying34 rfl c12_info) rfl ?_
 exact ⟨rfl, below_row HB3.out (Nat.le_refl _) _⟩
end Go.Proofs.YtanofjmkkhocaaaGreatDoor
namespace Go.Proofs.YtanofjmkkhocaaaGreatDoor
open Go Go.RowKit
theorem load_Ch (a : Addr) : loadVar 301 a = rowSem 301 a := rfl
theorem store_Ch (a : Addr) (v : Value) : storeVar 301 a v = rowStore 301 a v := rfl
theorem infoCh : (Tryz.prog.info? 301).map (·.size) = some 2 := by kernel_rfl
theorem store_newch (w : World) (f g : Nat) : (rowStore 301 ⟨w.heap.size, 0, none⟩ (.agg #[.func (.func f) #[] #[], .func (.func g) #[] #[]])).run Tryz.prog (w.alloc (.cells #[.nilFunc, .nilFunc] 301 (0, 0))) = .ok () (w.alloc (.cells #[.func (.func f) #[] #[], .func (.func g) #[] #[]] 301 (0, 0))) := by
 have h := rowStore_run (P := Tryz.prog) _ w.heap.size 301 301 _ #[.func (.func f) #[] #[], .func (.func g) #[] #[]] (Obj?.new w #[.nilFunc, .nilFunc] 301) infoCh rfl (by simp [Value.oneCell'])
 rw [World.setRow_alloc_new] at h
 exact h
theorem load_ch {w : World} {b : Nat} {u v : Value} (h : Obj? w b #[u, v] 301) : (rowSem 301 ⟨b, 0, none⟩).run Tryz.prog w = .ok (.agg #[u, v]) w :=
 rowSem_run w b 301 301 _ _ h Tryz.underlying301 rfl infoCh
attribute [local go_sem ↓] load_Pk store_Pk
attribute [local irreducible] rowSem rowStore c12
def chL : List (Int × Value) := [(1, .agg #[.func (.func 205) #[] #[], .func (.func 206) #[] #[]]), (2, .agg #[.func (.func 205) #[] #[], .func (.func 206) #[] #[]]), (3, .agg #[.func (.func 213) #[] #[], .func (.func 214) #[] #[]]), (4, .agg #[.func (.func 207) #[] #[], .func (.func 208) #[] #[]]), (5, .agg #[.func (.func 207) #[] #[], .func (.func 208) #[] #[]]), (6, .agg #[.func (.func 207) #[] #[], .func (.func 208) #[] #[]]), (7, .agg #[.func (.func 207) #[] #[], .func (.func 208) #[] #[]]), (8, .agg #[.func (.func 209) #[] #[], .func (.func 210) #[] #[]]), (9, .agg #[.func (.func 209) #[] #[], .func (.func 210) #[] #[]]), (10, .agg #[.func (.func 209) #[] #[], .func (.func 210) #[] #[]]), (11, .agg #[.func (.func 209) #[] #[], .func (.func 210) #[] #[]]), (12, .agg #[.func (.func 211) #[] #[], .func (.func 212) #[] #[]]), (13, .agg #[.func (.func 211) #[] #[], .func (.func 212) #[] #[]]), (14, .agg #[.func (.func 211) #[] #[], .func (.func 212) #[] #[]]), (15, .agg #[.func (.func 211) #[] #[], .func (.func 212) #[] #[]])]
attribute [local go_sem ↓] load_Ch store_Ch
theorem chapters_any (w : World) : Calls Tryz.prog 199 #[] w fun e w' => e = .returned (.map (some (w.heap.size + 4))) ∧ Below w.heap.size w w' ∧ w'.heap[w.heap.size + 4]? = some (mapO chL) := by
 have hmm := mkmap 302 ((((w.alloc (.cells #[.func (.func 205) #[] #[], .func (.func 206) #[] #[]] 301 (0, 0))).alloc (.cells #[.func (.func 207) #[] #[], .func (.func 208) #[] #[]] 301 (0, 0))).alloc (.cells #[.func (.func 209) #[] #[], .func (.func 210) #[] #[]] 301 (0, 0))).alloc (.cells #[.func (.func 211) #[] #[], .func (.func 212) #[] #[]] 301 (0, 0))) chL
 have hI0 := run_insL (P := Tryz.prog) (w := ((((w.alloc (.cells #[.func (.func 205) #[] #[], .func (.func 206) #[] #[]] 301 (0, 0))).alloc (.cells #[.func (.func 207) #[] #[], .func (.func 208) #[] #[]] 301 (0, 0))).alloc (.cells #[.func (.func 209) #[] #[], .func (.func 210) #[] #[]] 301 (0, 0))).alloc (.cells #[.func (.func 211) #[] #[], .func (.func 212) #[] #[]] 301 (0, 0)))) (T := 302) chL 0 1 rfl 1 (.agg #[.func (.func 205) #[] #[], .func (.func 206) #[] #[]]) rfl rfl Tryz.underlying302 Tryz.underlying3
 have hI1 := run_insL (P := Tryz.prog) (w := ((((w.alloc (.cells #[.func (.func 205) #[] #[], .func (.func 206) #[] #[]] 301 (0, 0))).alloc (.cells #[.func (.func 207) #[] #[], .func (.func 208) #[] #[]] 301 (0, 0))).alloc (.cells #[.func (.func 209) #[] #[], .func (.func 210) #[] #[]] 301 (0, 0))).alloc (.cells #[.func (.func 211) #[] #[], .func (.func 212) #[] #[]] 301 (0, 0)))) (T := 302) chL 1 2 rfl 2 (.agg #[.func (.func 205) #[] #[], .func (.func 206) #[] #[]]) rfl rfl Tryz.underlying302 Tryz.underlying3
 have hI2 := run_insL (P := Tryz.prog) (w := ((((w.alloc (.cells #[.func (.func 205) #[] #[], .func (.func 206) #[] #[]] 301 (0, 0))).alloc (.cells #[.func (.func 207) #[] #[], .func (.func 208) #[] #[]] 301 (0, 0))).alloc (.cells #[.func (.func 209) #[] #[], .func (.func 210) #[] #[]] 301 (0, 0))).alloc (.cells #[.func (.func 211) #[] #[], .func (.func 212) #[] #[]] 301 (0, 0)))) (T := 302) chL 2 3 rfl 3 (.agg #[.func (.func 213) #[] #[], .func (.func 214) #[] #[]]) rfl rfl Tryz.underlying302 Tryz.underlying3
 have hI3 := run_insL (P := Tryz.prog) (w := ((((w.alloc (.cells #[.func (.func 205) #[] #[], .func (.func 206) #[] #[]] 301 (0, 0))).alloc (.cells #[.func (.func 207) #[] #[], .func (.func 208) #[] #[]] 301 (0, 0))).alloc (.cells #[.func (.func 209) #[] #[], .func (.func 210) #[] #[]] 301 (0, 0))).alloc (.cells #[.func (.func 211) #[] #[], .func (.func 212) #[] #[]] 301 (0, 0)))) (T := 302) chL 3 4 rfl 4 (.agg #[.func (.func 207) #[] #[], .func (.func 208) #[] #[]]) rfl rfl Tryz.underlying302 Tryz.underlying3
 have hI4 := run_insL (P := Tryz.prog) (w := ((((w.alloc (.cells #[.func (.func 205) #[] #[], .func (.func 206) #[] #[]] 301 (0, 0))).alloc (.cells #[.func (.func 207) #[] #[], .func (.func 208) #[] #[]] 301 (0, 0))).alloc (.cells #[.func (.func 209) #[] #[], .func (.func 210) #[] #[]] 301 (0, 0))).alloc (.cells #[.func (.func 211) #[] #[], .func (.func 212) #[] #[]] 301 (0, 0)))) (T := 302) chL 4 5 rfl 5 (.agg #[.func (.func 207) #[] #[], .func (.func 208) #[] #[]]) rfl rfl Tryz.underlying302 Tryz.underlying3
 have hI5 := run_insL (P := Tryz.prog) (w := ((((w.alloc (.cells #[.func (.func 205) #[] #[], .func (.func 206) #[] #[]] 301 (0, 0))).alloc (.cells #[.func (.func 207) #[] #[], .func (.func 208) #[] #[]] 301 (0, 0))).alloc (.cells #[.func (.func 209) #[] #[], .func (.func 210) #[] #[]] 301 (0, 0))).alloc (.cells #[.func (.func 211) #[] #[], .func (.func 212) #[] #[]] 301 (0, 0)))) (T := 302) chL 5 6 rfl 6 (.agg #[.func (.func 207) #[] #[], .func (.func 208) #[] #[]]) rfl rfl Tryz.underlying302 Tryz.underlying3
 have hI6 := run_insL (P := Tryz.prog) (w := ((((w.alloc (.cells #[.func (.func 205) #[] #[], .func (.func 206) #[] #[]] 301 (0, 0))).alloc (.cells #[.func (.func 207) #[] #[], .func (.func 208) #[] #[]] 301 (0, 0))).alloc (.cells #[.func (.func 209) #[] #[], .func (.func 210) #[] #[]] 301 (0, 0))).alloc (.cells #[.func (.func 211) #[] #[], .func (.func 212) #[] #[]] 301 (0, 0)))) (T := 302) chL 6 7 rfl 7 (.agg #[.func (.func 207) #[] #[], .func (.func 208) #[] #[]]) rfl rfl Tryz.underlying302 Tryz.underlying3
 have hI7 := run_insL (P := Tryz.prog) (w := ((((w.alloc (.cells #[.func (.func 205) #[] #[], .func (.func 206) #[] #[]] 301 (0, 0))).alloc (.cells #[.func (.func 207) #[] #[], .func (.func 208) #[] #[]] 301 (0, 0))).alloc (.cells #[.func (.func 209) #[] #[], .func (.func 210) #[] #[]] 301 (0, 0))).alloc (.cells #[.func (.func 211) #[] #[], .func (.func 212) #[] #[]] 301 (0, 0)))) (T := 302) chL 7 8 rfl 8 (.agg #[.func (.func 209) #[] #[], .func (.func 210) #[] #[]]) rfl rfl Tryz.underlying302 Tryz.underlying3
 have hI8 := run_insL (P := Tryz.prog) (w := ((((w.alloc (.cells #[.func (.func 205) #[] #[], .func (.func 206) #[] #[]] 301 (0, 0))).alloc (.cells #[.func (.func 207) #[] #[], .func (.func 208) #[] #[]] 301 (0, 0))).alloc (.cells #[.func (.func 209) #[] #[], .func (.func 210) #[] #[]] 301 (0, 0))).alloc (.cells #[.func (.func 211) #[] #[], .func (.func 212) #[] #[]] 301 (0, 0)))) (T := 302) chL 8 9 rfl 9 (.agg #[.func (.func 209) #[] #[], .func (.func 210) #[] #[]]) rfl rfl Tryz.underlying302 Tryz.underlying3
 have hI9 := run_insL (P := Tryz.prog) (w := ((((w.alloc (.cells #[.func (.func 205) #[] #[], .func (.func 206) #[] #[]] 301 (0, 0))).alloc (.cells #[.func (.func 207) #[] #[], .func (.func 208) #[] #[]] 301 (0, 0))).alloc (.cells #[.func (.func 209) #[] #[], .func (.func 210) #[] #[]] 301 (0, 0))).alloc (.cells #[.func (.func 211) #[] #[], .func (.func 212) #[] #[]] 301 (0, 0)))) (T := 302) chL 9 10 rfl 10 (.agg #[.func (.func 209) #[] #[], .func (.func 210) #[] #[]]) rfl rfl Tryz.underlying302 Tryz.underlying3
 have hI10 := run_insL (P := Tryz.prog) (w := ((((w.alloc (.cells #[.func (.func 205) #[] #[], .func (.func 206) #[] #[]] 301 (0, 0))).alloc (.cells #[.func (.func 207) #[] #[], .func (.func 208) #[] #[]] 301 (0, 0))).alloc (.cells #[.func (.func 209) #[] #[], .func (.func 210) #[] #[]] 301 (0, 0))).alloc (.cells #[.func (.func 211) #[] #[], .func (.func 212) #[] #[]] 301 (0, 0)))) (T := 302) chL 10 11 rfl 11 (.agg #[.func (.func 209) #[] #[], .func (.func 210) #[] #[]]) rfl rfl Tryz.underlying302 Tryz.underlying3
 have hI11 := run_insL (P := Tryz.prog) (w := ((((w.alloc (.cells #[.func (.func 205) #[] #[], .func (.func 206) #[] #[]] 301 (0, 0))).alloc (.cells #[.func (.func 207) #[] #[], .func (.func 208) #[] #[]] 301 (0, 0))).alloc (.cells #[.func (.func 209) #[] #[], .func (.func 210) #[] #[]] 301 (0, 0))).alloc (.cells #[.func (.func 211) #[] #[], .func (.func 212) #[] #[]] 301 (0, 0)))) (T := 302) chL 11 12 rfl 12 (.agg #[.func (.func 211) #[] #[], .func (.func 212) #[] #[]]) rfl rfl Tryz.underlying302 Tryz.underlying3
 have hI12 := run_insL (P := Tryz.prog) (w := ((((w.alloc (.cells #[.func (.func 205) #[] #[], .func (.func 206) #[] #[]] 301 (0, 0))).alloc (.cells #[.func (.func 207) #[] #[], .func (.func 208) #[] #[]] 301 (0, 0))).alloc (.cells #[.func (.func 209) #[] #[], .func (.func 210) #[] #[]] 301 (0, 0))).alloc (.cells #[.func (.func 211) #[] #[], .func (.func 212) #[] #[]] 301 (0, 0)))) (T := 302) chL 12 13 rfl 13 (.agg #[.func (.func 211) #[] #[], .func (.func 212) #[] #[]]) rfl rfl Tryz.underlying302 Tryz.underlying3
 have hI13 := run_insL (P := Tryz.prog) (w := ((((w.alloc (.cells #[.func (.func 205) #[] #[], .func (.func 206) #[] #[]] 301 (0, 0))).alloc (.cells #[.func (.func 207) #[] #[], .func (.func 208) #[] #[]] 301 (0, 0))).alloc (.cells #[.func (.func 209) #[] #[], .func (.func 210) #[] #[]] 301 (0, 0))).alloc (.cells #[.func (.func 211) #[] #[], .func (.func 212) #[] #[]] 301 (0, 0)))) (T := 302) chL 13 14 rfl 14 (.agg #[.func (.func 211) #[] #[], .func (.func 212) #[] #[]]) rfl rfl Tryz.underlying302 Tryz.underlying3
 have hI14 := run_insL (P := Tryz.prog) (w := ((((w.alloc (.cells #[.func (.func 205) #[] #[], .func (.func 206) #[] #[]] 301 (0, 0))).alloc (.cells #[.func (.func 207) #[] #[], .func (.func 208) #[] #[]] 301 (0, 0))).alloc (.cells #[.func (.func 209) #[] #[], .func (.func 210) #[] #[]] 301 (0, 0))).alloc (.cells #[.func (.func 211) #[] #[], .func (.func 212) #[] #[]] 301 (0, 0)))) (T := 302) chL 14 15 rfl 15 (.agg #[.func (.func 211) #[] #[], .func (.func 212) #[] #[]]) rfl rfl Tryz.underlying302 Tryz.underlying3
 have HB := Lib.hid (below_al (below_al (below_al (below_al (below_al (Below.refl _ w) (.cells #[.func (.func 205) #[] #[], .func (.func 206) #[] #[]] 301 (0, 0))) (.cells #[.func (.func 207) #[] #[], .func (.func 208) #[] #[]] 301 (0, 0))) (.cells #[.func (.func 209) #[] #[], .func (.func 210) #[] #[]] 301 (0, 0))) (.cells #[.func (.func 211) #[] #[], .func (.func 212) #[] #[]] 301 (0, 0))) (mapN chL 15))
 have HM := Lib.hid (MapKept.heap_alloc ((((w.alloc (.cells #[.func (.func 205) #[] #[], .func (.func 206) #[] #[]] 301 (0, 0))).alloc (.cells #[.func (.func 207) #[] #[], .func (.func 208) #[] #[]] 301 (0, 0))).alloc (.cells #[.func (.func 209) #[] #[], .func (.func 210) #[] #[]] 301 (0, 0))).alloc (.cells #[.func (.func 211) #[] #[], .func (.func 212) #[] #[]] 301 (0, 0))) (mapN chL 15)).1
 have hs0 := store_newch w 205 206
 have hs1 := store_newch (w.alloc (.cells #[.func (.func 205) #[] #[], .func (.func 206) #[] #[]] 301 (0, 0))) 207 208
 have hs2 := store_newch ((w.alloc (.cells #[.func (.func 205) #[] #[], .func (.func 206) #[] #[]] 301 (0, 0))).alloc (.cells #[.func (.func 207) #[] #[], .func (.func 208) #[] #[]] 301 (0, 0))) 209 210
 have hs3 := store_newch (((w.alloc (.cells #[.func (.func 205) #[] #[], .func (.func 206) #[] #[]] 301 (0, 0))).alloc (.cells #[.func (.func 207) #[] #[], .func (.func 208) #[] #[]] 301 (0, 0))).alloc (.cells #[.func (.func 209) #[] #[], .func (.func 210) #[] #[]] 301 (0, 0))) 211 212
 have hl0 := fun i => load_ch ((((Obj?.new w _ _).alloc (.cells #[.func (.func 207) #[] #[], .func (.func 208) #[] #[]] 301 (0, 0))).alloc (.cells #[.func (.func 209) #[] #[], .func (.func 210) #[] #[]] 301 (0, 0))).alloc (.cells #[.func (.func 211) #[] #[], .func (.func 212) #[] #[]] 301 (0, 0)) |>.alloc (mapN chL i) : Obj? (((((w.alloc (.cells #[.func (.func 205) #[] #[], .func (.func 206) #[] #[]] 301 (0, 0))).alloc (.cells #[.func (.func 207) #[] #[], .func (.func 208) #[] #[]] 301 (0, 0))).alloc (.cells #[.func (.func 209) #[] #[], .func (.func 210) #[] #[]] 301 (0, 0))).alloc (.cells #[.func (.func 211) #[] #[], .func (.func 212) #[] #[]] 301 (0, 0))).alloc (mapN chL i)) w.heap.size #[.func (.func 205) #[] #[], .func (.func 206) #[] #[]] 301)
 have hl1 := fun i => load_ch (((Obj?.new (w.alloc (.cells #[.func (.func 205) #[] #[], .func (.func 206) #[] #[]] 301 (0, 0))) _ _).alloc (.cells #[.func (.func 209) #[] #[], .func (.func 210) #[] #[]] 301 (0, 0))).alloc (.cells #[.func (.func 211) #[] #[], .func (.func 212) #[] #[]] 301 (0, 0)) |>.alloc (mapN chL i) : Obj? (((((w.alloc (.cells #[.func (.func 205) #[] #[], .func (.func 206) #[] #[]] 301 (0, 0))).alloc (.cells #[.func (.func 207) #[] #[], .func (.func 208) #[] #[]] 301 (0, 0))).alloc (.cells #[.func (.func 209) #[] #[], .func (.func 210) #[] #[]] 301 (0, 0))).alloc (.cells #[.func (.func 211) #[] #[], .func (.func 212) #[] #[]] 301 (0, 0))).alloc (mapN chL i)) (w.alloc (.cells #[.func (.func 205) #[] #[], .func (.func 206) #[] #[]] 301 (0, 0))).heap.size #[.func (.func 207) #[] #[], .func (.func 208) #[] #[]] 301)
 have hl2 := fun i => load_ch ((Obj?.new ((w.alloc (.cells #[.func (.func 205) #[] #[], .func (.func 206) #[] #[]] 301 (0, 0))).alloc (.cells #[.func (.func 207) #[] #[], .func (.func 208) #[] #[]] 301 (0, 0))) _ _).alloc (.cells #[.func (.func 211) #[] #[], .func (.func 212) #[] #[]] 301 (0, 0)) |>.alloc (mapN chL i) : Obj? (((((w.alloc (.cells #[.func (.func 205) #[] #[], .func (.func 206) #[] #[]] 301 (0, 0))).alloc (.cells #[.func (.func 207) #[] #[], .func (.func 208) #[] #[]] 301 (0, 0))).alloc (.cells #[.func (.func 209) #[] #[], .func (.func 210) #[] #[]] 301 (0, 0))).alloc (.cells #[.func (.func 211) #[] #[], .func (.func 212) #[] #[]] 301 (0, 0))).alloc (mapN chL i)) ((w.alloc (.cells #[.func (.func 205) #[] #[], .func (.func 206) #[] #[]] 301 (0, 0))).alloc (.cells #[.func (.func 207) #[] #[], .func (.func 208) #[] #[]] 301 (0, 0))).heap.size #[.func (.func 209) #[] #[], .func (.func 210) #[] #[]] 301)
 have hl3 := fun i => load_ch (Obj?.new (((w.alloc (.cells #[.func (.func 205) #[] #[], .func (.func 206) #[] #[]] 301 (0, 0))).alloc (.cells #[.func (.func 207) #[] #[], .func (.func 208) #[] #[]] 301 (0, 0))).alloc (.cells #[.func (.func 209) #[] #[], .func (.func 210) #[] #[]] 301 (0, 0))) _ _ |>.alloc (mapN chL i) : Obj? (((((w.alloc (.cells #[.func (.func 205) #[] #[], .func (.func 206) #[] #[]] 301 (0, 0))).alloc (.cells #[.func (.func 207) #[] #[], .func (.func 208) #[] #[]] 301 (0, 0))).alloc (.cells #[.func (.func 209) #[] #[], .func (.func 210) #[] #[]] 301 (0, 0))).alloc (.cells #[.func (.func 211) #[] #[], .func (.func 212) #[] #[]] 301 (0, 0))).alloc (mapN chL i)) (((w.alloc (.cells #[.func (.func 205) #[] #[], .func (.func 206) #[] #[]] 301 (0, 0))).alloc (.cells #[.func (.func 207) #[] #[], .func (.func 208) #[] #[]] 301 (0, 0))).alloc (.cells #[.func (.func 209) #[] #[], .func (.func 210) #[] #[]] 301 (0, 0))).heap.size #[.func (.func 211) #[] #[], .func (.func 212) #[] #[]] 301)
 simp only [World.size_alloc] at hmm hs1 hs2 hs3 hl1 hl2 hl3 hI0 hI1 hI2 hI3 hI4 hI5 hI6 hI7 hI8 hI9 hI10 hI11 hI12 hI13 hI14 HM
 go_enter Tryz.func199, Tryz.ntmps199
 refine wp_hide fun Q1 hQ1 => ?_
 have HQ1 := Lib.hid hQ1
 clear hQ1
 go_upto_region 5 with fail
 (try dsimp only [List.append])
 go_wp2_with fail
 refine HQ1.out _ _ _ ?_
 go_ret
 exact ⟨rfl, HB.out, HM.out⟩
theorem wcontrol_12 (w : World) : Calls Tryz.prog 212 #[.agg #[.int .i64 4, .int .i64 12, .int .i64 0, .int .i64 0, .string ⟨#[]⟩]] w fun e w' => e = .returned (.tuple #[.agg c12, .int .i64 0]) ∧ Below w.heap.size w w' := by
 have HB0 := Lib.hid (below_al (below_al (Below.refl _ w) (.cells #[.int .i64 4, .int .i64 12, .int .i64 0, .int .i64 0, .string ⟨#[]⟩] 305 (0, 0))) (.cells #[.int .i64 0, .bool false, .bool false, .int .i64 0, .int .i64 0, .string ⟨#[]⟩, .string ⟨#[]⟩, .bool false, .int .i64 0, .string ⟨#[]⟩, .bool false, .string ⟨#[]⟩, .bool false, .string ⟨#[]⟩, .bool false, .string ⟨#[]⟩, .string ⟨#[]⟩, .int .i64 0, .bool false, .slice none 0 0, .bool false, .int .i64 0, .slice none 0 0, .slice none 0 0, .slice none 0 0] 34 (0, 0)))
 have HO0 := Lib.hid (Obj?.new (w.alloc (.cells #[.int .i64 4, .int .i64 12, .int .i64 0, .int .i64 0, .string ⟨#[]⟩] 305 (0, 0))) #[.int .i64 0, .bool false, .bool false, .int .i64 0, .int .i64 0, .string ⟨#[]⟩, .string ⟨#[]⟩, .bool false, .int .i64 0, .string ⟨#[]⟩, .bool false, .string ⟨#[]⟩, .bool false, .string ⟨#[]⟩, .bool false, .string ⟨#[]⟩, .string ⟨#[]⟩, .int .i64 0, .bool false, .slice none 0 0, .bool false, .int .i64 0, .slice none 0 0, .slice none 0 0, .slice none 0 0] 34)
 rw [World.size_alloc] at HO0
 go_enter Tryz.func212, Tryz.ntmps212
 go_wp2_with fail
 refine (cread_12 _).mono ?_
 rintro e w1 ⟨rfl, hb⟩
 have HB1 := Lib.hid (below_thenh HB0.out hb)
 have HO1 := Lib.hid (HO0.out.below hb HO0.out.lt)
 clear hb HB0 HO0
 have hst := store_pkres (p := p12) (vw := (.slice none 0 0)) (vc := (.slice none 0 0)) (vf := (.slice none 0 0)) (vp := (.slice none 0 0)) HO1.out rfl (pk_one rfl rfl rfl rfl)
 rw [← c12_pk] at hst
 go_wp2_with fail
 refine bodyPost_ret (results_rowT rfl _ _ _ _ _ _ rfl (HO1.out.setRow c12) Tryz.underlying34 rfl c12_info) rfl ?_
 exact ⟨rfl, below_row HB1.out (by simp) _⟩
theorem dcontrol_12 (w : World) : Calls Tryz.prog 211 #[.agg (#[.int .i64 4] ++ c12)] w fun e w' => e = .returned (.tuple #[.string ⟨#[]⟩, .int .i64 0]) ∧ Below w.heap.size w w' := by
 have HB0 := Lib.hid (below_al (Below.refl _ w) (.cells (#[.int .i64 4] ++ c12) 308 (0, 0)))
 have HO0 := Lib.hid (Obj?.new w (#[.int .i64 4] ++ c12) 308)
 have a0 := HO0.out.cell 0 (.int .i64 4) (by rw [Array.getElem?_append_left (by decide)]; rfl)
 have l0 := rowSem_mid (P := Tryz.prog) (w.alloc (.cells (#[.int .i64 4] ++ c12) 308 (0, 0))) w.heap.size 1 34 c12 _ (fun j v hj => HO0.out.cell (1 + j) v (by rw [Array.getElem?_append_right (show 1 ≤ 1 + j by omega)]; show c12[1 + j - 1]? = some v; rw [Nat.add_sub_cancel_left]; exact hj)) Tryz.underlying34 rfl c12_info
 go_enter Tryz.func211, Tryz.ntmps211
 refine wp_hide fun Q1 hQ1 => ?_
 have HQ1 := Lib.hid hQ1
 clear hQ1
 go_wp2_with fail
 refine (cbody_12 _).mono ?_
 rintro e w1 ⟨rfl, hb⟩
 have HB1 := Lib.hid (below_thenh HB0.out hb)
 clear hb HB0 HO0 a0 l0
 go_wp2_with fail
 refine HQ1.out _ _ _ ?_
 go_ret2
 exact ⟨rfl, HB1.out⟩
end Go.Proofs.YtanofjmkkhocaaaGreatDoor
