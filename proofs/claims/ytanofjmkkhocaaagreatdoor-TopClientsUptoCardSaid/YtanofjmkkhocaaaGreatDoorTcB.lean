/- A registry of topics: what a client has, as data; maps by their entries; what a call keeps of memory. No program in sight but for the memory's shapes. A registry's clients as data: what registering, predefining, clearing and asking do. Plain: no program. -/
import Derived.Test.YtanofjmkkhocaaaGreatDoorHeA
import Derived.MapKept
import Derived.WideMake
import Derived.ChangeMaps5
import Derived.Laws.StructEq
import Derived.Test.YtanofjmkkhocaaaGreatDoorTopA
set_option linter.unusedVariables false
set_option linter.unusedSimpArgs false
namespace Go.Proofs.YtanofjmkkhocaaaGreatDoor
open Go Go.RowKit Go.MapKept
open Go.ChangeMaps (setBlock)
structure Kq (S : Nat → Prop) (w w' : World) : Prop where
 os : w'.os = w.os
 tape : w'.tape = w.tape
 output : w'.output = w.output
 size : w.heap.size ≤ w'.heap.size
 block : ∀ k, k < w.heap.size → ¬ S k → w'.heap[k]? = w.heap[k]?
theorem Kq.refl (S : Nat → Prop) (w : World) : Kq S w w := ⟨rfl, rfl, rfl, Nat.le_refl _, fun _ _ _ => rfl⟩
theorem Kq.trans {S : Nat → Prop} {a b c : World} (h : Kq S a b) (k : Kq S b c) : Kq S a c :=
 ⟨k.os.trans h.os, k.tape.trans h.tape, k.output.trans h.output, Nat.le_trans h.size k.size, fun i hi hs => (k.block i (Nat.lt_of_lt_of_le hi h.size) hs).trans (h.block i hi hs)⟩
theorem Kq.then {S T : Nat → Prop} {a b c : World} (h : Kq S a b) (k : Kq T b c) (hT : ∀ i, i < a.heap.size → T i → S i) : Kq S a c :=
 ⟨k.os.trans h.os, k.tape.trans h.tape, k.output.trans h.output, Nat.le_trans h.size k.size, fun i hi hs => (k.block i (Nat.lt_of_lt_of_le hi h.size) (fun e => hs (hT i hi e))).trans (h.block i hi hs)⟩
theorem Kq.mono {S T : Nat → Prop} {a b : World} (h : Kq S a b) (hT : ∀ i, i < a.heap.size → S i → T i) : Kq T a b :=
 ⟨h.os, h.tape, h.output, h.size, fun i hi hs => h.block i hi (fun e => hs (hT i hi e))⟩
theorem Kq.of_below {S : Nat → Prop} {a b : World} (h : Below a.heap.size a b) : Kq S a b := ⟨h.os, h.tape, h.output, h.size, fun i hi _ => h.block i hi⟩
theorem Kq.below {S : Nat → Prop} {a b c : World} (h : Kq S a b) (k : Below b.heap.size b c) : Kq S a c := h.trans (.of_below k)
theorem Kq.to_below {S : Nat → Prop} {a b : World} (h : Kq S a b) {A : Nat} (hA : A ≤ a.heap.size) (hS : ∀ i, i < A → ¬ S i) : Below A a b := ⟨h.os, h.tape, h.output, h.size, fun i hi => h.block i (Nat.lt_of_lt_of_le hi hA) (hS i hi)⟩
theorem Kq.of_grown {S : Nat → Prop} {a b : World} {row : Option Nat} (h : a.grownBy b row) (hr : ∀ k, row = some k → S k ∨ a.heap.size ≤ k) : Kq S a b :=
 ⟨h.os, h.tape, h.output, h.size, fun i hi hs => h.block i hi (fun e => by rcases hr i e.symm with h1 | h1; exact hs h1; omega)⟩
theorem Kq.grown {S : Nat → Prop} {a b c : World} {row : Option Nat} (h : Kq S a b) (k : b.grownBy c row) (hr : ∀ k, row = some k → S k ∨ a.heap.size ≤ k) : Kq S a c :=
 ⟨k.os.trans h.os, k.tape.trans h.tape, k.output.trans h.output, Nat.le_trans h.size k.size, fun i hi hs => (k.block i (Nat.lt_of_lt_of_le hi h.size) (fun e => by rcases hr i e.symm with h1 | h1; exact hs h1; omega)).trans (h.block i hi hs)⟩
theorem Kq.alloc {S : Nat → Prop} {a b : World} (h : Kq S a b) (o : Obj) : Kq S a (b.alloc o) := h.grown (World.grownBy_alloc b o none) (fun _ e => by cases e)
theorem Kq.drew {S : Nat → Prop} {a b : World} (h : Kq S a b) : Kq S a b.drew := ⟨h.os, h.tape, h.output, h.size, h.block⟩
theorem Kq.drewN {S : Nat → Prop} {a b : World} (h : Kq S a b) (n : Nat) : Kq S a (b.drewN n) := ⟨h.os, h.tape, h.output, h.size, h.block⟩
theorem Kq.set {S : Nat → Prop} {a b : World} (h : Kq S a b) {p : Addr} (hp : S p.block ∨ a.heap.size ≤ p.block) (u : Value) : Kq S a (b.setCell p u) :=
 h.grown (row := some p.block) ⟨rfl, rfl, rfl, by simp [World.setCell], fun i _ hne => Below.heap_setCell b p u i (fun e => hne (by rw [e]))⟩ (fun k e => by cases e; exact hp)
theorem size_setBlock (w : World) (b : Nat) (o : Obj) : (setBlock w b o).heap.size = w.heap.size := by simp [setBlock]
theorem grown_setBlock (w : World) (b : Nat) (o : Obj) : w.grownBy (setBlock w b o) (some b) :=
 ⟨rfl, rfl, rfl, by simp [setBlock], fun i _ hne => by
  show (w.heap.setIfInBounds b o)[i]? = _
  rw [Array.getElem?_setIfInBounds_ne (fun e => hne (by rw [e]))]⟩
theorem Kq.setB {S : Nat → Prop} {a b : World} (h : Kq S a b) {r : Nat} (hr : S r ∨ a.heap.size ≤ r) (o : Obj) : Kq S a (setBlock b r o) := h.grown (grown_setBlock b r o) (fun k e => by cases e; exact hr)
theorem Obj?.kp {S : Nat → Prop} {w w' : World} {b : Nat} {cs : Array Value} {t : TypeId} (h : Obj? w b cs t) (k : Kq S w w') (hb : ¬ S b) : Obj? w' b cs t := by
 have := k.block b h.lt hb
 unfold Obj? at *
 rw [this]; exact h
theorem lt_of_heap {w : World} {b : Nat} {o : Obj} (h : w.heap[b]? = some o) : b < w.heap.size := (Array.getElem?_eq_some_iff.1 h).1
theorem Kq.at {S : Nat → Prop} {w w' : World} (k : Kq S w w') {b : Nat} {o : Obj} (h : w.heap[b]? = some o) (hb : ¬ S b) : w'.heap[b]? = some o := (k.block b (lt_of_heap h) hb).trans h
theorem below_thn {w W w' : World} (h : Below w.heap.size w W) (hb : Below W.heap.size W w') : Below w.heap.size w w' := h.trans (hb.mono h.size)
def mapG {α : Type} (E : α → MapEntry) (l : List α) (c : Nat) : Obj := .map (l.map E).toArray c
def lookG {α κ : Type} [DecidableEq κ] (kf : α → κ) : List α → Nat → κ → Option (Nat × α)
 | [], _, _ => none
 | x :: r, i, k => if k = kf x then some (i, x) else lookG kf r (i + 1) k
theorem lookG_none {α κ : Type} [DecidableEq κ] {kf : α → κ} {l : List α} {i : Nat} {k : κ} : lookG kf l i k = none ↔ ∀ x ∈ l, k ≠ kf x := by
 induction l generalizing i with
 | nil => simp [lookG]
 | cons x r ih =>
  by_cases h : k = kf x
  ·simp [lookG, h]
  ·simp [lookG, h, ih]
theorem lookG_some {α κ : Type} [DecidableEq κ] {kf : α → κ} {l : List α} {i j : Nat} {k : κ} {x : α} (h : lookG kf l i k = some (j, x)) : i ≤ j ∧ l[j - i]? = some x ∧ k = kf x := by
 induction l generalizing i with
 | nil => cases h
 | cons y r ih =>
  by_cases hk : k = kf y
  ·simp [lookG, hk] at h
   obtain ⟨rfl, rfl⟩ := h
   simp [hk]
  ·rw [lookG, if_neg hk] at h
   obtain ⟨h1, h2, h3⟩ := ih h
   refine ⟨by omega, ?_, h3⟩
   obtain ⟨d, hd⟩ : ∃ d, j - i = d + 1 := ⟨j - i - 1, by omega⟩
   rw [hd, List.getElem?_cons_succ, show d = j - (i + 1) by omega]
   exact h2
theorem lookG_append_none {α κ : Type} [DecidableEq κ] {kf : α → κ} {l m : List α} {i : Nat} {k : κ} (h : lookG kf l i k = none) : lookG kf (l ++ m) i k = lookG kf m (i + l.length) k := by
 induction l generalizing i with
 | nil => simp
 | cons x r ih =>
  by_cases hk : k = kf x
  ·simp [lookG, hk] at h
  ·rw [lookG, if_neg hk] at h
   rw [List.cons_append, lookG, if_neg hk, ih h, List.length_cons]
   congr 1
   omega
theorem lookG_append_some {α κ : Type} [DecidableEq κ] {kf : α → κ} {l m : List α} {i : Nat} {k : κ} {p : Nat × α} (h : lookG kf l i k = some p) : lookG kf (l ++ m) i k = some p := by
 induction l generalizing i with
 | nil => cases h
 | cons x r ih =>
  by_cases hk : k = kf x
  ·simp [lookG, hk] at h ⊢; exact h
  ·rw [lookG, if_neg hk] at h
   rw [List.cons_append, lookG, if_neg hk, ih h]
def dropG {α κ : Type} [DecidableEq κ] (kf : α → κ) (l : List α) (k : κ) : List α := match lookG kf l 0 k with | some (i, _) => l.eraseIdx i | none => l
theorem dropG_sub {α κ : Type} [DecidableEq κ] (kf : α → κ) (l : List α) (k : κ) : (dropG kf l k).Sublist l := by
 unfold dropG
 split
 ·exact List.eraseIdx_sublist _ _
 ·exact List.Sublist.refl _
theorem bytes_beq (x y : List UInt8) : ((ByteArray.mk x.toArray) == (ByteArray.mk y.toArray)) = decide (x = y) := by
 rw [beq_toListBytes]
 simp only [ByteArray.toList_eq]
 rw [Bool.eq_iff_iff]
 simp
theorem eraseIdx_mapG {α β : Type} (f : α → β) (l : List α) (i : Nat) : (l.map f).eraseIdx i = (l.eraseIdx i).map f := by
 rw [List.eraseIdx_eq_take_drop_succ, List.eraseIdx_eq_take_drop_succ]; simp
theorem findNow_str {α : Type} {E : α → MapEntry} {kf : α → List UInt8} (hE : ∀ x, (E x).key = .string ⟨(kf x).toArray⟩) (l : List α) (i : Nat) (k : List UInt8) :
  Instr.findNow .string (.string ⟨k.toArray⟩) (l.map E) i = some ((lookG kf l i k).map fun p => (p.1, (E p.2).val)) := by
 induction l generalizing i with
 | nil => rfl
 | cons x r ih =>
  rw [List.map_cons, Instr.findNow, hE, Instr.sameNow, bytes_beq, lookG]
  by_cases h : k = kf x
  ·simp [h]
  ·simp [h, ih]
theorem findNow_int {α : Type} {E : α → MapEntry} {kf : α → Int} (hE : ∀ x, (E x).key = .int .i64 (kf x)) (l : List α) (i : Nat) (k : Int) :
  Instr.findNow (.int .i64) (.int .i64 k) (l.map E) i = some ((lookG kf l i k).map fun p => (p.1, (E p.2).val)) := by
 induction l generalizing i with
 | nil => rfl
 | cons x r ih =>
  rw [List.map_cons, Instr.findNow, hE, lookG]
  by_cases h : k = kf x
  ·simp [h, Instr.sameNow]
  ·have hb : (k == kf x) = false := by simpa using h
   simp [h, hb, Instr.sameNow, ih]
theorem key_str (k : List UInt8) : IsKey .string (.string ⟨k.toArray⟩) := trivial
theorem key_int (k : Int) : IsKey (.int .i64) (.int .i64 k) := rfl
section
variable {α : Type} {E : α → MapEntry} {P : Program} {w : World} {T kt et : TypeId} {d : TypeDesc} {key : Value} {b c : Nat} {l : List α}
theorem run_lookF {f : Option (Nat × Value)} (hT : P.underlying T = some (.map kt et)) (hk : P.underlying kt = some d) (hd : IsKey d key) (hb : w.heap[b]? = some (mapG E l c)) (hf : Instr.findNow d key (l.map E) 0 = some f) {z : Value} (hz : (zeroValue et).run P w = .ok z w) :
  (Instr.lookup T (.map (some b)) key false).run P w = .ok (f.elim z (·.2)) w ∧ (Instr.lookup T (.map (some b)) key true).run P w = .ok (.tuple #[f.elim z (·.2), .bool f.isSome]) w := by
 replace hb : w.heap[b]? = some (.map (l.map E).toArray c) := hb
 have hc := fun e => run_checkKey (P := P) (w := w) (k := key) hk hd e 9999
 have hf := run_findKey (P := P) (w := w) hk hf
 cases f with
 | none => constructor <;> simp [Instr.lookup, run_underlying hT, MapKept.run_getObj_map hb, hc, hf, Result.andThen, hz]
 | some p => constructor <;> simp [Instr.lookup, run_underlying hT, MapKept.run_getObj_map hb, hc, hf, Result.andThen]
theorem run_insF {v : Value} (x : α) (hT : P.underlying T = some (.map kt et)) (hk : P.underlying kt = some d) (hd : IsKey d key) (hb : w.heap[b]? = some (mapG E l c)) (hf : Instr.findNow d key (l.map E) 0 = some none) (hx : E x = { key := key, val := v, born := c }) :
  (Instr.mapUpdate T (.map (some b)) key v).run P w = .ok () (setBlock w b (mapG E (l ++ [x]) (c + 1))) := by
 replace hb : w.heap[b]? = some (.map (l.map E).toArray c) := hb
 have hc := run_checkKey (P := P) (w := w) (k := key) hk hd false 9999
 have hf := run_findKey (P := P) (w := w) hk hf
 have hs := MapKept.run_setObj_map (P := P) (mapG E (l ++ [x]) (c + 1)) hb
 have e1 : (mapG E (l ++ [x]) (c + 1) : Obj) = .map ((l.map E).toArray.push { key := key, val := v, born := c }) (c + 1) := by unfold mapG; simp [hx]
 rw [e1] at hs ⊢
 simp [Instr.mapUpdate, run_underlying hT, MapKept.run_getObj_map hb, hc, hf, Result.andThen, setBlock] at hs ⊢
 exact hs
theorem run_delF {f : Option (Nat × Value)} {kt' ty : TypeId} (hT : P.underlying T = some (.map kt et)) (hk : P.underlying kt = some d) (hd : IsKey d key) (hb : w.heap[b]? = some (mapG E l c)) (hf : Instr.findNow d key (l.map E) 0 = some f) :
  (Builtin.delete_ #[T, kt'] ty #[.map (some b), key]).run P w = .ok (.tuple #[]) (setBlock w b (mapG E (f.elim l fun p => l.eraseIdx p.1) c)) := by
 replace hb : w.heap[b]? = some (.map (l.map E).toArray c) := hb
 have hc := fun e => run_checkKey (P := P) (w := w) (k := key) hk hd e 9999
 have hf := run_findKey (P := P) (w := w) hk hf
 cases f with
 | none =>
  have hs := MapKept.run_setObj_map (P := P) (.map (l.map E).toArray c) hb
  simp [Builtin.delete_, run_underlying hT, MapKept.run_getObj_map hb, hc, hf, Result.andThen, setBlock, mapG] at hs ⊢
  rw [hs]
 | some p =>
  have hs := MapKept.run_setObj_map (P := P) (.map ((l.map E).toArray.eraseIdxIfInBounds p.1) c) hb
  have e1 : (l.map E).toArray.eraseIdxIfInBounds p.1 = ((l.eraseIdx p.1).map E).toArray := by
   rw [← eraseIdx_mapG]
   unfold Array.eraseIdxIfInBounds
   split
   ·rename_i h; rw [List.eraseIdx_toArray]
   ·rename_i h
    rw [List.eraseIdx_of_length_le (by simpa using h)]
  rw [e1] at hs
  have e2 := eraseIdx_mapG E l p.1
  simp [Builtin.delete_, run_underlying hT, MapKept.run_getObj_map hb, hc, hf, Result.andThen, setBlock, mapG] at hs ⊢
  rw [e2, hs]
end
end Go.Proofs.YtanofjmkkhocaaaGreatDoor
namespace Go.Proofs.YtanofjmkkhocaaaGreatDoor
open Go
structure Tp where
 id : Int
 name : List UInt8
 fx : Bool
 deriving DecidableEq
structure Cl where
 ids : List (List UInt8 × Int × Nat)
 idc : Nat
 all : List (Tp × Nat)
 alc : Nat
 back : List Int
 next : Int
def newCl : Cl := ⟨[], 0, [], 0, [], 1⟩
def swL (l : List Int) (i j : Nat) : List Int := (l.set i (l.getD j 0)).set j (l.getD i 0)
theorem swL_len (l : List Int) (i j : Nat) : (swL l i j).length = l.length := by simp [swL]
def upL : Nat → List Int → Nat → List Int
 | 0, l, _ => l
 | f + 1, l, j => if (j - 1) / 2 = j then l else if l.getD j 0 < l.getD ((j - 1) / 2) 0 then upL f (swL l ((j - 1) / 2) j) ((j - 1) / 2) else l
def kidL (l : List Int) (i n : Nat) : Nat := if 2 * i + 2 < n ∧ l.getD (2 * i + 2) 0 < l.getD (2 * i + 1) 0 then 2 * i + 2 else 2 * i + 1
def dnL : Nat → List Int → Nat → Nat → List Int
 | 0, l, _, _ => l
 | f + 1, l, i, n => if n ≤ 2 * i + 1 then l else if l.getD (kidL l i n) 0 < l.getD i 0 then dnL f (swL l i (kidL l i n)) (kidL l i n) n else l
theorem upL_len (f : Nat) (l : List Int) (j : Nat) : (upL f l j).length = l.length := by
 induction f generalizing l j with
 | zero => rfl
 | succ f ih =>
  unfold upL
  split
  ·rfl
  ·split
   ·rw [ih, swL_len]
   ·rfl
theorem dnL_len (f : Nat) (l : List Int) (i n : Nat) : (dnL f l i n).length = l.length := by
 induction f generalizing l i with
 | zero => rfl
 | succ f ih =>
  unfold dnL
  split
  ·rfl
  ·split
   ·rw [ih, swL_len]
   ·rfl
def pushH (l : List Int) (x : Int) : List Int := upL (l.length + 1) (l ++ [x]) l.length
theorem pushH_len (l : List Int) (x : Int) : (pushH l x).length = l.length + 1 := by simp [pushH, upL_len]
def sunkH (l : List Int) : List Int := dnL l.length (swL l 0 (l.length - 1)) 0 (l.length - 1)
theorem sunkH_len (l : List Int) : (sunkH l).length = l.length := by simp [sunkH, dnL_len, swL_len]
def popH (l : List Int) : Int × List Int := ((sunkH l).getD (l.length - 1) 0, (sunkH l).take (l.length - 1))
theorem popH_len (l : List Int) : (popH l).2.length = l.length - 1 := by simp [popH, sunkH_len]
def hasT (C : Cl) (id : Int) : Bool := (lookG (fun x : Tp × Nat => x.1.id) C.all 0 id).isSome
def leastB (h : Int → Bool) : Nat → List Int → Option Int × List Int
 | 0, l => (none, l)
 | f + 1, l => if l.length = 0 then (none, l) else if h (popH l).1 then leastB h f (popH l).2 else (some (popH l).1, (popH l).2)
def leastN (h : Int → Bool) : Nat → Int → Int × Int
 | 0, n => (0, n)
 | f + 1, n => if 65534 < n then (0, n) else if h n then leastN h f (n + 1) else (n, n + 1)
def leastC (C : Cl) : Int × Cl :=
 match leastB (hasT C) C.back.length C.back with
 | (some id, l) => (id, { C with back := l })
 | (none, l) => ((leastN (hasT C) (65535 - C.next).toNat C.next).1, { C with back := l, next := (leastN (hasT C) (65535 - C.next).toNat C.next).2 })
def putC (C : Cl) (t : Tp) : Cl := { C with ids := C.ids ++ [(t.name, t.id, C.idc)], idc := C.idc + 1, all := C.all ++ [(t, C.alc)], alc := C.alc + 1 }
def idOf (C : Cl) (name : List UInt8) : Option Int := (lookG (fun x : List UInt8 × Int × Nat => x.1) C.ids 0 name).map (·.2.2.1)
def tpOf (C : Cl) (id : Int) : Option Tp := (lookG (fun x : Tp × Nat => x.1.id) C.all 0 id).map (·.2.1)
def topicsC (C : Cl) : List Tp := (C.all.map (·.1)).mergeSort fun a b => decide (a.id ≤ b.id)
def regC (o : Option Cl) (name : List UInt8) : (Int × Bool × Int) × Option Cl :=
 if nameB name = false then ((0, false, 10), o)
 else match idOf (o.getD newCl) name with
  | some id => ((id, false, 0), some (o.getD newCl))
  | none => if (leastC (o.getD newCl)).1 = 0 then ((0, false, 12), some (leastC (o.getD newCl)).2) else (((leastC (o.getD newCl)).1, true, 0), some (putC (leastC (o.getD newCl)).2 ⟨(leastC (o.getD newCl)).1, name, false⟩))
def preC (o : Option Cl) (name : List UInt8) (id : Int) : Int × Option Cl :=
 if nameB name = false then (10, o)
 else if id < 1 ∨ 65534 < id then (2, o)
 else match o with
  | none => (0, some (putC newCl ⟨id, name, true⟩))
  | some C => if tpOf C id = some ⟨id, name, true⟩ then (0, o) else if (idOf C name).isSome ∨ hasT C id = true then (16, o) else (0, some (putC C ⟨id, name, true⟩))
def nameC (o : Option Cl) (id : Int) : List UInt8 × Int := match o.bind (tpOf · id) with | some t => (t.name, 0) | none => ([], 11)
def idC (o : Option Cl) (name : List UInt8) : Int × Int := match o.bind (idOf · name) with | some id => (id, 0) | none => (0, 11)
def fixC (o : Option Cl) (id : Int) : Bool := match o.bind (tpOf · id) with | some t => t.fx | none => false
def topsC (o : Option Cl) : List Tp := (o.map topicsC).getD []
def outC (C : Cl) (t : Tp) : Cl := if t.fx then C else { C with ids := dropG (fun x : List UInt8 × Int × Nat => x.1) C.ids t.name, all := dropG (fun x : Tp × Nat => x.1.id) C.all t.id, back := pushH C.back t.id }
def clearC (o : Option Cl) : Option Cl :=
 match o with
 | none => none
 | some C => if ((topicsC C).foldl outC C).all = [] then none else some ((topicsC C).foldl outC C)
def leastT : List Tp → Int → Int
 | [], n => n
 | t :: r, n => if t.id = n then leastT r (n + 1) else n
def wtC (C : Cl) : Nat := C.all.length + C.back.length
def wtO (o : Option Cl) : Nat := (o.map wtC).getD 0
theorem leastB_len (h : Int → Bool) (f : Nat) (l : List Int) : (leastB h f l).2.length ≤ l.length := by
 induction f generalizing l with
 | zero => exact Nat.le_refl _
 | succ f ih =>
  have h1 := popH_len l
  unfold leastB
  split
  ·exact Nat.le_refl _
  ·split
   ·exact Nat.le_trans (ih _) (by omega)
   ·simp only; omega
theorem leastC_all (C : Cl) : (leastC C).2.all = C.all ∧ (leastC C).2.alc = C.alc ∧ (leastC C).2.ids = C.ids ∧ (leastC C).2.idc = C.idc := by
 unfold leastC
 split <;> exact ⟨rfl, rfl, rfl, rfl⟩
theorem leastC_back (C : Cl) : (leastC C).2.back.length ≤ C.back.length := by
 have h := leastB_len (hasT C) C.back.length C.back
 unfold leastC
 split
 ·rename_i id l e; rw [e] at h; exact h
 ·rename_i l e; rw [e] at h; exact h
theorem wt_put (C : Cl) (t : Tp) : wtC (putC C t) = wtC C + 1 := by simp [wtC, putC]; omega
theorem wt_least (C : Cl) : wtC (leastC C).2 ≤ wtC C := by
 have h1 := leastC_back C
 have h2 := (leastC_all C).1
 unfold wtC
 rw [h2]; omega
theorem wt_getD (o : Option Cl) : wtC (o.getD newCl) = wtO o := by cases o <;> rfl
theorem wt_reg (o : Option Cl) (name : List UInt8) : wtO (regC o name).2 ≤ wtO o + 1 := by
 have h0 := wt_getD o
 have h1 := wt_least (o.getD newCl)
 unfold regC
 split
 ·simp only; omega
 ·split
  ·simp [wtO, h0]
  ·split
   ·simp [wtO] at *; omega
   ·simp only [wtO, Option.map_some, Option.getD_some, wt_put] at *; omega
theorem wt_pre (o : Option Cl) (name : List UInt8) (id : Int) : wtO (preC o name id).2 ≤ wtO o + 1 := by
 unfold preC
 split
 ·simp only; omega
 ·split
  ·simp only; omega
  ·split
   ·simp only [wtO, Option.map_some, Option.getD_some, wt_put]; decide
   ·rename_i C
    split
    ·simp only; omega
    ·split
     ·simp only; omega
     ·simp only [wtO, Option.map_some, Option.getD_some, wt_put]; omega
theorem outC_len (C : Cl) (t : Tp) : (outC C t).all.length ≤ C.all.length ∧ (outC C t).back.length ≤ C.back.length + 1 := by
 unfold outC
 split
 ·exact ⟨Nat.le_refl _, Nat.le_succ _⟩
 ·exact ⟨(dropG_sub _ _ _).length_le, by simp [pushH_len]⟩
theorem outsC_len (l : List Tp) (C : Cl) : (l.foldl outC C).all.length ≤ C.all.length ∧ (l.foldl outC C).back.length ≤ C.back.length + l.length := by
 induction l generalizing C with
 | nil => exact ⟨Nat.le_refl _, Nat.le_refl _⟩
 | cons t r ih =>
  have h1 := ih (outC C t)
  have h2 := outC_len C t
  rw [List.foldl_cons, List.length_cons]
  omega
theorem topicsC_perm (C : Cl) : (topicsC C).Perm (C.all.map (·.1)) := List.mergeSort_perm _ _
theorem topicsC_len (C : Cl) : (topicsC C).length = C.all.length := by rw [(topicsC_perm C).length_eq, List.length_map]
theorem wt_clear (o : Option Cl) : wtO (clearC o) ≤ 2 * wtO o := by
 cases o with
 | none => exact Nat.zero_le _
 | some C =>
  have h1 := outsC_len (topicsC C) C
  rw [topicsC_len] at h1
  unfold clearC
  split
  ·rename_i h; cases h
  ·rename_i C' h
   cases h
   split
   ·exact Nat.zero_le _
   ·simp only [wtO, Option.map_some, Option.getD_some, wtC]; omega
structure WfC (C : Cl) : Prop where
 ids : (C.all.map (·.1.id)).Nodup
 born : (C.all.map (·.2)).Nodup
 old : ∀ x ∈ C.all, x.2 < C.alc
 least : 1 ≤ C.next
 most : C.next ≤ 65535
theorem wf_new : WfC newCl := ⟨by simp [newCl], by simp [newCl], by simp [newCl], by simp [newCl], by simp [newCl]⟩
theorem hasT_no {C : Cl} {id : Int} : hasT C id = false ↔ ∀ x ∈ C.all, id ≠ x.1.id := by
 unfold hasT
 rw [Option.isSome_eq_false_iff, Option.isNone_iff_eq_none, lookG_none]
theorem wf_put {C : Cl} (h : WfC C) {t : Tp} (ht : hasT C t.id = false) : WfC (putC C t) := by
 have hn := hasT_no.1 ht
 refine ⟨?_, ?_, ?_, h.least, h.most⟩
 ·simp only [putC, List.map_append, List.map_cons, List.map_nil]
  refine List.nodup_append.2 ⟨h.ids, by simp, ?_⟩
  intro a ha b hb
  simp only [List.mem_singleton] at hb
  subst hb
  obtain ⟨x, hx, rfl⟩ := List.mem_map.1 ha
  exact fun e => hn x hx e.symm
 ·simp only [putC, List.map_append, List.map_cons, List.map_nil]
  refine List.nodup_append.2 ⟨h.born, by simp, ?_⟩
  intro a ha b hb
  simp only [List.mem_singleton] at hb
  subst hb
  obtain ⟨x, hx, rfl⟩ := List.mem_map.1 ha
  exact Nat.ne_of_lt (h.old x hx)
 ·intro x hx
  simp only [putC, List.mem_append, List.mem_singleton] at hx ⊢
  rcases hx with hx | rfl
  ·exact Nat.lt_succ_of_lt (h.old x hx)
  ·exact Nat.lt_succ_self _
theorem leastN_spec (h : Int → Bool) (f : Nat) (n : Int) (hn : 1 ≤ n) (hf : n + f = 65535) : n ≤ (leastN h f n).2 ∧ (leastN h f n).2 ≤ 65535 ∧ ((leastN h f n).1 ≠ 0 → h (leastN h f n).1 = false) := by
 induction f generalizing n with
 | zero => simp [leastN]; omega
 | succ f ih =>
  unfold leastN
  split
  ·simp; omega
  ·split
   ·obtain ⟨h1, h2, h3⟩ := ih (n + 1) (by omega) (by omega)
    exact ⟨by omega, h2, h3⟩
   ·rename_i h1 h2
    simp at h2 ⊢
    refine ⟨by omega, by omega, fun _ => h2⟩
theorem leastB_spec (h : Int → Bool) (f : Nat) (l : List Int) (id : Int) (h1 : (leastB h f l).1 = some id) : h id = false := by
 induction f generalizing l with
 | zero => cases h1
 | succ f ih =>
  unfold leastB at h1
  split at h1
  ·cases h1
  ·split at h1
   ·exact ih _ h1
   ·rename_i h2
    cases h1
    simpa using h2
theorem leastC_spec {C : Cl} (h : WfC C) : WfC (leastC C).2 ∧ ((leastC C).1 ≠ 0 → hasT C (leastC C).1 = false) := by
 have hN := leastN_spec (hasT C) (65535 - C.next).toNat C.next h.least (by have := h.most; omega)
 have hB := leastB_spec (hasT C) C.back.length C.back
 have hl := h.least
 unfold leastC
 split
 ·rename_i id l e
  rw [e] at hB
  exact ⟨⟨h.ids, h.born, h.old, h.least, h.most⟩, fun _ => hB id rfl⟩
 ·exact ⟨⟨h.ids, h.born, h.old, by show 1 ≤ (leastN _ _ _).2; omega, hN.2.1⟩, hN.2.2⟩
theorem nodup_at {α β : Type} {f : α → β} {l : List α} (hn : (l.map f).Nodup) (i j : Nat) (hi : i < l.length) (hj : j < l.length) (e : f l[i] = f l[j]) : i = j := by
 rcases Nat.lt_trichotomy i j with h1 | h1 | h1
 ·have := List.pairwise_iff_getElem.1 hn i j (by simpa using hi) (by simpa using hj) h1
  simp at this
  exact absurd e this
 ·exact h1
 ·have := List.pairwise_iff_getElem.1 hn j i (by simpa using hj) (by simpa using hi) h1
  simp at this
  exact absurd e.symm this
theorem topics_of_sorted {C : Cl} (h : WfC C) {l : List Tp} (hp : l.Perm (C.all.map (·.1))) (hs : l.Pairwise fun a b => a.id ≤ b.id) : l = topicsC C := by
 have hp2 : l.Perm (topicsC C) := hp.trans (topicsC_perm C).symm
 have hs2 : (topicsC C).Pairwise fun a b => a.id ≤ b.id := by
  have := List.pairwise_mergeSort (le := fun a b : Tp => decide (a.id ≤ b.id)) (fun a b c h1 h2 => by simp at *; omega) (fun a b => by simp; omega) (C.all.map (·.1))
  exact this.imp (fun h => by simpa using h)
 have hn : (l.map (·.id)).Nodup := by
  have := (hp.map (·.id)).nodup_iff.2 (by rw [List.map_map]; exact h.ids)
  exact this
 have hinj : ∀ a ∈ l, ∀ b ∈ l, a.id = b.id → a = b := by
  intro a ha b hb e
  obtain ⟨i, hi, rfl⟩ := List.mem_iff_getElem.1 ha
  obtain ⟨j, hj, rfl⟩ := List.mem_iff_getElem.1 hb
  have hij : i = j := nodup_at hn i j hi hj e
  subst hij
  rfl
 exact hp2.eq_of_pairwise (fun a b ha hb h1 h2 => hinj a ha b (hp2.mem_iff.2 hb) (Int.le_antisymm h1 h2)) hs hs2
end Go.Proofs.YtanofjmkkhocaaaGreatDoor
