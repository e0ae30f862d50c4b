/- What every walk of this family leans on: a block known whole, kept over calls; worlds that grow. No Go in sight. A whole struct loaded in one step: kept from being laid open cell by cell. -/
import Derived.WalkKit
import Derived.WalkSpells
import Derived.WalkLawsBesides
import Derived.WalkSmall
import Derived.Lib.Hide
import Derived.Deep.QuietTactic
import Derived.BigQuiet
import Derived.Deep.DeepFit
import Derived.Deep.DrawnRows
import Derived.Deep.MidRow
import Derived.Laws.ResultCell
import Derived.Laws.Rows
namespace Go.Proofs.YtanofjmkkhocaaaGreatDoor
open Go.RowKit
def Obj? (w : World) (b : Nat) (cs : Array Value) (t : TypeId) : Prop := w.heap[b]? = some (.cells cs t (0, 0))
theorem Obj?.lt {w : World} {b : Nat} {cs : Array Value} {t : TypeId} (h : Obj? w b cs t) : b < w.heap.size := by
 unfold Obj? at h
 rcases Nat.lt_or_ge b w.heap.size with h1 | h1
 ·exact h1
 ·rw [Array.getElem?_eq_none h1] at h; cases h
theorem Obj?.cell {w : World} {b : Nat} {cs : Array Value} {t : TypeId} (h : Obj? w b cs t) (j : Nat) (v : Value) (hv : cs[j]? = some v) : w.cell? ⟨b, j, none⟩ = some v := by
 unfold Obj? at h
 simp [World.cell?, h, hv]
theorem Obj?.frozen {w : World} {b : Nat} {cs : Array Value} {t : TypeId} (h : Obj? w b cs t) (j : Nat) : w.frozen? ⟨b, j, none⟩ = false := by
 unfold Obj? at h
 simp [World.frozen?, h]
theorem Obj?.new (w : World) (cs : Array Value) (t : TypeId) : Obj? (w.alloc (.cells cs t (0, 0))) w.heap.size cs t := by
 show (w.heap.push _)[w.heap.size]? = _
 simp
theorem Obj?.kept {w w' : World} {row : Option Nat} {b : Nat} {cs : Array Value} {t : TypeId} (h : Obj? w b cs t) (hg : w.grownBy w' row) (hne : row ≠ some b) : Obj? w' b cs t := by
 have := hg.block b h.lt (fun e => hne e.symm)
 unfold Obj? at *
 rw [this]; exact h
theorem Obj?.below {w w' : World} {B b : Nat} {cs : Array Value} {t : TypeId} (h : Obj? w b cs t) (hb : Below B w w') (hlt : b < B) : Obj? w' b cs t := by
 have := hb.block b hlt
 unfold Obj? at *
 rw [this]; exact h
theorem Obj?.set {w : World} {b : Nat} {cs : Array Value} {t : TypeId} (h : Obj? w b cs t) (j : Nat) (u : Value) : Obj? (w.setCell ⟨b, j, none⟩ u) b (cs.setIfInBounds j u) t := by
 unfold Obj? at *
 exact heap_setCell_same w b j cs t u h
theorem Obj?.alloc {w : World} {b : Nat} {cs : Array Value} {t : TypeId} (h : Obj? w b cs t) (o : Obj) : Obj? (w.alloc o) b cs t := h.kept (World.grownBy_alloc w o none) (by simp)
theorem Obj?.drewN {w : World} {b : Nat} {cs : Array Value} {t : TypeId} (h : Obj? w b cs t) (n : Nat) : Obj? (w.drewN n) b cs t := h
theorem grown_trans {a b c : World} {row : Option Nat} (h : a.grownBy b row) (k : b.grownBy c row) : a.grownBy c row :=
 ⟨k.os.trans h.os, k.tape.trans h.tape, k.output.trans h.output, Nat.le_trans h.size k.size, fun i hi hne => (k.block i (Nat.lt_of_lt_of_le hi h.size) hne).trans (h.block i hi hne)⟩
theorem grown_any {a b : World} (h : a.grownBy b none) (row : Option Nat) : a.grownBy b row := ⟨h.os, h.tape, h.output, h.size, fun i hi _ => h.block i hi (by simp)⟩
theorem grown_below {a b : World} (h : Below a.heap.size a b) (row : Option Nat) : a.grownBy b row := ⟨h.os, h.tape, h.output, h.size, fun i hi _ => h.block i hi⟩
theorem below_grown {a b : World} (h : a.grownBy b none) : Below a.heap.size a b := ⟨h.os, h.tape, h.output, h.size, fun i hi => h.block i hi (by simp)⟩
theorem grown_drewN {a b : World} {row : Option Nat} (h : a.grownBy b row) (n : Nat) : a.grownBy (b.drewN n) row := ⟨h.os, h.tape, h.output, h.size, h.block⟩
theorem grown_drew {a b : World} {row : Option Nat} (h : a.grownBy b row) : a.grownBy b.drew row := ⟨h.os, h.tape, h.output, h.size, h.block⟩
theorem grown_alloc {a b : World} {row : Option Nat} (h : a.grownBy b row) (o : Obj) : a.grownBy (b.alloc o) row := grown_trans h (World.grownBy_alloc b o row)
theorem grown_set {a b : World} {g : Nat} (h : a.grownBy b (some g)) {p : Addr} (hp : p.block = g) (u : Value) : a.grownBy (b.setCell p u) (some g) :=
 grown_trans h ⟨rfl, rfl, rfl, by simp [World.setCell], fun i _ hne => Below.heap_setCell b p u i (fun e => hne (by rw [← hp, e]))⟩
theorem grown_new {a b c : World} {row : Option Nat} {g : Nat} (h : a.grownBy b row) (k : b.grownBy c (some g)) (hg : a.heap.size ≤ g) : a.grownBy c row :=
 ⟨k.os.trans h.os, k.tape.trans h.tape, k.output.trans h.output, Nat.le_trans h.size k.size, fun i hi hne => (k.block i (Nat.lt_of_lt_of_le hi h.size) (fun e => by cases e; omega)).trans (h.block i hi hne)⟩
theorem quiet_grown {a b : World} (h : ∃ k, b = a.drewN k) (row : Option Nat) : a.grownBy b row := by
 obtain ⟨k, rfl⟩ := h
 exact grown_drewN (World.grownBy.refl _ _) k
theorem ret_val {a b : Value} (h : a = b) : Ending.returned a = .returned b := by rw [h]
theorem ret_int {k : IntKind} {a b : Int} (h : a = b) : Ending.returned (.int k a) = .returned (.int k b) := by rw [h]
theorem ret_str {a b : List UInt8} (h : a = b) : Ending.returned (.string ⟨a.toArray⟩) = .returned (.string ⟨b.toArray⟩) := by rw [h]
theorem len_of_size {l : List UInt8} (h : (ByteArray.mk ⟨l⟩).size ≤ maxLen) : (l.length : Int) ≤ 9223372036854775807 := by
 have h2 : l.length ≤ maxLen := h
 unfold maxLen at h2; omega
def Ints (k : IntKind) (w : World) (a : Option Addr) (len : Nat) (zs : List Int) : Prop :=
 len ≤ maxLen ∧ zs.length = len ∧ (len = 0 ∨ ∃ b off, a = some ⟨b, off, none⟩ ∧ b < w.heap.size ∧ ∀ (j : Nat) (h : j < zs.length), w.cell? ⟨b, off + j, none⟩ = some (.int k zs[j]) ∧ (Lit.int k zs[j]).wf = true)
theorem Ints.of_row {k : IntKind} {w : World} {a : Option Addr} {len cap : Nat} {zs : List Int}
  (h : (a = none ∧ len = 0 ∧ cap = 0 ∧ zs = []) ∨ ∃ x, a = some x ∧ len ≤ cap ∧ cap ≤ maxLen ∧ zs.length = cap ∧ (∀ i, i < zs.length → w.cell? (x.add i) = some (.int k (zs.getD i 0))) ∧ ∀ n ∈ zs, (Lit.int k n).wf = true) :
  Ints k w a len (zs.take len) := by
 rcases h with ⟨rfl, rfl, rfl, rfl⟩ | ⟨x, rfl, h1, h2, h3, h4, h5⟩
 ·exact ⟨Nat.zero_le _, rfl, .inl rfl⟩
 ·refine ⟨Nat.le_trans h1 h2, by simp; omega, ?_⟩
  rcases Nat.eq_zero_or_pos len with h0 | h0
  ·exact .inl h0
  ·right
   obtain ⟨b, off, spot⟩ := x
   have hc := h4 0 (by omega)
   have hspot : spot = none := by simpa [Addr.add] using World.cell?_spot hc
   subst hspot
   refine ⟨b, off, rfl, ?_, ?_⟩
   ·have hc0 : w.cell? ⟨b, off, none⟩ = some (.int k (zs.getD 0 0)) := by simpa [Addr.add] using hc
    rcases Nat.lt_or_ge b w.heap.size with h6 | h6
    ·exact h6
    ·simp [World.cell?, Array.getElem?_eq_none h6] at hc0
   ·intro j hj
    simp at hj
    have e : (⟨b, off, none⟩ : Addr).add j = ⟨b, off + j, none⟩ := by unfold Addr.add; split <;> simp_all
    have hc := h4 j (by omega)
    rw [e] at hc
    rw [List.getElem_take, hc]
    have hjz : j < zs.length := by omega
    simp only [List.getD_eq_getElem?_getD, List.getElem?_eq_getElem hjz, Option.getD_some]
    exact ⟨trivial, h5 _ (List.getElem_mem hjz)⟩
theorem owns_succ {W : World} {base : Nat} {e : TypeId} {size : Nat} {v : Value} {k : Nat} {xs : List Value} (h : W.ownsRow base e size v (k + 1) xs) : ∃ g cap, v = .slice (some ⟨g, 0, none⟩) (k + 1) cap := by
 rcases h.2 with ⟨_, h0⟩ | ⟨g, cap, _, rfl, _⟩
 ·omega
 ·exact ⟨g, cap, rfl⟩
theorem owns_shape {W : World} {base : Nat} {e : TypeId} {size : Nat} {v : Value} {k : Nat} {xs : List Value} (hs : 0 < size) (h : W.ownsRow base e size v k xs) : ∃ a cap, v = .slice a k cap := by
 rcases h.2 with ⟨rfl, h0⟩ | ⟨g, cap, _, rfl, _⟩
 ·have h1 := h.1
  rw [h0] at h1
  have hk : k = 0 := by
   rcases Nat.eq_zero_or_pos k with hk | hk
   ·exact hk
   ·have := Nat.mul_pos hk hs
    simp at h1; omega
  exact ⟨none, 0, by rw [hk]⟩
 ·exact ⟨_, cap, rfl⟩
theorem owns_ints {w : World} {base e g n cap : Nat} {k : IntKind} {l : List Int} (h : w.ownsRow base e 1 (.slice (some ⟨g, 0, none⟩) n cap) n (l.map (Value.int k))) (hl : l.length = n) :
  ∀ i, i < n → w.cell? ⟨g, 0 + i, none⟩ = some (.int k (l.getD i 0)) := by
 intro i hi
 have hc := h.cellAt i (by omega)
 rw [List.getElem?_eq_getElem (by simp; omega)] at hc
 rw [Nat.zero_add, hc]
 simp [List.getElem?_eq_getElem (show i < l.length by omega)]
theorem below_append {w wr w1 : World} {o : Obj} {e size n : Nat} {v : Value} {xs : List Value} (hB : Below w.heap.size w wr) (hown : wr.ownsRow w.heap.size e size v n xs) (hg : (wr.alloc o).grownBy w1 v.ownBlock) : Below w.heap.size w w1 :=
 (hB.alloc hB.size o).grown hg (by have := hB.size; simp; omega) (fun k e => (hown.lt k e).1)
theorem quiet_add {P : Program} {f : FuncId} {args : Array Value} {w : World} {a n : Nat} {v : Value}
  (h : Calls P f args (w.drewN (a + n)) fun e w' => e = .returned v ∧ ∃ m, w' = (w.drewN (a + n)).drewN m) :
  Calls P f args (w.drewN (a + n)) fun e w'' => e = .returned v ∧ ∃ m, w'' = w.drewN (a + m) :=
 h.mono fun _ _ ⟨he, m, hm⟩ => ⟨he, n + m, by rw [hm, World.drewN_drewN, Nat.add_assoc]⟩
theorem quiet_left {P : Program} {f : FuncId} {args : Array Value} {w : World} {n : Nat} {v : Value}
  (h : Calls P f args (w.drewN n) fun e w' => e = .returned v ∧ w.drewN n = w') : Calls P f args (w.drewN n) fun e w'' => e = .returned v ∧ ∃ m, w'' = w.drewN m :=
 h.mono fun _ _ ⟨he, hm⟩ => ⟨he, n, hm.symm⟩
theorem quiet_more {P : Program} {f : FuncId} {args : Array Value} {w : World} {n : Nat} {v : Value}
  (h : Calls P f args (w.drewN n) fun e w' => e = .returned v ∧ ∃ m, w' = (w.drewN n).drewN m) : Calls P f args (w.drewN n) fun e w'' => e = .returned v ∧ ∃ m, w'' = w.drewN m :=
 h.mono fun _ _ ⟨he, m, hm⟩ => ⟨he, n + m, by rw [hm, World.drewN_drewN]⟩
end Go.Proofs.YtanofjmkkhocaaaGreatDoor
namespace Go.Proofs.YtanofjmkkhocaaaGreatDoor
open Go.RowKit
def rowSem (t : TypeId) (a : Addr) : Sem Value := loadVar t a
theorem rowSem_run {P : Program} (w : World) (b : Nat) (ty t : TypeId) (cells : Array Value) (d : TypeDesc) (hb : Obj? w b cells t)
  (hu : P.underlying ty = some d) (hd : (match d with | .struct _ | .array _ _ => true | _ => false) = true) (hi : (P.info? ty).map (·.size) = some cells.size) :
  (rowSem ty ⟨b, 0, none⟩).run P w = .ok (.agg cells) w := run_loadVar_row w b t ty cells (0, 0) d hb hu hd hi
theorem rowSem_mid {P : Program} (w : World) (b o : Nat) (ty : TypeId) (cs : Array Value) (d : TypeDesc) (hc : ∀ j v, cs[j]? = some v → w.cell? ⟨b, o + j, none⟩ = some v)
  (hu : P.underlying ty = some d) (hd : (match d with | .struct _ | .array _ _ => true | _ => false) = true) (hi : (P.info? ty).map (·.size) = some cs.size) :
  (rowSem ty ⟨b, o, none⟩).run P w = .ok (.agg cs) w := by
 have := run_loadVar_mid (P := P) w b o ty cs.toList d (fun j v hv => hc j v (by simpa using hv)) hu (by cases d <;> first | rfl | exact hd) (by simpa using hi)
 simpa [rowSem] using this
theorem Obj?.mid {w : World} {b : Nat} {p cs q : Array Value} {t : TypeId} (h : Obj? w b (p ++ cs ++ q) t) (j : Nat) (v : Value) (hv : cs[j]? = some v) : w.cell? ⟨b, p.size + j, none⟩ = some v := by
 refine h.cell _ _ ?_
 have hj : j < cs.size := by
  rcases Nat.lt_or_ge j cs.size with h1 | h1
  ·exact h1
  ·rw [Array.getElem?_eq_none h1] at hv; cases hv
 rw [Array.getElem?_append_left (by simp; omega), Array.getElem?_append_right (by omega)]
 simpa using hv
def rowStore (t : TypeId) (a : Addr) (v : Value) : Sem Unit := storeVar t a v
theorem rowStore_run {P : Program} (w : World) (b : Nat) (ty t : TypeId) (old cells : Array Value) (hb : Obj? w b old t)
  (hi : (P.info? ty).map (·.size) = some cells.size) (ho : old.size = cells.size) (h1 : cells.all (·.oneCell') = true) :
  (rowStore ty ⟨b, 0, none⟩ (.agg cells)).run P w = .ok () (w.setRow b cells) := run_storeVar_row w b t ty old cells hb hi ho h1
theorem Obj?.setRow {w : World} {b : Nat} {cs : Array Value} {t : TypeId} (h : Obj? w b cs t) (C : Array Value) : Obj? (w.setRow b C) b C t := setRow_heap w b cs C t (0, 0) h
theorem Obj?.setRow_ne {w : World} {b g : Nat} {cs C : Array Value} {t : TypeId} (h : Obj? w b cs t) (hne : b ≠ g) : Obj? (w.setRow g C) b cs t := by
 unfold Obj? at *
 rw [setRow_other w g b C hne]; exact h
theorem below_row {B g : Nat} {w0 w : World} (hb : Below B w0 w) (hBg : B ≤ g) (C : Array Value) : Below B w0 (w.setRow g C) :=
 ⟨hb.os, hb.tape, hb.output, by rw [setRow_size]; exact hb.size, fun i hi => by rw [setRow_other w g i C (by omega)]; exact hb.block i hi⟩
theorem Obj?.cells {w : World} {b : Nat} {cs : Array Value} {t : TypeId} (h : Obj? w b cs t) : ∀ j, w.cell? ⟨b, j, none⟩ = cs[j]? := by
 intro j
 unfold Obj? at h
 simp [World.cell?, h]
theorem Obj?.froz {w : World} {b : Nat} {cs : Array Value} {t : TypeId} (h : Obj? w b cs t) : ∀ j, w.frozen? ⟨b, j, none⟩ = false := fun j => h.frozen j
theorem below_al {a w : World} (h : Below a.heap.size a w) (o : Obj) : Below a.heap.size a (w.alloc o) := h.alloc h.size o
theorem results_cell1 {fn : Func} {p : Tmp} {ty : TypeId} (h : fn.results = #[.cell p ty]) (tmps : Array Value) (P : Program) (w : World) :
  (results fn tmps).run P w = ((asAddr (tmps.getD p undef)).run P w).andThen fun a w₁ => (loadVar ty a).run P w₁ := by
 simp only [results, h]
 simp [Sem.run_bind, Result.andThen]
theorem results_row1 {P : Program} {fn : Func} {p : Tmp} {ty : TypeId} (h : fn.results = #[.cell p ty]) (tmps : Array Value) (w : World) (g : Nat) (t : TypeId) (cs : Array Value) (d : TypeDesc)
  (hp : tmps.getD p undef = .pointer (some ⟨g, 0, none⟩)) (hg : Obj? w g cs t)
  (hu : P.underlying ty = some d) (hd : (match d with | .struct _ | .array _ _ => true | _ => false) = true) (hi : (P.info? ty).map (·.size) = some cs.size) :
  (results fn tmps).run P w = .ok (.agg cs) w := by
 rw [results_cell1 h, hp]
 simp [asAddr, Result.andThen, run_loadVar_row w g t ty cs (0, 0) d hg hu hd hi]
theorem results_cell_tmp2 {fn : Func} {p u v : Tmp} {ty : TypeId} (h : fn.results = #[.cell p ty, .tmp u, .tmp v]) (tmps : Array Value) (P : Program) (w : World) :
  (results fn tmps).run P w =
   ((asAddr (tmps.getD p undef)).run P w).andThen fun a w₁ => ((loadVar ty a).run P w₁).andThen fun x w₂ => .ok (.tuple #[x, tmps.getD u undef, tmps.getD v undef]) w₂ := by
 simp only [results, h]
 simp [Sem.run_bind, Result.andThen]
theorem results_row_tmp2 {P : Program} {fn : Func} {p u v : Tmp} {ty : TypeId} (h : fn.results = #[.cell p ty, .tmp u, .tmp v]) (tmps : Array Value) (w : World) (g : Nat) (t : TypeId) (cs : Array Value) (d : TypeDesc)
  (hp : tmps.getD p undef = .pointer (some ⟨g, 0, none⟩)) (hg : Obj? w g cs t)
  (hu : P.underlying ty = some d) (hd : (match d with | .struct _ | .array _ _ => true | _ => false) = true) (hi : (P.info? ty).map (·.size) = some cs.size) :
  (results fn tmps).run P w = .ok (.tuple #[.agg cs, tmps.getD u undef, tmps.getD v undef]) w := by
 rw [results_cell_tmp2 h, hp]
 simp [asAddr, Result.andThen, run_loadVar_row w g t ty cs (0, 0) d hg hu hd hi]
end Go.Proofs.YtanofjmkkhocaaaGreatDoor
