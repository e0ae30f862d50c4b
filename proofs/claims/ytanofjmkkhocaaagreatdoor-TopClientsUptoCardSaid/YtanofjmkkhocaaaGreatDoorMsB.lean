/- snmsg: the codec that looks: number, text. snmsg: the codec that writes: number, text; worlds that keep all below but two blocks. snmsg: the codec that reads: number, text. snmsg: messages, the codec's cells, what a part does when it looks, writes, reads. -/
import Derived.Test.YtanofjmkkhocaaaGreatDoorSnA
import Derived.Lib.AppendStr
import Derived.Deep.RegionHeld3
import Derived.Deep.RegionLaw
import Derived.Test.YtanofjmkkhocaaaGreatDoorOctA
import Derived.Deep.RegionWith
set_option linter.unusedVariables false
set_option linter.unusedSimpArgs false
set_option maxRecDepth 100000
set_option maxHeartbeats 1600000
namespace Go.Proofs.YtanofjmkkhocaaaGreatDoor
open Go.RowKit
def lkNum (x : Int) (size : Nat) (bad : Bool) : Bool := bad || decide (x < 0) || decide ((256 : Int) ^ size ≤ x)
theorem grown_two {w : World} (b j i : Nat) (v u : Value) : w.grownBy (((w.setCell ⟨b, j, none⟩ v).setCell ⟨b, i, none⟩ u).drew) (some b) :=
 grown_drew (grown_set (grown_set (World.grownBy.refl w _) (p := ⟨b, j, none⟩) rfl v) (p := ⟨b, i, none⟩) rfl u)
theorem obj_drewM {w : World} {b : Nat} {cs : Array Value} {t : TypeId} (h : Obj? w b cs t) : Obj? w.drew b cs t := h
theorem number_look1 {w : World} {cb j : Nat} {cs : Array Value} {x : Int} {bad : Bool} (h : Obj? w cb cs 461) (h0 : cs[1]? = some (.int .i64 2)) (hj : cs[j]? = some (.int .i64 x)) (hb : cs[19]? = some (.bool bad)) (hj1 : j ≠ 19) :
  Calls Tryz.prog 435 #[.pointer (some ⟨cb, 0, none⟩), .pointer (some ⟨cb, j, none⟩), .int .i64 1] w fun e w' => e = .returned (.tuple #[]) ∧ Obj? w' cb ((cs.setIfInBounds 19 (.bool (lkNum x 1 bad))).setIfInBounds j (.int .i64 0)) 461 ∧ w.grownBy w' (some cb) := by
 have k1 := h.cell 1 _ h0
 have kj := h.cell j _ hj
 have k19 := h.cell 19 _ hb
 have kf := fun j => h.frozen j
 have HO := Lib.hid h
 clear h h0 hj hb
 rcases (by cases bad; exact (show (false = true) ∨ (false = false ∧ x < 0) ∨ (false = false ∧ 0 ≤ x ∧ 256 ≤ x) ∨ (false = false ∧ 0 ≤ x ∧ x < 256) by simp; omega); exact .inl rfl : bad = true ∨ (bad = false ∧ x < 0) ∨ (bad = false ∧ 0 ≤ x ∧ 256 ≤ x) ∨ (bad = false ∧ 0 ≤ x ∧ x < 256)) with rfl | ⟨rfl, hx⟩ | ⟨rfl, hx, hx2⟩ | ⟨rfl, hx, hx2⟩
 ·have HV := Lib.hid (show lkNum x 1 true = true by simp [lkNum])
  go_enter Tryz.func435, Tryz.ntmps435
  go_wp2_with fail
  go_region
  all_goals
   go_wp2
   go_end0
   exact ⟨rfl, by rw [HV.out]; exact obj_drewM (Obj?.set (HO.out.set 19 _) j _), grown_two cb 19 j _ _⟩
 ·have d1 : decide (x < 0) = true := by simpa using hx
  have HV := Lib.hid (show lkNum x 1 false = true by simp [lkNum, hx])
  go_enter Tryz.func435, Tryz.ntmps435
  go_wp2_with fail
  go_region
  all_goals
   go_wp2
   go_end0
   exact ⟨rfl, by rw [HV.out]; exact obj_drewM (Obj?.set (HO.out.set 19 _) j _), grown_two cb 19 j _ _⟩
 ·have d1 : decide (x < 0) = false := by simpa using hx
  have d2 : decide (256 ≤ x) = true := by simpa using hx2
  have HV := Lib.hid (show lkNum x 1 false = true by simp [lkNum, hx2])
  go_enter Tryz.func435, Tryz.ntmps435
  go_wp2_with fail
  go_region
  all_goals
   go_wp2
   go_end0
   exact ⟨rfl, by rw [HV.out]; exact obj_drewM (Obj?.set (HO.out.set 19 _) j _), grown_two cb 19 j _ _⟩
 ·have d1 : decide (x < 0) = false := by simpa using hx
  have d2 : decide (256 ≤ x) = false := by simpa using hx2
  have HV := Lib.hid (show lkNum x 1 false = false by simp [lkNum]; omega)
  go_enter Tryz.func435, Tryz.ntmps435
  go_wp2_with fail
  go_region
  all_goals
   go_wp2
   go_end0
   exact ⟨rfl, by rw [HV.out]; exact obj_drewM (Obj?.set (HO.out.set 19 _) j _), grown_two cb 19 j _ _⟩
theorem number_look2 {w : World} {cb j : Nat} {cs : Array Value} {x : Int} {bad : Bool} (h : Obj? w cb cs 461) (h0 : cs[1]? = some (.int .i64 2)) (hj : cs[j]? = some (.int .i64 x)) (hb : cs[19]? = some (.bool bad)) (hj1 : j ≠ 19) :
  Calls Tryz.prog 435 #[.pointer (some ⟨cb, 0, none⟩), .pointer (some ⟨cb, j, none⟩), .int .i64 2] w fun e w' => e = .returned (.tuple #[]) ∧ Obj? w' cb ((cs.setIfInBounds 19 (.bool (lkNum x 2 bad))).setIfInBounds j (.int .i64 0)) 461 ∧ w.grownBy w' (some cb) := by
 have k1 := h.cell 1 _ h0
 have kj := h.cell j _ hj
 have k19 := h.cell 19 _ hb
 have kf := fun j => h.frozen j
 have HO := Lib.hid h
 clear h h0 hj hb
 rcases (by cases bad; exact (show (false = true) ∨ (false = false ∧ x < 0) ∨ (false = false ∧ 0 ≤ x ∧ 65536 ≤ x) ∨ (false = false ∧ 0 ≤ x ∧ x < 65536) by simp; omega); exact .inl rfl : bad = true ∨ (bad = false ∧ x < 0) ∨ (bad = false ∧ 0 ≤ x ∧ 65536 ≤ x) ∨ (bad = false ∧ 0 ≤ x ∧ x < 65536)) with rfl | ⟨rfl, hx⟩ | ⟨rfl, hx, hx2⟩ | ⟨rfl, hx, hx2⟩
 ·have HV := Lib.hid (show lkNum x 2 true = true by simp [lkNum])
  go_enter Tryz.func435, Tryz.ntmps435
  go_wp2_with fail
  go_region
  all_goals
   go_wp2
   go_end0
   exact ⟨rfl, by rw [HV.out]; exact obj_drewM (Obj?.set (HO.out.set 19 _) j _), grown_two cb 19 j _ _⟩
 ·have d1 : decide (x < 0) = true := by simpa using hx
  have HV := Lib.hid (show lkNum x 2 false = true by simp [lkNum, hx])
  go_enter Tryz.func435, Tryz.ntmps435
  go_wp2_with fail
  go_region
  all_goals
   go_wp2
   go_end0
   exact ⟨rfl, by rw [HV.out]; exact obj_drewM (Obj?.set (HO.out.set 19 _) j _), grown_two cb 19 j _ _⟩
 ·have d1 : decide (x < 0) = false := by simpa using hx
  have d2 : decide (65536 ≤ x) = true := by simpa using hx2
  have HV := Lib.hid (show lkNum x 2 false = true by simp [lkNum, hx2])
  go_enter Tryz.func435, Tryz.ntmps435
  go_wp2_with fail
  go_region
  all_goals
   go_wp2
   go_end0
   exact ⟨rfl, by rw [HV.out]; exact obj_drewM (Obj?.set (HO.out.set 19 _) j _), grown_two cb 19 j _ _⟩
 ·have d1 : decide (x < 0) = false := by simpa using hx
  have d2 : decide (65536 ≤ x) = false := by simpa using hx2
  have HV := Lib.hid (show lkNum x 2 false = false by simp [lkNum]; omega)
  go_enter Tryz.func435, Tryz.ntmps435
  go_wp2_with fail
  go_region
  all_goals
   go_wp2
   go_end0
   exact ⟨rfl, by rw [HV.out]; exact obj_drewM (Obj?.set (HO.out.set 19 _) j _), grown_two cb 19 j _ _⟩
theorem text_look {w : World} {cb j : Nat} {cs : Array Value} {x : ByteArray} (h : Obj? w cb cs 461) (h0 : cs[1]? = some (.int .i64 2)) (hj : cs[j]? = some (.string x)) :
  Calls Tryz.prog 436 #[.pointer (some ⟨cb, 0, none⟩), .pointer (some ⟨cb, j, none⟩)] w fun e w' => e = .returned (.tuple #[]) ∧ Obj? w' cb (cs.setIfInBounds j (.string ⟨#[]⟩)) 461 ∧ w.grownBy w' (some cb) := by
 have k1 := h.cell 1 _ h0
 have kj := h.cell j _ hj
 have kf := fun j => h.frozen j
 have HO := Lib.hid h
 clear h h0 hj
 go_enter Tryz.func436, Tryz.ntmps436
 go_wp2
 go_end0
 exact ⟨rfl, HO.out.set j _, grown_set (World.grownBy.refl w _) (p := ⟨cb, j, none⟩) rfl _⟩
end Go.Proofs.YtanofjmkkhocaaaGreatDoor
namespace Go.Proofs.YtanofjmkkhocaaaGreatDoor
open Go.RowKit
structure Kp (B c d : Nat) (w w' : World) : Prop where
 os : w'.os = w.os
 tape : w'.tape = w.tape
 output : w'.output = w.output
 size : w.heap.size ≤ w'.heap.size
 block : ∀ i, i < B → i ≠ c → i ≠ d → w'.heap[i]? = w.heap[i]?
theorem Kp.refl (B c d : Nat) (w : World) : Kp B c d w w := ⟨rfl, rfl, rfl, Nat.le_refl _, fun _ _ _ _ => rfl⟩
theorem Kp.trans {B c d : Nat} {a b e : World} (h : Kp B c d a b) (k : Kp B c d b e) : Kp B c d a e :=
 ⟨k.os.trans h.os, k.tape.trans h.tape, k.output.trans h.output, Nat.le_trans h.size k.size, fun i hi h1 h2 => (k.block i hi h1 h2).trans (h.block i hi h1 h2)⟩
theorem Kp.of_grown {B c d g : Nat} {a b : World} (h : a.grownBy b (some g)) (hB : B ≤ a.heap.size) (hg : g = c ∨ g = d ∨ B ≤ g) : Kp B c d a b :=
 ⟨h.os, h.tape, h.output, h.size, fun i hi h1 h2 => h.block i (Nat.lt_of_lt_of_le hi hB) (fun e => by cases e; rcases hg with rfl | rfl | hg; exact h1 rfl; exact h2 rfl; omega)⟩
theorem Kp.of_row {B c d : Nat} {a b : World} {row : Option Nat} (h : a.grownBy b row) (hB : B ≤ a.heap.size) (hg : ∀ g, row = some g → B ≤ g) : Kp B c d a b :=
 ⟨h.os, h.tape, h.output, h.size, fun i hi h1 h2 => h.block i (Nat.lt_of_lt_of_le hi hB) (fun e => by have := hg i e.symm; omega)⟩
theorem Kp.of_below {B c d : Nat} {a b : World} (h : Below a.heap.size a b) (hB : B ≤ a.heap.size) : Kp B c d a b :=
 ⟨h.os, h.tape, h.output, h.size, fun i hi _ _ => h.block i (Nat.lt_of_lt_of_le hi hB)⟩
theorem Kp.drew {B c d : Nat} {a b : World} (h : Kp B c d a b) : Kp B c d a b.drew := ⟨h.os, h.tape, h.output, h.size, h.block⟩
theorem Kp.set {B c d : Nat} {a b : World} (h : Kp B c d a b) {j : Nat} {v : Value} {g : Nat} (hg : g = c ∨ g = d ∨ B ≤ g) : Kp B c d a (b.setCell ⟨g, j, none⟩ v) :=
 ⟨h.os, h.tape, h.output, by simpa [World.setCell] using h.size, fun i hi h1 h2 => (Below.heap_setCell b ⟨g, j, none⟩ v i (fun e => by rcases hg with rfl | rfl | hg; exact h1 e; exact h2 e; have : i = g := e; omega)).trans (h.block i hi h1 h2)⟩
theorem Kp.alloc {B c d : Nat} {a b : World} (h : Kp B c d a b) (hB : B ≤ a.heap.size) (o : Obj) : Kp B c d a (b.alloc o) :=
 h.trans (Kp.of_row (row := none) (World.grownBy_alloc b o none) (Nat.le_trans hB h.size) (fun g e => by cases e))
theorem Kp.obj {B c d : Nat} {a b : World} (h : Kp B c d a b) {g : Nat} {cs : Array Value} {t : TypeId} (O : Obj? a g cs t) (hg : g < B) (h1 : g ≠ c) (h2 : g ≠ d) : Obj? b g cs t := by
 have := h.block g hg h1 h2
 unfold Obj? at *
 rw [this]; exact O
theorem Kp.to_below {B c d : Nat} {a b : World} (h : Kp B c d a b) {A : Nat} (hc : A ≤ c) (hd : A ≤ d) (hB : A ≤ B) : Below A a b :=
 ⟨h.os, h.tape, h.output, h.size, fun i hi => h.block i (by omega) (by omega) (by omega)⟩
def u8sM (l : List UInt8) : List Value := l.map fun b => Value.int .u8 b.toNat
theorem strCells_u8s (l : List UInt8) : Lib.strCells ⟨l.toArray⟩ = u8sM l := by simp [Lib.strCells, u8sM]
theorem u8s_app (a b : List UInt8) : u8sM a ++ u8sM b = u8sM (a ++ b) := by simp [u8sM]
theorem step_append_string {P : Program} {w : World} {ops : Array Oper} {o : Oper} {a : Act} {K : Act → World → Prop} {Q : Exit → Act → World → Prop} {E : Prop} (hgd : o.guard = none) (sl x : Operand) (t u : TypeId)
  (ho : o.op = .call { callee := .builtin .append, args := #[sl, x], argTypes := #[t, u] })
  (base : Nat) (e : TypeId) (i : TypeInfo) (ht : P.underlying t = some (.slice e)) (hu : P.underlying u = some .string) (hi : P.info? e = some i) (hz : i.zero = some (.int .u8 0))
  (hsize : i.size = 1) (hby : i.bytes = 1)
  (v : Value) (n : Nat) (xs : List Value) (hs : a.eval sl = v) (hown : w.ownsRow base e 1 v n xs) (s : ByteArray) (hx : a.eval x = .string s)
  (h63 : n + s.size ≤ maxLen) (hbytes : n + s.size ≤ 140737488355328) (hbase : base ≤ w.heap.size)
  (h : ∀ v' w', w'.ownsRow base e 1 v' (n + s.size) (xs ++ Lib.strCells s) → w.grownBy w' v.ownBlock → K (a.put o.dst v') w') :
  if Region.wanted o (yielded ops a.tmps) = true then Oper.wp P o a w K Q else E := by
 have hw : Region.wanted o (yielded ops a.tmps) = true := by simp [Region.wanted, hgd]
 rw [if_pos hw]
 obtain ⟨v', w', hr, h2, h3, h4⟩ := Lib.run_append_own_string (P := P) (w := w) base t u o.type e i ht hu hi hz hsize hby v n xs hown s h63 hbytes hbase
 unfold Oper.wp execOp
 simp only [ho, resolve, invoke, builtin, Sem.run_bind, Sem.run_pure, Result.andThen_ok, List.map_toArray, List.map_cons, List.map_nil, hs, hx, hr]
 exact h v' w' h2 h3
theorem infoU8 : (Tryz.prog.info? 5).map (fun i => (i.zero, i.size, i.bytes)) = some (some (.int .u8 0), 1, 1) := by kernel_rfl
theorem own_set_other {w : World} {base n c j : Nat} {e : TypeId} {v u : Value} {xs : List Value} (h : w.ownsRow base e 1 v n xs) (hc : c < base) : (w.setCell ⟨c, j, none⟩ u).ownsRow base e 1 v n xs :=
 h.kept (grown_set (World.grownBy.refl w (some c)) (p := ⟨c, j, none⟩) rfl u) (.inr fun e => by have := (h.lt c e).1; omega)
def NwS (cb pb pj B : Nat) (cs : Array Value) (v : Value) (x : Int) (w W : World) : Prop :=
 W.cell? ⟨cb, 18, none⟩ = some v ∧ W.cell? ⟨pb, pj, none⟩ = some (.int .i64 x) ∧ W.frozen? ⟨cb, 18, none⟩ = false ∧ Hid (Obj? W cb cs 461 ∧ Kp B cb cb w W ∧ pb < W.heap.size ∧ cb < W.heap.size)
theorem nwS_drew {cb pb pj B : Nat} {cs : Array Value} {v : Value} {x : Int} {w W : World} (h : NwS cb pb pj B cs v x w W) : NwS cb pb pj B cs v x w W.drew := by
 obtain ⟨h1, h2, h3, ho, hk, hp, hc⟩ := h
 exact ⟨h1, h2, h3, Lib.hid ⟨ho, hk.drew, hp, hc⟩⟩
theorem own_below {w w' : World} {base n : Nat} {e : TypeId} {v : Value} {xs : List Value} (hb : Below w.heap.size w w') (h : w.ownsRow base e 1 v n xs) : w'.ownsRow base e 1 v n xs :=
 h.kept (grown_below hb none) (by cases hv : v.ownBlock <;> simp)
theorem nwS_below {cb pb pj B : Nat} {cs : Array Value} {v : Value} {x : Int} {w W W' : World} (hb : Below W.heap.size W W') (hB : B ≤ W.heap.size) (h : NwS cb pb pj B cs v x w W) : NwS cb pb pj B cs v x w W' := by
 obtain ⟨h1, h2, h3, ho, hk, hp, hc⟩ := h
 exact ⟨(hb.cell (p := ⟨cb, 18, none⟩) hc).trans h1, (hb.cell (p := ⟨pb, pj, none⟩) hp).trans h2, (hb.frozen (p := ⟨cb, 18, none⟩) hc).trans h3, Lib.hid ⟨ho.below hb hc, hk.trans (Kp.of_below hb hB), Nat.lt_of_lt_of_le hp hb.size, Nat.lt_of_lt_of_le hc hb.size⟩⟩
theorem nwS_row {cb pb pj B : Nat} {cs : Array Value} {v : Value} {x : Int} {w W W' : World} {row : Option Nat} (hg : W.grownBy W' row) (hB : B ≤ W.heap.size) (h : NwS cb pb pj B cs v x w W) (hr : ∀ g, row = some g → B ≤ g) (hcB : cb < B) (hpB : pb < B ∨ ∀ g, row = some g → g ≠ pb) : NwS cb pb pj B cs v x w W' := by
 obtain ⟨h1, h2, h3, ho, hk, hp, hc⟩ := h
 have e1 := hg.block cb hc (fun e => by have := hr cb e.symm; omega)
 have e2 := hg.block pb hp (fun e => by rcases hpB with hpB | hpB; have := hr pb e.symm; omega; exact hpB pb e.symm rfl)
 refine ⟨?_, ?_, ?_, Lib.hid ⟨?_, hk.trans (Kp.of_row hg hB hr), Nat.lt_of_lt_of_le hp hg.size, Nat.lt_of_lt_of_le hc hg.size⟩⟩
 ·rw [← h1]; unfold World.cell?; rw [e1]
 ·rw [← h2]; unfold World.cell?; rw [e2]
 ·rw [← h3]; unfold World.frozen?; rw [e1]
 ·unfold Obj? at *; rw [e1]; exact ho
theorem number_write {w : World} {cb pb pj B n : Nat} {cs : Array Value} {x size : Int} {v : Value} {out : List UInt8} (h : Obj? w cb cs 461) (h0 : cs[1]? = some (.int .i64 1)) (h18 : cs[18]? = some v) (hp : w.cell? ⟨pb, pj, none⟩ = some (.int .i64 x)) (hpb : pb < w.heap.size)
  (hx : 0 ≤ x) (hx2 : x ≤ 4611686018427387904) (hs : size = 1 ∨ size = 2) (hown : w.ownsRow B 5 1 v n (u8sM out)) (hn : (n : Int) ≤ 100000000) (hcB : cb < B) (hB : B ≤ w.heap.size) (hpB : pb < B ∨ ∀ g, v.ownBlock = some g → g ≠ pb) :
  Calls Tryz.prog 435 #[.pointer (some ⟨cb, 0, none⟩), .pointer (some ⟨pb, pj, none⟩), .int .i64 size] w fun e w' => e = .returned (.tuple #[]) ∧ ∃ v', Obj? w' cb (cs.setIfInBounds 18 v') 461 ∧ w'.ownsRow B 5 1 v' (n + size.toNat) (u8sM (out ++ putL x size)) ∧ Kp B cb cb w w' := by
 have k1 := h.cell 1 _ h0
 have k18 := h.cell 18 _ h18
 have kf := fun j => h.frozen j
 have hu : IntKind.u64.wrap x = x := wraps_u64 _ hx (by omega)
 have hlt := h.lt
 have HO := Lib.hid h
 have hvB : ∀ g, v.ownBlock = some g → B ≤ g := fun g e => (hown.lt g e).1
 have HW := Lib.hid hown
 have HU := Lib.hid hu
 clear h h0 h18 hown hu
 obtain ⟨i0, hi, hz0, hz1, hz2⟩ := info_parts infoU8
 have HI := Lib.hid (And.intro hi (And.intro hz0 (And.intro hz1 hz2)))
 clear hi hz0 hz1 hz2
 have HP := Lib.hid (fun W => by have := put_any x size W; rw [← HU.out] at this; exact this)
 have hL : ((putL (IntKind.u64.wrap x) size).length : Int) = size := by rw [length_putL]; rcases hs with rfl | rfl <;> rfl
 have hLn : (putL (IntKind.u64.wrap x) size).length = size.toNat := by omega
 have hsz : (0 : Int) ≤ size ∧ size ≤ 2 := by omega
 have HLn := Lib.hid hLn
 clear hL hLn
 have S0 : NwS cb pb pj B cs v x w w := ⟨k18, hp, kf 18, Lib.hid ⟨HO.out, Kp.refl B cb cb w, hpb, hlt⟩⟩
 have W0 : w.ownsRow B 5 1 v n (u8sM out) := HW.out
 obtain ⟨hi, hz0, hz1, hz2⟩ := HI.out
 go_enter Tryz.func435, Tryz.ntmps435
 go_wp2_with fail
 go_region_law ((first
    | (go_simp; go_at_call 235; ((with_reducible refine (HP.out _).mono ?_); (rintro e w' ⟨rfl, hb⟩; have hS := nwS_below hb hB (by first | assumption | exact S0 | exact nwS_drew S0); have hB' := Nat.le_trans hB hb.size; have W1 := own_below hb W0; obtain ⟨q1, q2, q3, q4⟩ := hS)))
    | (refine step_append_string rfl _ _ _ _ rfl B 5 i0 Tryz.underlying133 Tryz.underlying9 hi hz0 hz1 hz2 v n (u8sM out) (by rfl) (by assumption) _ (by rfl) (by show n + (putL (IntKind.u64.wrap x) size).length ≤ _; rw [HLn.out]; unfold maxLen; omega) (by show n + (putL (IntKind.u64.wrap x) size).length ≤ _; rw [HLn.out]; omega) (by omega) ?_; intro v' w2 hown2 hgrow2; obtain ⟨a2, c2, rfl⟩ := owns_shape (by decide) hown2; have hS2 := nwS_row hgrow2 (by omega) (show NwS cb pb pj B cs v x w _ from ⟨by assumption, by assumption, by assumption, by assumption⟩) hvB hcB hpB; obtain ⟨r1, r2, r3, r4⟩ := hS2)))
 all_goals
  go_wp2
  go_end0
  refine ⟨rfl, _, Obj?.set r4.out.1 18 _, ?_, r4.out.2.1.set (.inl rfl)⟩
  have e1 : n + (ByteArray.mk (putL (IntKind.u64.wrap x) size).toArray).size = n + size.toNat := congrArg (n + ·) HLn.out
  rw [strCells_u8s, u8s_app, e1, HU.out] at hown2
  have e2 : (putL (IntKind.u64.wrap x) size).length = size.toNat := HLn.out
  rw [e2]
  exact own_set_other hown2 hcB
theorem text_write {w : World} {cb pj B n : Nat} {cs : Array Value} {v : Value} {out s : List UInt8} (h : Obj? w cb cs 461) (h0 : cs[1]? = some (.int .i64 1)) (h18 : cs[18]? = some v) (hp : cs[pj]? = some (.string ⟨s.toArray⟩))
  (hown : w.ownsRow B 5 1 v n (u8sM out)) (hn : (n : Int) ≤ 100000000) (hs : (s.length : Int) ≤ 100000000) (hcB : cb < B) (hB : B ≤ w.heap.size) :
  Calls Tryz.prog 436 #[.pointer (some ⟨cb, 0, none⟩), .pointer (some ⟨cb, pj, none⟩)] w fun e w' => e = .returned (.tuple #[]) ∧ ∃ v', Obj? w' cb (cs.setIfInBounds 18 v') 461 ∧ w'.ownsRow B 5 1 v' (n + s.length) (u8sM (out ++ s)) ∧ Kp B cb cb w w' := by
 have k1 := h.cell 1 _ h0
 have k18 := h.cell 18 _ h18
 have kp := h.cell pj _ hp
 have kf := fun j => h.frozen j
 have hlt := h.lt
 have HO := Lib.hid h
 have hvB : ∀ g, v.ownBlock = some g → B ≤ g := fun g e => (hown.lt g e).1
 have HW := Lib.hid hown
 have H18 := Lib.hid h18
 clear h h0 h18 hown hp
 obtain ⟨i0, hi, hz0, hz1, hz2⟩ := info_parts infoU8
 have W0 : w.ownsRow B 5 1 v n (u8sM out) := HW.out
 go_enter Tryz.func436, Tryz.ntmps436
 go_wp2_with fail
 go_region_law ((refine step_append_string rfl _ _ _ _ rfl B 5 i0 Tryz.underlying133 Tryz.underlying9 hi hz0 hz1 hz2 v n (u8sM out) (by rfl) (show World.ownsRow _ _ _ _ _ _ _ from W0) ⟨s.toArray⟩ (by rfl) (by show n + s.length ≤ _; unfold maxLen; omega) (by show n + s.length ≤ _; omega) hB ?_; intro v' w2 hown2 hgrow2; obtain ⟨a2, c2, rfl⟩ := owns_shape (by decide) hown2; have r1 := Kp.of_row (B := B) (c := cb) (d := cb) hgrow2 hB hvB; have r2 : Obj? w2 cb cs 461 := Obj?.kept (w := w.drew) HO.out hgrow2 (fun e => by have := hvB cb e; omega); have r3 := r2.frozen 18; have r5 := r2.cell 18 _ H18.out))
 all_goals
  go_wp2
  go_end0
  refine ⟨rfl, _, Obj?.set r2 18 _, ?_, ((Kp.refl B cb cb w).drew.trans r1).set (.inl rfl)⟩
  rw [strCells_u8s, u8s_app] at hown2
  exact own_set_other hown2 hcB
end Go.Proofs.YtanofjmkkhocaaaGreatDoor
namespace Go.Proofs.YtanofjmkkhocaaaGreatDoor
open Go.RowKit
theorem getL_two (l : List UInt8) (h : l.length ≤ 2) : 0 ≤ getL l ∧ getL l ≤ 65535 := by
 have e : getL l = getB l := by unfold getL; rw [show l.length - 8 = 0 by omega]; rfl
 rw [e]
 match l, h with
 | [], _ => simp [getB]
 | [a], _ => have := a.toNat_lt; simp [getB]; omega
 | [a, b], _ => have := a.toNat_lt; have := b.toNat_lt; simp [getB]; omega
theorem takeS_len (t : List UInt8) (i : Nat) (e n : Int) : (takeS t i e n).length ≤ n.toNat := by
 unfold takeS; split <;> simp; omega
theorem number_read {w : World} {cb cu j i B : Nat} {cs : Array Value} {x size e : Int} {t : List UInt8} (h : Obj? w cb cs 461) (h0 : cs[0]? = some (.pointer (some ⟨cu, 0, none⟩))) (h1 : cs[1]? = some (.int .i64 0)) (hj : cs[j]? = some (.int .i64 x))
  (C : Cur w cu t i e) (hne : cu ≠ cb) (hi : i ≤ t.length) (ht : (t.length : Int) ≤ 9223372036854775807) (hs : size = 1 ∨ size = 2) (hB : B ≤ w.heap.size) :
  Calls Tryz.prog 435 #[.pointer (some ⟨cb, 0, none⟩), .pointer (some ⟨cb, j, none⟩), .int .i64 size] w fun r w' => r = .returned (.tuple #[]) ∧ Obj? w' cb (cs.setIfInBounds j (.int .i64 (getL (takeS t i e size)))) 461 ∧ Cur w' cu t (takeI t i e size) (takeE t i e size) ∧ Kp B cb cu w w' := by
 have k0 := h.cell 0 _ h0
 have k1 := h.cell 1 _ h1
 have kj := h.cell j _ hj
 have kf := fun j => h.frozen j
 have hgl := getL_two (takeS t i e size) (by have := takeS_len t i e size; omega)
 obtain ⟨g, hg⟩ : ∃ g, g = getL (takeS t i e size) := ⟨_, rfl⟩
 rw [← hg] at hgl ⊢
 have hw : IntKind.i64.wrap g = g := by rw [IntKind.wrap_i64]; omega
 have HG := Lib.hid hg
 have HO := Lib.hid h
 have HJ := Lib.hid hj
 have HC := Lib.hid C
 clear h h0 h1 hj hg C
 go_enter Tryz.func435, Tryz.ntmps435
 go_wp2_with fail
 refine (number_any HC.out size hi ht).mono ?_
 rintro r w1 ⟨rfl, hc, hgr⟩
 rw [← HG.out]
 have O1 := HO.out.kept hgr (by simp; exact hne)
 have k2 := O1.cell j _ HJ.out
 have kf2 := fun j => O1.frozen j
 have HC1 := Lib.hid hc
 have HO1 := Lib.hid O1
 have HK := Lib.hid hgr
 clear O1 hc hgr k0 k1 kj kf
 go_wp2
 go_end0
 refine ⟨rfl, HO1.out.set j _, Cur.kept HC1.out (row := some cb) (grown_set (World.grownBy.refl _ _) (p := ⟨cb, j, none⟩) rfl _) (by simp; exact Ne.symm hne), ?_⟩
 exact (Kp.of_grown (B := B) (c := cb) (d := cu) HK.out hB (.inr (.inl rfl))).set (.inl rfl)
theorem number_read_var {w : World} {cb cu nb i B : Nat} {cs : Array Value} {x size e : Int} {t : List UInt8} {T : TypeId} (h : Obj? w cb cs 461) (h0 : cs[0]? = some (.pointer (some ⟨cu, 0, none⟩))) (h1 : cs[1]? = some (.int .i64 0)) (hn : Obj? w nb #[.int .i64 x] T)
  (C : Cur w cu t i e) (hne : cu ≠ cb) (hnc : nb ≠ cb) (hnu : nb ≠ cu) (hi : i ≤ t.length) (ht : (t.length : Int) ≤ 9223372036854775807) (hs : size = 1 ∨ size = 2) (hB : B ≤ w.heap.size) (hnB : B ≤ nb) :
  Calls Tryz.prog 435 #[.pointer (some ⟨cb, 0, none⟩), .pointer (some ⟨nb, 0, none⟩), .int .i64 size] w fun r w' => r = .returned (.tuple #[]) ∧ Obj? w' cb cs 461 ∧ Obj? w' nb #[.int .i64 (getL (takeS t i e size))] T ∧ Cur w' cu t (takeI t i e size) (takeE t i e size) ∧ Kp B cb cu w w' := by
 have k0 := h.cell 0 _ h0
 have k1 := h.cell 1 _ h1
 have kj := hn.cell 0 _ rfl
 have kf := hn.frozen 0
 have hgl := getL_two (takeS t i e size) (by have := takeS_len t i e size; omega)
 obtain ⟨g, hg⟩ : ∃ g, g = getL (takeS t i e size) := ⟨_, rfl⟩
 rw [← hg] at hgl ⊢
 have hw : IntKind.i64.wrap g = g := by rw [IntKind.wrap_i64]; omega
 have HG := Lib.hid hg
 have HO := Lib.hid h
 have HN := Lib.hid hn
 have HC := Lib.hid C
 clear h h0 h1 hn hg C
 go_enter Tryz.func435, Tryz.ntmps435
 go_wp2_with fail
 refine (number_any HC.out size hi ht).mono ?_
 rintro r w1 ⟨rfl, hc, hgr⟩
 rw [← HG.out]
 have O1 := HO.out.kept hgr (by simp; exact hne)
 have N1 := HN.out.kept hgr (by simp; exact Ne.symm hnu)
 have k2 := N1.cell 0 _ rfl
 have kf2 := N1.frozen 0
 have HC1 := Lib.hid hc
 have HO1 := Lib.hid (And.intro O1 N1)
 have HK := Lib.hid hgr
 clear O1 N1 hc hgr k0 k1 kj kf
 go_wp2
 go_end0
 have hgs := grown_set (World.grownBy.refl w1 (some nb)) (p := ⟨nb, 0, none⟩) rfl (.int .i64 g)
 refine ⟨rfl, HO1.out.1.kept hgs (by simp; exact hnc), HO1.out.2.set 0 _, Cur.kept HC1.out hgs (by simp; exact hnu), ?_⟩
 exact (Kp.of_grown (B := B) (c := cb) (d := cu) HK.out hB (.inr (.inl rfl))).set (.inr (.inr hnB))
theorem obj_kept2 {w w' : World} {row : Option Nat} {b : Nat} {cs : Array Value} {t : TypeId} (hg : w.grownBy w' row) (hne : row ≠ some b) (h : Obj? w b cs t) : Obj? w' b cs t := h.kept hg hne
theorem takeS_rest (t : List UInt8) (i : Nat) (e : Int) (hi : i ≤ t.length) : takeS t i e ((t.length - i : Nat) : Int) = if e = 0 then t.drop i else [] := by
 unfold takeS
 have hb : hasB t i ((t.length - i : Nat) : Int) = true := by unfold hasB; simp; omega
 rw [hb]
 by_cases he : e = 0
 ·simp [he]; exact List.take_of_length_le (by simp)
 ·simp [he]
theorem takeI_rest (t : List UInt8) (i : Nat) (e : Int) (hi : i ≤ t.length) : takeI t i e ((t.length - i : Nat) : Int) = if e = 0 then t.length else i := by
 unfold takeI
 have hb : hasB t i ((t.length - i : Nat) : Int) = true := by unfold hasB; simp; omega
 rw [hb]
 by_cases he : e = 0
 ·simp [he]; omega
 ·simp [he]
theorem takeE_rest (t : List UInt8) (i : Nat) (e : Int) (hi : i ≤ t.length) : takeE t i e ((t.length - i : Nat) : Int) = e := by
 unfold takeE
 have hb : hasB t i ((t.length - i : Nat) : Int) = true := by unfold hasB; simp; omega
 rw [hb]; simp
theorem text_read {w : World} {cb cu j i B : Nat} {cs : Array Value} {s : ByteArray} {e : Int} {t : List UInt8} (h : Obj? w cb cs 461) (h0 : cs[0]? = some (.pointer (some ⟨cu, 0, none⟩))) (h1 : cs[1]? = some (.int .i64 0)) (hj : cs[j]? = some (.string s))
  (C : Cur w cu t i e) (hne : cu ≠ cb) (hi : i ≤ t.length) (ht : (t.length : Int) ≤ 9223372036854775807) (hB : B ≤ w.heap.size) :
  Calls Tryz.prog 436 #[.pointer (some ⟨cb, 0, none⟩), .pointer (some ⟨cb, j, none⟩)] w fun r w' => r = .returned (.tuple #[]) ∧ Obj? w' cb (cs.setIfInBounds j (.string ⟨(if e = 0 then t.drop i else []).toArray⟩)) 461 ∧ Cur w' cu t (if e = 0 then t.length else i) e ∧ Kp B cb cu w w' := by
 have k0 := h.cell 0 _ h0
 have k1 := h.cell 1 _ h1
 have kj := h.cell j _ hj
 have kf := fun j => h.frozen j
 obtain ⟨S, hS⟩ : ∃ S, S = (if e = 0 then t.drop i else []) := ⟨_, rfl⟩
 obtain ⟨I, hI⟩ : ∃ I, I = (if e = 0 then t.length else i) := ⟨_, rfl⟩
 have HE := Lib.hid (And.intro ((takeS_rest t i e hi).trans hS.symm) (And.intro ((takeI_rest t i e hi).trans hI.symm) (takeE_rest t i e hi)))
 rw [← hS, ← hI]
 clear hS hI
 have HO := Lib.hid h
 have HJ := Lib.hid hj
 have HC := Lib.hid C
 clear h h0 h1 hj C
 go_enter Tryz.func436, Tryz.ntmps436
 go_wp2_with fail
 go_region_with ((first
   | (go_at_call 121; refine (left_any (e := e) ?_ hi ht).mono ?_; exact HC.out; rintro r w' ⟨rfl, k, rfl⟩)
   | (go_at_call 122; refine (take_any (e := e) ?_ _ hi ht).mono ?_; exact HC.out; rintro r w1 ⟨rfl, hc, hgr⟩; rw [HE.out.1]; rw [HE.out.2.1, HE.out.2.2] at hc; have O1 := obj_kept2 hgr (by simp; exact hne) HO.out; have k2 := O1.cell j _ HJ.out; have kf2 := fun j => O1.frozen j)))
 all_goals
  go_wp2
  go_end0
  refine ⟨rfl, O1.set j _, Cur.kept hc (grown_set (World.grownBy.refl w1 (some cb)) (p := ⟨cb, j, none⟩) rfl _) (by simp; exact Ne.symm hne), ?_⟩
  have hgw : w.grownBy w1 (some cu) := ⟨hgr.os, hgr.tape, hgr.output, hgr.size, hgr.block⟩
  exact (Kp.of_grown (B := B) (c := cb) (d := cu) hgw hB (.inr (.inl rfl))).set (.inl rfl)
end Go.Proofs.YtanofjmkkhocaaaGreatDoor
namespace Go.Proofs.YtanofjmkkhocaaaGreatDoor
open Go.RowKit
structure Ms where
 ty : Int
 fl : Fl
 gw : Int
 rad : Int
 time : Int
 timed : Bool
 tid : Int
 mid : Int
 code : Int
 name : List UInt8
 data : List UInt8
def Ms.cs (m : Ms) : Array Value := #[.int .i64 m.ty, .bool m.fl.dup, .int .i64 m.fl.q, .bool m.fl.retain, .bool m.fl.will, .bool m.fl.clean, .int .i64 m.fl.typ, .int .i64 m.gw, .int .i64 m.rad, .int .i64 m.time, .bool m.timed, .int .i64 m.tid, .int .i64 m.mid, .int .i64 m.code, .string ⟨m.name.toArray⟩, .string ⟨m.data.toArray⟩]
def cdC (cur : Value) (md : Int) (m : Ms) (out : Value) (bad : Bool) : Array Value := #[cur, .int .i64 md, .int .i64 m.ty, .bool m.fl.dup, .int .i64 m.fl.q, .bool m.fl.retain, .bool m.fl.will, .bool m.fl.clean, .int .i64 m.fl.typ, .int .i64 m.gw, .int .i64 m.rad, .int .i64 m.time, .bool m.timed, .int .i64 m.tid, .int .i64 m.mid, .int .i64 m.code, .string ⟨m.name.toArray⟩, .string ⟨m.data.toArray⟩, out, .bool bad]
inductive Pt
 | gateway | radius | code | time | id | msg | name | data | flags | protocol | will | topic | duration
def Pt.fn : Pt → FuncId
 | .gateway => 422
 | .radius => 424
 | .code => 428
 | .time => 423
 | .id => 431
 | .msg => 432
 | .name => 425
 | .data => 430
 | .flags => 426
 | .protocol => 427
 | .will => 429
 | .topic => 433
 | .duration => 434
def layoutF (k : Int) : List Pt :=
 if k = 0 then [.gateway, .time] else if k = 1 then [.radius] else if k = 2 then [.gateway, .name] else if k = 4 then [.flags, .protocol, .time, .name]
 else if k = 5 ∨ k = 27 ∨ k = 29 then [.code] else if k = 7 ∨ k = 26 then [.will] else if k = 9 ∨ k = 28 then [.data] else if k = 10 then [.id, .msg, .name]
 else if k = 11 ∨ k = 13 then [.id, .msg, .code] else if k = 12 then [.flags, .id, .msg, .data] else if k = 14 ∨ k = 15 ∨ k = 16 ∨ k = 21 then [.msg]
 else if k = 18 ∨ k = 20 then [.flags, .msg, .topic] else if k = 19 then [.flags, .id, .msg, .code] else if k = 22 then [.name] else if k = 24 then [.duration] else []
def lookP (p : Pt) (s : Ms × Bool) : Ms × Bool :=
 match p with
 | .gateway => ({ s.1 with gw := 0 }, lkNum s.1.gw 1 s.2)
 | .radius => ({ s.1 with rad := 0 }, lkNum s.1.rad 1 s.2)
 | .code => ({ s.1 with code := 0 }, lkNum s.1.code 1 s.2)
 | .time => ({ s.1 with time := 0 }, lkNum s.1.time 2 s.2)
 | .id => ({ s.1 with tid := 0 }, lkNum s.1.tid 2 s.2)
 | .msg => ({ s.1 with mid := 0 }, lkNum s.1.mid 2 s.2)
 | .name => ({ s.1 with name := [] }, s.2)
 | .data => ({ s.1 with data := [] }, s.2)
 | .flags => s
 | .protocol => s
 | .will => if s.1.name = [] then s else ({ s.1 with name := [] }, s.2)
 | .topic => if s.1.fl.typ = 0 then ({ s.1 with name := [] }, s.2) else ({ s.1 with tid := 0 }, lkNum s.1.tid 2 s.2)
 | .duration => if s.1.timed = true then ({ s.1 with time := 0, timed := false }, lkNum s.1.time 2 s.2) else s
def writeP (p : Pt) (m : Ms) : List UInt8 :=
 match p with
 | .gateway => putL m.gw 1
 | .radius => putL m.rad 1
 | .code => putL m.code 1
 | .time => putL m.time 2
 | .id => putL m.tid 2
 | .msg => putL m.mid 2
 | .name => m.name
 | .data => m.data
 | .flags => putL (flagV m.fl).1 1
 | .protocol => putL 1 1
 | .will => if m.name = [] then [] else putL (flagV m.fl).1 1 ++ m.name
 | .topic => if m.fl.typ = 0 then m.name else putL m.tid 2
 | .duration => if m.timed = true then putL m.time 2 else []
structure Rd where
 m : Ms
 i : Nat
 e : Int
def rdNum (t : List UInt8) (s : Rd) (n : Int) : Int := getL (takeS t s.i s.e n)
def rdTxt (t : List UInt8) (s : Rd) : List UInt8 := if s.e = 0 then t.drop s.i else []
def rdFlags (t : List UInt8) (s : Rd) : Rd :=
 if takeE t s.i s.e 1 = 0 then ⟨{ s.m with fl := rfF (rdNum t s 1) }, takeI t s.i s.e 1, rfE (rdNum t s 1)⟩ else ⟨s.m, takeI t s.i s.e 1, takeE t s.i s.e 1⟩
def rdName (t : List UInt8) (s : Rd) : Rd := ⟨{ s.m with name := rdTxt t s }, if s.e = 0 then t.length else s.i, s.e⟩
def rdFail (s : Rd) (e : Int) : Rd := ⟨s.m, s.i, if s.e = 0 then e else s.e⟩
def readP (p : Pt) (t : List UInt8) (s : Rd) : Rd :=
 match p with
 | .gateway => ⟨{ s.m with gw := rdNum t s 1 }, takeI t s.i s.e 1, takeE t s.i s.e 1⟩
 | .radius => ⟨{ s.m with rad := rdNum t s 1 }, takeI t s.i s.e 1, takeE t s.i s.e 1⟩
 | .code => ⟨{ s.m with code := rdNum t s 1 }, takeI t s.i s.e 1, takeE t s.i s.e 1⟩
 | .time => ⟨{ s.m with time := rdNum t s 2 }, takeI t s.i s.e 2, takeE t s.i s.e 2⟩
 | .id => ⟨{ s.m with tid := rdNum t s 2 }, takeI t s.i s.e 2, takeE t s.i s.e 2⟩
 | .msg => ⟨{ s.m with mid := rdNum t s 2 }, takeI t s.i s.e 2, takeE t s.i s.e 2⟩
 | .name => rdName t s
 | .data => ⟨{ s.m with data := rdTxt t s }, if s.e = 0 then t.length else s.i, s.e⟩
 | .flags => rdFlags t s
 | .protocol => if rdNum t s 1 = 1 then ⟨s.m, takeI t s.i s.e 1, takeE t s.i s.e 1⟩ else rdFail ⟨s.m, takeI t s.i s.e 1, takeE t s.i s.e 1⟩ 5
 | .will => if t.length - s.i = 0 then s else
   let u := rdFlags t s
   rdName t (if t.length - u.i = 0 then rdFail u 5 else u)
 | .topic => if s.m.fl.typ = 0 then rdName t s else ⟨{ s.m with tid := rdNum t s 2 }, takeI t s.i s.e 2, takeE t s.i s.e 2⟩
 | .duration => if t.length - s.i = 0 then ⟨{ s.m with timed := false }, s.i, s.e⟩ else ⟨{ s.m with timed := true, time := rdNum t s 2 }, takeI t s.i s.e 2, takeE t s.i s.e 2⟩
def MsOk (m : Ms) : Prop := (0 ≤ m.gw ∧ m.gw ≤ 65535) ∧ (0 ≤ m.rad ∧ m.rad ≤ 65535) ∧ (0 ≤ m.time ∧ m.time ≤ 65535) ∧ (0 ≤ m.tid ∧ m.tid ≤ 65535) ∧ (0 ≤ m.mid ∧ m.mid ≤ 65535) ∧ (0 ≤ m.code ∧ m.code ≤ 65535) ∧ (m.name.length : Int) ≤ 100000 ∧ (m.data.length : Int) ≤ 100000 ∧ flagOk m.fl.q m.fl.typ = true
def lkC (m : Ms) (bad : Bool) : Array Value := cdC (.pointer none) 2 m (.slice none 0 0) bad
def InvW (w : World) (B cb : Nat) (m : Ms) (out : List UInt8) : Prop := cb < B ∧ B ≤ w.heap.size ∧ ∃ v, Obj? w cb (cdC (.pointer none) 1 m v false) 461 ∧ w.ownsRow B 5 1 v out.length (u8sM out)
def InvR (w : World) (cb cu : Nat) (t : List UInt8) (s : Rd) : Prop := Obj? w cb (cdC (.pointer (some ⟨cu, 0, none⟩)) 0 s.m (.slice none 0 0) false) 461 ∧ Cur w cu t s.i s.e ∧ s.i ≤ t.length
end Go.Proofs.YtanofjmkkhocaaaGreatDoor
