/- The topics of a client: its map gone through in whatever order, collected, sorted by their ids. registry: Topics: a client's topics, by rising ids. -/
import Derived.Test.YtanofjmkkhocaaaGreatDoorTcD
import Derived.Maps.RangeRun
import Derived.RangeFuncNested
import Derived.RangeFuncBound
import Derived.RangeFuncCalls
import Derived.RangeFuncLeaves
import Derived.RangeFuncBox
import Derived.Sort.MapsRangeIn
import Derived.OwnWalkIn
import Derived.TacticsInMore
import Derived.RegionIn
import Derived.LoopNIn
import Derived.LoopIn
import Derived.Sort.LoopGhostIn
import Derived.Maps.AppendAt
import Derived.Shelf.Abstract
import Derived.Test.YtanofjmkkhocaaaGreatDoorSort
import Derived.Lib.OwnBridge
import Derived.Lib.Small
set_option linter.unusedVariables false
set_option linter.unusedSimpArgs false
set_option maxRecDepth 100000
set_option maxHeartbeats 3200000
namespace Go.Proofs.YtanofjmkkhocaaaGreatDoor
open Go Go.RowKit Go.MapKept Go.Shelf
open Go.ChangeMaps (setBlock)
attribute [local go_sem] Oper.semAt_some
section
variable {F : Fence} {nF : Nat} {P : Program} (w : World) {ops : Array Oper} {rest : List Oper} {o : Oper} {a : Act} {Q : Exit → Act → World → Prop}
theorem wpListIn_range_map (hg : o.guard = none) (m : Operand) (t : TypeId) (hop : o.op = Op.range t m) {k e : TypeId} (ht : P.underlying t = some (.map k e)) {b c : Nat} {l : List (Tp × Nat)}
  (hm : a.eval m = .map (some b)) (hb : w.heap[b]? = some (mapG alE l c))
  (hK : wpListIn F nF P ops Q rest (a.put o.dst (.pointer (some ⟨w.heap.size, 0, none⟩))) (w.alloc (.mapIter (some b) c #[] c))) :
  wpListIn F nF P ops Q (o :: rest) a w := by
 refine wpListIn_plain hg fun K' hK' => ?_
 replace hb : w.heap[b]? = some (.map (l.map alE).toArray c) := hb
 have hrun : (Instr.range t (.map (some b))).run P w = .ok (.pointer (some ⟨w.heap.size, 0, none⟩)) (w.alloc (.mapIter (some b) c #[] c)) := by
  simp [Instr.range, run_underlying ht, MapKept.run_getObj_map hb, newObj, Sem.run_bind, Sem.run, Result.andThen]
 unfold Oper.wpIn
 refine ⟨by simp [Oper.about, hop], ?_⟩
 rw [Oper.semAt_plain F _ _ (by rw [hop]; intro c hc'; cases hc')]
 simp [execOp, hop, hm, hrun, Result.andThen]
 exact hK' _ _ hK
theorem wpListIn_next_map (hg : o.guard = none) (it : Operand) (hop : o.op = Op.next it false) {r b c : Nat} {l : List (Tp × Nat)} {seen : Array Nat}
  (hit : a.eval it = .pointer (some ⟨r, 0, none⟩)) (hr : ∃ c0, c ≤ c0 ∧ w.heap[r]? = some (.mapIter (some b) c seen c0)) (hb : w.heap[b]? = some (mapG alE l c)) (hold : ∀ x ∈ l, x.2 < c) (hn : (l.map (·.2)).Nodup)
  (hDone : (∀ x ∈ l, x.2 ∈ seen.toList) → wpListIn F nF P ops Q rest (a.put o.dst (.tuple #[.bool false])) w)
  (hMore : ∀ (x : Tp × Nat) (w' : World), x ∈ l → x.2 ∉ seen.toList → w.grownBy w' (some r) → w'.heap.size = w.heap.size → w'.heap[r]? = some (.mapIter (some b) c (seen.push x.2) c) → w'.heap[b]? = some (mapG alE l c) →
   (Instr.entry (.pointer (some ⟨r, 0, none⟩))).run P w' = .ok (.tuple #[.int .i64 x.1.id, .agg x.1.cs]) w' → wpListIn F nF P ops Q rest (a.put o.dst (.tuple #[.bool true, .int .i64 x.1.id, .agg x.1.cs])) w') :
  wpListIn F nF P ops Q (o :: rest) a w := by
 refine wpListIn_plain hg fun K' hK' => ?_
 obtain ⟨c0, hc0, hr⟩ := hr
 have hb' : w.heap[b]? = some (.map (l.map alE).toArray c) := hb
 have hne : r ≠ b := by
  rintro rfl
  rw [hr] at hb'
  cases hb'
 have hborn : ((l.map alE).toArray.toList.map (·.born)) = l.map (·.2) := by simp [alE, Function.comp_def]
 have hleft : ∀ e, e ∈ (leftOf (l.map alE).toArray seen).toList ↔ ∃ x ∈ l, alE x = e ∧ x.2 ∉ seen.toList := by
  intro e
  unfold leftOf
  simp only [Array.toList_filter, List.mem_filter, List.mem_map]
  constructor
  ·rintro ⟨⟨x, hx, rfl⟩, h2⟩
   exact ⟨x, hx, rfl, by simpa [alE] using h2⟩
  ·rintro ⟨x, hx, rfl, h2⟩
   exact ⟨⟨x, hx, rfl⟩, by simpa [alE] using h2⟩
 unfold Oper.wpIn
 refine ⟨by simp [Oper.about, hop], ?_⟩
 rw [Oper.semAt_plain F _ _ (by rw [hop]; intro c hc'; cases hc')]
 rcases run_next_at (P := P) w o.type r b c c0 seen (l.map alE).toArray c hr hb' (by
   intro x hx
   simp only [List.mem_map] at hx
   obtain ⟨y, hy, rfl⟩ := hx
   exact hold y hy) hc0 with ⟨h0, hrun⟩ | ⟨e, he, w1, hw1, hrun⟩
 ·simp [execOp, hop, hit, hrun, Result.andThen]
  refine hK' _ _ (hDone fun x hx => ?_)
  apply Classical.byContradiction
  intro hns
  have := (hleft (alE x)).2 ⟨x, hx, rfl, hns⟩
  have h1 : (leftOf (l.map alE).toArray seen).toList.length = 0 := by simpa using h0
  rw [List.length_eq_zero_iff] at h1
  rw [h1] at this
  cases this
 ·obtain ⟨x, hx, rfl, hns⟩ := (hleft e).1 he
  simp [execOp, hop, hit, hrun, Result.andThen]
  have hs1 : w1.heap = w.heap := by rcases hw1 with rfl | rfl <;> rfl
  have hg1 : w.grownBy w1 (some r) := by rcases hw1 with rfl | rfl <;> exact ⟨rfl, rfl, rfl, Nat.le_refl _, fun _ _ _ => rfl⟩
  have hg2 := grown_trans hg1 (grown_setBlock w1 r (.mapIter (some b) c (seen.push (alE x).born) c))
  have hr2 : (setBlock w1 r (.mapIter (some b) c (seen.push (alE x).born) c)).heap[r]? = some (.mapIter (some b) c (seen.push (alE x).born) c) := by
   show (w1.heap.setIfInBounds r _)[r]? = _
   rw [Array.getElem?_setIfInBounds_self_of_lt (by rw [hs1]; exact lt_of_heap hr)]
  have hb2 : (setBlock w1 r (.mapIter (some b) c (seen.push (alE x).born) c)).heap[b]? = some (.map (l.map alE).toArray c) := (hg2.block b (lt_of_heap hb') (fun e => hne (Option.some.inj e).symm)).trans hb'
  have hen := run_entry_at (P := P) (setBlock w1 r (.mapIter (some b) c (seen.push (alE x).born) c)) r b c seen (l.map alE).toArray c (alE x) hr2 hb2 (by simp; exact ⟨_, _, hx, rfl⟩) (by rw [hborn]; exact hn)
  exact hK' _ _ (hMore x _ hx hns hg2 (by rw [size_setBlock, hs1]) hr2 hb2 hen)
end
theorem trest_nil {pre rest lst : List (Tp × Nat)} (hp : (pre ++ rest).Perm lst) (hn : (lst.map (·.2)).Nodup) (h : ∀ (a : Tp) (b : Nat), (a, b) ∈ lst → ∃ a, (a, b) ∈ pre) : rest = [] := by
 cases rest with
 | nil => rfl
 | cons y r =>
  obtain ⟨z, h1⟩ := h y.1 y.2 (hp.mem_iff.1 (by simp))
  have h2 : ((pre ++ y :: r).map (·.2)).Nodup := (hp.map (·.2)).nodup_iff.2 hn
  rw [List.map_append, List.map_cons] at h2
  have h3 := (List.nodup_append.1 h2).2.2 y.2 (List.mem_map.2 ⟨_, h1, rfl⟩) y.2 (by simp)
  exact absurd rfl h3
theorem trest_step {pre rest lst : List (Tp × Nat)} {x : Tp × Nat} (hp : (pre ++ rest).Perm lst) (hx : x ∈ lst) (h : ∀ y : Tp, ¬ (y, x.2) ∈ pre) : x ∈ rest ∧ (pre ++ [x] ++ rest.erase x).Perm lst := by
 have h1 : x ∈ pre ++ rest := hp.mem_iff.2 hx
 have h2 : x ∈ rest := by
  rcases List.mem_append.1 h1 with h3 | h3
  ·exact absurd h3 (h x.1)
  ·exact h3
 refine ⟨h2, ?_⟩
 rw [List.append_assoc, List.singleton_append]
 exact (List.Perm.append_left pre (List.perm_cons_erase h2).symm).trans hp
abbrev encsTp (x : Tp) : Array Value := #[.agg x.cs]
theorem mvals1_in (F : Fence) (n : Nat) (hF : F.fn 53) (hro : F.round = none) (hn : 1 ≤ n) (l Bm b c : Nat) (lst : List (Tp × Nat)) (hold : ∀ x ∈ lst, x.2 < c) (hnd : (lst.map (·.2)).Nodup) (J Jx : List Tp → World → Prop)
  (hY : ∀ pre x W, J pre W → pre.length < lst.length → YieldAt F (n - 1) Tryz.prog l (encsTp x) W fun e W' =>
   (e = .returned (.bool true) ∧ J (pre ++ [x]) W' ∧ KeepsWalks W W') ∨ (e = .returned (.bool false) ∧ Jx (pre ++ [x]) W'))
  (W : World) (hJ : AbidesFrom W.heap.size J) (hm : W.cell? ⟨Bm, 0, none⟩ = some (.map (some b))) (hb : W.heap[b]? = some (mapG alE lst c)) (h0 : J [] W) :
  CallsIn F n Tryz.prog 53 #[.func (.yield l) #[] #[], .pointer (some ⟨Bm, 0, none⟩)] W fun e W' => (∃ v, e = .returned v) ∧
   ((∃ xs, xs.Perm (lst.map (·.1)) ∧ J xs W') ∨ (∃ pre, True ∧ Jx pre W')) := by
 have HY := Lib.hid hY
 have HJ := Lib.hid hJ
 have HD := Lib.hid (And.intro hold hnd)
 have HI0 := Lib.hid (hJ [] W (W.alloc (.mapIter (some b) c #[] c)) none h0 (World.grownBy_alloc W _ none) (fun r e => by cases e))
 have HR0 := Lib.hid (show (W.alloc (.mapIter (some b) c #[] c)).heap[W.heap.size]? = some (.mapIter (some b) c #[] c) ∧ (W.alloc (.mapIter (some b) c #[] c)).heap[b]? = some (mapG alE lst c) from ⟨World.alloc_heap_new W _, (Below.heap_alloc _ _ _ (lt_of_heap hb)).trans hb⟩)
 clear hY hJ hold hnd h0
 refine callsIn_of_wp Tryz.func53 rfl hF ?_ hro
 simp only [Tryz.ntmps53, List.size_toArray, List.length_cons, List.length_nil, Nat.reduceAdd, Nat.reduceSub, Array.replicate_succ, Array.replicate_zero, List.push_toArray, List.append_toArray, List.nil_append, List.cons_append]
 gi_wp2_with (first
  | (gi_at_range; refine wpListIn_range_map _ rfl _ 107 rfl Tryz.underlying107 rfl hb ?_)
  | gi_in)
 go_frame
 gi_loopg [4] (lst.length + 1) (fun g v wr => ∃ (pre rest : List (Tp × Nat)), Hid (g = rest.length + 1 ∧ (pre ++ rest).Perm lst ∧ (∃ c0, c ≤ c0 ∧ wr.heap[W.heap.size]? = some (.mapIter (some b) c (pre.map (·.2)).toArray c0)) ∧ wr.heap[b]? = some (mapG alE lst c) ∧ J (pre.map (·.1)) wr))
 case atStart => exact ⟨[], lst, Lib.hid ⟨rfl, List.Perm.refl _, ⟨c, Nat.le_refl _, HR0.out.1⟩, HR0.out.2, HI0.out⟩⟩
 case round =>
  obtain ⟨pre, rest, HR⟩ := hrel
  have HB := Lib.hid hb
  have HM := Lib.hid hm
  clear hb hm
  gi_wp2_with (first
   | (gi_at_next; refine wpListIn_next_map _ rfl _ rfl (b := b) (c := c) (l := lst) (seen := (pre.map (·.2)).toArray) rfl HR.out.2.2.1 HR.out.2.2.2.1 HD.out.1 HD.out.2 ?_ ?_)
   | gi_in)
  ·intro hall
   have HA := Lib.hid hall
   clear hall
   gi_wp2
   go_end0
   refine ⟨⟨_, rfl⟩, .inl ⟨pre.map (·.1), ?_, HR.out.2.2.2.2⟩⟩
   have h1 := trest_nil HR.out.2.1 HD.out.2 HA.out
   have h2 := HR.out.2.1
   rw [h1, List.append_nil] at h2
   exact h2.map _
  ·intro x bo w2 hx hns hg2 hs2 hr2 hb2 hen
   obtain ⟨id, name, fx⟩ := x
   have HS := Lib.hid (trest_step HR.out.2.1 hx hns)
   have HL := Lib.hid (show (pre.map (·.1)).length < lst.length by
    have h1 := HS.out.2.length_eq
    simp at h1 ⊢
    omega)
   have HJ2 := Lib.hid (HJ.out _ wr w2 (some W.heap.size) HR.out.2.2.2.2 hg2 (fun r e => by cases e; exact ⟨Nat.le_refl _, by obtain ⟨c0, -, h⟩ := HR.out.2.2.1; exact ⟨_, h, rfl⟩⟩))
   have HW2 := Lib.hid (And.intro hr2 hb2)
   unfold Tp.cs at hen
   simp only at hen
   obtain ⟨W3, hW3⟩ : ∃ W3, W3 = w2.alloc (.cells #[.int .i64 id, .string ⟨name.toArray⟩, .bool fx] 69 (0, 0)) := ⟨_, rfl⟩
   have HJ3 := Lib.hid (HJ.out _ w2 W3 none HJ2.out (by rw [hW3]; exact World.grownBy_alloc w2 _ none) (fun r e => by cases e))
   have HW3 := Lib.hid (show W3.heap[W.heap.size]? = some (.mapIter (some b) c (pre.map (·.2) ++ [bo]).toArray c) ∧ W3.heap[b]? = some (mapG alE lst c) by
    rw [hW3]; exact ⟨(Below.heap_alloc _ _ _ (lt_of_heap hr2)).trans hr2, (Below.heap_alloc _ _ _ (lt_of_heap hb2)).trans hb2⟩)
   obtain ⟨fn, tmps, assign, body, hy, hR⟩ := HY.out (pre.map (·.1)) ⟨id, name, fx⟩ W3 HJ3.out HL.out
   unfold encsTp Tp.cs at hy
   simp only at hy
   rw [hW3] at hy hR
   have HE := Lib.hid hW3
   clear hW3 hx hns hg2 hs2 hr2 hb2
   simp only [Tp.cs]
   gi_wp2
   refine hR.mono ?_
   rintro e W4 (⟨rfl, hJ4, hk4⟩ | ⟨rfl, hJx4⟩)
   ·have HK := Lib.hid (And.intro hJ4 hk4)
    clear hJ4 hk4
    gi_wp2
    gi_roundg (gk - 1)
    case measure => have := HR.out.1; omega
    case rel =>
     have hk := HK.out.2
     rw [← HE.out] at hk
     have hlen : (rest.erase (⟨id, name, fx⟩, bo)).length + 1 = rest.length := by
      have := List.length_erase_of_mem HS.out.1
      have := List.length_pos_of_mem HS.out.1
      omega
     refine ⟨pre ++ [(⟨id, name, fx⟩, bo)], rest.erase (⟨id, name, fx⟩, bo), Lib.hid ⟨by have := HR.out.1; omega, HS.out.2, ⟨c, Nat.le_refl _, ?_⟩, hk.same _ _ HW3.out.2 rfl, by rw [List.map_append]; exact HK.out.1⟩⟩
     have := hk.same _ _ HW3.out.1 rfl
     rw [this]
     simp
   ·gi_wp2
    refine bodyPost_ret (results_none rfl _ _ _) rfl ?_
    exact ⟨⟨_, rfl⟩, .inr ⟨_, trivial, hJx4⟩⟩
def tpsV (xs : List Tp) : List Value := xs.flatMap fun t => t.cs.toList
theorem tpsV_app (xs : List Tp) (x : Tp) : tpsV (xs ++ [x]) = tpsV xs ++ x.cs.toList := by simp [tpsV]
theorem infoTps : (Tryz.prog.info? 69).map (fun i => (i.zero, i.size, i.bytes)) = some (some (.agg #[.int .i64 0, .string ⟨#[]⟩, .bool false]), 3, 32) := by kernel_rfl
theorem aseq_any {w : World} {Bm b c : Nat} {lst : List (Tp × Nat)} (hold : ∀ x ∈ lst, x.2 < c) (hnd : (lst.map (·.2)).Nodup) (hlen : lst.length ≤ 1000000000) (hm : w.cell? ⟨Bm, 0, none⟩ = some (.map (some b))) (hb : w.heap[b]? = some (mapG alE lst c)) :
  Calls Tryz.prog 52 #[.slice none 0 0, .func (.func 53) #[] #[.pointer (some ⟨Bm, 0, none⟩)]] w fun e w' => ∃ v xs, e = .returned v ∧ xs.Perm (lst.map (·.1)) ∧ w'.ownsRow w.heap.size 69 3 v xs.length (tpsV xs) ∧ Below w.heap.size w w' := by
 obtain ⟨i0, hi, hz0, hz1, hz2⟩ := info_parts infoTps
 have hmx : maxLen = 9223372036854775807 := rfl
 refine (callsIn_wide (n := 6)).1 ?_
 refine callsIn_of_wp_marks Tryz.func52 rfl trivial ?_ rfl
 simp only [Tryz.ntmps52, List.size_toArray, List.length_cons, List.length_nil, Nat.reduceAdd, Nat.reduceSub, Array.replicate_succ, Array.replicate_zero, List.push_toArray, List.append_toArray, List.nil_append, List.cons_append]
 have HM := Lib.hid (And.intro hm hb)
 clear hm hb
 gi_wp2
 have hbS := Boxed.new w 70 (.slice none 0 0)
 obtain ⟨W0, hW0⟩ : ∃ W0, W0 = w.alloc (.cells #[.slice none 0 0] 70 (0, 0)) := ⟨_, rfl⟩
 have hB0 : Below w.heap.size w W0 := by rw [hW0]; exact below_al (Below.refl _ _) _
 have hsz : W0.heap.size = w.heap.size + 1 := by rw [hW0]; simp
 have hm0 : W0.cell? ⟨Bm, 0, none⟩ = some (.map (some b)) := (hB0.cell (p := ⟨Bm, 0, none⟩) (World.block_lt_of_cell? w ⟨Bm, 0, none⟩ HM.out.1)).trans HM.out.1
 have hb0 : W0.heap[b]? = some (mapG alE lst c) := (hB0.block b (lt_of_heap HM.out.2)).trans HM.out.2
 rw [← hW0] at hbS ⊢
 clear hW0
 refine wpIn_rangeFunc_ownH rfl (by decide) (gf := 53) (lb := #[.pointer (some ⟨Bm, 0, none⟩)]) rfl trivial (enters_of Tryz.func53 (by kernel_rfl) rfl)
  (encs := encsTp) (Kp := KeepsWalks) (S := fun xs : List Tp => xs.Perm (lst.map (fun p : Tp × Nat => p.1))) (Sp := fun _ => True) (N := lst.length) (w0 := W0)
  (fun l J Jx W hW hJ hJx hY h0 => mvals1_in Fence.wide 5 trivial rfl (by decide) l Bm b c lst hold hnd J Jx hY W hJ ((hW.cell (p := ⟨Bm, 0, none⟩) (World.block_lt_of_cell? W0 ⟨Bm, 0, none⟩ hm0)).trans hm0) ((hW.block b (lt_of_heap hb0)).trans hb0) h0)
  walksK_t walksK_b (Below.refl _ _) (fun _ => rfl)
  (fun pre W => (∃ v, Boxed W w.heap.size 70 v ∧ W.ownsRow w.heap.size 69 3 v pre.length (tpsV pre) ∧ True) ∧ Below w.heap.size w W)
  (fun _ _ _ => False)
  (OwnFrom.and (Own.from (holdsRow_own w.heap.size w.heap.size 70 69 3 (fun pre => pre.length) (fun pre => tpsV pre) (fun _ _ => True)) _) (ownFrom_below (Nat.le_refl _) (by omega)))
  (fun _ _ _ _ _ hs _ _ => hs)
  ⟨⟨_, hbS, World.ownsRow_nil _ _ _ _, trivial⟩, hB0⟩
  (fun x a' W => ∃ Bx, Obj? W Bx x.cs 69 ∧ a' = { tmps := #[.slice none 0 0, .func (.func 53) #[] #[.pointer (some ⟨Bm, 0, none⟩)], .pointer (some ⟨w.heap.size, 0, none⟩), undef, .slice none 0 0, .pointer (some ⟨Bx, 0, none⟩), .func (.func 53) #[] #[.pointer (some ⟨Bm, 0, none⟩)], .agg x.cs, undef, undef, undef, undef, undef], defers := [] })
  (fun x a' _ A B row h hg hr => by
   obtain ⟨Bx, hb, he⟩ := h
   exact ⟨Bx, hb.kept hg (fun e => by obtain ⟨-, o, ho, hc⟩ := hr Bx e; rw [show A.heap[Bx]? = _ from hb] at ho; cases ho; cases hc), he⟩) ?assign ?body ?done ?stop
 case assign =>
  rintro l pre ⟨id, name, fx⟩ W K ⟨⟨v, hv, hrow, -⟩, hB⟩ hK
  simp only [encsTp, Tp.cs] at hK ⊢
  gi_wp2
  exact hK _ _ ((KeepsOthers.alloc _ _).from _) (KeepsWalks.of_grownBy (World.grownBy_alloc W _ none) (fun _ _ e _ => by cases e)) ⟨⟨v, hv.alloc _, hrow.alloc _, trivial⟩, below_al hB _⟩ ⟨W.heap.size, Obj?.new _ _ _, rfl⟩
 case body =>
  rintro l pre ⟨id, name, fx⟩ a' W hl - ⟨⟨v, hv, hrow, -⟩, hB⟩ ⟨Bx, hb, rfl⟩ hlen2
  unfold Tp.cs at hb
  simp only at hb
  have hc := hv.cell
  have c0 : W.cell? ⟨Bx, 0, none⟩ = some (.int .i64 id) := hb.cell 0 _ rfl
  have c1 : W.cell? ⟨Bx, 1, none⟩ = some (.string ⟨name.toArray⟩) := hb.cell 1 _ rfl
  have c2 : W.cell? ⟨Bx, 2, none⟩ = some (.bool fx) := hb.cell 2 _ rfl
  have HC1 := Lib.hid (show ∀ (j : Nat) (u : Value), [Value.int .i64 id, .string ⟨name.toArray⟩, .bool fx][j]? = some u → (W.alloc (.cells #[.int .i64 id, .string ⟨name.toArray⟩, .bool fx] 69 (0, 0))).cell? ((⟨W.heap.size, 0, none⟩ : Addr).add j) = some u from fun j u hj => by
   rw [Addr.add_mid, Nat.zero_add]
   exact (Obj?.new W _ _).cell j u (by simpa using hj))
  have HL := Lib.hid (show pre.length + 1 ≤ maxLen ∧ (pre.length + 1) * 32 ≤ 140737488355328 by rw [hmx]; omega)
  have HB := Lib.hid hB
  clear hlen2 hl hlen hsz hb
  simp only [Tp.cs]
  gi_wp2_with (gi_at_builtin; refine wpListIn_append_own _ rfl _ _ 70 rfl w.heap.size 69 i0 (.agg #[.int .i64 0, .string ⟨#[]⟩, .bool false]) 3 32 Tryz.underlying70 hi hz0 hz1 hz2 rfl (by decide) _ _ _ rfl (hrow.alloc _) ⟨W.heap.size, 0, none⟩ 1 1 [.int .i64 id, .string ⟨name.toArray⟩, .bool fx] rfl rfl HC1.out (by simp [Value.oneCell']) HL.out.1 HL.out.2 (by have := HB.out.size; simp; omega) ?_; intro v' w1 hown' hgrow _; obtain ⟨g', cap', rfl⟩ := ownsRow_succ hown'; have HA := Lib.hid (hv.appended (by decide) hrow HB.out.size (Nat.le_refl _) hown' hgrow); have hc1 := HA.out.1.cell; have hf1 := HA.out.1.frozen; clear hown' hgrow)
  obtain ⟨hv1, hv2, hr2, hk2, hb2⟩ := HA.out
  refine ⟨hk2.from _, ?_, ⟨_, hv2, ?_, trivial⟩, HB.out.trans hb2⟩
  ·exact ⟨hk2.size, fun k o hk ho => hk2.same k o hk (Obj.not_cells_of_walk ho)⟩
  ·rw [tpsV_app, List.length_append, List.length_singleton]
   exact hr2
 case done =>
  rintro D xs W hD hp ⟨⟨v, hv, hrow, -⟩, hB⟩ hK
  have hc := hv.cell
  have HZ := Lib.hid (And.intro hp (And.intro hrow (And.intro hB (And.intro hK hD))))
  clear hp hrow hB hK hD
  gi_wp2
  refine ⟨by simp, .inl ⟨_, _, rfl, run_takeDeferred HZ.out.2.2.2.1, ?_⟩⟩
  exact ⟨_, results_tmp rfl _ _ _, v, xs, rfl, HZ.out.1, ownsRow_putObj HZ.out.2.1 _ HZ.out.2.2.2.1 rfl, HZ.out.2.2.1.trans (belowK_b (w := w) (Nat.le_refl _) W D _ _ (by have := HZ.out.2.2.2.2; omega) HZ.out.2.2.2.1 rfl rfl)⟩
 case stop =>
  rintro D c pre W _ _ h _
  exact h.elim
end Go.Proofs.YtanofjmkkhocaaaGreatDoor
namespace Go.Proofs.YtanofjmkkhocaaaGreatDoor
open Go Go.RowKit Go.MapKept Go.Shelf Go.Sort
open Go.ChangeMaps (setBlock)
instance : Inhabited Tp := ⟨tp0⟩
abbrev encTp (t : Tp) : List Value := [.int .i64 t.id, .string ⟨t.name.toArray⟩, .bool t.fx]
theorem encTp_cs (t : Tp) : (encTp t).toArray = t.cs := rfl
theorem isnan_any (x : Int) (w : World) : Calls Tryz.prog 56 #[.int .i64 x] w fun e w' => e = .returned (.bool false) ∧ w' = w := by
 have h : (x != x) = false := by simp
 go_enter Tryz.func56, Tryz.ntmps56
 go_wp2
 go_ret
 exact ⟨rfl, rfl⟩
theorem compare_any (x y : Int) (w : World) : Calls Tryz.prog 32 #[.int .i64 x, .int .i64 y] w fun e w' => e = .returned (.int .i64 (Lib.compareInt x y)) ∧ w' = w := by
 have H1 := Lib.hid (fun W => isnan_any x W)
 have H2 := Lib.hid (fun W => isnan_any y W)
 by_cases h1 : x < y
 ·have hc : Lib.compareInt x y = -1 := by unfold Lib.compareInt; rw [if_pos h1]
  rw [hc]
  go_enter Tryz.func32, Tryz.ntmps32
  go_wp2_with fail
  refine (H1.out _).mono ?_
  rintro e w1 ⟨rfl, rfl⟩
  go_wp2_with fail
  refine (H2.out _).mono ?_
  rintro e w2 ⟨rfl, rfl⟩
  go_wp2
  go_ret
  exact ⟨rfl, rfl⟩
 ·by_cases h2 : y < x
  ·have hc : Lib.compareInt x y = 1 := by unfold Lib.compareInt; rw [if_neg h1, if_pos h2]
   rw [hc]
   go_enter Tryz.func32, Tryz.ntmps32
   go_wp2_with fail
   refine (H1.out _).mono ?_
   rintro e w1 ⟨rfl, rfl⟩
   go_wp2_with fail
   refine (H2.out _).mono ?_
   rintro e w2 ⟨rfl, rfl⟩
   go_wp2
   go_ret
   exact ⟨rfl, rfl⟩
  ·have hc : Lib.compareInt x y = 0 := by unfold Lib.compareInt; rw [if_neg h1, if_neg h2]
   rw [hc]
   go_enter Tryz.func32, Tryz.ntmps32
   go_wp2_with fail
   refine (H1.out _).mono ?_
   rintro e w1 ⟨rfl, rfl⟩
   go_wp2_with fail
   refine (H2.out _).mono ?_
   rintro e w2 ⟨rfl, rfl⟩
   go_wp2
   go_ret
   exact ⟨rfl, rfl⟩
theorem cmptp_any (x y : Tp) (W : World) : Calls Tryz.prog 31 #[.agg (encTp x).toArray, .agg (encTp y).toArray] W fun e w' => e = .returned (.int .i64 (Lib.compareInt x.id y.id)) ∧ ∃ q os', w' = grow (W.drewN q) os' := by
 have HC := Lib.hid (fun W => compare_any x.id y.id W)
 generalize Lib.compareInt x.id y.id = r at HC ⊢
 go_enter Tryz.func31, Tryz.ntmps31
 go_wp2_with fail
 refine (HC.out _).mono ?_
 rintro e w1 ⟨rfl, rfl⟩
 go_wp2
 go_ret
 exact ⟨rfl, 0, _, by rw [alloc_eq_grow, alloc_eq_grow, grow_grow]; rfl⟩
theorem ltTp (x y : Tp) : ltOf (fun x y : Tp => Lib.compareInt x.id y.id) x y = decide (x.id < y.id) := by
 unfold ltOf Lib.compareInt
 by_cases h1 : x.id < y.id
 ·simp [h1]
 ·by_cases h2 : y.id < x.id <;> simp [h1, h2]
theorem swoTp : SWO (ltOf fun x y : Tp => Lib.compareInt x.id y.id) where
 irrefl x := by rw [ltTp]; simp
 trans x y z h1 h2 := by rw [ltTp] at *; simp at *; omega
 ntrans x y z h1 h2 := by rw [ltTp] at *; simp at *; omega
theorem tpsV_at (xs : List Tp) (t : Nat) (h : t < xs.length * 3) : (tpsV xs)[t]? = some ((encTp (xs.toArray[t / 3]!))[t % 3]!) := by
 induction xs generalizing t with
 | nil => simp at h
 | cons x r ih =>
  have e : tpsV (x :: r) = encTp x ++ tpsV r := by simp [tpsV, Tp.cs]
  rw [e]
  by_cases h3 : t < 3
  ·rw [List.getElem?_append_left (by simpa using h3)]
   have hd : t / 3 = 0 := by omega
   have hm : t % 3 = t := by omega
   rw [hd, hm]
   have : t = 0 ∨ t = 1 ∨ t = 2 := by omega
   rcases this with rfl | rfl | rfl <;> rfl
  ·obtain ⟨u, rfl⟩ : ∃ u, t = u + 3 := ⟨t - 3, by omega⟩
   rw [List.getElem?_append_right (by simp), show u + 3 - (encTp x).length = u by simp, ih u (by simp at h; omega)]
   rw [show (u + 3) / 3 = u / 3 + 1 by omega, show (u + 3) % 3 = u % 3 by omega]
   have hu : u / 3 < r.length := by simp at h; omega
   congr 3
   rw [getElem!_pos r.toArray _ (by simpa using hu), getElem!_pos (x :: r).toArray _ (by simpa using hu)]
   simp
theorem holds_of_own {w : World} {base g n cap : Nat} {xs : List Tp} (h : w.ownsRow base 69 3 (.slice (some ⟨g, 0, none⟩) n cap) xs.length (tpsV xs)) (hn : n = xs.length) : HoldsK encTp 3 w g 0 xs.toArray := by
 subst hn
 intro j hj
 rw [size_flatK] at hj
 have hj' : j < xs.length * 3 := by simpa using hj
 rw [get_flatK _ _ _ _ hj]
 refine ⟨?_, ?_⟩
 ·rw [Nat.zero_add, h.cellAt j hj', tpsV_at xs j hj']
  rfl
 ·rw [Nat.zero_add]; exact h.frozenAt j
theorem below_growK {B : Nat} {a b : World} (h : Below B a b) (os : Array Obj) (hB : B ≤ b.heap.size) : Below B a (grow b os) :=
 ⟨h.os, h.tape, h.output, by
  have h1 := h.size
  have : (grow b os).heap.size = b.heap.size + os.size := by simp [grow]
  omega, fun k hk => by
  have h1 := h.block k hk
  rw [← h1]
  show (b.heap ++ os)[k]? = _
  rw [Array.getElem?_append_left (by omega)]⟩
def RowG {X : Type} (A : Nat) (cs : X → Array Value) (z : Nat) (w : World) (v : Value) (xs : List X) : Prop := RowOf cs z w v xs ∧ ∀ b off n cap, v = .slice (some ⟨b, off, none⟩) n cap → A ≤ b
theorem RowOf.kp {X : Type} {cs : X → Array Value} {z : Nat} {S : Nat → Prop} {w w' : World} {v : Value} {xs : List X} (h : RowOf cs z w v xs) (k : Kq S w w') (hS : ∀ b off n cap, v = .slice (some ⟨b, off, none⟩) n cap → b < w.heap.size → ¬ S b) : RowOf cs z w' v xs := by
 obtain ⟨a, cap, rfl, hl, hc⟩ := h
 refine ⟨a, cap, rfl, hl, ?_⟩
 rcases hc with hc | ⟨b, off, rfl, hlt, hc⟩
 ·exact .inl hc
 ·exact .inr ⟨b, off, rfl, Nat.lt_of_lt_of_le hlt k.size, fun i hi j u hj => (World.cell?_of_block (a := ⟨b, _, none⟩) (k.block b hlt (hS b off _ cap rfl hlt))).trans (hc i hi j u hj)⟩
theorem RowG.kp {X : Type} {A : Nat} {cs : X → Array Value} {z : Nat} {S : Nat → Prop} {w w' : World} {v : Value} {xs : List X} (h : RowG A cs z w v xs) (k : Kq S w w') (hS : ∀ b, A ≤ b → b < w.heap.size → ¬ S b) : RowG A cs z w' v xs :=
 ⟨h.1.kp k (fun b off n cap e hlt => hS b (h.2 b off n cap e) hlt), h.2⟩
theorem rowG_nil {X : Type} (A : Nat) (cs : X → Array Value) (z : Nat) (w : World) : RowG A cs z w (.slice none 0 0) ([] : List X) := ⟨rowOf_nil _ _ _, fun b off n cap e => by cases e⟩
theorem mvals_any (b : Nat) (w : World) : Calls Tryz.prog 29 #[.map (some b)] w fun e w' => e = .returned (.func (.func 53) #[] #[.pointer (some ⟨w.heap.size, 0, none⟩)]) ∧ w' = w.alloc (.cells #[.map (some b)] 107 (0, 0)) := by
 have hmf : ∀ (fn : Fn) (first cap : Array Value) (w : World), (Instr.makeFunc fn first cap).run Tryz.prog w = .ok (.func fn first cap) w := fun _ _ _ _ => rfl
 go_enter Tryz.func29, Tryz.ntmps29
 go_wp2
 go_ret
 exact ⟨rfl, rfl⟩
theorem collect_any {w : World} {Bm b c : Nat} {lst : List (Tp × Nat)} (hold : ∀ x ∈ lst, x.2 < c) (hnd : (lst.map (·.2)).Nodup) (hlen : lst.length ≤ 1000000000) (hm : w.cell? ⟨Bm, 0, none⟩ = some (.map (some b))) (hb : w.heap[b]? = some (mapG alE lst c)) :
  Calls Tryz.prog 28 #[.func (.func 53) #[] #[.pointer (some ⟨Bm, 0, none⟩)]] w fun e w' => ∃ v xs, e = .returned v ∧ xs.Perm (lst.map (·.1)) ∧ w'.ownsRow w.heap.size 69 3 v xs.length (tpsV xs) ∧ Below w.heap.size w w' := by
 have HA := Lib.hid (aseq_any hold hnd hlen hm hb)
 clear hold hnd hlen hm hb
 go_enter Tryz.func28, Tryz.ntmps28
 go_wp2_with fail
 refine HA.out.mono ?_
 rintro e w1 ⟨v, xs, rfl, hp, hr, hB⟩
 have HZ := Lib.hid (And.intro hp (And.intro hr hB))
 clear hp hr hB
 go_wp2
 go_ret
 exact ⟨v, xs, rfl, HZ.out⟩
theorem sorted_any {w : World} {base : Nat} {v : Value} {xs : List Tp} (h : w.ownsRow base 69 3 v xs.length (tpsV xs)) (hlen : xs.length ≤ 1000000000) :
  Calls Tryz.prog 30 #[v, .func (.func 31) #[] #[]] w fun e w' => e = .returned (.tuple #[]) ∧ ∃ ys : List Tp, ys.Perm xs ∧ ys.Pairwise (fun a b => a.id ≤ b.id) ∧ RowG base Tp.cs 3 w' v ys ∧ (∀ B, B ≤ base → B ≤ w.heap.size → Below B w w') := by
 have eg : ∀ args w, (callFunc 31 args).run Tryz.prog w = .ok (.enter 31 args) w := enters_of Tryz.func31 (by kernel_rfl) rfl
 rcases h.2 with ⟨rfl, h0⟩ | ⟨g, cap, cur, rfl, hb, hg, hnc, hcm, hcs, htake⟩
 ·have hx : xs = [] := List.eq_nil_of_length_eq_zero h0
  subst hx
  have hcon := AnyF.slices_SortFunc_none Tryz.sortTp none 0 (.func (.func 31) #[] #[]) w
  change Calls Tryz.prog 30 _ _ _ at hcon
  refine hcon.mono ?_
  rintro e w1 ⟨rfl, rfl⟩
  exact ⟨rfl, [], List.Perm.refl _, List.Pairwise.nil, rowG_nil _ _ _ _, fun B _ _ => Below.refl _ _⟩
 ·have hH : HoldsK encTp 3 w g 0 xs.toArray := holds_of_own h rfl
  have hlt : g < w.heap.size := lt_of_heap hg
  have hcmp : CmpLays Tryz.prog 31 #[] encTp 3 (fun x y : Tp => Lib.compareInt x.id y.id) g 0 xs.toArray.size w := fun _ _ _ _ x y => cmptp_any x y _
  have hcon := AnyQ.slices_SortFunc Tryz.sortTp 3 Tryz.isAgg69 Tryz.sizeOf69 encTp (fun _ => rfl) (fun x v hv => by simp [encTp] at hv; rcases hv with rfl | rfl | rfl <;> rfl) (fun x y : Tp => Lib.compareInt x.id y.id) swoTp 31 #[] g 0 cap xs.toArray w eg hcmp hH hlt (by simp; omega)
  change Calls Tryz.prog 30 _ _ _ at hcon
  rw [show xs.toArray.size = xs.length by simp] at hcon
  refine hcon.mono ?_
  rintro e w1 ⟨rfl, d', m, os, hp, hs, rfl⟩
  obtain ⟨hp1, -, hp3⟩ := hp
  have hsz : d'.size = xs.length := by rw [hp1]; simp
  have hH' := holdsK_sortWorldK_c encTp 3 w g 0 xs.toArray d' m os hH hlt hp1
  refine ⟨rfl, d'.toList, ?_, ?_, ⟨⟨some ⟨g, 0, none⟩, cap, by simp [hsz], by rw [Array.length_toList, hsz]; omega, .inr ⟨g, 0, rfl, ?_, ?_⟩⟩, fun b off n cp e => by cases e; exact hb⟩, ?_⟩
  ·have e1 : (d'.extract 0 xs.length).toList = d'.toList := by rw [← hsz]; simp
   have e2 : (xs.toArray.extract 0 xs.length).toList = xs := by simp
   rw [e1, e2] at hp3
   exact hp3
  ·rw [List.pairwise_iff_getElem]
   intro i j hi hj hij
   have hi' : i < d'.size := by simpa using hi
   have hj' : j < d'.size := by simpa using hj
   have h1 := hs i j (Nat.zero_le _) hij (by omega)
   rw [ltTp] at h1
   rw [getElem!_pos d' i hi', getElem!_pos d' j hj'] at h1
   simp at h1
   simpa using h1
  ·have := size_sortWorldK_c encTp 3 w g 0 m d' os
   omega
  ·intro i hi j u hj
   have hi' : i < d'.size := by simpa using hi
   have hj3 : j < 3 := by
    have := (Array.getElem?_eq_some_iff.1 hj).1
    simpa [Tp.cs] using this
   have h1 := (hH'.cell hi' hj3).1
   rw [h1, getElem!_pos d' i hi']
   rw [← encTp_cs] at hj
   have hl : (encTp d'.toList[i]).length = 3 := rfl
   rw [Array.getElem_toList] at hj hl
   rw [getElem!_pos (encTp d'[i]) j (by rw [hl]; exact hj3)]
   rw [List.getElem?_toArray, List.getElem?_eq_getElem (by rw [hl]; exact hj3)] at hj
   exact hj
  ·intro B hB hB2
   unfold sortWorldK
   have h1 : Below B w (putRowK encTp 3 (Sort.ahead w m) g 0 d') := Lib.below_putRow (Below.refl _ _) (by omega)
   exact below_growK h1 os (by have := h1.size; omega)
theorem rtopics_any {w : World} {rb : Nat} {O : Nat → Own} {L : List UInt8 → Option (Nat × Cl)} (h : RegAt w rb O L) (n : List UInt8) (hw : wtO ((L n).map (·.2)) ≤ 1000000000) :
  Calls Tryz.prog 14 #[.pointer (some ⟨rb, 0, none⟩), .string ⟨n.toArray⟩] w fun e w' => ∃ v, e = .returned v ∧ RowG w.heap.size Tp.cs 3 w' v (topsC ((L n).map (·.2))) ∧ Below w.heap.size w w' := by
 have HF := Lib.hid (of_any h n)
 cases hL : L n with
 | none =>
  rw [hL] at HF
  go_enter Tryz.func14, Tryz.ntmps14
  go_wp2_with fail
  refine HF.out.mono ?_
  rintro e w1 ⟨rfl, rfl⟩
  unfold ptrL
  go_wp2
  go_ret
  exact ⟨_, rfl, rowG_nil _ _ _ _, Below.refl _ _⟩
 | some p =>
  obtain ⟨cb, C⟩ := p
  rw [hL, ptr_some] at HF
  obtain ⟨mb, es, ec, hR⟩ := h
  obtain ⟨-, -, ib, ab, v, -, hC⟩ := hR.yes n cb C hL
  have hl : C.all.length ≤ 1000000000 := by rw [hL] at hw; simp only [Option.map_some, wtO, Option.getD_some, wtC] at hw; omega
  have k1 := hC.cl.cell 1 (.map (some ab)) rfl
  have HV := Lib.hid (mvals_any ab w)
  have HC := Lib.hid (collect_any (w := w.alloc (.cells #[.map (some ab)] 107 (0, 0))) (Bm := w.heap.size) (b := ab) hC.wf.old hC.wf.born hl ((Obj?.new w _ _).cell 0 _ rfl) ((Below.heap_alloc _ _ _ (lt_of_heap hC.all)).trans hC.all))
  have HW := Lib.hid hC.wf
  have HL := Lib.hid hl
  unfold topsC
  simp only [Option.map_some, Option.getD_some]
  clear hR hC hw hL hl
  go_enter Tryz.func14, Tryz.ntmps14
  refine wp_hide fun Q1 hQ1 => ?_
  have HQ1 := Lib.hid hQ1
  clear hQ1
  go_wp2_with fail
  refine HF.out.mono ?_
  rintro e w1 ⟨rfl, rfl⟩
  go_wp2_with fail
  refine HV.out.mono ?_
  rintro e w2 ⟨rfl, rfl⟩
  go_wp2_with fail
  refine HC.out.mono ?_
  rintro e w3 ⟨vr, xs, rfl, hp, hr, hB⟩
  have HX := Lib.hid (And.intro hp (And.intro hr hB))
  have HS := Lib.hid (sorted_any hr (by have := hp.length_eq; simp at this; have := HL.out; omega))
  clear hp hr hB
  go_wp2_with fail
  refine HS.out.mono ?_
  rintro e w4 ⟨rfl, ys, hp, hs, hr, hb⟩
  have HY := Lib.hid (And.intro hp (And.intro hs (And.intro hr hb)))
  clear hp hs hr hb
  go_wp2_with fail
  refine HQ1.out _ _ _ ?_
  go_ret
  have e1 := topics_of_sorted HW.out (HY.out.1.trans HX.out.1) HY.out.2.1
  rw [← e1]
  refine ⟨vr, rfl, ⟨HY.out.2.2.1.1, fun b off n cap e => by have := HY.out.2.2.1.2 b off n cap e; simp at this; omega⟩, ?_⟩
  have hb1 : Below w1.heap.size w1 w3 := (below_al (Below.refl _ w1) _).trans (HX.out.2.2.mono (by simp))
  exact hb1.trans (HY.out.2.2.2 _ (by simp) hb1.size)
end Go.Proofs.YtanofjmkkhocaaaGreatDoor
