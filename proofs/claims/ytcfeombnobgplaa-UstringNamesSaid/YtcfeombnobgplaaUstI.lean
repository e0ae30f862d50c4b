/- ustring.Runes: the iterator. -/
import Derived.Test.YtcfeombnobgplaaUstX
import Derived.RangeFuncNested
import Derived.RangeFuncBound
import Derived.RangeFuncCalls
import Derived.RangeFuncLeaves
import Derived.RangeFuncBox
import Derived.Shelf.Abstract
import Derived.OwnWalkIn
import Derived.TacticsInMore
import Derived.LoopNIn
import Derived.LoopIn
import Derived.Lib.OthersKept
import Derived.Maps.AppendAt
namespace Go.Proofs.Ytcfeombnobgplaa
open Go.RowKit Go.Shelf

attribute [local go_sem] Oper.semAt_some

/-- One step of a range over a text, whatever the world. -/
theorem next_pt_at {P : Program} (w : World) (k : Nat) (t : List UInt8) (pos : Nat) (n z : Nat) (hk : w.heap[k]? = some (.stringIter ⟨t.toArray⟩ pos)) (hlt : pos < t.length) (hpt : pt (t.drop pos) = (n, z)) (m y : Nat) (hm : (if z = 0 then (65533, 1) else (n, z)) = (m, y)) (ty : TypeId) :
    (Instr.next (.pointer (some ⟨k, 0, none⟩)) true ty).run P w = .ok (.tuple #[.bool true, .int .i64 pos, .int .i32 (m : Int)]) (w.iterAt k ⟨t.toArray⟩ (pos + y)) := by
  have h := Lib.run_next_any_at (P := P) w k ⟨t.toArray⟩ pos ty hk hlt
  rw [decode_pt t pos hlt, hpt] at h
  rw [h]
  simp only at hm ⊢
  rw [hm]

/-- The end of what is valid. -/
def vend (t : List UInt8) : Nat := match bd t with | none => t.length | some p => p
theorem vend_le (t : List UInt8) : vend t ≤ t.length := by
  unfold vend
  cases h : bd t with
  | none => exact Nat.le_refl _
  | some p => exact Nat.le_of_lt (bd_lt t p h)
def encR (x : Nat × Nat) : Array Value := #[.int .i64 (x.1 : Int), .int .i32 (x.2 : Int)]

theorem vend_on {t : List UInt8} (h : off t = false) : vend t = (pt t).2 + vend (t.drop (pt t).2) := by
  have hs := on_size h
  unfold vend
  rw [bd_on h]
  cases bd (t.drop (pt t).2) with
  | none => simp; omega
  | some p => simp; omega
/-- What is valid in front: the same code points, and no more. -/
theorem vend_take (t : List UInt8) : bd (t.take (vend t)) = none ∧ ∀ a, rn a (t.take (vend t)) = rn a t := by
  refine byPoints (P := fun t => bd (t.take (vend t)) = none ∧ ∀ a, rn a (t.take (vend t)) = rn a t) ?_ ?_ ?_ t
  · exact ⟨rfl, fun _ => rfl⟩
  · intro l h0 ho
    have e : vend l = 0 := by unfold vend; rw [bd_off h0 ho]
    rw [e]
    exact ⟨rfl, fun a => by rw [rn_off a ho]; rfl⟩
  · intro l ho ih
    have hs := on_size ho
    have e := vend_on ho
    have ht : (l.take (vend l)).take (pt l).2 = l.take (pt l).2 := by rw [List.take_take, e]; congr 1; omega
    have hp := pt_front l (l.take (vend l)) hs.2.2.1 ht
    have hoff : off (l.take (vend l)) = false := by unfold off at *; rw [hp]; exact ho
    have hd : (l.take (vend l)).drop (pt l).2 = (l.drop (pt l).2).take (vend (l.drop (pt l).2)) := by
      rw [List.drop_take, e]; congr 1; omega
    refine ⟨?_, fun a => ?_⟩
    · rw [bd_on hoff, hp, hd, ih.1]; rfl
    · rw [rn_on a hoff, hp, hd, ih.2, rn_on a ho]

set_option maxRecDepth 100000 in
set_option maxHeartbeats 1000000 in
theorem runes1_in (n : Nat) (hn : 3 ≤ n) (l Bn : Nat) (t : List UInt8) (ht : (t.length : Int) ≤ 9223372036854775807) (J Jx : List (Nat × Nat) → World → Prop) (W : World)
    (hJ : AbidesFrom W.heap.size J)
    (hY : ∀ pre x W1, J pre W1 → pre.length < (rn 0 t).length → YieldAt Fence.wide (n - 1) Try.prog l (encR x) W1 fun e W' =>
      (e = .returned (.bool true) ∧ J (pre ++ [x]) W' ∧ KeepsWalks W1 W') ∨ (e = .returned (.bool false) ∧ Jx (pre ++ [x]) W'))
    (hBn : W.cell? ⟨Bn, 0, none⟩ = some (.string ⟨t.toArray⟩)) (hBl : Bn < W.heap.size) (h0 : J [] W) :
    CallsIn Fence.wide n Try.prog 83 #[.func (.yield l) #[] #[], .pointer (some ⟨Bn, 0, none⟩)] W fun e W' => (∃ v, e = .returned v) ∧
      ((∃ ys, ys = rn 0 t ∧ J ys W') ∨ (∃ pre, pre <+: rn 0 t ∧ Jx pre W')) := by
  refine callsIn_of_wp Try.func83 rfl trivial ?_ rfl
  simp only [Try.ntmps83, List.size_toArray, List.length_cons, List.length_nil, Nat.reduceAdd, Nat.reduceSub, Array.replicate_succ, Array.replicate_zero, List.push_toArray, List.append_toArray, List.nil_append, List.cons_append]
  gi_wp2_with fail
  refine ⟨trivial, fun _ => by omega, (callsIn_wide.2 (bad_any t ht _)).mono ?_⟩
  rintro e W1 ⟨rfl, hB⟩
  have hBn1 := (hB.cell (p := ⟨Bn, 0, none⟩) hBl).trans hBn
  have hJ1 : J [] W1 := hJ [] W W1 none h0 (grown_below hB none) (by simp)
  obtain ⟨u, hu⟩ : ∃ u, u = t.take (vend t) := ⟨_, rfl⟩
  have hv := vend_take t
  rw [← hu] at hv
  obtain ⟨hv1, hv2⟩ := hv
  have hx : (ByteArray.mk t.toArray).extract 0 (vend t) = ByteArray.mk u.toArray := by rw [ByteArray.extract_mk, hu]; simp
  have hrn := Lib.hid (hv2 0)
  have hul : u.length ≤ t.length := by rw [hu]; simp; omega
  have hvl := vend_le t
  have HU := Lib.hid hu
  clear hv2 hu
  have hcase : (badI t = -1 ∧ vend t = t.length) ∨ (badI t = (vend t : Int)) := by
    unfold badI vend
    cases bd t with
    | none => exact .inl ⟨rfl, rfl⟩
    | some p => exact .inr rfl
  rcases hcase with ⟨hb1, hb2⟩ | hb1
  all_goals
    rw [hb1]
    have HB := Lib.hid hb1
    clear hb1
    try rw [hb2] at hx hvl
    try clear hb2
    gi_wp2
    gi_loopw [] (fun wr => ∃ (pos : Nat) (pre : List (Nat × Nat)), pos ≤ u.length ∧ wr.heap[W1.heap.size]? = some (.stringIter ⟨u.toArray⟩ pos) ∧ bd (u.drop pos) = none ∧ rn 0 t = pre ++ rn pos (u.drop pos) ∧ J pre wr ∧ W1.heap.size < wr.heap.size) (fun wr => u.length - wr.iterPos W1.heap.size)
    case atStart => exact ⟨0, [], Nat.zero_le _, World.iter_heap _ _ _, hv1, by rw [← hrn.out]; rfl, hJ [] W1 _ none hJ1 (World.grownBy_alloc _ _ _) (by simp), by simp [World.iter]⟩
    case round =>
      obtain ⟨pos, pre, hpos, hit, hbd, hpre, hJp, hsz⟩ := hrel
      by_cases hlt : pos < u.length
      · have hoff : off (u.drop pos) = false := by
          cases ho : off (u.drop pos) with
          | false => rfl
          | true => rw [bd_off (by simp; omega) ho] at hbd; cases hbd
        obtain ⟨hle, hz, hrl, hbd2⟩ := cnt_go hoff
        have hrn1 := rn_on pos hoff
        obtain ⟨n0, z, hpt⟩ : ∃ n z, pt (u.drop pos) = (n, z) := ⟨_, _, rfl⟩
        rw [hpt] at hle hz hrl hbd2 hrn1
        simp only at hle hz hrl hbd2 hrn1
        rw [List.drop_drop] at hrn1
        have hnx := next_pt_at (P := Try.prog) wr W1.heap.size u pos n0 z hit hlt hpt n0 z (by rw [if_neg hz])
        have hg : wr.grownBy (wr.iterAt W1.heap.size ⟨u.toArray⟩ (pos + z)) (some W1.heap.size) := ⟨rfl, rfl, rfl, by rw [Lib.iterAt_size]; exact Nat.le_refl _, fun i _ hne => Lib.iterAt_other wr _ i _ _ (fun e => hne (by rw [e]))⟩
        have hJ2 := hJ pre wr _ (some W1.heap.size) hJp hg (fun r e => by cases e; exact ⟨hB.size, _, hit, rfl⟩)
        have hit2 := Lib.iterAt_heap wr W1.heap.size ⟨u.toArray⟩ pos (pos + z) hit
        have hlen : pre.length < (rn 0 t).length := by rw [hpre, hrn1]; simp
        obtain ⟨fn, tmps, assign, body, hy, hR⟩ := hY pre (pos, n0) _ hJ2 hlen
        have HG := Lib.hid (And.intro hpre (And.intro hrn1 (And.intro (hbd2 hbd) hz)))
        have HW := Lib.hid (And.intro hit2 (And.intro hJ2 hg))
        dsimp only [encR] at hy
        clear hpre hrn1 hbd2 hbd hpt hrl hz hoff hlen hit2 hJ2 hg hJp
        gi_wp2
        refine ⟨fun _ => by omega, hR.mono ?_⟩
        rintro e W3 (⟨rfl, hJ3, hk3⟩ | ⟨rfl, hJx3⟩)
        · gi_wp2
          go_roundw
          case rel => exact ⟨pos + z, pre ++ [(pos, n0)], hle, hk3.same _ _ HW.out.1 rfl, HG.out.2.2.1, by rw [HG.out.1, HG.out.2.1]; simp, hJ3, by have := hk3.size; rw [Lib.iterAt_size] at this; omega⟩
          case measure =>
            have e1 : wr.iterPos W1.heap.size = pos := by simp [World.iterPos, hit]
            have e2 : W3.iterPos W1.heap.size = pos + z := by simp [World.iterPos, hk3.same _ _ HW.out.1 rfl]
            have := HG.out.2.2.2
            rw [e1, e2]; omega
        · gi_wp2
          refine bodyPost_ret (results_none rfl _ _ _) rfl ?_
          exact ⟨⟨_, rfl⟩, .inr ⟨pre ++ [(pos, n0)], ⟨rn (pos + z) (u.drop (pos + z)), by rw [HG.out.1, HG.out.2.1]; simp⟩, hJx3⟩⟩
      · have hnx := fun ty => Lib.run_next_end_at (P := Try.prog) wr W1.heap.size ⟨u.toArray⟩ pos ty hit (show ¬ pos < (ByteArray.mk u.toArray).size from hlt)
        have hend : pre = rn 0 t := by rw [hpre, List.drop_of_length_le (by omega), rn_nil, List.append_nil]
        have HE := Lib.hid hend
        clear hend hpre hbd
        gi_wp2
        go_end0
        exact ⟨⟨_, rfl⟩, .inl ⟨pre, HE.out, hJp⟩⟩
end Go.Proofs.Ytcfeombnobgplaa
