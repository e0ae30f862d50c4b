/- polyglotref22, plain: the parts of a message, its check. No program. -/
import Derived.Test.YtbacnaplpfmpnaaGreatDoorLkB
namespace Go.Proofs.YtbacnaplpfmpnaaGreatDoor
open Go.RowKit
set_option linter.unusedVariables false
set_option linter.unusedSimpArgs false

/-- The parts' numbers. -/
def partOf (m : Ms) : Pt → List Int
  | .flags => [1] | .protocol => [2] | .gateway => [3] | .radius => [4] | .code => [5] | .time => [6] | .id => [7] | .msg => [8] | .name => [9] | .data => [10]
  | .will => if m.name = [] then [] else [1, 9]
  | .topic => if m.fl.typ = 0 then [9] else [7]
  | .duration => if m.timed = true then [6] else []
def partsM (m : Ms) : List Int := (layoutF m.ty).flatMap (partOf m)
def writeR (m : Ms) (p : Int) : List UInt8 :=
  if p = 1 then putL (flagV m.fl).1 1 else if p = 2 then [1] else if p = 3 then putL m.gw 1 else if p = 4 then putL m.rad 1 else if p = 5 then putL m.code 1
  else if p = 6 then putL m.time 2 else if p = 7 then putL m.tid 2 else if p = 8 then putL m.mid 2 else if p = 9 then m.name else m.data
theorem writeP_parts (m : Ms) (p : Pt) : (partOf m p).flatMap (writeR m) = writeP p m := by
  have h2 : putL 1 1 = [1] := by decide
  cases p <;> simp [partOf, writeR, writeP, h2]
  · split <;> simp [writeR]
  · split <;> simp [writeR]
  · split <;> simp [writeR]
theorem foldl_app {α : Type} (f : α → List UInt8) : ∀ (l : List α) (a : List UInt8), l.foldl (fun s p => s ++ f p) a = a ++ l.flatMap f
  | [], a => by simp
  | x :: l, a => by rw [List.foldl_cons, foldl_app f l]; simp
theorem restL_parts (m : Ms) : restL m = (partsM m).flatMap (writeR m) := by
  unfold restL partsM
  rw [foldl_app, List.nil_append, List.flatMap_assoc]
  congr 1
  funext p
  exact (writeP_parts m p).symm
def hasR (m : Ms) (p : Int) : Bool := (partsM m).contains p
/-- Are the numbers as they may be? -/
def numsR (m : Ms) : Bool :=
  !(hasR m 8 && !(m.ty == 11 || m.ty == 13 || m.ty == 19) && ((m.mid == 0) != (m.ty == 12 && decide (m.fl.q < 1)))) &&
  (fitB m.gw 255 (hasR m 3) && fitB m.rad 255 (hasR m 4) && fitB m.code 255 (hasR m 5) && fitB m.time 65535 (hasR m 6) && fitB m.tid 65535 (hasR m 7) && fitB m.mid 65535 (hasR m 8) &&
    (hasR m 9 || m.name.isEmpty) && (hasR m 10 || m.data.isEmpty) && (decide (m.ty = 24) || !m.timed))
theorem lt_one (q : Int) : decide (q < 1) = !decide (0 < q) := by
  by_cases h : 0 < q
  · rw [decide_eq_false (by omega), decide_eq_true h]; rfl
  · rw [decide_eq_true (by omega), decide_eq_false h]; rfl
set_option maxHeartbeats 3200000 in
theorem numsR_eq {m : Ms} (hk : kindM m.ty = true) : numsR m = (fitsM m && msgIdB m) := by
  obtain ⟨ty, ⟨dup, q, retain, will, clean, typ⟩, gw, rad, time, timed, tid, mid, code, name, data⟩ := m
  rcases kinds_of hk with h | h | h | h | h | h | h | h | h | h | h | h | h | h | h | h | h | h | h | h | h | h | h | h | h | h | h <;> simp only at h <;> subst h <;> clear hk <;>
    simp only [numsR, hasR, partsM, layoutF, fitsM, useGw, useRad, useCode, useTime, useTid, useMid, useName, useData, msgIdB] <;>
    by_cases hN : name = [] <;> by_cases hT : typ = 0 <;> cases timed <;>
    simp [partOf, hN, hT] <;> (cases h0 : (mid == 0) <;> simp [Bool.and_comm]) <;> (first | done | (rw [lt_one]; done) | (rw [lt_one]; simp))
end Go.Proofs.YtbacnaplpfmpnaaGreatDoor
