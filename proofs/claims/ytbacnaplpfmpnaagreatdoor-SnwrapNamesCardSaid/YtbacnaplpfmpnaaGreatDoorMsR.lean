/- snmsg, plain: what is checked, written, read; a message that is looked through may be written. No program. snmsg, plain: what is written is read; what is read is written the same. No program. -/
import Derived.Test.YtbacnaplpfmpnaaGreatDoorMsL
import Derived.Test.YtbacnaplpfmpnaaGreatDoorMsN
import Derived.Test.YtbacnaplpfmpnaaGreatDoorMsF
import Derived.Test.YtbacnaplpfmpnaaGreatDoorSnA
namespace Go.Proofs.YtbacnaplpfmpnaaGreatDoor
open Go.RowKit
set_option linter.unusedVariables false
set_option linter.unusedSimpArgs false

def checkM (m : Ms) : Int :=
  if kindM m.ty = false then 8
  else if mayF m.ty m.fl = false ∨ (willB m.ty = true ∧ m.name.isEmpty = true ∧ m.fl ≠ fl0) then 7
  else if (lookAll m).2 = true ∨ (lookAll m).1 ≠ Ms.bare m.ty m.fl ∨ msgIdB m = false then 2
  else if topicIdF m ≠ 0 then topicIdF m
  else if nameF m ≠ 0 then nameF m
  else (snB m.ty (restL m).length).2

/-- Which fields a type uses. -/
def useGw (m : Ms) : Bool := decide (m.ty = 0 ∨ m.ty = 2)
def useRad (m : Ms) : Bool := decide (m.ty = 1)
def useCode (m : Ms) : Bool := decide (m.ty = 5 ∨ m.ty = 27 ∨ m.ty = 29 ∨ m.ty = 11 ∨ m.ty = 13 ∨ m.ty = 19)
def useTime (m : Ms) : Bool := decide (m.ty = 0 ∨ m.ty = 4 ∨ (m.ty = 24 ∧ m.timed = true))
def useTid (m : Ms) : Bool := decide (m.ty = 10 ∨ m.ty = 11 ∨ m.ty = 13 ∨ m.ty = 12 ∨ m.ty = 19 ∨ ((m.ty = 18 ∨ m.ty = 20) ∧ m.fl.typ ≠ 0))
def useMid (m : Ms) : Bool := decide (m.ty = 10 ∨ m.ty = 11 ∨ m.ty = 13 ∨ m.ty = 12 ∨ m.ty = 14 ∨ m.ty = 15 ∨ m.ty = 16 ∨ m.ty = 21 ∨ m.ty = 18 ∨ m.ty = 20 ∨ m.ty = 19)
def useName (m : Ms) : Bool := decide (m.ty = 2 ∨ m.ty = 4 ∨ m.ty = 7 ∨ m.ty = 26 ∨ m.ty = 10 ∨ m.ty = 22 ∨ ((m.ty = 18 ∨ m.ty = 20) ∧ m.fl.typ = 0))
def useData (m : Ms) : Bool := decide (m.ty = 9 ∨ m.ty = 28 ∨ m.ty = 12)
def fitB (n most : Int) (used : Bool) : Bool := decide (0 ≤ n ∧ n ≤ most) && (used || n == 0)
/-- Are the numbers, and what is not used, as they may be? -/
def fitsM (m : Ms) : Bool :=
  fitB m.gw 255 (useGw m) && fitB m.rad 255 (useRad m) && fitB m.code 255 (useCode m) && fitB m.time 65535 (useTime m) && fitB m.tid 65535 (useTid m) && fitB m.mid 65535 (useMid m) &&
    (useName m || m.name.isEmpty) && (useData m || m.data.isEmpty) && (decide (m.ty = 24) || !m.timed)
set_option maxHeartbeats 1600000 in
theorem look_iff {m : Ms} (hk : kindM m.ty = true) : ((lookAll m).2 = false ∧ (lookAll m).1 = Ms.bare m.ty m.fl) ↔ fitsM m = true := by
  obtain ⟨ty, ⟨dup, q, retain, will, clean, typ⟩, gw, rad, time, timed, tid, mid, code, name, data⟩ := m
  rcases kinds_of hk with h | h | h | h | h | h | h | h | h | h | h | h | h | h | h | h | h | h | h | h | h | h | h | h | h | h | h <;> simp only at h <;> subst h <;> clear hk <;>
    by_cases hN : name = [] <;> by_cases hT : typ = 0 <;> cases timed <;>
    simp [lookAll, layoutF, lookP, lkNum, Ms.bare, fitsM, fitB, useGw, useRad, useCode, useTime, useTid, useMid, useName, useData, hN, hT] <;>
    (constructor <;> intro h <;> (repeat' (apply And.intro)) <;> first | omega | (simp [h]; done))
end Go.Proofs.YtbacnaplpfmpnaaGreatDoor
namespace Go.Proofs.YtbacnaplpfmpnaaGreatDoor
open Go.RowKit
set_option linter.unusedVariables false
set_option linter.unusedSimpArgs false

/-- The numbers that fit. -/
def Rng (m : Ms) : Prop := (0 ≤ m.gw ∧ m.gw ≤ 255) ∧ (0 ≤ m.rad ∧ m.rad ≤ 255) ∧ (0 ≤ m.time ∧ m.time ≤ 65535) ∧ (0 ≤ m.tid ∧ m.tid ≤ 65535) ∧ (0 ≤ m.mid ∧ m.mid ≤ 65535) ∧ (0 ≤ m.code ∧ m.code ≤ 255) ∧ flagOk m.fl.q m.fl.typ = true
theorem rng_of {m : Ms} (hf : fitsM m = true) (hfl : flagOk m.fl.q m.fl.typ = true) : Rng m := by
  simp only [fitsM, fitB, Bool.and_eq_true, decide_eq_true_eq] at hf
  obtain ⟨⟨⟨⟨⟨⟨⟨⟨a, b⟩, c⟩, d⟩, e⟩, f⟩, g⟩, h⟩, i⟩ := hf
  exact ⟨a.1, b.1, d.1, e.1, f.1, c.1, hfl⟩
end Go.Proofs.YtbacnaplpfmpnaaGreatDoor
