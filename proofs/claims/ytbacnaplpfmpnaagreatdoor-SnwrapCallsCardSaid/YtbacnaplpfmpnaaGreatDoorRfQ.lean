/- polyglotref22, plain: what Read answers; it is what the product's Read answers. No program. polyglotref22: width, read, Codes. polyglotref22: layout. -/
import Derived.Test.YtbacnaplpfmpnaaGreatDoorRfA
import Derived.Test.YtbacnaplpfmpnaaGreatDoorMsT
import Derived.Test.YtbacnaplpfmpnaaGreatDoorSnK
import Derived.Test.YtbacnaplpfmpnaaGreatDoorLkC
import Derived.Test.YtbacnaplpfmpnaaGreatDoorRfB
import Derived.Test.YtbacnaplpfmpnaaGreatDoorRfL
import Derived.Deep.RegionLaw
namespace Go.Proofs.YtbacnaplpfmpnaaGreatDoor
open Go.RowKit
set_option linter.unusedVariables false
set_option linter.unusedSimpArgs false

/-- How many bytes a part has; -1: all that is left. -/
def widthR (p : Int) : Int := if p = 6 ∨ p = 7 ∨ p = 8 then 2 else if p = 9 ∨ p = 10 then -1 else 1
/-- A message with one part more. -/
def readR (m : Ms) (p : Int) (b : List UInt8) : Ms × Int :=
  if p = 1 then ({ m with fl := rfF (getB b) }, rfE (getB b)) else if p = 2 then (m, if getB b = 1 then 0 else 5)
  else if p = 3 then ({ m with gw := getB b }, 0) else if p = 4 then ({ m with rad := getB b }, 0) else if p = 5 then ({ m with code := getB b }, 0)
  else if p = 6 then ({ m with time := getB b }, 0) else if p = 7 then ({ m with tid := getB b }, 0) else if p = 8 then ({ m with mid := getB b }, 0)
  else if p = 9 then ({ m with name := b }, 0) else ({ m with data := b }, 0)
def wOf (p : Int) (left : List UInt8) : Nat := if widthR p < 0 then left.length else (widthR p).toNat
def stopR (k p : Int) (left : List UInt8) : Bool := decide (left.length < wOf p left) || (decide (p = 9) && left.isEmpty && willB k)
def loopR (k : Int) : List Int → Ms → List UInt8 → Ms × List UInt8 × Int
  | [], m, left => (m, left, 0)
  | p :: ps, m, left =>
    if stopR k p left = true then (ms0, [], 5)
    else if (readR m p (left.take (wOf p left))).2 ≠ 0 then ((readR m p (left.take (wOf p left))).1, left.drop (wOf p left), (readR m p (left.take (wOf p left))).2)
    else loopR k ps (readR m p (left.take (wOf p left))).1 (left.drop (wOf p left))
def lay0 (k : Int) (u : List UInt8) : Ms := { Ms.bare k fl0 with timed := decide (k = 24) && !u.isEmpty, name := if willB k && !u.isEmpty then [63] else [] }
def layR (k : Int) (u : List UInt8) : Ms × List Int × Int :=
  if k = 18 ∨ k = 20 then (if u.isEmpty then (lay0 k u, [], 5) else if rfE (getB (u.take 1)) ≠ 0 then (lay0 k u, [], rfE (getB (u.take 1)))
    else ({ lay0 k u with fl := rfF (getB (u.take 1)) }, partsM { lay0 k u with fl := rfF (getB (u.take 1)) }, 0))
  else (lay0 k u, partsM (lay0 k u), 0)
def endR (x : Ms × List UInt8 × Int) : Int := if x.2.2 ≠ 0 then x.2.2 else if x.2.1.isEmpty = false then 5 else checkM x.1
/-- A part, and its number. -/
def plainP : Pt → Option Int
  | .flags => some 1 | .protocol => some 2 | .gateway => some 3 | .radius => some 4 | .code => some 5 | .time => some 6 | .id => some 7 | .msg => some 8 | .name => some 9 | .data => some 10
  | _ => none
theorem take_ok {t : List UInt8} {i : Nat} {n : Nat} (h : i + n ≤ t.length) : takeS t i 0 n = (t.drop i).take n ∧ takeI t i 0 n = i + n ∧ takeE t i 0 n = 0 := by
  have hh : hasB t i (n : Int) = true := by simp [hasB]; omega
  unfold takeS takeI takeE
  rw [if_pos ⟨rfl, hh⟩, if_pos ⟨rfl, hh⟩, if_neg (by simp [hh])]
  simp
theorem take_no {t : List UInt8} {i : Nat} {n : Nat} (h : t.length < i + n) (hi : i ≤ t.length) : takeS t i 0 n = [] ∧ takeI t i 0 n = i ∧ takeE t i 0 n = 3 := by
  have hh : hasB t i (n : Int) = false := by simp [hasB]; omega
  unfold takeS takeI takeE
  rw [if_neg (by simp [hh]), if_neg (by simp [hh]), if_pos ⟨rfl, hh⟩]
  simp
theorem take_stuck {t : List UInt8} {i : Nat} {e n : Int} (h : e ≠ 0) : takeE t i e n = e := by
  unfold takeE; rw [if_neg (fun x => h x.1)]
theorem getL_short {l : List UInt8} (h : l.length ≤ 8) : getL l = getB l := by
  unfold getL; rw [Nat.sub_eq_zero_of_le h, List.drop_zero]
theorem num_take {t : List UInt8} {s : Rd} (he : s.e = 0) {n : Nat} (h : s.i + n ≤ t.length) (h8 : n ≤ 8) : rdNum t s n = getB ((t.drop s.i).take n) := by
  unfold rdNum; rw [he, (take_ok h).1, getL_short (by simp; omega)]
theorem readP_stuck (p : Pt) (t : List UInt8) (s : Rd) (h : s.e ≠ 0) : (readP p t s).e = s.e := by
  have h1 : ∀ n, takeE t s.i s.e n = s.e := fun n => take_stuck h
  have hf : (rdFlags t s).e = s.e := by unfold rdFlags; rw [h1 1, if_neg h]
  cases p <;> simp only [readP] <;> (try split) <;> simp_all [rdName, rdFail]
  split <;> simp_all
theorem fold_stuck (t : List UInt8) : ∀ (ps : List Pt) (s : Rd), s.e ≠ 0 → (ps.foldl (fun s p => readP p t s) s).e = s.e
  | [], s, _ => rfl
  | p :: r, s, h => by
    have h1 := readP_stuck p t s h
    rw [List.foldl_cons, fold_stuck t r _ (by rw [h1]; exact h), h1]
/-- One part: as the reference reads it. -/
theorem step_plain {p : Pt} {q : Int} (hq : plainP p = some q) (k : Int) (hk : willB k = false) (t : List UInt8) (s : Rd) (he : s.e = 0) (hi : s.i ≤ t.length) :
    (stopR k q (t.drop s.i) = true ∧ (readP p t s).e = 3) ∨ (stopR k q (t.drop s.i) = false ∧ readP p t s = ⟨(readR s.m q ((t.drop s.i).take (wOf q (t.drop s.i)))).1, s.i + wOf q (t.drop s.i), (readR s.m q ((t.drop s.i).take (wOf q (t.drop s.i)))).2⟩ ∧ s.i + wOf q (t.drop s.i) ≤ t.length ∧ (readR s.m q ((t.drop s.i).take (wOf q (t.drop s.i)))).2 ≠ 3) := by
  have o1 := fun h : s.i + 1 ≤ t.length => take_ok h
  have o2 := fun h : s.i + 2 ≤ t.length => take_ok h
  have n1 := fun h : t.length < s.i + 1 => take_no h hi
  have n2 := fun h : t.length < s.i + 2 => take_no h hi
  have k1 := fun h : s.i + 1 ≤ t.length => num_take he h (by decide)
  have k2 := fun h : s.i + 2 ≤ t.length => num_take he h (by decide)
  have hr : rfE (getB ((t.drop s.i).take 1)) ≠ 3 := by unfold rfE; split <;> decide
  have one : ∀ q, widthR q = 1 → q ≠ 9 → wOf q (t.drop s.i) = 1 ∧ stopR k q (t.drop s.i) = decide (t.length < s.i + 1) := fun q h h9 => by
    have : wOf q (t.drop s.i) = 1 := by unfold wOf; rw [h]; rfl
    refine ⟨this, ?_⟩
    unfold stopR; rw [this, hk]; simp; omega
  have two : ∀ q, widthR q = 2 → q ≠ 9 → wOf q (t.drop s.i) = 2 ∧ stopR k q (t.drop s.i) = decide (t.length < s.i + 2) := fun q h h9 => by
    have : wOf q (t.drop s.i) = 2 := by unfold wOf; rw [h]; rfl
    refine ⟨this, ?_⟩
    unfold stopR; rw [this, hk]; simp; omega
  have all : ∀ q, widthR q = -1 → wOf q (t.drop s.i) = t.length - s.i ∧ stopR k q (t.drop s.i) = false := fun q h => by
    have : wOf q (t.drop s.i) = t.length - s.i := by unfold wOf; rw [h]; simp
    refine ⟨this, ?_⟩
    unfold stopR; rw [this, hk]; simp
  have hall : (t.drop s.i).take (t.length - s.i) = t.drop s.i := List.take_of_length_le (by simp)
  cases p <;> simp only [plainP] at hq <;> first | (cases hq; done) | skip
  all_goals (obtain rfl := Option.some.inj hq)
  case name =>
    obtain ⟨a, b⟩ := all 9 rfl
    right
    rw [a, hall]
    refine ⟨b, ?_, by omega, by simp [readR]⟩
    simp [readP, rdName, rdTxt, he, readR]; omega
  case data =>
    obtain ⟨a, b⟩ := all 10 rfl
    right
    rw [a, hall]
    refine ⟨b, ?_, by omega, by simp [readR]⟩
    simp [readP, rdTxt, he, readR]; omega
  case time | id | msg =>
    first
      | (obtain ⟨a, b⟩ := two 6 (by decide) (by decide); rw [b, a])
      | (obtain ⟨a, b⟩ := two 7 (by decide) (by decide); rw [b, a])
      | (obtain ⟨a, b⟩ := two 8 (by decide) (by decide); rw [b, a])
    by_cases h : t.length < s.i + 2
    · left; refine ⟨by simpa using h, ?_⟩
      simp only [readP]; rw [he]; exact (n2 h).2.2
    · right
      obtain ⟨c, d, e⟩ := o2 (by omega)
      have kk := k2 (by omega)
      refine ⟨by simpa using h, ?_, by omega, by simp [readR]⟩
      simp only [readP]
      rw [he]
      have d' : takeI t s.i 0 2 = s.i + 2 := d
      have e' : takeE t s.i 0 2 = 0 := e
      have kk' : rdNum t s 2 = _ := kk
      rw [d', e', kk']
      simp [readR]
  all_goals
    first
      | (obtain ⟨a, b⟩ := one 1 (by decide) (by decide); rw [b, a])
      | (obtain ⟨a, b⟩ := one 2 (by decide) (by decide); rw [b, a])
      | (obtain ⟨a, b⟩ := one 3 (by decide) (by decide); rw [b, a])
      | (obtain ⟨a, b⟩ := one 4 (by decide) (by decide); rw [b, a])
      | (obtain ⟨a, b⟩ := one 5 (by decide) (by decide); rw [b, a])
    by_cases h : t.length < s.i + 1
    · left; refine ⟨by simpa using h, ?_⟩
      have x1 : takeS t s.i 0 1 = [] := (n1 h).1
      have x3 : takeE t s.i 0 1 = 3 := (n1 h).2.2
      simp [readP, rdFlags, he, x3, rdNum, x1, getL, getB, rdFail]
    · right
      obtain ⟨c, d, e⟩ := o1 (by omega)
      have kk := k1 (by omega)
      have d' : takeI t s.i 0 1 = s.i + 1 := d
      have e' : takeE t s.i 0 1 = 0 := e
      have kk' : rdNum t s 1 = _ := kk
      refine ⟨by simpa using h, ?_, by omega, ?_⟩
      · simp only [readP, rdFlags]
        rw [he, d', e', kk']
        simp [readR, rdFail]
        try (split <;> rfl)
      · simp only [readR]
        first
          | exact hr
          | (simp; done)
          | (simp; split <;> decide)
/-- All parts. -/
theorem sim_plain (k : Int) (hk : willB k = false) (t : List UInt8) : ∀ (ps : List Pt) (qs : List Int) (s : Rd), ps.map plainP = qs.map some → s.e = 0 → s.i ≤ t.length →
    ((loopR k qs s.m (t.drop s.i)).2.2 ≠ 0 ∧ (ps.foldl (fun s p => readP p t s) s).e ≠ 0 ∧ (loopR k qs s.m (t.drop s.i)).2.2 = if (ps.foldl (fun s p => readP p t s) s).e = 3 then 5 else (ps.foldl (fun s p => readP p t s) s).e) ∨
    ((ps.foldl (fun s p => readP p t s) s).e = 0 ∧ (ps.foldl (fun s p => readP p t s) s).i ≤ t.length ∧ loopR k qs s.m (t.drop s.i) = ((ps.foldl (fun s p => readP p t s) s).m, t.drop (ps.foldl (fun s p => readP p t s) s).i, 0))
  | [], [], s, _, he, hi => .inr ⟨he, hi, rfl⟩
  | [], _ :: _, s, h, _, _ => by cases h
  | _ :: _, [], s, h, _, _ => by cases h
  | p :: ps, q :: qs, s, h, he, hi => by
    simp only [List.map_cons, List.cons.injEq] at h
    rw [List.foldl_cons]
    rcases step_plain h.1 k hk t s he hi with ⟨a, b⟩ | ⟨a, b, c, d⟩
    · left
      have hx := fold_stuck t ps (readP p t s) (by rw [b]; decide)
      rw [hx, b, loopR, if_pos a]
      decide
    · rw [loopR, if_neg (by rw [a]; decide)]
      by_cases hz : (readR s.m q ((t.drop s.i).take (wOf q (t.drop s.i)))).2 = 0
      · rw [if_neg (by rw [hz]; simp)]
        have := sim_plain k hk t ps qs (readP p t s) h.2 (by rw [b]; exact hz) (by rw [b]; exact c)
        rw [b] at this ⊢
        simp only at this ⊢
        rw [List.drop_drop]
        exact this
      · left
        rw [if_pos hz]
        have hx := fold_stuck t ps (readP p t s) (by rw [b]; exact hz)
        rw [hx, b]
        simp only
        exact ⟨hz, hz, by rw [if_neg d]⟩
/-- The end, from the simulation. -/
theorem end_of {k : Int} {t : List UInt8} {L : Ms × List UInt8 × Int} {X : Rd} (h : (L.2.2 ≠ 0 ∧ X.e ≠ 0 ∧ L.2.2 = if X.e = 3 then 5 else X.e) ∨ (X.e = 0 ∧ X.i ≤ t.length ∧ L = (X.m, t.drop X.i, 0))) :
    endR L = readE X t.length ∧ (readE X t.length = 0 → L.1 = X.m) := by
  rcases h with ⟨a, b, c⟩ | ⟨a, b, c⟩
  · have : endR L = readE X t.length := by unfold endR readE; rw [if_pos a, if_neg b, c]
    refine ⟨this, fun h => ?_⟩
    rw [← this] at h
    unfold endR at h
    rw [if_pos a] at h
    exact (a h).elim
  · rw [c]
    refine ⟨?_, fun _ => rfl⟩
    unfold endR readE
    simp only
    rw [if_neg (by simp), if_pos a]
    by_cases h : X.i < t.length
    · rw [if_pos h, if_pos (by simp; omega)]
    · rw [if_neg h, if_neg (by simp; omega)]
def kindR (k : Int) (u : List UInt8) : Ms × Int := if (layR k u).2.2 ≠ 0 then (ms0, (layR k u).2.2) else ((loopR k (layR k u).2.1 (layR k u).1 u).1, endR (loopR k (layR k u).2.1 (layR k u).1 u))
def KindSaid (k : Int) : Prop := ∀ u : List UInt8, (kindR k u).2 = readE (readAll k u (rd0 k)) u.length ∧ ((kindR k u).2 = 0 → (kindR k u).1 = (readAll k u (rd0 k)).m)
theorem kind_plain {k : Int} (hw : willB k = false) (h18 : ¬ (k = 18 ∨ k = 20)) (h24 : k ≠ 24) (qs : List Int) (hp : (layoutF k).map plainP = qs.map some) (hq : partsM (Ms.bare k fl0) = qs) : KindSaid k := by
  intro u
  have e0 : lay0 k u = Ms.bare k fl0 := by unfold lay0; rw [hw, decide_eq_false h24]; rfl
  have e : layR k u = (Ms.bare k fl0, qs, 0) := by unfold layR; rw [if_neg h18, e0, hq]
  have s := end_of (k := k) (sim_plain k hw u (layoutF k) qs (rd0 k) hp rfl (Nat.zero_le _))
  unfold kindR
  rw [e]
  simp only
  rw [if_neg (by simp)]
  simp only
  have hx : (layoutF k).foldl (fun s p => readP p u s) (rd0 k) = readAll k u (rd0 k) := rfl
  rw [hx] at s
  have hd : u.drop (rd0 k).i = u := rfl
  rw [hd] at s
  exact ⟨s.1, fun h => s.2 (by rw [← s.1]; exact h)⟩
theorem kind_24 : KindSaid 24 := by
  intro u
  by_cases hu : u = []
  · subst hu
    have e : layR 24 [] = (Ms.bare 24 fl0, [], 0) := rfl
    unfold kindR
    rw [e]
    simp only
    rw [if_neg (by simp)]
    have h2 : readAll 24 [] (rd0 24) = ⟨Ms.bare 24 fl0, 0, 0⟩ := rfl
    rw [h2]
    exact ⟨rfl, fun _ => rfl⟩
  · have hl : 0 < u.length := List.length_pos_iff.2 hu
    have hb : u.isEmpty = false := by cases u with | nil => exact (hu rfl).elim | cons => rfl
    have e0 : lay0 24 u = { Ms.bare 24 fl0 with timed := true } := by unfold lay0; rw [hb]; rfl
    have e : layR 24 u = ({ Ms.bare 24 fl0 with timed := true }, [6], 0) := by unfold layR; rw [if_neg (by decide), e0]; rfl
    have s := end_of (k := 24) (sim_plain 24 rfl u [.time] [6] ⟨{ Ms.bare 24 fl0 with timed := true }, 0, 0⟩ rfl rfl (Nat.zero_le _))
    have hx : [Pt.time].foldl (fun s p => readP p u s) ⟨{ Ms.bare 24 fl0 with timed := true }, 0, 0⟩ = readAll 24 u (rd0 24) := by
      show readP .time u ⟨{ Ms.bare 24 fl0 with timed := true }, 0, 0⟩ = readP .duration u (rd0 24)
      simp only [readP]
      rw [if_neg (by simp [rd0]; exact hu)]
      rfl
    rw [hx] at s
    unfold kindR
    rw [e]
    simp only
    rw [if_neg (by simp)]
    exact ⟨s.1, fun h => s.2 (by rw [← s.1]; exact h)⟩
theorem read_flags_one (b : UInt8) (r : List UInt8) (m : Ms) : readP .flags (b :: r) ⟨m, 0, 0⟩ = ⟨{ m with fl := rfF (getB [b]) }, 1, rfE (getB [b])⟩ := by
  obtain ⟨c, d, e⟩ := take_ok (t := b :: r) (i := 0) (n := 1) (by simp)
  have kk := num_take (t := b :: r) (s := ⟨m, 0, 0⟩) rfl (n := 1) (by simp) (by decide)
  have d' : takeI (b :: r) 0 0 1 = 1 := d
  have e' : takeE (b :: r) 0 0 1 = 0 := e
  have kk' : rdNum (b :: r) ⟨m, 0, 0⟩ 1 = getB [b] := kk
  simp only [readP, rdFlags]
  rw [d', e', kk', if_pos rfl]
theorem kind_will {k : Int} (hw : willB k = true) (hl : layoutF k = [.will]) : KindSaid k := by
  intro u
  have h24 : k ≠ 24 := by rintro rfl; revert hw; decide
  have h18 : ¬ (k = 18 ∨ k = 20) := by rintro (rfl | rfl) <;> (revert hw; decide)
  cases u with
  | nil =>
    have e0 : lay0 k [] = Ms.bare k fl0 := by unfold lay0; rw [decide_eq_false h24]; simp [Ms.bare]
    have e : layR k [] = (Ms.bare k fl0, [], 0) := by unfold layR; rw [if_neg h18, e0]; unfold partsM; rw [show (Ms.bare k fl0).ty = k from rfl, hl]; rfl
    have h2 : readAll k [] (rd0 k) = ⟨Ms.bare k fl0, 0, 0⟩ := by unfold readAll; rw [hl]; rfl
    unfold kindR
    rw [e, h2]
    simp only
    rw [if_neg (by simp)]
    exact ⟨rfl, fun _ => rfl⟩
  | cons b r =>
    have e0 : lay0 k (b :: r) = { Ms.bare k fl0 with name := [63] } := by unfold lay0; rw [hw, decide_eq_false h24]; rfl
    have e : layR k (b :: r) = ({ Ms.bare k fl0 with name := [63] }, [1, 9], 0) := by
      unfold layR; rw [if_neg h18, e0]; unfold partsM
      rw [show ({ Ms.bare k fl0 with name := [63] } : Ms).ty = k from rfl, hl]; rfl
    have h2 : readAll k (b :: r) (rd0 k) = rdName (b :: r) (if r.length = 0 then rdFail ⟨{ Ms.bare k fl0 with fl := rfF (getB [b]) }, 1, rfE (getB [b])⟩ 5 else ⟨{ Ms.bare k fl0 with fl := rfF (getB [b]) }, 1, rfE (getB [b])⟩) := by
      unfold readAll; rw [hl]
      simp only [List.foldl_cons, List.foldl_nil]
      have h := read_flags_one b r (Ms.bare k fl0)
      have h1 : readP .will (b :: r) (rd0 k) = rdName (b :: r) (if (b :: r).length - (readP .flags (b :: r) (rd0 k)).i = 0 then rdFail (readP .flags (b :: r) (rd0 k)) 5 else readP .flags (b :: r) (rd0 k)) := by
        show (if (b :: r).length - 0 = 0 then rd0 k else _) = _
        exact if_neg (by simp)
      rw [h1, show rd0 k = ⟨Ms.bare k fl0, 0, 0⟩ from rfl, h]
      simp
    have w1 : wOf 1 (b :: r) = 1 := rfl
    have s1 : stopR k 1 (b :: r) = false := by unfold stopR; rw [w1]; simp
    unfold kindR
    rw [e, h2]
    simp only
    rw [if_neg (by simp)]
    simp only
    rw [loopR, if_neg (by rw [s1]; decide), w1]
    have t1 : (b :: r).take 1 = [b] := rfl
    have d1 : (b :: r).drop 1 = r := rfl
    rw [t1, d1]
    have r1 : ∀ m, readR m 1 [b] = ({ m with fl := rfF (getB [b]) }, rfE (getB [b])) := fun m => rfl
    rw [r1]
    simp only
    by_cases hz : rfE (getB [b]) = 0
    rotate_left
    · have h7 : rfE (getB [b]) = 7 := by unfold rfE at hz ⊢; split at hz <;> simp_all
      rw [if_pos hz, h7]
      have : (rdName (b :: r) (if r.length = 0 then rdFail ⟨{ Ms.bare k fl0 with fl := rfF (getB [b]) }, 1, 7⟩ 5 else ⟨{ Ms.bare k fl0 with fl := rfF (getB [b]) }, 1, 7⟩)).e = 7 := by
        split <;> rfl
      unfold readE
      rw [this]
      exact ⟨rfl, fun h => by revert h; unfold endR; simp⟩
    rw [if_neg (by rw [hz]; simp), hz]
    cases r with
    | nil =>
      have s9 : stopR k 9 [] = true := by unfold stopR; rw [hw]; rfl
      rw [loopR, if_pos s9]
      exact ⟨rfl, fun h => by revert h; unfold endR; simp⟩
    | cons c r =>
      have w9 : wOf 9 (c :: r) = (c :: r).length := rfl
      have s9 : stopR k 9 (c :: r) = false := by unfold stopR; rw [w9]; simp
      rw [loopR, if_neg (by rw [s9]; decide), w9, List.take_length, List.drop_length]
      have r9 : ∀ m, readR m 9 (c :: r) = ({ m with name := c :: r }, 0) := fun m => rfl
      rw [r9]
      simp only
      rw [if_neg (by simp), if_neg (by simp)]
      unfold loopR
      have hx : rdName (b :: c :: r) ⟨{ Ms.bare k fl0 with fl := rfF (getB [b]) }, 1, 0⟩ = ⟨{ Ms.bare k fl0 with fl := rfF (getB [b]), name := c :: r }, (b :: c :: r).length, 0⟩ := by
        unfold rdName rdTxt; rfl
      rw [hx]
      refine ⟨?_, fun _ => rfl⟩
      unfold endR readE
      simp only
      rw [if_neg (by simp), if_neg (by simp), if_pos trivial, if_neg (by simp)]
theorem kind_topic {k : Int} (h18 : k = 18 ∨ k = 20) : KindSaid k := by
  intro u
  have hw : willB k = false := by rcases h18 with rfl | rfl <;> rfl
  have h24 : k ≠ 24 := by omega
  have hl : layoutF k = [.flags, .msg, .topic] := by rcases h18 with rfl | rfl <;> rfl
  have e0 : lay0 k u = Ms.bare k fl0 := by unfold lay0; rw [hw, decide_eq_false h24]; rfl
  have hX : readAll k u (rd0 k) = [Pt.msg, Pt.topic].foldl (fun s p => readP p u s) (readP .flags u (rd0 k)) := by unfold readAll; rw [hl]; rfl
  cases u with
  | nil =>
    have e : layR k [] = (Ms.bare k fl0, [], 5) := by unfold layR; rw [if_pos h18, e0]; rfl
    have h3 : (readAll k [] (rd0 k)).e = 3 := by
      have h3 : (readP .flags [] (rd0 k)).e = 3 := rfl
      rw [hX, fold_stuck _ _ _ (by rw [h3]; decide), h3]
    unfold kindR readE
    rw [e, h3]
    exact ⟨rfl, fun h => by revert h; simp⟩
  | cons b r =>
    have t1 : (b :: r).take 1 = [b] := rfl
    have d1 : (b :: r).drop 1 = r := rfl
    have hf := read_flags_one b r (Ms.bare k fl0)
    have hr0 : rd0 k = ⟨Ms.bare k fl0, 0, 0⟩ := rfl
    rw [← hr0] at hf
    rw [hf] at hX
    by_cases hz : rfE (getB [b]) = 0
    rotate_left
    · have h7 : rfE (getB [b]) = 7 := by unfold rfE at hz ⊢; split at hz <;> simp_all
      have e : layR k (b :: r) = (Ms.bare k fl0, [], 7) := by unfold layR; rw [if_pos h18, e0, t1, if_neg (by simp), if_pos hz, h7]
      have h3 : (readAll k (b :: r) (rd0 k)).e = 7 := by rw [hX, fold_stuck _ _ _ hz]; exact h7
      unfold kindR readE
      rw [e, h3]
      exact ⟨rfl, fun h => by revert h; simp⟩
    · have e : layR k (b :: r) = ({ Ms.bare k fl0 with fl := rfF (getB [b]) }, partsM { Ms.bare k fl0 with fl := rfF (getB [b]) }, 0) := by
        unfold layR; rw [if_pos h18, e0, t1, if_neg (by simp), if_neg (by rw [hz]; simp)]
      have w1 : wOf 1 (b :: r) = 1 := rfl
      have s1 : stopR k 1 (b :: r) = false := by unfold stopR; rw [w1]; simp
      have r1 : ∀ m, readR m 1 [b] = ({ m with fl := rfF (getB [b]) }, rfE (getB [b])) := fun m => rfl
      have hpart : ∃ q p, partsM { Ms.bare k fl0 with fl := rfF (getB [b]) } = [1, 8, q] ∧ plainP p = some q ∧ ∀ s : Rd, s.m.fl = rfF (getB [b]) → readP .topic (b :: r) s = readP p (b :: r) s := by
        by_cases ht : (rfF (getB [b])).typ = 0
        · refine ⟨9, .name, ?_, rfl, fun s hs => ?_⟩
          · unfold partsM; rw [show ({ Ms.bare k fl0 with fl := rfF (getB [b]) } : Ms).ty = k from rfl, hl]; simp [partOf, ht]
          · simp only [readP]; rw [hs, if_pos ht]
        · refine ⟨7, .id, ?_, rfl, fun s hs => ?_⟩
          · unfold partsM; rw [show ({ Ms.bare k fl0 with fl := rfF (getB [b]) } : Ms).ty = k from rfl, hl]; simp [partOf, ht]
          · simp only [readP]; rw [hs, if_neg ht]
      obtain ⟨q, p, hq, hp, hs⟩ := hpart
      rw [hq] at e
      have s := end_of (k := k) (sim_plain k hw (b :: r) [.msg, p] [8, q] ⟨{ Ms.bare k fl0 with fl := rfF (getB [b]) }, 1, 0⟩ (by rw [List.map_cons, List.map_cons, hp]; rfl) rfl (by simp))
      have hx : [Pt.msg, p].foldl (fun s p => readP p (b :: r) s) ⟨{ Ms.bare k fl0 with fl := rfF (getB [b]) }, 1, 0⟩ = readAll k (b :: r) (rd0 k) := by
        rw [hX, hz]
        simp only [List.foldl_cons, List.foldl_nil]
        exact (hs _ rfl).symm
      rw [hx] at s
      unfold kindR
      rw [e]
      simp only
      rw [if_neg (by simp)]
      simp only
      rw [loopR, if_neg (by rw [s1]; decide), w1, t1, d1, r1]
      simp only
      rw [if_neg (by rw [hz]; simp)]
      exact ⟨s.1, fun h => s.2 (by rw [← s.1]; exact h)⟩
theorem kind_any {k : Int} (hk : kindM k = true) : KindSaid k := by
  by_cases h18 : k = 18 ∨ k = 20
  · exact kind_topic h18
  by_cases h24 : k = 24
  · subst h24; exact kind_24
  by_cases h7 : k = 7
  · subst h7; exact kind_will rfl rfl
  by_cases h26 : k = 26
  · subst h26; exact kind_will rfl rfl
  have hw : willB k = false := by unfold willB; rw [decide_eq_false h7, decide_eq_false h26]; rfl
  refine kind_plain hw h18 h24 (partsM (Ms.bare k fl0)) ?_ rfl
  rcases kinds_of hk with h | h | h | h | h | h | h | h | h | h | h | h | h | h | h | h | h | h | h | h | h | h | h | h | h | h | h <;> subst h <;> first | rfl | omega
/-- What is read, as the reference says it. -/
def readQ (t : List UInt8) : Ms × Int × Int :=
  if (snR t).2.2.2 ≠ 0 then (ms0, 0, (snR t).2.2.2)
  else if (snR t).1 = 254 then (ms0, 0, 8)
  else if (t.length : Int) < (snR t).2.2.1 then (ms0, 0, 3)
  else if (kindR (snR t).1 (bodyL t (snR t).2.1.toNat (snR t).2.2.1.toNat)).2 = 0 then ((kindR (snR t).1 (bodyL t (snR t).2.1.toNat (snR t).2.2.1.toNat)).1, (snR t).2.2.1, 0)
  else (ms0, 0, (kindR (snR t).1 (bodyL t (snR t).2.1.toNat (snR t).2.2.1.toNat)).2)
theorem readQ_eq {t : List UInt8} (hk : (snR t).2.2.2 = 0 → (snR t).1 ≠ 254 → kindM (snR t).1 = true) : readQ t = readM t := by
  unfold readQ readM
  by_cases h1 : (snR t).2.2.2 ≠ 0
  · rw [if_pos h1, if_pos h1]
  rw [if_neg h1, if_neg h1]
  by_cases h2 : (snR t).1 = 254
  · rw [if_pos h2, if_pos h2]
  rw [if_neg h2, if_neg h2]
  by_cases h3 : (t.length : Int) < (snR t).2.2.1
  · rw [if_pos h3, if_pos h3]
  rw [if_neg h3, if_neg h3]
  obtain ⟨a, b⟩ := kind_any (hk (Decidable.not_not.1 h1) h2) (bodyL t (snR t).2.1.toNat (snR t).2.2.1.toNat)
  simp only
  rw [← a]
  by_cases h4 : (kindR (snR t).1 (bodyL t (snR t).2.1.toNat (snR t).2.2.1.toNat)).2 = 0
  · rw [if_pos h4, if_pos h4, b h4]
  · rw [if_neg h4, if_neg h4]
end Go.Proofs.YtbacnaplpfmpnaaGreatDoor
namespace Go.Proofs.YtbacnaplpfmpnaaGreatDoor
open Go.RowKit
set_option linter.unusedVariables false
set_option linter.unusedSimpArgs false
attribute [local go_sem ↓] Go.wp_at_zero Go.wp_at_succ load_Msg store_Msg
attribute [local irreducible] rowSem rowStore

theorem rwidth_any (p : Int) (w : World) : Calls Tryz.prog 55 #[.int .i64 p] w fun e w' => e = .returned (.int .i64 (widthR p)) ∧ w = w' := by
  by_cases h2 : p = 6 ∨ p = 7 ∨ p = 8
  · have HE := Lib.hid (show widthR p = 2 by unfold widthR; rw [if_pos h2])
    rw [HE.out]
    rcases h2 with rfl | rfl | rfl <;>
    · go_enter Tryz.func55, Tryz.ntmps55
      go_wp2
      go_ret
      exact ⟨rfl, rfl⟩
  by_cases h1 : p = 9 ∨ p = 10
  · have HE := Lib.hid (show widthR p = -1 by unfold widthR; rw [if_neg h2, if_pos h1])
    rw [HE.out]
    rcases h1 with rfl | rfl <;>
    · go_enter Tryz.func55, Tryz.ntmps55
      go_wp2
      go_ret
      exact ⟨rfl, rfl⟩
  have HE := Lib.hid (show widthR p = 1 by unfold widthR; rw [if_neg h2, if_neg h1])
  rw [HE.out]
  have d6 : (p == 6) = false := by simp; omega
  have d7 : (p == 7) = false := by simp; omega
  have d8 : (p == 8) = false := by simp; omega
  have d9 : (p == 9) = false := by simp; omega
  have d10 : (p == 10) = false := by simp; omega
  clear h1 h2
  go_enter Tryz.func55, Tryz.ntmps55
  go_wp2
  go_ret
  exact ⟨rfl, rfl⟩
/-- What read answers. -/
def PartRead (w : World) (x : Ms × Int) (e : Ending) (w' : World) : Prop := e = .returned (.tuple #[.agg x.1.cs, .int .i64 x.2]) ∧ Below w.heap.size w w'
theorem getB_le2 {l : List UInt8} (h : l.length ≤ 2) : 0 ≤ getB l ∧ getB l ≤ 65535 := by
  have h1 := getB_nonneg l
  have h2 := getB_lt l 2 h
  omega
set_option maxRecDepth 100000 in
set_option maxHeartbeats 3200000 in
theorem rread_3 (m : Ms) (b : List UInt8) (hl : b.length ≤ 2) (w : World) : Calls Tryz.prog 56 #[.agg m.cs, .int .i64 3, .string ⟨b.toArray⟩] w (PartRead w (readR m 3 b)) := by
  have OD := (Obj?.new w m.cs 25).alloc (.cells #[.int .i64 0, .bool false, .int .i64 0, .bool false, .bool false, .bool false, .int .i64 0, .int .i64 0, .int .i64 0, .int .i64 0, .bool false, .int .i64 0, .int .i64 0, .int .i64 0, .string ⟨#[]⟩, .string ⟨#[]⟩] 25 (0, 0))
  have OR := Obj?.new (w.alloc (.cells m.cs 25 (0, 0))) #[.int .i64 0, .bool false, .int .i64 0, .bool false, .bool false, .bool false, .int .i64 0, .int .i64 0, .int .i64 0, .int .i64 0, .bool false, .int .i64 0, .int .i64 0, .int .i64 0, .string ⟨#[]⟩, .string ⟨#[]⟩] 25
  rw [World.size_alloc] at OR
  have HB := Lib.hid (below_al (below_al (Below.refl _ w) (.cells m.cs 25 (0, 0))) (.cells #[.int .i64 0, .bool false, .int .i64 0, .bool false, .bool false, .bool false, .int .i64 0, .int .i64 0, .int .i64 0, .int .i64 0, .bool false, .int .i64 0, .int .i64 0, .int .i64 0, .string ⟨#[]⟩, .string ⟨#[]⟩] 25 (0, 0)))
  obtain ⟨hb0, hb1⟩ := getB_le2 hl
  obtain ⟨n, hn⟩ : ∃ n, n = getB b := ⟨_, rfl⟩
  have HN := Lib.hid (fun w => by have := rnumber_any b (by omega) w; rw [← hn] at this; exact this)
  rw [← hn] at hb0 hb1
  have HE := Lib.hid (show readR m 3 b = ({ m with gw := n }, 0) from by rw [hn]; rfl)
  rw [HE.out]
  have HW := Lib.hid (rwidth_any 3 w)
  clear hn
  have OD2 := (Obj?.new w (Ms.cs { m with gw := n }) 25).alloc (.cells #[.int .i64 0, .bool false, .int .i64 0, .bool false, .bool false, .bool false, .int .i64 0, .int .i64 0, .int .i64 0, .int .i64 0, .bool false, .int .i64 0, .int .i64 0, .int .i64 0, .string ⟨#[]⟩, .string ⟨#[]⟩] 25 (0, 0))
  have OR2 := Obj?.new (w.alloc (.cells (Ms.cs { m with gw := n }) 25 (0, 0))) #[.int .i64 0, .bool false, .int .i64 0, .bool false, .bool false, .bool false, .int .i64 0, .int .i64 0, .int .i64 0, .int .i64 0, .bool false, .int .i64 0, .int .i64 0, .int .i64 0, .string ⟨#[]⟩, .string ⟨#[]⟩] 25
  rw [World.size_alloc] at OR2
  have kd := OD.cells
  have fd := fun j => OD.frozen j
  have hld := load_msgA (A := Ms.cs { m with gw := n }) rfl OD2
  have hst := store_msg { m with gw := n } OR2 rfl
  have HO := Lib.hid (And.intro (OR2.setRow (Ms.cs { m with gw := n })) (below_row (below_al (below_al (Below.refl _ w) (.cells (Ms.cs { m with gw := n }) 25 (0, 0))) (.cells #[.int .i64 0, .bool false, .int .i64 0, .bool false, .bool false, .bool false, .int .i64 0, .int .i64 0, .int .i64 0, .int .i64 0, .bool false, .int .i64 0, .int .i64 0, .int .i64 0, .string ⟨#[]⟩, .string ⟨#[]⟩] 25 (0, 0))) (by omega : w.heap.size ≤ w.heap.size + 1) (Ms.cs { m with gw := n })))
  clear OD OR OD2 OR2
  unfold Ms.cs at *
  go_enter Tryz.func56, Tryz.ntmps56
  refine wp_hide fun Q1 hQ1 => ?_
  have HQ1 := Lib.hid hQ1
  clear hQ1
  go_wp2_with fail
  refine (rwidth_any 3 _).mono ?_
  rintro r w1 ⟨rfl, rfl⟩
  have hw : widthR 3 = 1 := rfl
  rw [hw]
  clear hw
  go_wp2_with fail
  refine (HN.out _).mono ?_
  rintro r w2 ⟨rfl, rfl⟩
  go_wp2
  refine HQ1.out _ _ _ ?_
  (try simp only [Exit.inBlock, Exit.then])
  refine bodyPost_ret (results_row_tmp rfl _ _ _ _ _ _ rfl HO.out.1 Tryz.underlying25 rfl infoMs) rfl ?_
  exact ⟨rfl, HO.out.2⟩
set_option maxRecDepth 100000 in
set_option maxHeartbeats 3200000 in
theorem rread_4 (m : Ms) (b : List UInt8) (hl : b.length ≤ 2) (w : World) : Calls Tryz.prog 56 #[.agg m.cs, .int .i64 4, .string ⟨b.toArray⟩] w (PartRead w (readR m 4 b)) := by
  have OD := (Obj?.new w m.cs 25).alloc (.cells #[.int .i64 0, .bool false, .int .i64 0, .bool false, .bool false, .bool false, .int .i64 0, .int .i64 0, .int .i64 0, .int .i64 0, .bool false, .int .i64 0, .int .i64 0, .int .i64 0, .string ⟨#[]⟩, .string ⟨#[]⟩] 25 (0, 0))
  have OR := Obj?.new (w.alloc (.cells m.cs 25 (0, 0))) #[.int .i64 0, .bool false, .int .i64 0, .bool false, .bool false, .bool false, .int .i64 0, .int .i64 0, .int .i64 0, .int .i64 0, .bool false, .int .i64 0, .int .i64 0, .int .i64 0, .string ⟨#[]⟩, .string ⟨#[]⟩] 25
  rw [World.size_alloc] at OR
  have HB := Lib.hid (below_al (below_al (Below.refl _ w) (.cells m.cs 25 (0, 0))) (.cells #[.int .i64 0, .bool false, .int .i64 0, .bool false, .bool false, .bool false, .int .i64 0, .int .i64 0, .int .i64 0, .int .i64 0, .bool false, .int .i64 0, .int .i64 0, .int .i64 0, .string ⟨#[]⟩, .string ⟨#[]⟩] 25 (0, 0)))
  obtain ⟨hb0, hb1⟩ := getB_le2 hl
  obtain ⟨n, hn⟩ : ∃ n, n = getB b := ⟨_, rfl⟩
  have HN := Lib.hid (fun w => by have := rnumber_any b (by omega) w; rw [← hn] at this; exact this)
  rw [← hn] at hb0 hb1
  have HE := Lib.hid (show readR m 4 b = ({ m with rad := n }, 0) from by rw [hn]; rfl)
  rw [HE.out]
  have HW := Lib.hid (rwidth_any 4 w)
  clear hn
  have OD2 := (Obj?.new w (Ms.cs { m with rad := n }) 25).alloc (.cells #[.int .i64 0, .bool false, .int .i64 0, .bool false, .bool false, .bool false, .int .i64 0, .int .i64 0, .int .i64 0, .int .i64 0, .bool false, .int .i64 0, .int .i64 0, .int .i64 0, .string ⟨#[]⟩, .string ⟨#[]⟩] 25 (0, 0))
  have OR2 := Obj?.new (w.alloc (.cells (Ms.cs { m with rad := n }) 25 (0, 0))) #[.int .i64 0, .bool false, .int .i64 0, .bool false, .bool false, .bool false, .int .i64 0, .int .i64 0, .int .i64 0, .int .i64 0, .bool false, .int .i64 0, .int .i64 0, .int .i64 0, .string ⟨#[]⟩, .string ⟨#[]⟩] 25
  rw [World.size_alloc] at OR2
  have kd := OD.cells
  have fd := fun j => OD.frozen j
  have hld := load_msgA (A := Ms.cs { m with rad := n }) rfl OD2
  have hst := store_msg { m with rad := n } OR2 rfl
  have HO := Lib.hid (And.intro (OR2.setRow (Ms.cs { m with rad := n })) (below_row (below_al (below_al (Below.refl _ w) (.cells (Ms.cs { m with rad := n }) 25 (0, 0))) (.cells #[.int .i64 0, .bool false, .int .i64 0, .bool false, .bool false, .bool false, .int .i64 0, .int .i64 0, .int .i64 0, .int .i64 0, .bool false, .int .i64 0, .int .i64 0, .int .i64 0, .string ⟨#[]⟩, .string ⟨#[]⟩] 25 (0, 0))) (by omega : w.heap.size ≤ w.heap.size + 1) (Ms.cs { m with rad := n })))
  clear OD OR OD2 OR2
  unfold Ms.cs at *
  go_enter Tryz.func56, Tryz.ntmps56
  refine wp_hide fun Q1 hQ1 => ?_
  have HQ1 := Lib.hid hQ1
  clear hQ1
  go_wp2_with fail
  refine (rwidth_any 4 _).mono ?_
  rintro r w1 ⟨rfl, rfl⟩
  have hw : widthR 4 = 1 := rfl
  rw [hw]
  clear hw
  go_wp2_with fail
  refine (HN.out _).mono ?_
  rintro r w2 ⟨rfl, rfl⟩
  go_wp2
  refine HQ1.out _ _ _ ?_
  (try simp only [Exit.inBlock, Exit.then])
  refine bodyPost_ret (results_row_tmp rfl _ _ _ _ _ _ rfl HO.out.1 Tryz.underlying25 rfl infoMs) rfl ?_
  exact ⟨rfl, HO.out.2⟩
set_option maxRecDepth 100000 in
set_option maxHeartbeats 3200000 in
theorem rread_5 (m : Ms) (b : List UInt8) (hl : b.length ≤ 2) (w : World) : Calls Tryz.prog 56 #[.agg m.cs, .int .i64 5, .string ⟨b.toArray⟩] w (PartRead w (readR m 5 b)) := by
  have OD := (Obj?.new w m.cs 25).alloc (.cells #[.int .i64 0, .bool false, .int .i64 0, .bool false, .bool false, .bool false, .int .i64 0, .int .i64 0, .int .i64 0, .int .i64 0, .bool false, .int .i64 0, .int .i64 0, .int .i64 0, .string ⟨#[]⟩, .string ⟨#[]⟩] 25 (0, 0))
  have OR := Obj?.new (w.alloc (.cells m.cs 25 (0, 0))) #[.int .i64 0, .bool false, .int .i64 0, .bool false, .bool false, .bool false, .int .i64 0, .int .i64 0, .int .i64 0, .int .i64 0, .bool false, .int .i64 0, .int .i64 0, .int .i64 0, .string ⟨#[]⟩, .string ⟨#[]⟩] 25
  rw [World.size_alloc] at OR
  have HB := Lib.hid (below_al (below_al (Below.refl _ w) (.cells m.cs 25 (0, 0))) (.cells #[.int .i64 0, .bool false, .int .i64 0, .bool false, .bool false, .bool false, .int .i64 0, .int .i64 0, .int .i64 0, .int .i64 0, .bool false, .int .i64 0, .int .i64 0, .int .i64 0, .string ⟨#[]⟩, .string ⟨#[]⟩] 25 (0, 0)))
  obtain ⟨hb0, hb1⟩ := getB_le2 hl
  obtain ⟨n, hn⟩ : ∃ n, n = getB b := ⟨_, rfl⟩
  have HN := Lib.hid (fun w => by have := rnumber_any b (by omega) w; rw [← hn] at this; exact this)
  rw [← hn] at hb0 hb1
  have HE := Lib.hid (show readR m 5 b = ({ m with code := n }, 0) from by rw [hn]; rfl)
  rw [HE.out]
  have HW := Lib.hid (rwidth_any 5 w)
  clear hn
  have OD2 := (Obj?.new w (Ms.cs { m with code := n }) 25).alloc (.cells #[.int .i64 0, .bool false, .int .i64 0, .bool false, .bool false, .bool false, .int .i64 0, .int .i64 0, .int .i64 0, .int .i64 0, .bool false, .int .i64 0, .int .i64 0, .int .i64 0, .string ⟨#[]⟩, .string ⟨#[]⟩] 25 (0, 0))
  have OR2 := Obj?.new (w.alloc (.cells (Ms.cs { m with code := n }) 25 (0, 0))) #[.int .i64 0, .bool false, .int .i64 0, .bool false, .bool false, .bool false, .int .i64 0, .int .i64 0, .int .i64 0, .int .i64 0, .bool false, .int .i64 0, .int .i64 0, .int .i64 0, .string ⟨#[]⟩, .string ⟨#[]⟩] 25
  rw [World.size_alloc] at OR2
  have kd := OD.cells
  have fd := fun j => OD.frozen j
  have hld := load_msgA (A := Ms.cs { m with code := n }) rfl OD2
  have hst := store_msg { m with code := n } OR2 rfl
  have HO := Lib.hid (And.intro (OR2.setRow (Ms.cs { m with code := n })) (below_row (below_al (below_al (Below.refl _ w) (.cells (Ms.cs { m with code := n }) 25 (0, 0))) (.cells #[.int .i64 0, .bool false, .int .i64 0, .bool false, .bool false, .bool false, .int .i64 0, .int .i64 0, .int .i64 0, .int .i64 0, .bool false, .int .i64 0, .int .i64 0, .int .i64 0, .string ⟨#[]⟩, .string ⟨#[]⟩] 25 (0, 0))) (by omega : w.heap.size ≤ w.heap.size + 1) (Ms.cs { m with code := n })))
  clear OD OR OD2 OR2
  unfold Ms.cs at *
  go_enter Tryz.func56, Tryz.ntmps56
  refine wp_hide fun Q1 hQ1 => ?_
  have HQ1 := Lib.hid hQ1
  clear hQ1
  go_wp2_with fail
  refine (rwidth_any 5 _).mono ?_
  rintro r w1 ⟨rfl, rfl⟩
  have hw : widthR 5 = 1 := rfl
  rw [hw]
  clear hw
  go_wp2_with fail
  refine (HN.out _).mono ?_
  rintro r w2 ⟨rfl, rfl⟩
  go_wp2
  refine HQ1.out _ _ _ ?_
  (try simp only [Exit.inBlock, Exit.then])
  refine bodyPost_ret (results_row_tmp rfl _ _ _ _ _ _ rfl HO.out.1 Tryz.underlying25 rfl infoMs) rfl ?_
  exact ⟨rfl, HO.out.2⟩
set_option maxRecDepth 100000 in
set_option maxHeartbeats 3200000 in
theorem rread_6 (m : Ms) (b : List UInt8) (hl : b.length ≤ 2) (w : World) : Calls Tryz.prog 56 #[.agg m.cs, .int .i64 6, .string ⟨b.toArray⟩] w (PartRead w (readR m 6 b)) := by
  have OD := (Obj?.new w m.cs 25).alloc (.cells #[.int .i64 0, .bool false, .int .i64 0, .bool false, .bool false, .bool false, .int .i64 0, .int .i64 0, .int .i64 0, .int .i64 0, .bool false, .int .i64 0, .int .i64 0, .int .i64 0, .string ⟨#[]⟩, .string ⟨#[]⟩] 25 (0, 0))
  have OR := Obj?.new (w.alloc (.cells m.cs 25 (0, 0))) #[.int .i64 0, .bool false, .int .i64 0, .bool false, .bool false, .bool false, .int .i64 0, .int .i64 0, .int .i64 0, .int .i64 0, .bool false, .int .i64 0, .int .i64 0, .int .i64 0, .string ⟨#[]⟩, .string ⟨#[]⟩] 25
  rw [World.size_alloc] at OR
  have HB := Lib.hid (below_al (below_al (Below.refl _ w) (.cells m.cs 25 (0, 0))) (.cells #[.int .i64 0, .bool false, .int .i64 0, .bool false, .bool false, .bool false, .int .i64 0, .int .i64 0, .int .i64 0, .int .i64 0, .bool false, .int .i64 0, .int .i64 0, .int .i64 0, .string ⟨#[]⟩, .string ⟨#[]⟩] 25 (0, 0)))
  obtain ⟨hb0, hb1⟩ := getB_le2 hl
  obtain ⟨n, hn⟩ : ∃ n, n = getB b := ⟨_, rfl⟩
  have HN := Lib.hid (fun w => by have := rnumber_any b (by omega) w; rw [← hn] at this; exact this)
  rw [← hn] at hb0 hb1
  have HE := Lib.hid (show readR m 6 b = ({ m with time := n }, 0) from by rw [hn]; rfl)
  rw [HE.out]
  have HW := Lib.hid (rwidth_any 6 w)
  clear hn
  have OD2 := (Obj?.new w (Ms.cs { m with time := n }) 25).alloc (.cells #[.int .i64 0, .bool false, .int .i64 0, .bool false, .bool false, .bool false, .int .i64 0, .int .i64 0, .int .i64 0, .int .i64 0, .bool false, .int .i64 0, .int .i64 0, .int .i64 0, .string ⟨#[]⟩, .string ⟨#[]⟩] 25 (0, 0))
  have OR2 := Obj?.new (w.alloc (.cells (Ms.cs { m with time := n }) 25 (0, 0))) #[.int .i64 0, .bool false, .int .i64 0, .bool false, .bool false, .bool false, .int .i64 0, .int .i64 0, .int .i64 0, .int .i64 0, .bool false, .int .i64 0, .int .i64 0, .int .i64 0, .string ⟨#[]⟩, .string ⟨#[]⟩] 25
  rw [World.size_alloc] at OR2
  have kd := OD.cells
  have fd := fun j => OD.frozen j
  have hld := load_msgA (A := Ms.cs { m with time := n }) rfl OD2
  have hst := store_msg { m with time := n } OR2 rfl
  have HO := Lib.hid (And.intro (OR2.setRow (Ms.cs { m with time := n })) (below_row (below_al (below_al (Below.refl _ w) (.cells (Ms.cs { m with time := n }) 25 (0, 0))) (.cells #[.int .i64 0, .bool false, .int .i64 0, .bool false, .bool false, .bool false, .int .i64 0, .int .i64 0, .int .i64 0, .int .i64 0, .bool false, .int .i64 0, .int .i64 0, .int .i64 0, .string ⟨#[]⟩, .string ⟨#[]⟩] 25 (0, 0))) (by omega : w.heap.size ≤ w.heap.size + 1) (Ms.cs { m with time := n })))
  clear OD OR OD2 OR2
  unfold Ms.cs at *
  go_enter Tryz.func56, Tryz.ntmps56
  refine wp_hide fun Q1 hQ1 => ?_
  have HQ1 := Lib.hid hQ1
  clear hQ1
  go_wp2_with fail
  refine (rwidth_any 6 _).mono ?_
  rintro r w1 ⟨rfl, rfl⟩
  have hw : widthR 6 = 2 := rfl
  rw [hw]
  clear hw
  go_wp2_with fail
  refine (HN.out _).mono ?_
  rintro r w2 ⟨rfl, rfl⟩
  go_wp2
  refine HQ1.out _ _ _ ?_
  (try simp only [Exit.inBlock, Exit.then])
  refine bodyPost_ret (results_row_tmp rfl _ _ _ _ _ _ rfl HO.out.1 Tryz.underlying25 rfl infoMs) rfl ?_
  exact ⟨rfl, HO.out.2⟩
set_option maxRecDepth 100000 in
set_option maxHeartbeats 3200000 in
theorem rread_7 (m : Ms) (b : List UInt8) (hl : b.length ≤ 2) (w : World) : Calls Tryz.prog 56 #[.agg m.cs, .int .i64 7, .string ⟨b.toArray⟩] w (PartRead w (readR m 7 b)) := by
  have OD := (Obj?.new w m.cs 25).alloc (.cells #[.int .i64 0, .bool false, .int .i64 0, .bool false, .bool false, .bool false, .int .i64 0, .int .i64 0, .int .i64 0, .int .i64 0, .bool false, .int .i64 0, .int .i64 0, .int .i64 0, .string ⟨#[]⟩, .string ⟨#[]⟩] 25 (0, 0))
  have OR := Obj?.new (w.alloc (.cells m.cs 25 (0, 0))) #[.int .i64 0, .bool false, .int .i64 0, .bool false, .bool false, .bool false, .int .i64 0, .int .i64 0, .int .i64 0, .int .i64 0, .bool false, .int .i64 0, .int .i64 0, .int .i64 0, .string ⟨#[]⟩, .string ⟨#[]⟩] 25
  rw [World.size_alloc] at OR
  have HB := Lib.hid (below_al (below_al (Below.refl _ w) (.cells m.cs 25 (0, 0))) (.cells #[.int .i64 0, .bool false, .int .i64 0, .bool false, .bool false, .bool false, .int .i64 0, .int .i64 0, .int .i64 0, .int .i64 0, .bool false, .int .i64 0, .int .i64 0, .int .i64 0, .string ⟨#[]⟩, .string ⟨#[]⟩] 25 (0, 0)))
  obtain ⟨hb0, hb1⟩ := getB_le2 hl
  obtain ⟨n, hn⟩ : ∃ n, n = getB b := ⟨_, rfl⟩
  have HN := Lib.hid (fun w => by have := rnumber_any b (by omega) w; rw [← hn] at this; exact this)
  rw [← hn] at hb0 hb1
  have HE := Lib.hid (show readR m 7 b = ({ m with tid := n }, 0) from by rw [hn]; rfl)
  rw [HE.out]
  have HW := Lib.hid (rwidth_any 7 w)
  clear hn
  have OD2 := (Obj?.new w (Ms.cs { m with tid := n }) 25).alloc (.cells #[.int .i64 0, .bool false, .int .i64 0, .bool false, .bool false, .bool false, .int .i64 0, .int .i64 0, .int .i64 0, .int .i64 0, .bool false, .int .i64 0, .int .i64 0, .int .i64 0, .string ⟨#[]⟩, .string ⟨#[]⟩] 25 (0, 0))
  have OR2 := Obj?.new (w.alloc (.cells (Ms.cs { m with tid := n }) 25 (0, 0))) #[.int .i64 0, .bool false, .int .i64 0, .bool false, .bool false, .bool false, .int .i64 0, .int .i64 0, .int .i64 0, .int .i64 0, .bool false, .int .i64 0, .int .i64 0, .int .i64 0, .string ⟨#[]⟩, .string ⟨#[]⟩] 25
  rw [World.size_alloc] at OR2
  have kd := OD.cells
  have fd := fun j => OD.frozen j
  have hld := load_msgA (A := Ms.cs { m with tid := n }) rfl OD2
  have hst := store_msg { m with tid := n } OR2 rfl
  have HO := Lib.hid (And.intro (OR2.setRow (Ms.cs { m with tid := n })) (below_row (below_al (below_al (Below.refl _ w) (.cells (Ms.cs { m with tid := n }) 25 (0, 0))) (.cells #[.int .i64 0, .bool false, .int .i64 0, .bool false, .bool false, .bool false, .int .i64 0, .int .i64 0, .int .i64 0, .int .i64 0, .bool false, .int .i64 0, .int .i64 0, .int .i64 0, .string ⟨#[]⟩, .string ⟨#[]⟩] 25 (0, 0))) (by omega : w.heap.size ≤ w.heap.size + 1) (Ms.cs { m with tid := n })))
  clear OD OR OD2 OR2
  unfold Ms.cs at *
  go_enter Tryz.func56, Tryz.ntmps56
  refine wp_hide fun Q1 hQ1 => ?_
  have HQ1 := Lib.hid hQ1
  clear hQ1
  go_wp2_with fail
  refine (rwidth_any 7 _).mono ?_
  rintro r w1 ⟨rfl, rfl⟩
  have hw : widthR 7 = 2 := rfl
  rw [hw]
  clear hw
  go_wp2_with fail
  refine (HN.out _).mono ?_
  rintro r w2 ⟨rfl, rfl⟩
  go_wp2
  refine HQ1.out _ _ _ ?_
  (try simp only [Exit.inBlock, Exit.then])
  refine bodyPost_ret (results_row_tmp rfl _ _ _ _ _ _ rfl HO.out.1 Tryz.underlying25 rfl infoMs) rfl ?_
  exact ⟨rfl, HO.out.2⟩
set_option maxRecDepth 100000 in
set_option maxHeartbeats 3200000 in
theorem rread_8 (m : Ms) (b : List UInt8) (hl : b.length ≤ 2) (w : World) : Calls Tryz.prog 56 #[.agg m.cs, .int .i64 8, .string ⟨b.toArray⟩] w (PartRead w (readR m 8 b)) := by
  have OD := (Obj?.new w m.cs 25).alloc (.cells #[.int .i64 0, .bool false, .int .i64 0, .bool false, .bool false, .bool false, .int .i64 0, .int .i64 0, .int .i64 0, .int .i64 0, .bool false, .int .i64 0, .int .i64 0, .int .i64 0, .string ⟨#[]⟩, .string ⟨#[]⟩] 25 (0, 0))
  have OR := Obj?.new (w.alloc (.cells m.cs 25 (0, 0))) #[.int .i64 0, .bool false, .int .i64 0, .bool false, .bool false, .bool false, .int .i64 0, .int .i64 0, .int .i64 0, .int .i64 0, .bool false, .int .i64 0, .int .i64 0, .int .i64 0, .string ⟨#[]⟩, .string ⟨#[]⟩] 25
  rw [World.size_alloc] at OR
  have HB := Lib.hid (below_al (below_al (Below.refl _ w) (.cells m.cs 25 (0, 0))) (.cells #[.int .i64 0, .bool false, .int .i64 0, .bool false, .bool false, .bool false, .int .i64 0, .int .i64 0, .int .i64 0, .int .i64 0, .bool false, .int .i64 0, .int .i64 0, .int .i64 0, .string ⟨#[]⟩, .string ⟨#[]⟩] 25 (0, 0)))
  obtain ⟨hb0, hb1⟩ := getB_le2 hl
  obtain ⟨n, hn⟩ : ∃ n, n = getB b := ⟨_, rfl⟩
  have HN := Lib.hid (fun w => by have := rnumber_any b (by omega) w; rw [← hn] at this; exact this)
  rw [← hn] at hb0 hb1
  have HE := Lib.hid (show readR m 8 b = ({ m with mid := n }, 0) from by rw [hn]; rfl)
  rw [HE.out]
  have HW := Lib.hid (rwidth_any 8 w)
  clear hn
  have OD2 := (Obj?.new w (Ms.cs { m with mid := n }) 25).alloc (.cells #[.int .i64 0, .bool false, .int .i64 0, .bool false, .bool false, .bool false, .int .i64 0, .int .i64 0, .int .i64 0, .int .i64 0, .bool false, .int .i64 0, .int .i64 0, .int .i64 0, .string ⟨#[]⟩, .string ⟨#[]⟩] 25 (0, 0))
  have OR2 := Obj?.new (w.alloc (.cells (Ms.cs { m with mid := n }) 25 (0, 0))) #[.int .i64 0, .bool false, .int .i64 0, .bool false, .bool false, .bool false, .int .i64 0, .int .i64 0, .int .i64 0, .int .i64 0, .bool false, .int .i64 0, .int .i64 0, .int .i64 0, .string ⟨#[]⟩, .string ⟨#[]⟩] 25
  rw [World.size_alloc] at OR2
  have kd := OD.cells
  have fd := fun j => OD.frozen j
  have hld := load_msgA (A := Ms.cs { m with mid := n }) rfl OD2
  have hst := store_msg { m with mid := n } OR2 rfl
  have HO := Lib.hid (And.intro (OR2.setRow (Ms.cs { m with mid := n })) (below_row (below_al (below_al (Below.refl _ w) (.cells (Ms.cs { m with mid := n }) 25 (0, 0))) (.cells #[.int .i64 0, .bool false, .int .i64 0, .bool false, .bool false, .bool false, .int .i64 0, .int .i64 0, .int .i64 0, .int .i64 0, .bool false, .int .i64 0, .int .i64 0, .int .i64 0, .string ⟨#[]⟩, .string ⟨#[]⟩] 25 (0, 0))) (by omega : w.heap.size ≤ w.heap.size + 1) (Ms.cs { m with mid := n })))
  clear OD OR OD2 OR2
  unfold Ms.cs at *
  go_enter Tryz.func56, Tryz.ntmps56
  refine wp_hide fun Q1 hQ1 => ?_
  have HQ1 := Lib.hid hQ1
  clear hQ1
  go_wp2_with fail
  refine (rwidth_any 8 _).mono ?_
  rintro r w1 ⟨rfl, rfl⟩
  have hw : widthR 8 = 2 := rfl
  rw [hw]
  clear hw
  go_wp2_with fail
  refine (HN.out _).mono ?_
  rintro r w2 ⟨rfl, rfl⟩
  go_wp2
  refine HQ1.out _ _ _ ?_
  (try simp only [Exit.inBlock, Exit.then])
  refine bodyPost_ret (results_row_tmp rfl _ _ _ _ _ _ rfl HO.out.1 Tryz.underlying25 rfl infoMs) rfl ?_
  exact ⟨rfl, HO.out.2⟩
set_option maxRecDepth 100000 in
set_option maxHeartbeats 3200000 in
theorem rread_9 (m : Ms) (b : List UInt8) (w : World) : Calls Tryz.prog 56 #[.agg m.cs, .int .i64 9, .string ⟨b.toArray⟩] w (PartRead w (readR m 9 b)) := by
  have OD := (Obj?.new w m.cs 25).alloc (.cells #[.int .i64 0, .bool false, .int .i64 0, .bool false, .bool false, .bool false, .int .i64 0, .int .i64 0, .int .i64 0, .int .i64 0, .bool false, .int .i64 0, .int .i64 0, .int .i64 0, .string ⟨#[]⟩, .string ⟨#[]⟩] 25 (0, 0))
  have OR := Obj?.new (w.alloc (.cells m.cs 25 (0, 0))) #[.int .i64 0, .bool false, .int .i64 0, .bool false, .bool false, .bool false, .int .i64 0, .int .i64 0, .int .i64 0, .int .i64 0, .bool false, .int .i64 0, .int .i64 0, .int .i64 0, .string ⟨#[]⟩, .string ⟨#[]⟩] 25
  rw [World.size_alloc] at OR
  have HB := Lib.hid (below_al (below_al (Below.refl _ w) (.cells m.cs 25 (0, 0))) (.cells #[.int .i64 0, .bool false, .int .i64 0, .bool false, .bool false, .bool false, .int .i64 0, .int .i64 0, .int .i64 0, .int .i64 0, .bool false, .int .i64 0, .int .i64 0, .int .i64 0, .string ⟨#[]⟩, .string ⟨#[]⟩] 25 (0, 0)))
  have HE := Lib.hid (show readR m 9 b = ({ m with name := b }, 0) from rfl)
  rw [HE.out]
  have OD2 := (Obj?.new w (Ms.cs { m with name := b }) 25).alloc (.cells #[.int .i64 0, .bool false, .int .i64 0, .bool false, .bool false, .bool false, .int .i64 0, .int .i64 0, .int .i64 0, .int .i64 0, .bool false, .int .i64 0, .int .i64 0, .int .i64 0, .string ⟨#[]⟩, .string ⟨#[]⟩] 25 (0, 0))
  have OR2 := Obj?.new (w.alloc (.cells (Ms.cs { m with name := b }) 25 (0, 0))) #[.int .i64 0, .bool false, .int .i64 0, .bool false, .bool false, .bool false, .int .i64 0, .int .i64 0, .int .i64 0, .int .i64 0, .bool false, .int .i64 0, .int .i64 0, .int .i64 0, .string ⟨#[]⟩, .string ⟨#[]⟩] 25
  rw [World.size_alloc] at OR2
  have kd := OD.cells
  have fd := fun j => OD.frozen j
  have hld := load_msgA (A := Ms.cs { m with name := b }) rfl OD2
  have hst := store_msg { m with name := b } OR2 rfl
  have HO := Lib.hid (And.intro (OR2.setRow (Ms.cs { m with name := b })) (below_row (below_al (below_al (Below.refl _ w) (.cells (Ms.cs { m with name := b }) 25 (0, 0))) (.cells #[.int .i64 0, .bool false, .int .i64 0, .bool false, .bool false, .bool false, .int .i64 0, .int .i64 0, .int .i64 0, .int .i64 0, .bool false, .int .i64 0, .int .i64 0, .int .i64 0, .string ⟨#[]⟩, .string ⟨#[]⟩] 25 (0, 0))) (by omega : w.heap.size ≤ w.heap.size + 1) (Ms.cs { m with name := b })))
  clear OD OR OD2 OR2
  unfold Ms.cs at *
  go_enter Tryz.func56, Tryz.ntmps56
  refine wp_hide fun Q1 hQ1 => ?_
  have HQ1 := Lib.hid hQ1
  clear hQ1
  go_wp2_with fail
  refine (rwidth_any 9 _).mono ?_
  rintro r w1 ⟨rfl, rfl⟩
  have hw : widthR 9 = -1 := rfl
  rw [hw]
  clear hw
  go_wp2
  refine HQ1.out _ _ _ ?_
  (try simp only [Exit.inBlock, Exit.then])
  refine bodyPost_ret (results_row_tmp rfl _ _ _ _ _ _ rfl HO.out.1 Tryz.underlying25 rfl infoMs) rfl ?_
  exact ⟨rfl, HO.out.2⟩
set_option maxRecDepth 100000 in
set_option maxHeartbeats 3200000 in
theorem rread_10 (m : Ms) (b : List UInt8) (w : World) : Calls Tryz.prog 56 #[.agg m.cs, .int .i64 10, .string ⟨b.toArray⟩] w (PartRead w (readR m 10 b)) := by
  have OD := (Obj?.new w m.cs 25).alloc (.cells #[.int .i64 0, .bool false, .int .i64 0, .bool false, .bool false, .bool false, .int .i64 0, .int .i64 0, .int .i64 0, .int .i64 0, .bool false, .int .i64 0, .int .i64 0, .int .i64 0, .string ⟨#[]⟩, .string ⟨#[]⟩] 25 (0, 0))
  have OR := Obj?.new (w.alloc (.cells m.cs 25 (0, 0))) #[.int .i64 0, .bool false, .int .i64 0, .bool false, .bool false, .bool false, .int .i64 0, .int .i64 0, .int .i64 0, .int .i64 0, .bool false, .int .i64 0, .int .i64 0, .int .i64 0, .string ⟨#[]⟩, .string ⟨#[]⟩] 25
  rw [World.size_alloc] at OR
  have HB := Lib.hid (below_al (below_al (Below.refl _ w) (.cells m.cs 25 (0, 0))) (.cells #[.int .i64 0, .bool false, .int .i64 0, .bool false, .bool false, .bool false, .int .i64 0, .int .i64 0, .int .i64 0, .int .i64 0, .bool false, .int .i64 0, .int .i64 0, .int .i64 0, .string ⟨#[]⟩, .string ⟨#[]⟩] 25 (0, 0)))
  have HE := Lib.hid (show readR m 10 b = ({ m with data := b }, 0) from rfl)
  rw [HE.out]
  have OD2 := (Obj?.new w (Ms.cs { m with data := b }) 25).alloc (.cells #[.int .i64 0, .bool false, .int .i64 0, .bool false, .bool false, .bool false, .int .i64 0, .int .i64 0, .int .i64 0, .int .i64 0, .bool false, .int .i64 0, .int .i64 0, .int .i64 0, .string ⟨#[]⟩, .string ⟨#[]⟩] 25 (0, 0))
  have OR2 := Obj?.new (w.alloc (.cells (Ms.cs { m with data := b }) 25 (0, 0))) #[.int .i64 0, .bool false, .int .i64 0, .bool false, .bool false, .bool false, .int .i64 0, .int .i64 0, .int .i64 0, .int .i64 0, .bool false, .int .i64 0, .int .i64 0, .int .i64 0, .string ⟨#[]⟩, .string ⟨#[]⟩] 25
  rw [World.size_alloc] at OR2
  have kd := OD.cells
  have fd := fun j => OD.frozen j
  have hld := load_msgA (A := Ms.cs { m with data := b }) rfl OD2
  have hst := store_msg { m with data := b } OR2 rfl
  have HO := Lib.hid (And.intro (OR2.setRow (Ms.cs { m with data := b })) (below_row (below_al (below_al (Below.refl _ w) (.cells (Ms.cs { m with data := b }) 25 (0, 0))) (.cells #[.int .i64 0, .bool false, .int .i64 0, .bool false, .bool false, .bool false, .int .i64 0, .int .i64 0, .int .i64 0, .int .i64 0, .bool false, .int .i64 0, .int .i64 0, .int .i64 0, .string ⟨#[]⟩, .string ⟨#[]⟩] 25 (0, 0))) (by omega : w.heap.size ≤ w.heap.size + 1) (Ms.cs { m with data := b })))
  clear OD OR OD2 OR2
  unfold Ms.cs at *
  go_enter Tryz.func56, Tryz.ntmps56
  refine wp_hide fun Q1 hQ1 => ?_
  have HQ1 := Lib.hid hQ1
  clear hQ1
  go_wp2_with fail
  refine (rwidth_any 10 _).mono ?_
  rintro r w1 ⟨rfl, rfl⟩
  have hw : widthR 10 = -1 := rfl
  rw [hw]
  clear hw
  go_wp2
  refine HQ1.out _ _ _ ?_
  (try simp only [Exit.inBlock, Exit.then])
  refine bodyPost_ret (results_row_tmp rfl _ _ _ _ _ _ rfl HO.out.1 Tryz.underlying25 rfl infoMs) rfl ?_
  exact ⟨rfl, HO.out.2⟩
set_option maxRecDepth 100000 in
set_option maxHeartbeats 3200000 in
theorem rread_2_one (m : Ms) (b : List UInt8) (hl : b.length ≤ 2) (h1 : getB b = 1) (w : World) : Calls Tryz.prog 56 #[.agg m.cs, .int .i64 2, .string ⟨b.toArray⟩] w (PartRead w (readR m 2 b)) := by
  have OD := (Obj?.new w m.cs 25).alloc (.cells #[.int .i64 0, .bool false, .int .i64 0, .bool false, .bool false, .bool false, .int .i64 0, .int .i64 0, .int .i64 0, .int .i64 0, .bool false, .int .i64 0, .int .i64 0, .int .i64 0, .string ⟨#[]⟩, .string ⟨#[]⟩] 25 (0, 0))
  have OR := Obj?.new (w.alloc (.cells m.cs 25 (0, 0))) #[.int .i64 0, .bool false, .int .i64 0, .bool false, .bool false, .bool false, .int .i64 0, .int .i64 0, .int .i64 0, .int .i64 0, .bool false, .int .i64 0, .int .i64 0, .int .i64 0, .string ⟨#[]⟩, .string ⟨#[]⟩] 25
  rw [World.size_alloc] at OR
  have HB := Lib.hid (below_al (below_al (Below.refl _ w) (.cells m.cs 25 (0, 0))) (.cells #[.int .i64 0, .bool false, .int .i64 0, .bool false, .bool false, .bool false, .int .i64 0, .int .i64 0, .int .i64 0, .int .i64 0, .bool false, .int .i64 0, .int .i64 0, .int .i64 0, .string ⟨#[]⟩, .string ⟨#[]⟩] 25 (0, 0)))
  obtain ⟨hb0, hb1⟩ := getB_le2 hl
  obtain ⟨n, hn⟩ : ∃ n, n = getB b := ⟨_, rfl⟩
  have HN := Lib.hid (fun w => by have := rnumber_any b (by omega) w; rw [← hn] at this; exact this)
  rw [← hn] at hb0 hb1
  have HE := Lib.hid (show readR m 2 b = (m, 0) from by unfold readR; rw [if_neg (by decide), if_pos rfl]; rw [if_pos h1])
  rw [HE.out]
  rw [← hn] at h1
  have d1 : (n == 1) = true := by simpa using h1
  have d2 : (n != 1) = false := by simpa using h1
  clear hn h1
  have kd := OD.cells
  have hld := load_msgA (A := Ms.cs m) rfl OD
  have hst := store_msg m OR rfl
  have HO := Lib.hid (And.intro (OR.setRow (Ms.cs m)) (below_row HB.out (by omega : w.heap.size ≤ w.heap.size + 1) (Ms.cs m)))
  clear OD OR
  unfold Ms.cs at *
  go_enter Tryz.func56, Tryz.ntmps56
  refine wp_hide fun Q1 hQ1 => ?_
  have HQ1 := Lib.hid hQ1
  clear hQ1
  go_wp2_with fail
  refine (rwidth_any 2 _).mono ?_
  rintro r w1 ⟨rfl, rfl⟩
  have hw : widthR 2 = 1 := rfl
  rw [hw]
  clear hw
  go_wp2_with fail
  refine (HN.out _).mono ?_
  rintro r w2 ⟨rfl, rfl⟩
  go_wp2
  refine HQ1.out _ _ _ ?_
  (try simp only [Exit.inBlock, Exit.then])
  refine bodyPost_ret (results_row_tmp rfl _ _ _ _ _ _ rfl HO.out.1 Tryz.underlying25 rfl infoMs) rfl ?_
  exact ⟨rfl, HO.out.2⟩
set_option maxRecDepth 100000 in
set_option maxHeartbeats 3200000 in
theorem rread_2_no (m : Ms) (b : List UInt8) (hl : b.length ≤ 2) (h1 : getB b ≠ 1) (w : World) : Calls Tryz.prog 56 #[.agg m.cs, .int .i64 2, .string ⟨b.toArray⟩] w (PartRead w (readR m 2 b)) := by
  have OD := (Obj?.new w m.cs 25).alloc (.cells #[.int .i64 0, .bool false, .int .i64 0, .bool false, .bool false, .bool false, .int .i64 0, .int .i64 0, .int .i64 0, .int .i64 0, .bool false, .int .i64 0, .int .i64 0, .int .i64 0, .string ⟨#[]⟩, .string ⟨#[]⟩] 25 (0, 0))
  have OR := Obj?.new (w.alloc (.cells m.cs 25 (0, 0))) #[.int .i64 0, .bool false, .int .i64 0, .bool false, .bool false, .bool false, .int .i64 0, .int .i64 0, .int .i64 0, .int .i64 0, .bool false, .int .i64 0, .int .i64 0, .int .i64 0, .string ⟨#[]⟩, .string ⟨#[]⟩] 25
  rw [World.size_alloc] at OR
  have HB := Lib.hid (below_al (below_al (Below.refl _ w) (.cells m.cs 25 (0, 0))) (.cells #[.int .i64 0, .bool false, .int .i64 0, .bool false, .bool false, .bool false, .int .i64 0, .int .i64 0, .int .i64 0, .int .i64 0, .bool false, .int .i64 0, .int .i64 0, .int .i64 0, .string ⟨#[]⟩, .string ⟨#[]⟩] 25 (0, 0)))
  obtain ⟨hb0, hb1⟩ := getB_le2 hl
  obtain ⟨n, hn⟩ : ∃ n, n = getB b := ⟨_, rfl⟩
  have HN := Lib.hid (fun w => by have := rnumber_any b (by omega) w; rw [← hn] at this; exact this)
  rw [← hn] at hb0 hb1
  have HE := Lib.hid (show readR m 2 b = (m, 5) from by unfold readR; rw [if_neg (by decide), if_pos rfl]; rw [if_neg h1])
  rw [HE.out]
  rw [← hn] at h1
  have d1 : (n == 1) = false := by simpa using h1
  have d2 : (n != 1) = true := by simpa using h1
  clear hn h1
  have kd := OD.cells
  have hld := load_msgA (A := Ms.cs m) rfl OD
  have hst := store_msg m OR rfl
  have HO := Lib.hid (And.intro (OR.setRow (Ms.cs m)) (below_row HB.out (by omega : w.heap.size ≤ w.heap.size + 1) (Ms.cs m)))
  clear OD OR
  unfold Ms.cs at *
  go_enter Tryz.func56, Tryz.ntmps56
  refine wp_hide fun Q1 hQ1 => ?_
  have HQ1 := Lib.hid hQ1
  clear hQ1
  go_wp2_with fail
  refine (rwidth_any 2 _).mono ?_
  rintro r w1 ⟨rfl, rfl⟩
  have hw : widthR 2 = 1 := rfl
  rw [hw]
  clear hw
  go_wp2_with fail
  refine (HN.out _).mono ?_
  rintro r w2 ⟨rfl, rfl⟩
  go_wp2
  refine HQ1.out _ _ _ ?_
  (try simp only [Exit.inBlock, Exit.then])
  refine bodyPost_ret (results_row_tmp rfl _ _ _ _ _ _ rfl HO.out.1 Tryz.underlying25 rfl infoMs) rfl ?_
  exact ⟨rfl, HO.out.2⟩
def setFl (w : World) (b : Nat) (f : Fl) : World := ((((((w.setCell ⟨b, 1, none⟩ (.bool f.dup)).setCell ⟨b, 2, none⟩ (.int .i64 f.q)).setCell ⟨b, 3, none⟩ (.bool f.retain)).setCell ⟨b, 4, none⟩ (.bool f.will)).setCell ⟨b, 5, none⟩ (.bool f.clean)).setCell ⟨b, 6, none⟩ (.int .i64 f.typ))
theorem obj_setFl {w : World} {b : Nat} {m : Ms} (h : Obj? w b m.cs 25) (f : Fl) : Obj? (setFl w b f) b (Ms.cs { m with fl := f }) 25 :=
  (((((h.set 1 _).set 2 _).set 3 _).set 4 _).set 5 _).set 6 _
theorem grown_setFl (w : World) (b : Nat) (f : Fl) : w.grownBy (setFl w b f) (some b) :=
  grown_set (grown_set (grown_set (grown_set (grown_set (grown_set (World.grownBy.refl w _) (p := ⟨b, 1, none⟩) rfl _) (p := ⟨b, 2, none⟩) rfl _) (p := ⟨b, 3, none⟩) rfl _) (p := ⟨b, 4, none⟩) rfl _) (p := ⟨b, 5, none⟩) rfl _) (p := ⟨b, 6, none⟩) rfl _
theorem below_setFl {B b : Nat} {a w : World} (h : Below B a w) (hb : B ≤ b) (f : Fl) : Below B a (setFl w b f) :=
  (((((h.setCell (p := ⟨b, 1, none⟩) hb _).setCell (p := ⟨b, 2, none⟩) hb _).setCell (p := ⟨b, 3, none⟩) hb _).setCell (p := ⟨b, 4, none⟩) hb _).setCell (p := ⟨b, 5, none⟩) hb _).setCell (p := ⟨b, 6, none⟩) hb _
set_option maxRecDepth 100000 in
set_option maxHeartbeats 3200000 in
theorem rread_1 (m : Ms) (b : List UInt8) (hl : b.length ≤ 2) (w : World) : Calls Tryz.prog 56 #[.agg m.cs, .int .i64 1, .string ⟨b.toArray⟩] w (PartRead w (readR m 1 b)) := by
  have OD := (Obj?.new w m.cs 25).alloc (.cells #[.int .i64 0, .bool false, .int .i64 0, .bool false, .bool false, .bool false, .int .i64 0, .int .i64 0, .int .i64 0, .int .i64 0, .bool false, .int .i64 0, .int .i64 0, .int .i64 0, .string ⟨#[]⟩, .string ⟨#[]⟩] 25 (0, 0))
  have OR := Obj?.new (w.alloc (.cells m.cs 25 (0, 0))) #[.int .i64 0, .bool false, .int .i64 0, .bool false, .bool false, .bool false, .int .i64 0, .int .i64 0, .int .i64 0, .int .i64 0, .bool false, .int .i64 0, .int .i64 0, .int .i64 0, .string ⟨#[]⟩, .string ⟨#[]⟩] 25
  rw [World.size_alloc] at OR
  have HB := Lib.hid (below_al (below_al (Below.refl _ w) (.cells m.cs 25 (0, 0))) (.cells #[.int .i64 0, .bool false, .int .i64 0, .bool false, .bool false, .bool false, .int .i64 0, .int .i64 0, .int .i64 0, .int .i64 0, .bool false, .int .i64 0, .int .i64 0, .int .i64 0, .string ⟨#[]⟩, .string ⟨#[]⟩] 25 (0, 0)))
  obtain ⟨hb0, hb1⟩ := getB_le2 hl
  obtain ⟨n, hn⟩ : ∃ n, n = getB b := ⟨_, rfl⟩
  have HN := Lib.hid (fun w => by have := rnumber_any b (by omega) w; rw [← hn] at this; exact this)
  rw [← hn] at hb0 hb1
  have HE := Lib.hid (show readR m 1 b = ({ m with fl := rfF n }, rfE n) from by rw [hn]; rfl)
  rw [HE.out]
  clear hn
  have HRF := Lib.hid (fun w => rreadflag_any n w)
  obtain ⟨F, hF⟩ : ∃ F, F = rfF n := ⟨_, rfl⟩
  obtain ⟨E, hE⟩ : ∃ E, E = rfE n := ⟨_, rfl⟩
  rw [← hF, ← hE] at HRF ⊢
  clear hF hE
  have HOD := Lib.hid OD
  have HOR := Lib.hid OR
  have kd0 := OD.cells
  clear OD OR
  unfold Ms.cs at kd0 ⊢
  go_enter Tryz.func56, Tryz.ntmps56
  refine wp_hide fun Q1 hQ1 => ?_
  have HQ1 := Lib.hid hQ1
  clear hQ1
  go_wp2_with fail
  refine (rwidth_any 1 _).mono ?_
  rintro r w1 ⟨rfl, rfl⟩
  have hw : widthR 1 = 1 := rfl
  rw [hw]
  clear hw
  go_wp2_with fail
  refine (HN.out _).mono ?_
  rintro r w2 ⟨rfl, rfl⟩
  go_wp2_with fail
  refine (HRF.out _).mono ?_
  rintro r w3 ⟨rfl, hb⟩
  have OD1 := Obj?.below HOD.out hb HOD.out.lt
  have OR1 := Obj?.below HOR.out hb HOR.out.lt
  have kd := OD1.cells
  have fd := fun j => OD1.frozen j
  unfold Ms.cs at kd
  have hld := load_msgA (A := Ms.cs { m with fl := F }) rfl (obj_setFl OD1 F)
  have OR2 := OR1.kept (grown_setFl w3 w.heap.size F) (fun e => by have h0 : w.heap.size = w.heap.size + 1 := Option.some.inj e; omega)
  have hst := store_msg { m with fl := F } OR2 rfl
  have HO := Lib.hid (And.intro (OR2.setRow (Ms.cs { m with fl := F })) (below_row (below_setFl (HB.out.trans (hb.mono HB.out.size)) (Nat.le_refl _) F) (by omega : w.heap.size ≤ w.heap.size + 1) (Ms.cs { m with fl := F })))
  clear hb OD1 OR1 OR2 kd0
  unfold setFl Ms.cs at hld hst
  unfold setFl Ms.cs at HO
  go_wp2
  refine HQ1.out _ _ _ ?_
  (try simp only [Exit.inBlock, Exit.then])
  refine bodyPost_ret (results_row_tmp rfl _ _ _ _ _ _ rfl HO.out.1 Tryz.underlying25 rfl infoMs) rfl ?_
  exact ⟨rfl, HO.out.2⟩
theorem rread_any (m : Ms) (p : Int) (hp : p = 1 ∨ p = 2 ∨ p = 3 ∨ p = 4 ∨ p = 5 ∨ p = 6 ∨ p = 7 ∨ p = 8 ∨ p = 9 ∨ p = 10) (b : List UInt8) (hl : 0 < widthR p → b.length ≤ 2) (w : World) :
    Calls Tryz.prog 56 #[.agg m.cs, .int .i64 p, .string ⟨b.toArray⟩] w (PartRead w (readR m p b)) := by
  rcases hp with rfl | rfl | rfl | rfl | rfl | rfl | rfl | rfl | rfl | rfl
  · exact rread_1 m b (hl (by decide)) w
  · by_cases h1 : getB b = 1
    · exact rread_2_one m b (hl (by decide)) h1 w
    · exact rread_2_no m b (hl (by decide)) h1 w
  · exact rread_3 m b (hl (by decide)) w
  · exact rread_4 m b (hl (by decide)) w
  · exact rread_5 m b (hl (by decide)) w
  · exact rread_6 m b (hl (by decide)) w
  · exact rread_7 m b (hl (by decide)) w
  · exact rread_8 m b (hl (by decide)) w
  · exact rread_9 m b w
  · exact rread_10 m b w
end Go.Proofs.YtbacnaplpfmpnaaGreatDoor
namespace Go.Proofs.YtbacnaplpfmpnaaGreatDoor
open Go Go.RowKit Go.Shelf
set_option linter.unusedVariables false
set_option linter.unusedSimpArgs false
attribute [local go_sem ↓] Go.wp_at_zero Go.wp_at_succ load_Msg store_Msg
attribute [local irreducible] rowSem rowStore

/-- What layout answers. -/
def LaySaid (w : World) (x : Ms × List Int × Int) (e : Ending) (w' : World) : Prop := ∃ v, e = .returned (.tuple #[.agg x.1.cs, v, .int .i64 x.2.2]) ∧ IntsAt w' v x.2.1 ∧ Below w.heap.size w w'
theorem ints_far {W : World} {g : Nat} {v : Value} {l : List Int} (hI : IntsAt W v l) (hO : Obj? W g #[.int .i64 0, .bool false, .int .i64 0, .bool false, .bool false, .bool false, .int .i64 0, .int .i64 0, .int .i64 0, .int .i64 0, .bool false, .int .i64 0, .int .i64 0, .int .i64 0, .string ⟨#[]⟩, .string ⟨#[]⟩] 25) (hl : ∀ x ∈ l, x ≠ 0) (C : Array Value) : IntsAt (W.setRow g C) v l := by
  obtain ⟨a, cap, rfl, hll, hc⟩ := hI
  refine ⟨a, cap, rfl, hll, ?_⟩
  rcases hc with hc | ⟨b, off, rfl, hlt, hc⟩
  · exact .inl hc
  by_cases h0 : l.length = 0
  · exact .inl (List.length_eq_zero_iff.1 h0)
  have hne : b ≠ g := by
    rintro rfl
    have h1 := hc 0 (by omega)
    rw [Nat.add_zero, hO.cells off] at h1
    have h2 := hl _ (List.getElem_mem (show 0 < l.length by omega))
    match off, h1 with
    | 0, h1 | 1, h1 | 2, h1 | 3, h1 | 4, h1 | 5, h1 | 6, h1 | 7, h1 | 8, h1 | 9, h1 | 10, h1 | 11, h1 | 12, h1 | 13, h1 | 14, h1 | 15, h1 => first | (cases h1; done) | (simp at h1; exact h2 h1.symm) | (simp at h1)
    | n + 16, h1 => simp at h1
  refine .inr ⟨b, off, rfl, by rw [setRow_size]; exact hlt, fun i hi => ?_⟩
  rw [← hc i hi]
  unfold World.cell?
  rw [setRow_other W g b C hne]
theorem parts_pos {m : Ms} : ∀ x ∈ partsM m, x ≠ 0 := fun x hx => by have := mem_parts hx; omega
/-- The blocks at a call of layout. -/
theorem lay_world (m1 : Ms) (w : World) : ∃ W1, (w.alloc (.cells #[.int .i64 0, .bool false, .int .i64 0, .bool false, .bool false, .bool false, .int .i64 0, .int .i64 0, .int .i64 0, .int .i64 0, .bool false, .int .i64 0, .int .i64 0, .int .i64 0, .string ⟨#[]⟩, .string ⟨#[]⟩] 25 (0, 0))).alloc (.cells m1.cs 25 (0, 0)) = W1 ∧ Obj? W1 w.heap.size #[.int .i64 0, .bool false, .int .i64 0, .bool false, .bool false, .bool false, .int .i64 0, .int .i64 0, .int .i64 0, .int .i64 0, .bool false, .int .i64 0, .int .i64 0, .int .i64 0, .string ⟨#[]⟩, .string ⟨#[]⟩] 25 ∧ Obj? W1 (w.heap.size + 1) m1.cs 25 ∧ Below w.heap.size w W1 := by
  refine ⟨_, rfl, (Obj?.new w _ _).alloc _, ?_, below_al (below_al (Below.refl _ w) _) _⟩
  have := Obj?.new (w.alloc (.cells #[.int .i64 0, .bool false, .int .i64 0, .bool false, .bool false, .bool false, .int .i64 0, .int .i64 0, .int .i64 0, .int .i64 0, .bool false, .int .i64 0, .int .i64 0, .int .i64 0, .string ⟨#[]⟩, .string ⟨#[]⟩] 25 (0, 0))) m1.cs 25
  rw [World.size_alloc] at this
  exact this
theorem store_lay (w : World) (m : Ms) : (rowStore 25 ⟨w.heap.size + 1, 0, none⟩ (.agg m.cs)).run Tryz.prog ((w.alloc (.cells #[.int .i64 0, .bool false, .int .i64 0, .bool false, .bool false, .bool false, .int .i64 0, .int .i64 0, .int .i64 0, .int .i64 0, .bool false, .int .i64 0, .int .i64 0, .int .i64 0, .string ⟨#[]⟩, .string ⟨#[]⟩] 25 (0, 0))).alloc (.cells #[.int .i64 0, .bool false, .int .i64 0, .bool false, .bool false, .bool false, .int .i64 0, .int .i64 0, .int .i64 0, .int .i64 0, .bool false, .int .i64 0, .int .i64 0, .int .i64 0, .string ⟨#[]⟩, .string ⟨#[]⟩] 25 (0, 0))) = .ok () ((w.alloc (.cells #[.int .i64 0, .bool false, .int .i64 0, .bool false, .bool false, .bool false, .int .i64 0, .int .i64 0, .int .i64 0, .int .i64 0, .bool false, .int .i64 0, .int .i64 0, .int .i64 0, .string ⟨#[]⟩, .string ⟨#[]⟩] 25 (0, 0))).alloc (.cells m.cs 25 (0, 0))) := by
  have := store_new (w.alloc (.cells #[.int .i64 0, .bool false, .int .i64 0, .bool false, .bool false, .bool false, .int .i64 0, .int .i64 0, .int .i64 0, .int .i64 0, .bool false, .int .i64 0, .int .i64 0, .int .i64 0, .string ⟨#[]⟩, .string ⟨#[]⟩] 25 (0, 0))) m
  rw [World.size_alloc] at this
  exact this

set_option maxRecDepth 100000 in
set_option maxHeartbeats 3200000 in
theorem rlay_24_nil (u : List UInt8) (hu : u = []) (w : World) : Calls Tryz.prog 54 #[.int .i64 24, .string ⟨u.toArray⟩] w (LaySaid w ({ Ms.bare 24 fl0 with timed := false, name := [] }, partsM { Ms.bare 24 fl0 with timed := false, name := [] }, 0)) := by
  have d1 : u.isEmpty = true := by rw [hu]; rfl
  have d2 : (u == []) = true := by rw [hu]; rfl
  clear hu
  have HP := Lib.hid (fun w => rparts_any { Ms.bare 24 fl0 with timed := false, name := [] } rfl w)
  obtain ⟨L, hL⟩ : ∃ L, L = partsM { Ms.bare 24 fl0 with timed := false, name := [] } := ⟨_, rfl⟩
  have HLp := Lib.hid (show ∀ x ∈ L, x ≠ 0 from by rw [hL]; exact parts_pos)
  rw [← hL] at HP ⊢
  clear hL
  obtain ⟨W1, hW1, O1, O2, hB⟩ := lay_world { Ms.bare 24 fl0 with timed := false, name := [] } w
  have hst0 := store_lay w { Ms.bare 24 fl0 with timed := false }
  have HO := Lib.hid (And.intro O1 (And.intro O2 hB))
  clear O1 O2 hB
  unfold Ms.cs Ms.bare fl0 at HP hst0 hW1
  dsimp only at HP hst0 hW1
  go_enter Tryz.func54, Tryz.ntmps54
  go_upto_region 11 with fail
  (try rw [hW1])
  clear hW1 hst0
  have HO1 := Lib.hid (show Obj? W1.drew w.heap.size #[.int .i64 0, .bool false, .int .i64 0, .bool false, .bool false, .bool false, .int .i64 0, .int .i64 0, .int .i64 0, .int .i64 0, .bool false, .int .i64 0, .int .i64 0, .int .i64 0, .string ⟨#[]⟩, .string ⟨#[]⟩] 25 from HO.out.1)
  have HO2 := Lib.hid (show Obj? W1.drew (w.heap.size + 1) (Ms.cs { Ms.bare 24 fl0 with timed := false, name := [] }) 25 from HO.out.2.1)
  have HB := Lib.hid (show Below w.heap.size w W1.drew from below_drewM HO.out.2.2)
  have hldm := load_msgA (A := Ms.cs { Ms.bare 24 fl0 with timed := false, name := [] }) rfl HO2.out
  unfold Ms.cs Ms.bare fl0 at hldm
  dsimp only at hldm
  go_region_law ((go_simp; go_at_call 88; ((with_reducible refine (HP.out _).mono ?_); (rintro r w2 ⟨v, rfl, hI, hb⟩; have O12 := HO1.out.below hb HO1.out.lt; have O22 := HO2.out.below hb HO2.out.lt; have hldm2 := load_msgA (A := Ms.cs { Ms.bare 24 fl0 with timed := false, name := [] }) rfl O22; have hst := store_msg { Ms.bare 24 fl0 with timed := false, name := [] } O12 rfl; unfold Ms.cs Ms.bare fl0 at hldm2 hst; dsimp only at hldm2 hst; have HF := Lib.hid (And.intro O12 (And.intro hI hb)); clear O12 O22 hI hb))))
  all_goals
    go_wp2
    refine bodyPost_ret (results_row_tmp2 rfl _ _ _ _ _ _ rfl (HF.out.1.setRow _) Tryz.underlying25 rfl infoMs) rfl ?_
    exact ⟨v, rfl, ints_far HF.out.2.1 HF.out.1 HLp.out _, below_row (HB.out.trans (HF.out.2.2.mono HB.out.size)) (Nat.le_refl _) _⟩
set_option maxRecDepth 100000 in
set_option maxHeartbeats 3200000 in
theorem rlay_24_cons (u : List UInt8) (hu : u ≠ []) (w : World) : Calls Tryz.prog 54 #[.int .i64 24, .string ⟨u.toArray⟩] w (LaySaid w ({ Ms.bare 24 fl0 with timed := true, name := [] }, partsM { Ms.bare 24 fl0 with timed := true, name := [] }, 0)) := by
  have d1 : u.isEmpty = false := by cases u with | nil => exact (hu rfl).elim | cons _ _ => rfl
  have d2 : (u == []) = false := by simpa using hu
  clear hu
  have HP := Lib.hid (fun w => rparts_any { Ms.bare 24 fl0 with timed := true, name := [] } rfl w)
  obtain ⟨L, hL⟩ : ∃ L, L = partsM { Ms.bare 24 fl0 with timed := true, name := [] } := ⟨_, rfl⟩
  have HLp := Lib.hid (show ∀ x ∈ L, x ≠ 0 from by rw [hL]; exact parts_pos)
  rw [← hL] at HP ⊢
  clear hL
  obtain ⟨W1, hW1, O1, O2, hB⟩ := lay_world { Ms.bare 24 fl0 with timed := true, name := [] } w
  have hst0 := store_lay w { Ms.bare 24 fl0 with timed := true }
  have HO := Lib.hid (And.intro O1 (And.intro O2 hB))
  clear O1 O2 hB
  unfold Ms.cs Ms.bare fl0 at HP hst0 hW1
  dsimp only at HP hst0 hW1
  go_enter Tryz.func54, Tryz.ntmps54
  go_upto_region 11 with fail
  (try rw [hW1])
  clear hW1 hst0
  have HO1 := Lib.hid (show Obj? W1.drew w.heap.size #[.int .i64 0, .bool false, .int .i64 0, .bool false, .bool false, .bool false, .int .i64 0, .int .i64 0, .int .i64 0, .int .i64 0, .bool false, .int .i64 0, .int .i64 0, .int .i64 0, .string ⟨#[]⟩, .string ⟨#[]⟩] 25 from HO.out.1)
  have HO2 := Lib.hid (show Obj? W1.drew (w.heap.size + 1) (Ms.cs { Ms.bare 24 fl0 with timed := true, name := [] }) 25 from HO.out.2.1)
  have HB := Lib.hid (show Below w.heap.size w W1.drew from below_drewM HO.out.2.2)
  have hldm := load_msgA (A := Ms.cs { Ms.bare 24 fl0 with timed := true, name := [] }) rfl HO2.out
  unfold Ms.cs Ms.bare fl0 at hldm
  dsimp only at hldm
  go_region_law ((go_simp; go_at_call 88; ((with_reducible refine (HP.out _).mono ?_); (rintro r w2 ⟨v, rfl, hI, hb⟩; have O12 := HO1.out.below hb HO1.out.lt; have O22 := HO2.out.below hb HO2.out.lt; have hldm2 := load_msgA (A := Ms.cs { Ms.bare 24 fl0 with timed := true, name := [] }) rfl O22; have hst := store_msg { Ms.bare 24 fl0 with timed := true, name := [] } O12 rfl; unfold Ms.cs Ms.bare fl0 at hldm2 hst; dsimp only at hldm2 hst; have HF := Lib.hid (And.intro O12 (And.intro hI hb)); clear O12 O22 hI hb))))
  all_goals
    go_wp2
    refine bodyPost_ret (results_row_tmp2 rfl _ _ _ _ _ _ rfl (HF.out.1.setRow _) Tryz.underlying25 rfl infoMs) rfl ?_
    exact ⟨v, rfl, ints_far HF.out.2.1 HF.out.1 HLp.out _, below_row (HB.out.trans (HF.out.2.2.mono HB.out.size)) (Nat.le_refl _) _⟩
set_option maxRecDepth 100000 in
set_option maxHeartbeats 3200000 in
theorem rlay_7_nil (u : List UInt8) (hu : u = []) (w : World) : Calls Tryz.prog 54 #[.int .i64 7, .string ⟨u.toArray⟩] w (LaySaid w ({ Ms.bare 7 fl0 with timed := false, name := [] }, partsM { Ms.bare 7 fl0 with timed := false, name := [] }, 0)) := by
  have d1 : u.isEmpty = true := by rw [hu]; rfl
  have d2 : (u == []) = true := by rw [hu]; rfl
  clear hu
  have HP := Lib.hid (fun w => rparts_any { Ms.bare 7 fl0 with timed := false, name := [] } rfl w)
  obtain ⟨L, hL⟩ : ∃ L, L = partsM { Ms.bare 7 fl0 with timed := false, name := [] } := ⟨_, rfl⟩
  have HLp := Lib.hid (show ∀ x ∈ L, x ≠ 0 from by rw [hL]; exact parts_pos)
  rw [← hL] at HP ⊢
  clear hL
  obtain ⟨W1, hW1, O1, O2, hB⟩ := lay_world { Ms.bare 7 fl0 with timed := false, name := [] } w
  have hst0 := store_lay w { Ms.bare 7 fl0 with timed := false }
  have HO := Lib.hid (And.intro O1 (And.intro O2 hB))
  clear O1 O2 hB
  unfold Ms.cs Ms.bare fl0 at HP hst0 hW1
  dsimp only at HP hst0 hW1
  go_enter Tryz.func54, Tryz.ntmps54
  go_upto_region 11 with fail
  (try rw [hW1])
  clear hW1 hst0
  have HO1 := Lib.hid (show Obj? W1.drew w.heap.size #[.int .i64 0, .bool false, .int .i64 0, .bool false, .bool false, .bool false, .int .i64 0, .int .i64 0, .int .i64 0, .int .i64 0, .bool false, .int .i64 0, .int .i64 0, .int .i64 0, .string ⟨#[]⟩, .string ⟨#[]⟩] 25 from HO.out.1)
  have HO2 := Lib.hid (show Obj? W1.drew (w.heap.size + 1) (Ms.cs { Ms.bare 7 fl0 with timed := false, name := [] }) 25 from HO.out.2.1)
  have HB := Lib.hid (show Below w.heap.size w W1.drew from below_drewM HO.out.2.2)
  have hldm := load_msgA (A := Ms.cs { Ms.bare 7 fl0 with timed := false, name := [] }) rfl HO2.out
  unfold Ms.cs Ms.bare fl0 at hldm
  dsimp only at hldm
  go_region_law ((go_simp; go_at_call 88; ((with_reducible refine (HP.out _).mono ?_); (rintro r w2 ⟨v, rfl, hI, hb⟩; have O12 := HO1.out.below hb HO1.out.lt; have O22 := HO2.out.below hb HO2.out.lt; have hldm2 := load_msgA (A := Ms.cs { Ms.bare 7 fl0 with timed := false, name := [] }) rfl O22; have hst := store_msg { Ms.bare 7 fl0 with timed := false, name := [] } O12 rfl; unfold Ms.cs Ms.bare fl0 at hldm2 hst; dsimp only at hldm2 hst; have HF := Lib.hid (And.intro O12 (And.intro hI hb)); clear O12 O22 hI hb))))
  all_goals
    go_wp2
    refine bodyPost_ret (results_row_tmp2 rfl _ _ _ _ _ _ rfl (HF.out.1.setRow _) Tryz.underlying25 rfl infoMs) rfl ?_
    exact ⟨v, rfl, ints_far HF.out.2.1 HF.out.1 HLp.out _, below_row (HB.out.trans (HF.out.2.2.mono HB.out.size)) (Nat.le_refl _) _⟩
set_option maxRecDepth 100000 in
set_option maxHeartbeats 3200000 in
theorem rlay_7_cons (u : List UInt8) (hu : u ≠ []) (w : World) : Calls Tryz.prog 54 #[.int .i64 7, .string ⟨u.toArray⟩] w (LaySaid w ({ Ms.bare 7 fl0 with timed := false, name := [63] }, partsM { Ms.bare 7 fl0 with timed := false, name := [63] }, 0)) := by
  have d1 : u.isEmpty = false := by cases u with | nil => exact (hu rfl).elim | cons _ _ => rfl
  have d2 : (u == []) = false := by simpa using hu
  clear hu
  have HP := Lib.hid (fun w => rparts_any { Ms.bare 7 fl0 with timed := false, name := [63] } rfl w)
  obtain ⟨L, hL⟩ : ∃ L, L = partsM { Ms.bare 7 fl0 with timed := false, name := [63] } := ⟨_, rfl⟩
  have HLp := Lib.hid (show ∀ x ∈ L, x ≠ 0 from by rw [hL]; exact parts_pos)
  rw [← hL] at HP ⊢
  clear hL
  obtain ⟨W1, hW1, O1, O2, hB⟩ := lay_world { Ms.bare 7 fl0 with timed := false, name := [63] } w
  have hst0 := store_lay w { Ms.bare 7 fl0 with timed := false }
  have HO := Lib.hid (And.intro O1 (And.intro O2 hB))
  clear O1 O2 hB
  unfold Ms.cs Ms.bare fl0 at HP hst0 hW1
  dsimp only at HP hst0 hW1
  go_enter Tryz.func54, Tryz.ntmps54
  go_upto_region 11 with fail
  (try rw [hW1])
  clear hW1 hst0
  have HO1 := Lib.hid (show Obj? W1.drew w.heap.size #[.int .i64 0, .bool false, .int .i64 0, .bool false, .bool false, .bool false, .int .i64 0, .int .i64 0, .int .i64 0, .int .i64 0, .bool false, .int .i64 0, .int .i64 0, .int .i64 0, .string ⟨#[]⟩, .string ⟨#[]⟩] 25 from HO.out.1)
  have HO2 := Lib.hid (show Obj? W1.drew (w.heap.size + 1) (Ms.cs { Ms.bare 7 fl0 with timed := false, name := [63] }) 25 from HO.out.2.1)
  have HB := Lib.hid (show Below w.heap.size w W1.drew from below_drewM HO.out.2.2)
  have hldm := load_msgA (A := Ms.cs { Ms.bare 7 fl0 with timed := false, name := [63] }) rfl HO2.out
  unfold Ms.cs Ms.bare fl0 at hldm
  dsimp only at hldm
  go_region_law ((go_simp; go_at_call 88; ((with_reducible refine (HP.out _).mono ?_); (rintro r w2 ⟨v, rfl, hI, hb⟩; have O12 := HO1.out.below hb HO1.out.lt; have O22 := HO2.out.below hb HO2.out.lt; have hldm2 := load_msgA (A := Ms.cs { Ms.bare 7 fl0 with timed := false, name := [63] }) rfl O22; have hst := store_msg { Ms.bare 7 fl0 with timed := false, name := [63] } O12 rfl; unfold Ms.cs Ms.bare fl0 at hldm2 hst; dsimp only at hldm2 hst; have HF := Lib.hid (And.intro O12 (And.intro hI hb)); clear O12 O22 hI hb))))
  all_goals
    go_wp2
    refine bodyPost_ret (results_row_tmp2 rfl _ _ _ _ _ _ rfl (HF.out.1.setRow _) Tryz.underlying25 rfl infoMs) rfl ?_
    exact ⟨v, rfl, ints_far HF.out.2.1 HF.out.1 HLp.out _, below_row (HB.out.trans (HF.out.2.2.mono HB.out.size)) (Nat.le_refl _) _⟩
set_option maxRecDepth 100000 in
set_option maxHeartbeats 3200000 in
theorem rlay_26_nil (u : List UInt8) (hu : u = []) (w : World) : Calls Tryz.prog 54 #[.int .i64 26, .string ⟨u.toArray⟩] w (LaySaid w ({ Ms.bare 26 fl0 with timed := false, name := [] }, partsM { Ms.bare 26 fl0 with timed := false, name := [] }, 0)) := by
  have d1 : u.isEmpty = true := by rw [hu]; rfl
  have d2 : (u == []) = true := by rw [hu]; rfl
  clear hu
  have HP := Lib.hid (fun w => rparts_any { Ms.bare 26 fl0 with timed := false, name := [] } rfl w)
  obtain ⟨L, hL⟩ : ∃ L, L = partsM { Ms.bare 26 fl0 with timed := false, name := [] } := ⟨_, rfl⟩
  have HLp := Lib.hid (show ∀ x ∈ L, x ≠ 0 from by rw [hL]; exact parts_pos)
  rw [← hL] at HP ⊢
  clear hL
  obtain ⟨W1, hW1, O1, O2, hB⟩ := lay_world { Ms.bare 26 fl0 with timed := false, name := [] } w
  have hst0 := store_lay w { Ms.bare 26 fl0 with timed := false }
  have HO := Lib.hid (And.intro O1 (And.intro O2 hB))
  clear O1 O2 hB
  unfold Ms.cs Ms.bare fl0 at HP hst0 hW1
  dsimp only at HP hst0 hW1
  go_enter Tryz.func54, Tryz.ntmps54
  go_upto_region 11 with fail
  (try rw [hW1])
  clear hW1 hst0
  have HO1 := Lib.hid (show Obj? W1.drew w.heap.size #[.int .i64 0, .bool false, .int .i64 0, .bool false, .bool false, .bool false, .int .i64 0, .int .i64 0, .int .i64 0, .int .i64 0, .bool false, .int .i64 0, .int .i64 0, .int .i64 0, .string ⟨#[]⟩, .string ⟨#[]⟩] 25 from HO.out.1)
  have HO2 := Lib.hid (show Obj? W1.drew (w.heap.size + 1) (Ms.cs { Ms.bare 26 fl0 with timed := false, name := [] }) 25 from HO.out.2.1)
  have HB := Lib.hid (show Below w.heap.size w W1.drew from below_drewM HO.out.2.2)
  have hldm := load_msgA (A := Ms.cs { Ms.bare 26 fl0 with timed := false, name := [] }) rfl HO2.out
  unfold Ms.cs Ms.bare fl0 at hldm
  dsimp only at hldm
  go_region_law ((go_simp; go_at_call 88; ((with_reducible refine (HP.out _).mono ?_); (rintro r w2 ⟨v, rfl, hI, hb⟩; have O12 := HO1.out.below hb HO1.out.lt; have O22 := HO2.out.below hb HO2.out.lt; have hldm2 := load_msgA (A := Ms.cs { Ms.bare 26 fl0 with timed := false, name := [] }) rfl O22; have hst := store_msg { Ms.bare 26 fl0 with timed := false, name := [] } O12 rfl; unfold Ms.cs Ms.bare fl0 at hldm2 hst; dsimp only at hldm2 hst; have HF := Lib.hid (And.intro O12 (And.intro hI hb)); clear O12 O22 hI hb))))
  all_goals
    go_wp2
    refine bodyPost_ret (results_row_tmp2 rfl _ _ _ _ _ _ rfl (HF.out.1.setRow _) Tryz.underlying25 rfl infoMs) rfl ?_
    exact ⟨v, rfl, ints_far HF.out.2.1 HF.out.1 HLp.out _, below_row (HB.out.trans (HF.out.2.2.mono HB.out.size)) (Nat.le_refl _) _⟩
set_option maxRecDepth 100000 in
set_option maxHeartbeats 3200000 in
theorem rlay_26_cons (u : List UInt8) (hu : u ≠ []) (w : World) : Calls Tryz.prog 54 #[.int .i64 26, .string ⟨u.toArray⟩] w (LaySaid w ({ Ms.bare 26 fl0 with timed := false, name := [63] }, partsM { Ms.bare 26 fl0 with timed := false, name := [63] }, 0)) := by
  have d1 : u.isEmpty = false := by cases u with | nil => exact (hu rfl).elim | cons _ _ => rfl
  have d2 : (u == []) = false := by simpa using hu
  clear hu
  have HP := Lib.hid (fun w => rparts_any { Ms.bare 26 fl0 with timed := false, name := [63] } rfl w)
  obtain ⟨L, hL⟩ : ∃ L, L = partsM { Ms.bare 26 fl0 with timed := false, name := [63] } := ⟨_, rfl⟩
  have HLp := Lib.hid (show ∀ x ∈ L, x ≠ 0 from by rw [hL]; exact parts_pos)
  rw [← hL] at HP ⊢
  clear hL
  obtain ⟨W1, hW1, O1, O2, hB⟩ := lay_world { Ms.bare 26 fl0 with timed := false, name := [63] } w
  have hst0 := store_lay w { Ms.bare 26 fl0 with timed := false }
  have HO := Lib.hid (And.intro O1 (And.intro O2 hB))
  clear O1 O2 hB
  unfold Ms.cs Ms.bare fl0 at HP hst0 hW1
  dsimp only at HP hst0 hW1
  go_enter Tryz.func54, Tryz.ntmps54
  go_upto_region 11 with fail
  (try rw [hW1])
  clear hW1 hst0
  have HO1 := Lib.hid (show Obj? W1.drew w.heap.size #[.int .i64 0, .bool false, .int .i64 0, .bool false, .bool false, .bool false, .int .i64 0, .int .i64 0, .int .i64 0, .int .i64 0, .bool false, .int .i64 0, .int .i64 0, .int .i64 0, .string ⟨#[]⟩, .string ⟨#[]⟩] 25 from HO.out.1)
  have HO2 := Lib.hid (show Obj? W1.drew (w.heap.size + 1) (Ms.cs { Ms.bare 26 fl0 with timed := false, name := [63] }) 25 from HO.out.2.1)
  have HB := Lib.hid (show Below w.heap.size w W1.drew from below_drewM HO.out.2.2)
  have hldm := load_msgA (A := Ms.cs { Ms.bare 26 fl0 with timed := false, name := [63] }) rfl HO2.out
  unfold Ms.cs Ms.bare fl0 at hldm
  dsimp only at hldm
  go_region_law ((go_simp; go_at_call 88; ((with_reducible refine (HP.out _).mono ?_); (rintro r w2 ⟨v, rfl, hI, hb⟩; have O12 := HO1.out.below hb HO1.out.lt; have O22 := HO2.out.below hb HO2.out.lt; have hldm2 := load_msgA (A := Ms.cs { Ms.bare 26 fl0 with timed := false, name := [63] }) rfl O22; have hst := store_msg { Ms.bare 26 fl0 with timed := false, name := [63] } O12 rfl; unfold Ms.cs Ms.bare fl0 at hldm2 hst; dsimp only at hldm2 hst; have HF := Lib.hid (And.intro O12 (And.intro hI hb)); clear O12 O22 hI hb))))
  all_goals
    go_wp2
    refine bodyPost_ret (results_row_tmp2 rfl _ _ _ _ _ _ rfl (HF.out.1.setRow _) Tryz.underlying25 rfl infoMs) rfl ?_
    exact ⟨v, rfl, ints_far HF.out.2.1 HF.out.1 HLp.out _, below_row (HB.out.trans (HF.out.2.2.mono HB.out.size)) (Nat.le_refl _) _⟩
set_option maxRecDepth 100000 in
set_option maxHeartbeats 3200000 in
theorem rlay_k_any (u : List UInt8) {k : Int} (hk : kindM k = true) (h24 : k ≠ 24) (h7 : k ≠ 7) (h26 : k ≠ 26) (h18 : k ≠ 18) (h20 : k ≠ 20) (w : World) : Calls Tryz.prog 54 #[.int .i64 k, .string ⟨u.toArray⟩] w (LaySaid w ({ Ms.bare k fl0 with timed := false, name := [] }, partsM { Ms.bare k fl0 with timed := false, name := [] }, 0)) := by
  have e24 : (k == 24) = false := by simpa using h24
  have e7 : (k == 7) = false := by simpa using h7
  have e26 : (k == 26) = false := by simpa using h26
  have e18 : (k == 18) = false := by simpa using h18
  have e20 : (k == 20) = false := by simpa using h20
  clear h24 h7 h26 h18 h20
  have HP := Lib.hid (fun w => rparts_any { Ms.bare k fl0 with timed := false, name := [] } hk w)
  obtain ⟨L, hL⟩ : ∃ L, L = partsM { Ms.bare k fl0 with timed := false, name := [] } := ⟨_, rfl⟩
  have HLp := Lib.hid (show ∀ x ∈ L, x ≠ 0 from by rw [hL]; exact parts_pos)
  rw [← hL] at HP ⊢
  clear hL hk
  obtain ⟨W1, hW1, O1, O2, hB⟩ := lay_world { Ms.bare k fl0 with timed := false, name := [] } w
  have hst0 := store_lay w { Ms.bare k fl0 with timed := false }
  have HO := Lib.hid (And.intro O1 (And.intro O2 hB))
  clear O1 O2 hB
  unfold Ms.cs Ms.bare fl0 at HP hst0 hW1
  dsimp only at HP hst0 hW1
  go_enter Tryz.func54, Tryz.ntmps54
  go_upto_region 11 with fail
  (try rw [hW1])
  clear hW1 hst0
  have HO1 := Lib.hid (show Obj? W1.drew w.heap.size #[.int .i64 0, .bool false, .int .i64 0, .bool false, .bool false, .bool false, .int .i64 0, .int .i64 0, .int .i64 0, .int .i64 0, .bool false, .int .i64 0, .int .i64 0, .int .i64 0, .string ⟨#[]⟩, .string ⟨#[]⟩] 25 from HO.out.1)
  have HO2 := Lib.hid (show Obj? W1.drew (w.heap.size + 1) (Ms.cs { Ms.bare k fl0 with timed := false, name := [] }) 25 from HO.out.2.1)
  have HB := Lib.hid (show Below w.heap.size w W1.drew from below_drewM HO.out.2.2)
  have hldm := load_msgA (A := Ms.cs { Ms.bare k fl0 with timed := false, name := [] }) rfl HO2.out
  unfold Ms.cs Ms.bare fl0 at hldm
  dsimp only at hldm
  go_region_law ((go_simp; go_at_call 88; ((with_reducible refine (HP.out _).mono ?_); (rintro r w2 ⟨v, rfl, hI, hb⟩; have O12 := HO1.out.below hb HO1.out.lt; have O22 := HO2.out.below hb HO2.out.lt; have hldm2 := load_msgA (A := Ms.cs { Ms.bare k fl0 with timed := false, name := [] }) rfl O22; have hst := store_msg { Ms.bare k fl0 with timed := false, name := [] } O12 rfl; unfold Ms.cs Ms.bare fl0 at hldm2 hst; dsimp only at hldm2 hst; have HF := Lib.hid (And.intro O12 (And.intro hI hb)); clear O12 O22 hI hb))))
  all_goals
    go_wp2
    refine bodyPost_ret (results_row_tmp2 rfl _ _ _ _ _ _ rfl (HF.out.1.setRow _) Tryz.underlying25 rfl infoMs) rfl ?_
    exact ⟨v, rfl, ints_far HF.out.2.1 HF.out.1 HLp.out _, below_row (HB.out.trans (HF.out.2.2.mono HB.out.size)) (Nat.le_refl _) _⟩
end Go.Proofs.YtbacnaplpfmpnaaGreatDoor
