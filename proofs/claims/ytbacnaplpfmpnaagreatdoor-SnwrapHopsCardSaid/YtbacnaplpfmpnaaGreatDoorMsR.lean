/- snmsg, plain: what is checked, written, read; a message that is looked through may be written. No program. snmsg, plain: what is written is read; what is read is written the same. No program. -/
import Derived.Test.YtbacnaplpfmpnaaGreatDoorMsL
import Derived.Test.YtbacnaplpfmpnaaGreatDoorMsN
import Derived.Test.YtbacnaplpfmpnaaGreatDoorMsF
import Derived.Test.YtbacnaplpfmpnaaGreatDoorSnA
namespace Go.Proofs.YtbacnaplpfmpnaaGreatDoor
open Go.RowKit
set_option linter.unusedVariables false
set_option linter.unusedSimpArgs false

def checkM (m : Ms) : Int :=
  if kindM m.ty = false then 8
  else if mayF m.ty m.fl = false ∨ (willB m.ty = true ∧ m.name.isEmpty = true ∧ m.fl ≠ fl0) then 7
  else if (lookAll m).2 = true ∨ (lookAll m).1 ≠ Ms.bare m.ty m.fl ∨ msgIdB m = false then 2
  else if topicIdF m ≠ 0 then topicIdF m
  else if nameF m ≠ 0 then nameF m
  else (snB m.ty (restL m).length).2

/-- Which fields a type uses. -/
def useGw (m : Ms) : Bool := decide (m.ty = 0 ∨ m.ty = 2)
def useRad (m : Ms) : Bool := decide (m.ty = 1)
def useCode (m : Ms) : Bool := decide (m.ty = 5 ∨ m.ty = 27 ∨ m.ty = 29 ∨ m.ty = 11 ∨ m.ty = 13 ∨ m.ty = 19)
def useTime (m : Ms) : Bool := decide (m.ty = 0 ∨ m.ty = 4 ∨ (m.ty = 24 ∧ m.timed = true))
def useTid (m : Ms) : Bool := decide (m.ty = 10 ∨ m.ty = 11 ∨ m.ty = 13 ∨ m.ty = 12 ∨ m.ty = 19 ∨ ((m.ty = 18 ∨ m.ty = 20) ∧ m.fl.typ ≠ 0))
def useMid (m : Ms) : Bool := decide (m.ty = 10 ∨ m.ty = 11 ∨ m.ty = 13 ∨ m.ty = 12 ∨ m.ty = 14 ∨ m.ty = 15 ∨ m.ty = 16 ∨ m.ty = 21 ∨ m.ty = 18 ∨ m.ty = 20 ∨ m.ty = 19)
def useName (m : Ms) : Bool := decide (m.ty = 2 ∨ m.ty = 4 ∨ m.ty = 7 ∨ m.ty = 26 ∨ m.ty = 10 ∨ m.ty = 22 ∨ ((m.ty = 18 ∨ m.ty = 20) ∧ m.fl.typ = 0))
def useData (m : Ms) : Bool := decide (m.ty = 9 ∨ m.ty = 28 ∨ m.ty = 12)
def fitB (n most : Int) (used : Bool) : Bool := decide (0 ≤ n ∧ n ≤ most) && (used || n == 0)
/-- Are the numbers, and what is not used, as they may be? -/
def fitsM (m : Ms) : Bool :=
  fitB m.gw 255 (useGw m) && fitB m.rad 255 (useRad m) && fitB m.code 255 (useCode m) && fitB m.time 65535 (useTime m) && fitB m.tid 65535 (useTid m) && fitB m.mid 65535 (useMid m) &&
    (useName m || m.name.isEmpty) && (useData m || m.data.isEmpty) && (decide (m.ty = 24) || !m.timed)
set_option maxHeartbeats 1600000 in
theorem look_iff {m : Ms} (hk : kindM m.ty = true) : ((lookAll m).2 = false ∧ (lookAll m).1 = Ms.bare m.ty m.fl) ↔ fitsM m = true := by
  obtain ⟨ty, ⟨dup, q, retain, will, clean, typ⟩, gw, rad, time, timed, tid, mid, code, name, data⟩ := m
  rcases kinds_of hk with h | h | h | h | h | h | h | h | h | h | h | h | h | h | h | h | h | h | h | h | h | h | h | h | h | h | h <;> simp only at h <;> subst h <;> clear hk <;>
    by_cases hN : name = [] <;> by_cases hT : typ = 0 <;> cases timed <;>
    simp [lookAll, layoutF, lookP, lkNum, Ms.bare, fitsM, fitB, useGw, useRad, useCode, useTime, useTid, useMid, useName, useData, hN, hT] <;>
    (constructor <;> intro h <;> (repeat' (apply And.intro)) <;> first | omega | (simp [h]; done))
end Go.Proofs.YtbacnaplpfmpnaaGreatDoor
namespace Go.Proofs.YtbacnaplpfmpnaaGreatDoor
open Go.RowKit
set_option linter.unusedVariables false
set_option linter.unusedSimpArgs false

/-- The numbers that fit. -/
def Rng (m : Ms) : Prop := (0 ≤ m.gw ∧ m.gw ≤ 255) ∧ (0 ≤ m.rad ∧ m.rad ≤ 255) ∧ (0 ≤ m.time ∧ m.time ≤ 65535) ∧ (0 ≤ m.tid ∧ m.tid ≤ 65535) ∧ (0 ≤ m.mid ∧ m.mid ≤ 65535) ∧ (0 ≤ m.code ∧ m.code ≤ 255) ∧ flagOk m.fl.q m.fl.typ = true
theorem rng_of {m : Ms} (hf : fitsM m = true) (hfl : flagOk m.fl.q m.fl.typ = true) : Rng m := by
  simp only [fitsM, fitB, Bool.and_eq_true, decide_eq_true_eq] at hf
  obtain ⟨⟨⟨⟨⟨⟨⟨⟨a, b⟩, c⟩, d⟩, e⟩, f⟩, g⟩, h⟩, i⟩ := hf
  exact ⟨a.1, b.1, d.1, e.1, f.1, c.1, hfl⟩
def copyP (p : Pt) (m s : Ms) : Ms :=
  match p with
  | .gateway => { s with gw := m.gw }
  | .radius => { s with rad := m.rad }
  | .code => { s with code := m.code }
  | .time => { s with time := m.time }
  | .id => { s with tid := m.tid }
  | .msg => { s with mid := m.mid }
  | .name => { s with name := m.name }
  | .data => { s with data := m.data }
  | .flags => { s with fl := m.fl }
  | .protocol => s
  | .will => if m.name = [] then s else { s with fl := m.fl, name := m.name }
  | .topic => if m.fl.typ = 0 then { s with name := m.name } else { s with tid := m.tid }
  | .duration => if m.timed = true then { s with timed := true, time := m.time } else { s with timed := false }
def openP (p : Pt) : Bool := match p with | .name | .data | .will | .topic | .duration => true | _ => false
theorem take_mid (pre mid post : List UInt8) (n : Int) (hn : n = mid.length) :
    takeS (pre ++ (mid ++ post)) pre.length 0 n = mid ∧ takeI (pre ++ (mid ++ post)) pre.length 0 n = pre.length + mid.length ∧ takeE (pre ++ (mid ++ post)) pre.length 0 n = 0 := by
  have h : hasB (pre ++ (mid ++ post)) pre.length n = true := by simp [hasB, hn]; omega
  subst hn
  unfold takeS takeI takeE
  rw [if_pos ⟨rfl, h⟩, if_pos ⟨rfl, h⟩, if_neg (by simp [h])]
  simp
theorem getL_put1 (x : Int) (h : 0 ≤ x ∧ x ≤ 255) : getL (putL x 1) = x := by
  have h1 := getB_putB x 1 (by decide)
  have h2 := length_putB x 1
  unfold getL
  rw [show putL x 1 = putB x 1 from rfl, h2]
  show getB (putB x 1) = x
  rw [h1]; omega
theorem getL_put2 (x : Int) (h : 0 ≤ x ∧ x ≤ 65535) : getL (putL x 2) = x := by
  have h1 := getB_putB x 2 (by decide)
  have h2 := length_putB x 2
  unfold getL
  rw [show putL x 2 = putB x 2 from rfl, h2]
  show getB (putB x 2) = x
  rw [h1]; omega
theorem len_put1 (x : Int) : (1 : Int) = (putL x 1).length := by rw [length_putL]; rfl
theorem len_put2 (x : Int) : (2 : Int) = (putL x 2).length := by rw [length_putL]; rfl
theorem rd_one (s : Ms) (pre post : List UInt8) (x : Int) (h : 0 ≤ x ∧ x ≤ 255) : rdNum (pre ++ (putL x 1 ++ post)) ⟨s, pre.length, 0⟩ 1 = x := by
  unfold rdNum
  rw [(take_mid pre (putL x 1) post 1 (len_put1 x)).1, getL_put1 x h]
theorem rd_two (s : Ms) (pre post : List UInt8) (x : Int) (h : 0 ≤ x ∧ x ≤ 65535) : rdNum (pre ++ (putL x 2 ++ post)) ⟨s, pre.length, 0⟩ 2 = x := by
  unfold rdNum
  rw [(take_mid pre (putL x 2) post 2 (len_put2 x)).1, getL_put2 x h]
theorem flag_rf' (f : Fl) (h : flagOk f.q f.typ = true) : (flagV f).2 = 0 ∧ 0 ≤ (flagV f).1 ∧ (flagV f).1 ≤ 255 ∧ rfE (flagV f).1 = 0 ∧ rfF (flagV f).1 = f := by
  obtain ⟨dup, q, retain, will, clean, t⟩ := f
  have h' : -1 ≤ q ∧ q ≤ 2 ∧ 0 ≤ t ∧ t ≤ 2 := by simpa [flagOk] using h
  rcases (by omega : q = -1 ∨ q = 0 ∨ q = 1 ∨ q = 2) with rfl | rfl | rfl | rfl <;> rcases (by omega : t = 0 ∨ t = 1 ∨ t = 2) with rfl | rfl | rfl <;> cases dup <;> cases retain <;> cases will <;> cases clean <;> decide
theorem rf_flag_fin' : ∀ m : Fin 256, rfOk ((m : Nat) : Int) = true → flagV (rfF ((m : Nat) : Int)) = (((m : Nat) : Int), 0) := by decide +kernel
theorem rf_flag' (n : Int) (h : rfOk n = true) : flagV (rfF n) = (n, 0) := by
  have h2 : 0 ≤ n ∧ n ≤ 255 ∧ n % 4 ≠ 3 := by simpa [rfOk] using h
  obtain ⟨m, rfl⟩ := Int.eq_ofNat_of_zero_le h2.1
  exact rf_flag_fin' ⟨m, by omega⟩ h
theorem rd_flags (m s : Ms) (pre post : List UInt8) (hf : flagOk m.fl.q m.fl.typ = true) :
    rdFlags (pre ++ (putL (flagV m.fl).1 1 ++ post)) ⟨s, pre.length, 0⟩ = ⟨{ s with fl := m.fl }, pre.length + (putL (flagV m.fl).1 1).length, 0⟩ := by
  obtain ⟨h1, h2, h3, h4, h5⟩ := flag_rf' m.fl hf
  obtain ⟨t1, t2, t3⟩ := take_mid pre (putL (flagV m.fl).1 1) post 1 (len_put1 _)
  unfold rdFlags
  simp only
  rw [t3, if_pos rfl, t2, rd_one _ _ _ _ ⟨h2, h3⟩, h4, h5]
theorem read_write (p : Pt) (m s : Ms) (pre post : List UInt8) (hr : Rng m) (hpost : openP p = true → post = []) (htop : p = .topic → s.fl.typ = m.fl.typ) :
    readP p (pre ++ (writeP p m ++ post)) ⟨s, pre.length, 0⟩ = ⟨copyP p m s, pre.length + (writeP p m).length, 0⟩ := by
  obtain ⟨r1, r2, r3, r4, r5, r6, r7⟩ := hr
  have o1 : ∀ (x : Int) (h : 0 ≤ x ∧ x ≤ 255) (post : List UInt8), rdNum (pre ++ (putL x 1 ++ post)) ⟨s, pre.length, 0⟩ 1 = x ∧ takeI (pre ++ (putL x 1 ++ post)) pre.length 0 1 = pre.length + (putL x 1).length ∧ takeE (pre ++ (putL x 1 ++ post)) pre.length 0 1 = 0 :=
    fun x h post => ⟨rd_one s pre post x h, (take_mid pre (putL x 1) post 1 (len_put1 x)).2⟩
  have o2 : ∀ (x : Int) (h : 0 ≤ x ∧ x ≤ 65535) (post : List UInt8), rdNum (pre ++ (putL x 2 ++ post)) ⟨s, pre.length, 0⟩ 2 = x ∧ takeI (pre ++ (putL x 2 ++ post)) pre.length 0 2 = pre.length + (putL x 2).length ∧ takeE (pre ++ (putL x 2 ++ post)) pre.length 0 2 = 0 :=
    fun x h post => ⟨rd_two s pre post x h, (take_mid pre (putL x 2) post 2 (len_put2 x)).2⟩
  cases p
  case gateway => obtain ⟨a, b, c⟩ := o1 m.gw r1 post; simp only [readP, writeP, copyP]; rw [a, b, c]
  case radius => obtain ⟨a, b, c⟩ := o1 m.rad r2 post; simp only [readP, writeP, copyP]; rw [a, b, c]
  case code => obtain ⟨a, b, c⟩ := o1 m.code r6 post; simp only [readP, writeP, copyP]; rw [a, b, c]
  case time => obtain ⟨a, b, c⟩ := o2 m.time r3 post; simp only [readP, writeP, copyP]; rw [a, b, c]
  case id => obtain ⟨a, b, c⟩ := o2 m.tid r4 post; simp only [readP, writeP, copyP]; rw [a, b, c]
  case msg => obtain ⟨a, b, c⟩ := o2 m.mid r5 post; simp only [readP, writeP, copyP]; rw [a, b, c]
  case name =>
    obtain rfl := hpost rfl
    simp [readP, writeP, copyP, rdName, rdTxt]
  case data =>
    obtain rfl := hpost rfl
    simp [readP, writeP, copyP, rdTxt]
  case flags => simp only [readP, writeP, copyP]; exact rd_flags m s pre post r7
  case protocol =>
    obtain ⟨a, b, c⟩ := o1 1 (by omega) post
    have hw : writeP .protocol m = putL 1 1 := rfl
    rw [hw]
    simp only [readP, copyP]
    rw [if_pos a, b, c]
  case will =>
    obtain rfl := hpost rfl
    by_cases hn : m.name = []
    · simp [readP, writeP, copyP, hn]
    · have hl : 0 < m.name.length := List.length_pos_iff.2 hn
      have hw : writeP .will m = putL (flagV m.fl).1 1 ++ m.name := by simp only [writeP]; rw [if_neg hn]
      have hc : copyP .will m s = { s with fl := m.fl, name := m.name } := by simp only [copyP]; rw [if_neg hn]
      rw [hw, hc, List.append_nil]
      have h1 := rd_flags m s pre m.name r7
      have h2 : (putL (flagV m.fl).1 1).length = 1 := by have := len_put1 (flagV m.fl).1; omega
      simp only [readP]
      rw [if_neg (by simp only [List.length_append]; omega), h1]
      simp only
      rw [if_neg (by simp only [List.length_append]; omega)]
      unfold rdName rdTxt
      simp only [if_true]
      congr 2
      · rw [← List.append_assoc, ← List.length_append, List.drop_left]
      · simp
  case topic =>
    obtain rfl := hpost rfl
    have ht := htop rfl
    by_cases hz : m.fl.typ = 0
    · simp [readP, writeP, copyP, rdName, rdTxt, ht, hz]
    · obtain ⟨a, b, c⟩ := o2 m.tid r4 []
      simp only [readP, writeP, copyP, ht]
      rw [if_neg hz, if_neg hz, if_neg hz, a, b, c]
  case duration =>
    obtain rfl := hpost rfl
    by_cases hz : m.timed = true
    · obtain ⟨a, b, c⟩ := o2 m.time r3 []
      have h2 : (putL m.time 2).length = 2 := by have := len_put2 m.time; omega
      have hw : writeP .duration m = putL m.time 2 := by simp only [writeP]; rw [if_pos hz]
      have hc : copyP .duration m s = { s with timed := true, time := m.time } := by simp only [copyP]; rw [if_pos hz]
      rw [hw, hc]
      simp only [readP]
      rw [if_neg (by simp only [List.length_append]; omega), a, b, c]
    · have hw : writeP .duration m = [] := by simp only [writeP]; rw [if_neg hz]
      have hc : copyP .duration m s = { s with timed := false } := by simp only [copyP]; rw [if_neg hz]
      rw [hw, hc]
      simp only [readP]
      rw [if_pos (by simp)]
      simp

def catW (ps : List Pt) (m : Ms) : List UInt8 := match ps with | [] => [] | p :: r => writeP p m ++ catW r m
theorem foldl_cat (m : Ms) : ∀ (ps : List Pt) (a : List UInt8), ps.foldl (fun s p => s ++ writeP p m) a = a ++ catW ps m
  | [], a => by simp [catW]
  | p :: r, a => by simp only [List.foldl_cons, catW]; rw [foldl_cat m r, List.append_assoc]
theorem restL_cat (m : Ms) : restL m = catW (layoutF m.ty) m := by unfold restL; rw [foldl_cat]; rfl
def tailOk : List Pt → Bool → Bool
  | [], _ => true
  | p :: r, known => (!openP p || r.isEmpty) && (!(match p with | .topic => true | _ => false) || known) && tailOk r (known || match p with | .flags => true | _ => false)
theorem copy_fl (p : Pt) (m s : Ms) (h : s.fl = m.fl) : (copyP p m s).fl = m.fl := by
  cases p <;> simp only [copyP] <;> (try split) <;> first | exact h | rfl
theorem read_fold (m : Ms) (hr : Rng m) : ∀ (ps : List Pt) (known : Bool) (s : Ms) (pre : List UInt8), tailOk ps known = true → (known = true → s.fl = m.fl) →
    ps.foldl (fun s p => readP p (pre ++ catW ps m) s) ⟨s, pre.length, 0⟩ = ⟨ps.foldl (fun s p => copyP p m s) s, (pre ++ catW ps m).length, 0⟩ := by
  intro ps
  induction ps with
  | nil => intro known s pre _ _; simp [catW]
  | cons p r ih =>
    intro known s pre ht hf
    simp only [tailOk, Bool.and_eq_true] at ht
    obtain ⟨⟨t1, t2⟩, t3⟩ := ht
    simp only [List.foldl_cons, catW]
    rw [read_write p m s pre (catW r m) hr ?_ ?_]
    · have := ih _ (copyP p m s) (pre ++ writeP p m) t3 ?_
      · rw [List.append_assoc, List.length_append] at this
        rw [this]
      · intro hk
        rcases Bool.or_eq_true _ _ ▸ hk with h | h
        · exact copy_fl p m s (hf h)
        · cases p <;> first | rfl | cases h
    · intro ho
      rw [ho] at t1
      simp at t1
      rw [t1]; rfl
    · intro hp
      subst hp
      simp at t2
      rw [hf t2]
theorem ite_tail {c : Prop} [Decidable c] {a b : List Pt} (ha : tailOk a false = true) (hb : tailOk b false = true) : tailOk (if c then a else b) false = true := by split <;> assumption
theorem layout_tail (k : Int) : tailOk (layoutF k) false = true := by
  unfold layoutF
  repeat' (refine ite_tail ?_ ?_)
  all_goals rfl
def noFl (k : Int) : Prop := k ≠ 4 ∧ k ≠ 7 ∧ k ≠ 26 ∧ k ≠ 19 ∧ k ≠ 12 ∧ k ≠ 18 ∧ k ≠ 20
theorem fl_zero {k : Int} {f : Fl} (hk : kindOf k) (h : mayF k f = true) : f = fl0 := by
  unfold mayF at h
  rw [uses_else hk] at h
  obtain ⟨dup, q, retain, will, clean, typ⟩ := f
  simp [fl0] at h
  obtain ⟨⟨⟨⟨⟨⟨⟨h1, h2⟩, h3⟩, h4⟩, h5⟩, h6⟩, h7⟩, h8⟩ := h
  simp [fl0, *]
/-- All that is copied is the message. -/
theorem copy_all {m : Ms} (hk : kindM m.ty = true) (hf : fitsM m = true) (hm : mayF m.ty m.fl = true) (hw : willB m.ty = true → m.name = [] → m.fl = fl0) :
    (layoutF m.ty).foldl (fun s p => copyP p m s) (Ms.bare m.ty fl0) = m := by
  obtain ⟨ty, fl, gw, rad, time, timed, tid, mid, code, name, data⟩ := m
  simp only at hk hm hw
  have hz := fun h => fl_zero (k := ty) (f := fl) h hm
  unfold kindOf at hz
  clear hm
  rcases kinds_of hk with h | h | h | h | h | h | h | h | h | h | h | h | h | h | h | h | h | h | h | h | h | h | h | h | h | h | h <;> subst h <;> clear hk <;>
    by_cases hN : name = [] <;> by_cases hT : fl.typ = 0 <;> cases timed <;>
    simp [fitsM, fitB, useGw, useRad, useCode, useTime, useTid, useMid, useName, useData, hN, hT, willB] at hf hz hw <;>
    simp [layoutF, copyP, Ms.bare, hN, hT] <;>
    (repeat' (apply And.intro)) <;> first | (simp [hf]; done) | (simp [hz]; done) | (simp [hw]; done)
end Go.Proofs.YtbacnaplpfmpnaaGreatDoor
