/- SnmsgTopics, plain. -/
import Derived.Test.YtbacnaplpfmpnaaDoorLkB
import Derived.Test.YtbacnaplpfmpnaaDoorLkC
import Derived.Test.YtbacnaplpfmpnaaDoorRefT
import Derived.Test.YtbacnaplpfmpnaaDoorSnQ
namespace Go.Proofs.YtbacnaplpfmpnaaDoor
open Go.RowKit
set_option linter.unusedVariables false
set_option linter.unusedSimpArgs false

def pubM (typ tid : Int) (data : List UInt8) : Ms := ⟨12, ⟨false, 0, false, false, false, typ⟩, 0, 0, 0, false, tid, 0, 0, [], data⟩
def regX (tid mid : Int) (name : List UInt8) : Ms := ⟨10, fl0, 0, 0, 0, false, tid, mid, 0, name, []⟩
theorem pub_rest (typ tid : Int) (data : List UInt8) : (restL (pubM typ tid data)).length = 5 + data.length := by
  have l1 : ∀ x : Int, (putL x 1).length = 1 := fun x => by rw [length_putL]; rfl
  have l2 : ∀ x : Int, (putL x 2).length = 2 := fun x => by rw [length_putL]; rfl
  simp [restL, layoutF, writeP, pubM, l1, l2]
  omega
theorem pub_fits (typ tid : Int) (data : List UInt8) : fitsM (pubM typ tid data) = decide (0 ≤ tid ∧ tid ≤ 65535) := by
  simp [fitsM, fitB, useGw, useRad, useCode, useTime, useTid, useMid, useName, useData, pubM]
  by_cases h1 : 0 ≤ tid <;> by_cases h2 : tid ≤ 65535 <;> simp [h1, h2]
theorem pub_check {typ tid : Int} {data : List UInt8} (hd : data.length ≤ 400) (ht : typ = 1 ∨ typ = 2) : checkM (pubM typ tid data) = 0 ↔ (0 ≤ tid ∧ tid ≤ 65535) ∧ topicIdF (pubM typ tid data) = 0 := by
  rw [check_iff]
  constructor
  · rintro ⟨-, -, -, h1, -, h2, -, -⟩
    rw [pub_fits] at h1
    exact ⟨of_decide_eq_true h1, h2⟩
  · rintro ⟨h1, h2⟩
    refine ⟨(show kindM 12 = true by decide), ?_, (fun h => by cases h), ?_, rfl, h2, rfl, ?_⟩
    · rcases ht with rfl | rfl <;> rfl
    · rw [pub_fits]; exact decide_eq_true h1
    · rw [pub_rest]
      show (snB 12 _).2 = 0
      rw [snB_ok (by decide) (by omega) (by omega)]
theorem short_sound {name : List UInt8} (h : (shortF name).2 = true) : name.length = 2 ∧ nameB name = true ∧ (shortF name).1 = getL name ∧ nameOfF (getL name) = (name, true) ∧ 0 ≤ getL name ∧ getL name ≤ 65535 := by
  unfold shortF at h ⊢
  by_cases hc : name.length = 2 ∧ nameB name = true
  · rw [if_pos hc]
    obtain ⟨h1, h2⟩ := getL_two' name hc.1
    have e := putL_getL name 2 (.inr ⟨rfl, hc.1⟩)
    refine ⟨hc.1, hc.2, rfl, ?_, h1, h2⟩
    unfold nameOfF
    rw [e, if_pos ⟨h1, h2, hc.2⟩]
  · rw [if_neg hc] at h; cases h
theorem short_is (name : List UInt8) : (shortF name).2 = (decide (name.length = 2) && nameB name) := by
  unfold shortF
  by_cases h1 : name.length = 2 <;> cases h2 : nameB name <;> simp [h1, h2]
theorem nameOf_sound {id : Int} (h : (nameOfF id).2 = true) : 0 ≤ id ∧ id ≤ 65535 ∧ (nameOfF id).1 = putL id 2 ∧ shortF (putL id 2) = (id, true) := by
  unfold nameOfF at h ⊢
  by_cases hc : 0 ≤ id ∧ id ≤ 65535 ∧ nameB (putL id 2) = true
  · rw [if_pos hc]
    refine ⟨hc.1, hc.2.1, rfl, ?_⟩
    unfold shortF
    rw [if_pos ⟨by rw [length_putL]; rfl, hc.2.2⟩, getL_put2 id ⟨hc.1, hc.2.1⟩]
  · rw [if_neg hc] at h; cases h
theorem pub_short {name data : List UInt8} (hd : data.length ≤ 400) (h : (shortF name).2 = true) : checkM (pubM 2 (getL name) data) = 0 := by
  obtain ⟨h1, h2, h3, h4, h5, h6⟩ := short_sound h
  rw [pub_check hd (.inr rfl)]
  refine ⟨⟨h5, h6⟩, ?_⟩
  unfold topicIdF pubM
  simp [h4]
theorem pub_fixed (id : Int) {data : List UInt8} (hd : data.length ≤ 400) : (checkM (pubM 1 id data) == 0) = decide (1 ≤ id ∧ id ≤ 65534) := by
  have h := pub_check (tid := id) hd (.inl rfl)
  have e : topicIdF (pubM 1 id data) = if id < 1 ∨ 65534 < id then 2 else 0 := by unfold topicIdF pubM; simp
  rw [e] at h
  by_cases h1 : 1 ≤ id ∧ id ≤ 65534
  · rw [decide_eq_true h1, beq_iff_eq, h, if_neg (by omega)]
    omega
  · rw [decide_eq_false h1]
    apply beq_eq_false_iff_ne.2
    intro h2
    have h3 := (h.1 h2).2
    rw [if_pos (by omega)] at h3
    cases h3
theorem reg_rest (tid mid : Int) (name : List UInt8) : restL (regX tid mid name) = putL tid 2 ++ putL mid 2 ++ name := by
  simp [restL, layoutF, writeP, regX]
theorem reg_check {tid mid : Int} {name : List UInt8} (h1 : 1 ≤ tid ∧ tid ≤ 65534) (h2 : 1 ≤ mid ∧ mid ≤ 65535) (hn : name.length ≤ 400) : checkM (regX tid mid name) = if nameB name = true then 0 else 10 := by
  have hl : (restL (regX tid mid name)).length = 4 + name.length := by
    rw [reg_rest]
    have l2 : ∀ x : Int, (putL x 2).length = 2 := fun x => by rw [length_putL]; rfl
    simp [l2]
    omega
  have hk : kindM (regX tid mid name).ty = true := (show kindM 10 = true by decide)
  have hf : fitsM (regX tid mid name) = true := by
    simp [fitsM, fitB, useGw, useRad, useCode, useTime, useTid, useMid, useName, useData, regX, fl0]; exact ⟨decide_eq_true (by omega), decide_eq_true (by omega)⟩
  obtain ⟨a, b⟩ := (look_iff hk).2 hf
  have hi : msgIdB (regX tid mid name) = true := by simp [msgIdB, regX]; omega
  have ht : topicIdF (regX tid mid name) = 0 := by simp [topicIdF, regX, fl0]; omega
  have hna : nameF (regX tid mid name) = if nameB name = true then 0 else 10 := by cases h : nameB name <;> simp [nameF, regX, h]
  have hm : mayF (regX tid mid name).ty (regX tid mid name).fl = true := rfl
  have hwb : willB (regX tid mid name).ty = false := rfl
  unfold checkM
  rw [if_neg (by rw [hk]; simp), if_neg (by rw [hm, hwb]; simp), if_neg (by rw [a, b, hi]; simp), if_neg (by rw [ht]; simp), hna]
  cases hb : nameB name with
  | false => simp
  | true =>
    simp only [if_true]
    rw [if_neg (by simp), hl]
    show (snB 10 _).2 = 0
    rw [snB_ok (by decide) (by omega) (by omega)]
theorem reg_bytes {tid mid : Int} {name : List UInt8} (h1 : 1 ≤ tid ∧ tid ≤ 65534) (h2 : 1 ≤ mid ∧ mid ≤ 65535) (hn : name.length ≤ 400) :
    (nameB name = true ∧ ∃ B, bytesM (regX tid mid name) = (B, 0) ∧ B.length = (snS 10 ((name.length : Int) + 4)).length + 4 + name.length ∧ B.drop (B.length - name.length) = name ∧ snB 10 ((name.length : Int) + 4) = (snS 10 ((name.length : Int) + 4), 0)) ∨
    (nameB name = false ∧ bytesM (regX tid mid name) = ([], 10)) := by
  have hc := reg_check h1 h2 hn
  have l2 : ∀ x : Int, (putL x 2).length = 2 := fun x => by rw [length_putL]; rfl
  cases hb : nameB name with
  | true =>
    left
    rw [hb, if_pos rfl] at hc
    have hl : (restL (regX tid mid name)).length = 4 + name.length := by rw [reg_rest]; simp [l2]; omega
    refine ⟨rfl, _, bytesM_ok hc, ?_, ?_, snB_ok (by decide) (by omega) (by omega)⟩
    · rw [List.length_append, hl]
      show (snS 10 _).length + _ = _
      rw [show (((4 + name.length : Nat) : Int)) = (name.length : Int) + 4 by omega]
      omega
    · rw [reg_rest, ← List.append_assoc, ← List.append_assoc]
      rw [List.length_append, Nat.add_sub_cancel, List.drop_left]
  | false =>
    right
    rw [hb] at hc
    refine ⟨rfl, ?_⟩
    rw [bytesM_no (by rw [hc]; decide), hc]
    rfl
end Go.Proofs.YtbacnaplpfmpnaaDoor
