/- snmsg: Check, all ways together. snmsg: Bytes. snmsg, plain: what Read answers. -/
import Derived.Test.YtbacnaplpfmpnaaGreatDoorMsPa
import Derived.Test.YtbacnaplpfmpnaaGreatDoorMsPb
import Derived.Test.YtbacnaplpfmpnaaGreatDoorMsPc
import Derived.Test.YtbacnaplpfmpnaaGreatDoorMsR
namespace Go.Proofs.YtbacnaplpfmpnaaGreatDoor
open Go.RowKit
set_option linter.unusedVariables false
set_option linter.unusedSimpArgs false

theorem msok_of {m : Ms} (hf : fitsM m = true) (hfl : flagOk m.fl.q m.fl.typ = true) (hn : (m.name.length : Int) ≤ 100000) (hd : (m.data.length : Int) ≤ 100000) : MsOk m := by
  obtain ⟨a, b, c, d, e, f, g⟩ := rng_of hf hfl
  exact ⟨by omega, by omega, by omega, by omega, by omega, by omega, hn, hd, g⟩
theorem may_flok {k : Int} {f : Fl} (h : mayF k f = true) : flagOk f.q f.typ = true := by
  unfold mayF at h
  simp only [Bool.and_eq_true] at h
  exact h.1.1.1.1.1.1.1
/-- What is left of checkM behind the flags. -/
def checkR (m : Ms) : Int :=
  if (lookAll m).2 = true ∨ (lookAll m).1 ≠ Ms.bare m.ty m.fl ∨ msgIdB m = false then 2
  else if topicIdF m ≠ 0 then topicIdF m
  else if nameF m ≠ 0 then nameF m
  else (snB m.ty (restL m).length).2
theorem checkR_no (m : Ms) (hk : kindM m.ty = true) (hm : mayF m.ty m.fl = true) (hw : willB m.ty = false) (hn : (m.name.length : Int) ≤ 100000) (hd : (m.data.length : Int) ≤ 100000) : CheckSaid m (checkR m) := by
  have hl : m.name.length ≤ 100000 := by omega
  by_cases hb : (lookAll m).2 = true
  · have e : checkR m = 2 := by unfold checkR; rw [if_pos (.inl hb)]
    rw [e]; exact check_bad_no m hk hm hw hb
  have hb' : (lookAll m).2 = false := by simpa using hb
  by_cases hx : (lookAll m).1 = Ms.bare m.ty m.fl
  rotate_left
  · have e : checkR m = 2 := by unfold checkR; rw [if_pos (.inr (.inl hx))]
    rw [e]; exact check_neq_no m hk hm hw hb' hx
  cases hid : msgIdB m with
  | false =>
    have e : checkR m = 2 := by unfold checkR; rw [if_pos (.inr (.inr hid))]
    rw [e]; exact check_id_no m hk hm hw hb' hx hid
  | true =>
  have e0 : ¬ ((lookAll m).2 = true ∨ (lookAll m).1 ≠ Ms.bare m.ty m.fl ∨ msgIdB m = false) := by
    rintro (h | h | h)
    · exact hb h
    · exact h hx
    · rw [hid] at h; cases h
  by_cases ht : topicIdF m = 0
  rotate_left
  · have e : checkR m = topicIdF m := by unfold checkR; rw [if_neg e0, if_pos ht]
    rw [e]; exact check_top_no m hk hm hw hb' hx hid ht
  by_cases hna : nameF m = 0
  rotate_left
  · have e : checkR m = nameF m := by unfold checkR; rw [if_neg e0, if_neg (by simpa using ht), if_pos hna]
    rw [e]; exact check_name_no m hk hm hw hb' hx hid ht hl hna
  have e : checkR m = (snB m.ty (restL m).length).2 := by unfold checkR; rw [if_neg e0, if_neg (by simpa using ht), if_neg (by simpa using hna)]
  rw [e]; exact check_end_no m hk hm hw hb' hx hid ht hl hna (msok_of ((look_iff hk).1 ⟨hb', hx⟩) (may_flok hm) hn hd)
theorem checkR_named (m : Ms) (hk : kindM m.ty = true) (hm : mayF m.ty m.fl = true) (hw : willB m.ty = true) (he : m.name.isEmpty = false) (hn : (m.name.length : Int) ≤ 100000) (hd : (m.data.length : Int) ≤ 100000) : CheckSaid m (checkR m) := by
  have hl : m.name.length ≤ 100000 := by omega
  by_cases hb : (lookAll m).2 = true
  · have e : checkR m = 2 := by unfold checkR; rw [if_pos (.inl hb)]
    rw [e]; exact check_bad_named m hk hm hw he hb
  have hb' : (lookAll m).2 = false := by simpa using hb
  by_cases hx : (lookAll m).1 = Ms.bare m.ty m.fl
  rotate_left
  · have e : checkR m = 2 := by unfold checkR; rw [if_pos (.inr (.inl hx))]
    rw [e]; exact check_neq_named m hk hm hw he hb' hx
  cases hid : msgIdB m with
  | false =>
    have e : checkR m = 2 := by unfold checkR; rw [if_pos (.inr (.inr hid))]
    rw [e]; exact check_id_named m hk hm hw he hb' hx hid
  | true =>
  have e0 : ¬ ((lookAll m).2 = true ∨ (lookAll m).1 ≠ Ms.bare m.ty m.fl ∨ msgIdB m = false) := by
    rintro (h | h | h)
    · exact hb h
    · exact h hx
    · rw [hid] at h; cases h
  by_cases ht : topicIdF m = 0
  rotate_left
  · have e : checkR m = topicIdF m := by unfold checkR; rw [if_neg e0, if_pos ht]
    rw [e]; exact check_top_named m hk hm hw he hb' hx hid ht
  by_cases hna : nameF m = 0
  rotate_left
  · have e : checkR m = nameF m := by unfold checkR; rw [if_neg e0, if_neg (by simpa using ht), if_pos hna]
    rw [e]; exact check_name_named m hk hm hw he hb' hx hid ht hl hna
  have e : checkR m = (snB m.ty (restL m).length).2 := by unfold checkR; rw [if_neg e0, if_neg (by simpa using ht), if_neg (by simpa using hna)]
  rw [e]; exact check_end_named m hk hm hw he hb' hx hid ht hl hna (msok_of ((look_iff hk).1 ⟨hb', hx⟩) (may_flok hm) hn hd)
theorem checkR_bare (m : Ms) (hk : kindM m.ty = true) (hm : mayF m.ty m.fl = true) (hw : willB m.ty = true) (he : m.name.isEmpty = true) (hfl : m.fl = fl0) (hn : (m.name.length : Int) ≤ 100000) (hd : (m.data.length : Int) ≤ 100000) : CheckSaid m (checkR m) := by
  have hl : m.name.length ≤ 100000 := by omega
  by_cases hb : (lookAll m).2 = true
  · have e : checkR m = 2 := by unfold checkR; rw [if_pos (.inl hb)]
    rw [e]; exact check_bad_bare m hk hm hw he hfl hb
  have hb' : (lookAll m).2 = false := by simpa using hb
  by_cases hx : (lookAll m).1 = Ms.bare m.ty m.fl
  rotate_left
  · have e : checkR m = 2 := by unfold checkR; rw [if_pos (.inr (.inl hx))]
    rw [e]; exact check_neq_bare m hk hm hw he hfl hb' hx
  cases hid : msgIdB m with
  | false =>
    have e : checkR m = 2 := by unfold checkR; rw [if_pos (.inr (.inr hid))]
    rw [e]; exact check_id_bare m hk hm hw he hfl hb' hx hid
  | true =>
  have e0 : ¬ ((lookAll m).2 = true ∨ (lookAll m).1 ≠ Ms.bare m.ty m.fl ∨ msgIdB m = false) := by
    rintro (h | h | h)
    · exact hb h
    · exact h hx
    · rw [hid] at h; cases h
  by_cases ht : topicIdF m = 0
  rotate_left
  · have e : checkR m = topicIdF m := by unfold checkR; rw [if_neg e0, if_pos ht]
    rw [e]; exact check_top_bare m hk hm hw he hfl hb' hx hid ht
  by_cases hna : nameF m = 0
  rotate_left
  · have e : checkR m = nameF m := by unfold checkR; rw [if_neg e0, if_neg (by simpa using ht), if_pos hna]
    rw [e]; exact check_name_bare m hk hm hw he hfl hb' hx hid ht hl hna
  have e : checkR m = (snB m.ty (restL m).length).2 := by unfold checkR; rw [if_neg e0, if_neg (by simpa using ht), if_neg (by simpa using hna)]
  rw [e]; exact check_end_bare m hk hm hw he hfl hb' hx hid ht hl hna (msok_of ((look_iff hk).1 ⟨hb', hx⟩) (may_flok hm) hn hd)

theorem check_any (m : Ms) (hn : (m.name.length : Int) ≤ 100000) (hd : (m.data.length : Int) ≤ 100000) : CheckSaid m (checkM m) := by
  cases hk : kindM m.ty with
  | false =>
    have e : checkM m = 8 := by unfold checkM; rw [if_pos hk]
    rw [e]; exact check_kind m hk
  | true =>
  have k0 : ¬ (kindM m.ty = false) := by simp [hk]
  cases hm : mayF m.ty m.fl with
  | false =>
    have e : checkM m = 7 := by unfold checkM; rw [if_neg k0, if_pos (.inl hm)]
    rw [e]; exact check_mayno m hk hm
  | true =>
  by_cases hw : willB m.ty = true ∧ m.name.isEmpty = true ∧ m.fl ≠ fl0
  · have e : checkM m = 7 := by unfold checkM; rw [if_neg k0, if_pos (.inr hw)]
    rw [e]; exact check_wills m hk hm hw.1 hw.2.1 hw.2.2
  have m0 : ¬ (mayF m.ty m.fl = false ∨ (willB m.ty = true ∧ m.name.isEmpty = true ∧ m.fl ≠ fl0)) := by
    rintro (h | h)
    · rw [hm] at h; cases h
    · exact hw h
  have e : checkM m = checkR m := by unfold checkM checkR; rw [if_neg k0, if_neg m0]
  rw [e]
  cases hwb : willB m.ty with
  | false => exact checkR_no m hk hm hwb hn hd
  | true =>
    cases hem : m.name.isEmpty with
    | false => exact checkR_named m hk hm hwb hem hn hd
    | true =>
      refine checkR_bare m hk hm hwb hem ?_ hn hd
      by_cases hf : m.fl = fl0
      · exact hf
      · exact (hw ⟨hwb, hem, hf⟩).elim
end Go.Proofs.YtbacnaplpfmpnaaGreatDoor
namespace Go.Proofs.YtbacnaplpfmpnaaGreatDoor
open Go.RowKit
set_option linter.unusedVariables false
set_option linter.unusedSimpArgs false
attribute [local go_sem ↓] Go.wp_at_zero Go.wp_at_succ load_Msg

/-- What a message that may be is like. -/
structure MsGood (m : Ms) : Prop where
  kind : kindM m.ty = true
  may : mayF m.ty m.fl = true
  will : willB m.ty = true → m.name = [] → m.fl = fl0
  fits : fitsM m = true
  mid : msgIdB m = true
  top : topicIdF m = 0
  name : nameF m = 0
  head : (snB m.ty (restL m).length).2 = 0
theorem check_iff (m : Ms) : checkM m = 0 ↔ MsGood m := by
  unfold checkM
  constructor
  · intro h
    by_cases hk : kindM m.ty = false
    · rw [if_pos hk] at h; cases h
    rw [if_neg hk] at h
    by_cases hm : mayF m.ty m.fl = false ∨ (willB m.ty = true ∧ m.name.isEmpty = true ∧ m.fl ≠ fl0)
    · rw [if_pos hm] at h; cases h
    rw [if_neg hm] at h
    by_cases hl : (lookAll m).2 = true ∨ (lookAll m).1 ≠ Ms.bare m.ty m.fl ∨ msgIdB m = false
    · rw [if_pos hl] at h; cases h
    rw [if_neg hl] at h
    by_cases ht : topicIdF m ≠ 0
    · rw [if_pos ht] at h; exact (ht h).elim
    rw [if_neg ht] at h
    by_cases hn : nameF m ≠ 0
    · rw [if_pos hn] at h; exact (hn h).elim
    rw [if_neg hn] at h
    have hk' : kindM m.ty = true := by simpa using hk
    refine ⟨hk', ?_, ?_, (look_iff hk').1 ⟨?_, ?_⟩, ?_, ?_, ?_, h⟩
    · cases hmm : mayF m.ty m.fl with
      | false => exact (hm (.inl hmm)).elim
      | true => rfl
    · intro h1 h2
      by_cases hf : m.fl = fl0
      · exact hf
      · exact (hm (.inr ⟨h1, by rw [h2]; rfl, hf⟩)).elim
    · cases hb : (lookAll m).2 with
      | true => exact (hl (.inl hb)).elim
      | false => rfl
    · by_cases hx : (lookAll m).1 = Ms.bare m.ty m.fl
      · exact hx
      · exact (hl (.inr (.inl hx))).elim
    · cases hb : msgIdB m with
      | false => exact (hl (.inr (.inr hb))).elim
      | true => rfl
    · exact Decidable.not_not.1 ht
    · exact Decidable.not_not.1 hn
  · rintro ⟨hk, hm, hw, hf, hi, ht, hn, hh⟩
    obtain ⟨h1, h2⟩ := (look_iff hk).2 hf
    rw [if_neg (by simp [hk]), if_neg, if_neg, if_neg (by simp [ht]), if_neg (by simp [hn])]
    · exact hh
    · rintro (h | h | h)
      · rw [h1] at h; cases h
      · exact h h2
      · rw [hi] at h; cases h
    · rintro (h | ⟨h3, h4, h5⟩)
      · rw [hm] at h; cases h
      · exact h5 (hw h3 (by simpa using h4))
theorem kindM_known {k : Int} (h : kindM k = true) : knownK k = true := by
  have h1 := (msgB_kindM k).trans h
  unfold msgB at h1
  simp only [Bool.and_eq_true] at h1
  exact h1.1
theorem snB_zero {k n : Int} (h : (snB k n).2 = 0) : knownK k = true ∧ 0 ≤ n ∧ n ≤ 65531 ∧ snB k n = (snS k n, 0) := by
  unfold snB at h ⊢
  by_cases h1 : knownK k = false
  · rw [if_pos h1] at h; cases h
  rw [if_neg h1] at h ⊢
  by_cases h2 : n < 0
  · rw [if_pos h2] at h; cases h
  rw [if_neg h2] at h ⊢
  by_cases h3 : 65531 < n
  · rw [if_pos h3] at h; cases h
  rw [if_neg h3]
  exact ⟨by simpa using h1, by omega, by omega, rfl⟩
def bytesM (m : Ms) : List UInt8 × Int := if checkM m = 0 then (snS m.ty (restL m).length ++ restL m, 0) else ([], checkM m)
theorem snS_len_le (k n : Int) : (snS k n).length ≤ 4 := by
  rcases Int.lt_or_le 253 n with h | h
  · rw [(snS_len k n).2 h]; decide
  · rw [(snS_len k n).1 h]; decide
set_option maxRecDepth 100000 in
set_option maxHeartbeats 3200000 in
theorem msbytes_any (m : Ms) (hn : (m.name.length : Int) ≤ 100000) (hd : (m.data.length : Int) ≤ 100000) (w : World) (hmx : Mx w) :
    Calls Tryz.prog 10 #[.agg m.cs] w fun r w' => r = .returned (.tuple #[.string ⟨(bytesM m).1.toArray⟩, .int .i64 (bytesM m).2]) ∧ Below w.heap.size w w' := by
  have HC := Lib.hid (check_any m hn hd)
  unfold CheckSaid Ms.cs at HC
  have hB0 := below_al (Below.refl _ w) (.cells m.cs 25 (0, 0))
  have HM := Lib.hid (hmx.below hB0 hmx.1)
  have HB := Lib.hid hB0
  have hld := load_msg (m := m) (Obj?.new w m.cs 25)
  by_cases hc : checkM m = 0
  · have hg := (check_iff m).1 hc
    have hz := snB_zero hg.head
    have e : bytesM m = (snS m.ty (restL m).length ++ restL m, 0) := by unfold bytesM; rw [if_pos hc]
    rw [hc] at HC
    rw [e]
    have H7 := Lib.hid (fun w => msrest_any m hg.kind (msok_of hg.fits (may_flok hg.may) hn hd) w)
    have H8 := Lib.hid (fun w => by have := snbytes_any m.ty (restL m).length (by omega) w; rw [hz.2.2.2] at this; exact this)
    obtain ⟨A, hA⟩ : ∃ A, A = restL m := ⟨_, rfl⟩
    obtain ⟨B, hB⟩ : ∃ B, B = snS m.ty (restL m).length := ⟨_, rfl⟩
    have hBl : B.length ≤ 4 := by rw [hB]; exact snS_len_le _ _
    have hAl : A.length ≤ 65531 := by rw [hA]; omega
    rw [← hB] at H8 ⊢
    rw [← hA] at H7 H8 ⊢
    have hx : ByteArray.mk B.toArray ++ ByteArray.mk A.toArray = ByteArray.mk (B ++ A).toArray := ByteArray.mk_append_mk _ _
    clear hc hg hz e hA hB hB0 hmx hn hd
    unfold Ms.cs at H7 hld ⊢
    go_enter Tryz.func10, Tryz.ntmps10
    go_wp2_with fail
    refine (HC.out _ HM.out).mono ?_
    rintro r w1 ⟨rfl, hb⟩
    have O1 := obj_msg m hb
    have hld1 := load_msg (m := m) O1
    have HB1 := Lib.hid (HB.out.trans (hb.mono HB.out.size))
    have HO1 := Lib.hid O1
    clear hb O1 hld
    go_wp2_with fail
    refine (H7.out _).mono ?_
    rintro r w2 ⟨rfl, hl, hb⟩
    have O2 := HO1.out.below hb HO1.out.lt
    have k2 : w2.cell? ⟨w.heap.size, 0, none⟩ = some (.int .i64 m.ty) := O2.cell 0 _ rfl
    have HB2 := Lib.hid (HB1.out.trans (hb.mono HB1.out.size))
    clear hb O2 hld1 HO1 hl
    go_wp2_with fail
    refine (H8.out _).mono ?_
    rintro r w3 ⟨rfl, hb⟩
    have HB3 := Lib.hid (HB2.out.trans (hb.mono HB2.out.size))
    clear hb k2
    go_wp2
    go_ret2
    exact ⟨rfl, HB3.out⟩
  · have e : bytesM m = ([], checkM m) := by unfold bytesM; rw [if_neg hc]
    rw [e]
    have hd : (checkM m != 0) = true := by simpa using hc
    obtain ⟨c, hcc⟩ : ∃ c, c = checkM m := ⟨_, rfl⟩
    rw [← hcc] at HC hd ⊢
    clear hc e hcc hB0 hmx
    unfold Ms.cs at hld ⊢
    go_enter Tryz.func10, Tryz.ntmps10
    go_wp2_with fail
    refine (HC.out _ HM.out).mono ?_
    rintro r w1 ⟨rfl, hb⟩
    have HB1 := Lib.hid (HB.out.trans (hb.mono HB.out.size))
    clear hb hld
    go_wp2
    go_ret2
    exact ⟨rfl, HB1.out⟩
end Go.Proofs.YtbacnaplpfmpnaaGreatDoor
namespace Go.Proofs.YtbacnaplpfmpnaaGreatDoor
open Go.RowKit
set_option linter.unusedVariables false
set_option linter.unusedSimpArgs false

def ms0 : Ms := Ms.bare 0 fl0
def bodyL (t : List UInt8) (h l : Nat) : List UInt8 := (t.drop h).take (l - h)
def rd0 (k : Int) : Rd := ⟨Ms.bare k fl0, 0, 0⟩
def readE (X : Rd) (n : Nat) : Int := if X.e = 0 then (if X.i < n then 5 else checkM X.m) else if X.e = 3 then 5 else X.e
def readM (t : List UInt8) : Ms × Int × Int :=
  if (snR t).2.2.2 ≠ 0 then (ms0, 0, (snR t).2.2.2)
  else if (snR t).1 = 254 then (ms0, 0, 8)
  else if (t.length : Int) < (snR t).2.2.1 then (ms0, 0, 3)
  else
    let u := bodyL t (snR t).2.1.toNat (snR t).2.2.1.toNat
    let X := readAll (snR t).1 u (rd0 (snR t).1)
    if readE X u.length = 0 then (X.m, (snR t).2.2.1, 0) else (ms0, 0, readE X u.length)
theorem snTail_cases (k h l : Int) : (snTail k h l = (k, h, l, 0) ∧ h ≤ l ∧ knownK k = true ∧ (h = 4 → 258 ≤ l)) ∨ (snTail k h l).2.2.2 ≠ 0 := by
  unfold snTail
  by_cases h1 : l < h ∨ (h = 4 ∧ l < 258)
  · right; rw [if_pos h1]; decide
  rw [if_neg h1]
  cases hk : knownK k with
  | false => right; simp
  | true => left; simp; omega
/-- A header that is read. -/
theorem snR_cases (t : List UInt8) : (snR t).2.2.2 ≠ 0 ∨ ∃ (k : Int) (h l : Nat), snR t = (k, (h : Int), (l : Int), 0) ∧ knownK k = true ∧ h ≤ l ∧ l ≤ 65535 ∧ h ≤ t.length ∧
    ((h = 2 ∧ k = num t 1 1 ∧ (l : Int) = num t 0 1 ∧ (l : Int) ≠ 1) ∨ (h = 4 ∧ 258 ≤ l ∧ k = num t 3 1 ∧ (l : Int) = num t 1 2 ∧ num t 0 1 = 1)) := by
  have h1 := num_one t 0
  have h2 := num_two t 1
  unfold snR
  by_cases a : t.length < 1
  · left; rw [if_pos a]; decide
  rw [if_neg a]
  by_cases b : num t 0 1 = 1
  · rw [if_pos b]
    by_cases c : t.length < 4
    · left; rw [if_pos c]; decide
    rw [if_neg c]
    rcases snTail_cases (num t 3 1) 4 (num t 1 2) with ⟨e, h3, h4, h5⟩ | e
    · right
      refine ⟨num t 3 1, 4, (num t 1 2).toNat, ?_, h4, by omega, by omega, by omega, .inr ⟨rfl, by have := h5 rfl; omega, rfl, by omega, b⟩⟩
      rw [e, show (((num t 1 2).toNat : Nat) : Int) = num t 1 2 by omega]; rfl
    · exact .inl e
  · rw [if_neg b]
    by_cases c : t.length < 2
    · left; rw [if_pos c]; decide
    rw [if_neg c]
    rcases snTail_cases (num t 1 1) 2 (num t 0 1) with ⟨e, h3, h4, h5⟩ | e
    · right
      refine ⟨num t 1 1, 2, (num t 0 1).toNat, ?_, h4, by omega, by omega, by omega, .inl ⟨rfl, rfl, by omega, by omega⟩⟩
      rw [e, show (((num t 0 1).toNat : Nat) : Int) = num t 0 1 by omega]; rfl
    · exact .inl e
theorem rdTxt_len (t : List UInt8) (s : Rd) : (rdTxt t s).length ≤ t.length := by
  unfold rdTxt; split <;> simp
theorem readP_keeps (p : Pt) (t : List UInt8) (s : Rd) (hn : s.m.name.length ≤ t.length) (hd : s.m.data.length ≤ t.length) :
    (readP p t s).m.ty = s.m.ty ∧ (readP p t s).m.name.length ≤ t.length ∧ (readP p t s).m.data.length ≤ t.length := by
  have h1 := rdTxt_len t
  cases p
  case will =>
    simp only [readP]
    split
    · exact ⟨rfl, hn, hd⟩
    · unfold rdName rdFail rdFlags
      split <;> split <;> exact ⟨rfl, h1 _, hd⟩
  case topic =>
    simp only [readP]
    split
    · exact ⟨rfl, h1 _, hd⟩
    · exact ⟨rfl, hn, hd⟩
  case protocol => simp only [readP]; split <;> exact ⟨rfl, hn, hd⟩
  case duration => simp only [readP]; split <;> exact ⟨rfl, hn, hd⟩
  case flags => simp only [readP]; unfold rdFlags; split <;> exact ⟨rfl, hn, hd⟩
  case name => exact ⟨rfl, h1 _, hd⟩
  case data => exact ⟨rfl, hn, h1 _⟩
  all_goals exact ⟨rfl, hn, hd⟩
theorem readAll_keeps (k : Int) (t : List UInt8) (s : Rd) (hn : s.m.name.length ≤ t.length) (hd : s.m.data.length ≤ t.length) :
    (readAll k t s).m.ty = s.m.ty ∧ (readAll k t s).m.name.length ≤ t.length ∧ (readAll k t s).m.data.length ≤ t.length := by
  unfold readAll
  generalize layoutF k = ps
  induction ps generalizing s with
  | nil => exact ⟨rfl, hn, hd⟩
  | cons p r ih =>
    obtain ⟨a, b, c⟩ := readP_keeps p t s hn hd
    obtain ⟨x, y, z⟩ := ih (readP p t s) b c
    exact ⟨x.trans a, y, z⟩
theorem extract_body (t : List UInt8) (h l : Nat) : (ByteArray.mk t.toArray).extract h l = ⟨(bodyL t h l).toArray⟩ := by
  rw [ByteArray.extract_mk]
  congr 1
end Go.Proofs.YtbacnaplpfmpnaaGreatDoor
