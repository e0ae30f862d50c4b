/- snmsg: Check, all ways together. snmsg: Bytes. snmsg, plain: what Read answers. snmsg: Read. -/
import Derived.Test.YtanofjmkkhocaaaGreatDoorMsPa
import Derived.Test.YtanofjmkkhocaaaGreatDoorMsPb
import Derived.Test.YtanofjmkkhocaaaGreatDoorMsPc
import Derived.Test.YtanofjmkkhocaaaGreatDoorMsP
set_option linter.unusedVariables false
set_option linter.unusedSimpArgs false
set_option maxRecDepth 100000
set_option maxHeartbeats 3200000
namespace Go.Proofs.YtanofjmkkhocaaaGreatDoor
open Go.RowKit
theorem msok_of {m : Ms} (hf : fitsM m = true) (hfl : flagOk m.fl.q m.fl.typ = true) (hn : (m.name.length : Int) ≤ 100000) (hd : (m.data.length : Int) ≤ 100000) : MsOk m := by
 obtain ⟨a, b, c, d, e, f, g⟩ := rng_of hf hfl
 exact ⟨by omega, by omega, by omega, by omega, by omega, by omega, hn, hd, g⟩
theorem may_flok {k : Int} {f : Fl} (h : mayF k f = true) : flagOk f.q f.typ = true := by
 unfold mayF at h
 simp only [Bool.and_eq_true] at h
 exact h.1.1.1.1.1.1.1
def checkR (m : Ms) : Int :=
 if (lookAll m).2 = true ∨ (lookAll m).1 ≠ Ms.bare m.ty m.fl ∨ msgIdB m = false then 2
 else if topicIdF m ≠ 0 then topicIdF m
 else if nameF m ≠ 0 then nameF m
 else (snB m.ty (restL m).length).2
theorem checkR_no (m : Ms) (hk : kindM m.ty = true) (hm : mayF m.ty m.fl = true) (hw : willB m.ty = false) (hn : (m.name.length : Int) ≤ 100000) (hd : (m.data.length : Int) ≤ 100000) : CheckSaid m (checkR m) := by
 have hl : m.name.length ≤ 100000 := by omega
 by_cases hb : (lookAll m).2 = true
 ·have e : checkR m = 2 := by unfold checkR; rw [if_pos (.inl hb)]
  rw [e]; exact check_bad_no m hk hm hw hb
 have hb' : (lookAll m).2 = false := by simpa using hb
 by_cases hx : (lookAll m).1 = Ms.bare m.ty m.fl
 rotate_left
 ·have e : checkR m = 2 := by unfold checkR; rw [if_pos (.inr (.inl hx))]
  rw [e]; exact check_neq_no m hk hm hw hb' hx
 cases hid : msgIdB m with
 | false =>
  have e : checkR m = 2 := by unfold checkR; rw [if_pos (.inr (.inr hid))]
  rw [e]; exact check_id_no m hk hm hw hb' hx hid
 | true =>
 have e0 : ¬ ((lookAll m).2 = true ∨ (lookAll m).1 ≠ Ms.bare m.ty m.fl ∨ msgIdB m = false) := by
  rintro (h | h | h)
  ·exact hb h
  ·exact h hx
  ·rw [hid] at h; cases h
 by_cases ht : topicIdF m = 0
 rotate_left
 ·have e : checkR m = topicIdF m := by unfold checkR; rw [if_neg e0, if_pos ht]
  rw [e]; exact check_top_no m hk hm hw hb' hx hid ht
 by_cases hna : nameF m = 0
 rotate_left
 ·have e : checkR m = nameF m := by unfold checkR; rw [if_neg e0, if_neg (by simpa using ht), if_pos hna]
  rw [e]; exact check_name_no m hk hm hw hb' hx hid ht hl hna
 have e : checkR m = (snB m.ty (restL m).length).2 := by unfold checkR; rw [if_neg e0, if_neg (by simpa using ht), if_neg (by simpa using hna)]
 rw [e]; exact check_end_no m hk hm hw hb' hx hid ht hl hna (msok_of ((look_iff hk).1 ⟨hb', hx⟩) (may_flok hm) hn hd)
theorem checkR_named (m : Ms) (hk : kindM m.ty = true) (hm : mayF m.ty m.fl = true) (hw : willB m.ty = true) (he : m.name.isEmpty = false) (hn : (m.name.length : Int) ≤ 100000) (hd : (m.data.length : Int) ≤ 100000) : CheckSaid m (checkR m) := by
 have hl : m.name.length ≤ 100000 := by omega
 by_cases hb : (lookAll m).2 = true
 ·have e : checkR m = 2 := by unfold checkR; rw [if_pos (.inl hb)]
  rw [e]; exact check_bad_named m hk hm hw he hb
 have hb' : (lookAll m).2 = false := by simpa using hb
 by_cases hx : (lookAll m).1 = Ms.bare m.ty m.fl
 rotate_left
 ·have e : checkR m = 2 := by unfold checkR; rw [if_pos (.inr (.inl hx))]
  rw [e]; exact check_neq_named m hk hm hw he hb' hx
 cases hid : msgIdB m with
 | false =>
  have e : checkR m = 2 := by unfold checkR; rw [if_pos (.inr (.inr hid))]
  rw [e]; exact check_id_named m hk hm hw he hb' hx hid
 | true =>
 have e0 : ¬ ((lookAll m).2 = true ∨ (lookAll m).1 ≠ Ms.bare m.ty m.fl ∨ msgIdB m = false) := by
  rintro (h | h | h)
  ·exact hb h
  ·exact h hx
  ·rw [hid] at h; cases h
 by_cases ht : topicIdF m = 0
 rotate_left
 ·have e : checkR m = topicIdF m := by unfold checkR; rw [if_neg e0, if_pos ht]
  rw [e]; exact check_top_named m hk hm hw he hb' hx hid ht
 by_cases hna : nameF m = 0
 rotate_left
 ·have e : checkR m = nameF m := by unfold checkR; rw [if_neg e0, if_neg (by simpa using ht), if_pos hna]
  rw [e]; exact check_name_named m hk hm hw he hb' hx hid ht hl hna
 have e : checkR m = (snB m.ty (restL m).length).2 := by unfold checkR; rw [if_neg e0, if_neg (by simpa using ht), if_neg (by simpa using hna)]
 rw [e]; exact check_end_named m hk hm hw he hb' hx hid ht hl hna (msok_of ((look_iff hk).1 ⟨hb', hx⟩) (may_flok hm) hn hd)
theorem checkR_bare (m : Ms) (hk : kindM m.ty = true) (hm : mayF m.ty m.fl = true) (hw : willB m.ty = true) (he : m.name.isEmpty = true) (hfl : m.fl = fl0) (hn : (m.name.length : Int) ≤ 100000) (hd : (m.data.length : Int) ≤ 100000) : CheckSaid m (checkR m) := by
 have hl : m.name.length ≤ 100000 := by omega
 by_cases hb : (lookAll m).2 = true
 ·have e : checkR m = 2 := by unfold checkR; rw [if_pos (.inl hb)]
  rw [e]; exact check_bad_bare m hk hm hw he hfl hb
 have hb' : (lookAll m).2 = false := by simpa using hb
 by_cases hx : (lookAll m).1 = Ms.bare m.ty m.fl
 rotate_left
 ·have e : checkR m = 2 := by unfold checkR; rw [if_pos (.inr (.inl hx))]
  rw [e]; exact check_neq_bare m hk hm hw he hfl hb' hx
 cases hid : msgIdB m with
 | false =>
  have e : checkR m = 2 := by unfold checkR; rw [if_pos (.inr (.inr hid))]
  rw [e]; exact check_id_bare m hk hm hw he hfl hb' hx hid
 | true =>
 have e0 : ¬ ((lookAll m).2 = true ∨ (lookAll m).1 ≠ Ms.bare m.ty m.fl ∨ msgIdB m = false) := by
  rintro (h | h | h)
  ·exact hb h
  ·exact h hx
  ·rw [hid] at h; cases h
 by_cases ht : topicIdF m = 0
 rotate_left
 ·have e : checkR m = topicIdF m := by unfold checkR; rw [if_neg e0, if_pos ht]
  rw [e]; exact check_top_bare m hk hm hw he hfl hb' hx hid ht
 by_cases hna : nameF m = 0
 rotate_left
 ·have e : checkR m = nameF m := by unfold checkR; rw [if_neg e0, if_neg (by simpa using ht), if_pos hna]
  rw [e]; exact check_name_bare m hk hm hw he hfl hb' hx hid ht hl hna
 have e : checkR m = (snB m.ty (restL m).length).2 := by unfold checkR; rw [if_neg e0, if_neg (by simpa using ht), if_neg (by simpa using hna)]
 rw [e]; exact check_end_bare m hk hm hw he hfl hb' hx hid ht hl hna (msok_of ((look_iff hk).1 ⟨hb', hx⟩) (may_flok hm) hn hd)
theorem mscheck_any (m : Ms) (hn : (m.name.length : Int) ≤ 100000) (hd : (m.data.length : Int) ≤ 100000) : CheckSaid m (checkM m) := by
 cases hk : kindM m.ty with
 | false =>
  have e : checkM m = 8 := by unfold checkM; rw [if_pos hk]
  rw [e]; exact check_kind m hk
 | true =>
 have k0 : ¬ (kindM m.ty = false) := by simp [hk]
 cases hm : mayF m.ty m.fl with
 | false =>
  have e : checkM m = 7 := by unfold checkM; rw [if_neg k0, if_pos (.inl hm)]
  rw [e]; exact check_mayno m hk hm
 | true =>
 by_cases hw : willB m.ty = true ∧ m.name.isEmpty = true ∧ m.fl ≠ fl0
 ·have e : checkM m = 7 := by unfold checkM; rw [if_neg k0, if_pos (.inr hw)]
  rw [e]; exact check_wills m hk hm hw.1 hw.2.1 hw.2.2
 have m0 : ¬ (mayF m.ty m.fl = false ∨ (willB m.ty = true ∧ m.name.isEmpty = true ∧ m.fl ≠ fl0)) := by
  rintro (h | h)
  ·rw [hm] at h; cases h
  ·exact hw h
 have e : checkM m = checkR m := by unfold checkM checkR; rw [if_neg k0, if_neg m0]
 rw [e]
 cases hwb : willB m.ty with
 | false => exact checkR_no m hk hm hwb hn hd
 | true =>
  cases hem : m.name.isEmpty with
  | false => exact checkR_named m hk hm hwb hem hn hd
  | true =>
   refine checkR_bare m hk hm hwb hem ?_ hn hd
   by_cases hf : m.fl = fl0
   ·exact hf
   ·exact (hw ⟨hwb, hem, hf⟩).elim
end Go.Proofs.YtanofjmkkhocaaaGreatDoor
namespace Go.Proofs.YtanofjmkkhocaaaGreatDoor
open Go.RowKit
attribute [local go_sem ↓] Go.wp_at_zero Go.wp_at_succ load_Msg
structure MsGood (m : Ms) : Prop where
 kind : kindM m.ty = true
 may : mayF m.ty m.fl = true
 will : willB m.ty = true → m.name = [] → m.fl = fl0
 fits : fitsM m = true
 mid : msgIdB m = true
 top : topicIdF m = 0
 name : nameF m = 0
 head : (snB m.ty (restL m).length).2 = 0
theorem check_iff (m : Ms) : checkM m = 0 ↔ MsGood m := by
 unfold checkM
 constructor
 ·intro h
  by_cases hk : kindM m.ty = false
  ·rw [if_pos hk] at h; cases h
  rw [if_neg hk] at h
  by_cases hm : mayF m.ty m.fl = false ∨ (willB m.ty = true ∧ m.name.isEmpty = true ∧ m.fl ≠ fl0)
  ·rw [if_pos hm] at h; cases h
  rw [if_neg hm] at h
  by_cases hl : (lookAll m).2 = true ∨ (lookAll m).1 ≠ Ms.bare m.ty m.fl ∨ msgIdB m = false
  ·rw [if_pos hl] at h; cases h
  rw [if_neg hl] at h
  by_cases ht : topicIdF m ≠ 0
  ·rw [if_pos ht] at h; exact (ht h).elim
  rw [if_neg ht] at h
  by_cases hn : nameF m ≠ 0
  ·rw [if_pos hn] at h; exact (hn h).elim
  rw [if_neg hn] at h
  have hk' : kindM m.ty = true := by simpa using hk
  refine ⟨hk', ?_, ?_, (look_iff hk').1 ⟨?_, ?_⟩, ?_, ?_, ?_, h⟩
  ·cases hmm : mayF m.ty m.fl with
   | false => exact (hm (.inl hmm)).elim
   | true => rfl
  ·intro h1 h2
   by_cases hf : m.fl = fl0
   ·exact hf
   ·exact (hm (.inr ⟨h1, by rw [h2]; rfl, hf⟩)).elim
  ·cases hb : (lookAll m).2 with
   | true => exact (hl (.inl hb)).elim
   | false => rfl
  ·by_cases hx : (lookAll m).1 = Ms.bare m.ty m.fl
   ·exact hx
   ·exact (hl (.inr (.inl hx))).elim
  ·cases hb : msgIdB m with
   | false => exact (hl (.inr (.inr hb))).elim
   | true => rfl
  ·exact Decidable.not_not.1 ht
  ·exact Decidable.not_not.1 hn
 ·rintro ⟨hk, hm, hw, hf, hi, ht, hn, hh⟩
  obtain ⟨h1, h2⟩ := (look_iff hk).2 hf
  rw [if_neg (by simp [hk]), if_neg, if_neg, if_neg (by simp [ht]), if_neg (by simp [hn])]
  ·exact hh
  ·rintro (h | h | h)
   ·rw [h1] at h; cases h
   ·exact h h2
   ·rw [hi] at h; cases h
  ·rintro (h | ⟨h3, h4, h5⟩)
   ·rw [hm] at h; cases h
   ·exact h5 (hw h3 (by simpa using h4))
theorem snB_zero {k n : Int} (h : (snB k n).2 = 0) : knownK k = true ∧ 0 ≤ n ∧ n ≤ 65531 ∧ snB k n = (snS k n, 0) := by
 unfold snB at h ⊢
 by_cases h1 : knownK k = false
 ·rw [if_pos h1] at h; cases h
 rw [if_neg h1] at h ⊢
 by_cases h2 : n < 0
 ·rw [if_pos h2] at h; cases h
 rw [if_neg h2] at h ⊢
 by_cases h3 : 65531 < n
 ·rw [if_pos h3] at h; cases h
 rw [if_neg h3]
 exact ⟨by simpa using h1, by omega, by omega, rfl⟩
def bytesM (m : Ms) : List UInt8 × Int := if checkM m = 0 then (snS m.ty (restL m).length ++ restL m, 0) else ([], checkM m)
theorem snS_len_le (k n : Int) : (snS k n).length ≤ 4 := by
 rcases Int.lt_or_le 253 n with h | h
 ·rw [(snS_len k n).2 h]; decide
 ·rw [(snS_len k n).1 h]; decide
theorem msbytes_any (m : Ms) (hn : (m.name.length : Int) ≤ 100000) (hd : (m.data.length : Int) ≤ 100000) (w : World) (hmx : Mx w) :
  Calls Tryz.prog 403 #[.agg m.cs] w fun r w' => r = .returned (.tuple #[.string ⟨(bytesM m).1.toArray⟩, .int .i64 (bytesM m).2]) ∧ Below w.heap.size w w' := by
 have HC := Lib.hid (mscheck_any m hn hd)
 unfold CheckSaid Ms.cs at HC
 have hB0 := below_al (Below.refl _ w) (.cells m.cs 38 (0, 0))
 have HM := Lib.hid (hmx.below hB0 hmx.1)
 have HB := Lib.hid hB0
 have hld := load_msg (m := m) (Obj?.new w m.cs 38)
 by_cases hc : checkM m = 0
 ·have hg := (check_iff m).1 hc
  have hz := snB_zero hg.head
  have e : bytesM m = (snS m.ty (restL m).length ++ restL m, 0) := by unfold bytesM; rw [if_pos hc]
  rw [hc] at HC
  rw [e]
  have H7 := Lib.hid (fun w => msrest_any m hg.kind (msok_of hg.fits (may_flok hg.may) hn hd) w)
  have H8 := Lib.hid (fun w => by have := snbytes_any m.ty (restL m).length (by omega) w; rw [hz.2.2.2] at this; exact this)
  obtain ⟨A, hA⟩ : ∃ A, A = restL m := ⟨_, rfl⟩
  obtain ⟨B, hB⟩ : ∃ B, B = snS m.ty (restL m).length := ⟨_, rfl⟩
  have hBl : B.length ≤ 4 := by rw [hB]; exact snS_len_le _ _
  have hAl : A.length ≤ 65531 := by rw [hA]; omega
  rw [← hB] at H8 ⊢
  rw [← hA] at H7 H8 ⊢
  have hx : ByteArray.mk B.toArray ++ ByteArray.mk A.toArray = ByteArray.mk (B ++ A).toArray := ByteArray.mk_append_mk _ _
  clear hc hg hz e hA hB hB0 hmx hn hd
  unfold Ms.cs at H7 hld ⊢
  go_enter Tryz.func403, Tryz.ntmps403
  go_wp2_with fail
  refine (HC.out _ HM.out).mono ?_
  rintro r w1 ⟨rfl, hb⟩
  have O1 := obj_msg m hb
  have hld1 := load_msg (m := m) O1
  have HB1 := Lib.hid (HB.out.trans (hb.mono HB.out.size))
  have HO1 := Lib.hid O1
  clear hb O1 hld
  go_wp2_with fail
  refine (H7.out _).mono ?_
  rintro r w2 ⟨rfl, hl, hb⟩
  have O2 := HO1.out.below hb HO1.out.lt
  have k2 : w2.cell? ⟨w.heap.size, 0, none⟩ = some (.int .i64 m.ty) := O2.cell 0 _ rfl
  have HB2 := Lib.hid (HB1.out.trans (hb.mono HB1.out.size))
  clear hb O2 hld1 HO1 hl
  go_wp2_with fail
  refine (H8.out _).mono ?_
  rintro r w3 ⟨rfl, hb⟩
  have HB3 := Lib.hid (HB2.out.trans (hb.mono HB2.out.size))
  clear hb k2
  go_wp2
  go_ret2
  exact ⟨rfl, HB3.out⟩
 ·have e : bytesM m = ([], checkM m) := by unfold bytesM; rw [if_neg hc]
  rw [e]
  have hd : (checkM m != 0) = true := by simpa using hc
  obtain ⟨c, hcc⟩ : ∃ c, c = checkM m := ⟨_, rfl⟩
  rw [← hcc] at HC hd ⊢
  clear hc e hcc hB0 hmx
  unfold Ms.cs at hld ⊢
  go_enter Tryz.func403, Tryz.ntmps403
  go_wp2_with fail
  refine (HC.out _ HM.out).mono ?_
  rintro r w1 ⟨rfl, hb⟩
  have HB1 := Lib.hid (HB.out.trans (hb.mono HB.out.size))
  clear hb hld
  go_wp2
  go_ret2
  exact ⟨rfl, HB1.out⟩
end Go.Proofs.YtanofjmkkhocaaaGreatDoor
namespace Go.Proofs.YtanofjmkkhocaaaGreatDoor
open Go.RowKit
def ms0 : Ms := Ms.bare 0 fl0
def bodyL (t : List UInt8) (h l : Nat) : List UInt8 := (t.drop h).take (l - h)
def rd0 (k : Int) : Rd := ⟨Ms.bare k fl0, 0, 0⟩
def readE (X : Rd) (n : Nat) : Int := if X.e = 0 then (if X.i < n then 5 else checkM X.m) else if X.e = 3 then 5 else X.e
def readM (t : List UInt8) : Ms × Int × Int :=
 if (snR t).2.2.2 ≠ 0 then (ms0, 0, (snR t).2.2.2)
 else if (snR t).1 = 254 then (ms0, 0, 8)
 else if (t.length : Int) < (snR t).2.2.1 then (ms0, 0, 3)
 else
  let u := bodyL t (snR t).2.1.toNat (snR t).2.2.1.toNat
  let X := readAll (snR t).1 u (rd0 (snR t).1)
  if readE X u.length = 0 then (X.m, (snR t).2.2.1, 0) else (ms0, 0, readE X u.length)
theorem snTail_cases (k h l : Int) : (snTail k h l = (k, h, l, 0) ∧ h ≤ l ∧ knownK k = true ∧ (h = 4 → 258 ≤ l)) ∨ (snTail k h l).2.2.2 ≠ 0 := by
 unfold snTail
 by_cases h1 : l < h ∨ (h = 4 ∧ l < 258)
 ·right; rw [if_pos h1]; decide
 rw [if_neg h1]
 cases hk : knownK k with
 | false => right; simp
 | true => left; simp; omega
theorem snR_cases (t : List UInt8) : (snR t).2.2.2 ≠ 0 ∨ ∃ (k : Int) (h l : Nat), snR t = (k, (h : Int), (l : Int), 0) ∧ knownK k = true ∧ h ≤ l ∧ l ≤ 65535 ∧ h ≤ t.length ∧
  ((h = 2 ∧ k = num t 1 1 ∧ (l : Int) = num t 0 1 ∧ (l : Int) ≠ 1) ∨ (h = 4 ∧ 258 ≤ l ∧ k = num t 3 1 ∧ (l : Int) = num t 1 2 ∧ num t 0 1 = 1)) := by
 have h1 := num_one t 0
 have h2 := num_two t 1
 unfold snR
 by_cases a : t.length < 1
 ·left; rw [if_pos a]; decide
 rw [if_neg a]
 by_cases b : num t 0 1 = 1
 ·rw [if_pos b]
  by_cases c : t.length < 4
  ·left; rw [if_pos c]; decide
  rw [if_neg c]
  rcases snTail_cases (num t 3 1) 4 (num t 1 2) with ⟨e, h3, h4, h5⟩ | e
  ·right
   refine ⟨num t 3 1, 4, (num t 1 2).toNat, ?_, h4, by omega, by omega, by omega, .inr ⟨rfl, by have := h5 rfl; omega, rfl, by omega, b⟩⟩
   rw [e, show (((num t 1 2).toNat : Nat) : Int) = num t 1 2 by omega]; rfl
  ·exact .inl e
 ·rw [if_neg b]
  by_cases c : t.length < 2
  ·left; rw [if_pos c]; decide
  rw [if_neg c]
  rcases snTail_cases (num t 1 1) 2 (num t 0 1) with ⟨e, h3, h4, h5⟩ | e
  ·right
   refine ⟨num t 1 1, 2, (num t 0 1).toNat, ?_, h4, by omega, by omega, by omega, .inl ⟨rfl, rfl, by omega, by omega⟩⟩
   rw [e, show (((num t 0 1).toNat : Nat) : Int) = num t 0 1 by omega]; rfl
  ·exact .inl e
theorem rdTxt_len (t : List UInt8) (s : Rd) : (rdTxt t s).length ≤ t.length := by
 unfold rdTxt; split <;> simp
theorem readP_keeps (p : Pt) (t : List UInt8) (s : Rd) (hn : s.m.name.length ≤ t.length) (hd : s.m.data.length ≤ t.length) :
  (readP p t s).m.ty = s.m.ty ∧ (readP p t s).m.name.length ≤ t.length ∧ (readP p t s).m.data.length ≤ t.length := by
 have h1 := rdTxt_len t
 cases p
 case will =>
  simp only [readP]
  split
  ·exact ⟨rfl, hn, hd⟩
  ·unfold rdName rdFail rdFlags
   split <;> split <;> exact ⟨rfl, h1 _, hd⟩
 case topic =>
  simp only [readP]
  split
  ·exact ⟨rfl, h1 _, hd⟩
  ·exact ⟨rfl, hn, hd⟩
 case protocol => simp only [readP]; split <;> exact ⟨rfl, hn, hd⟩
 case duration => simp only [readP]; split <;> exact ⟨rfl, hn, hd⟩
 case flags => simp only [readP]; unfold rdFlags; split <;> exact ⟨rfl, hn, hd⟩
 case name => exact ⟨rfl, h1 _, hd⟩
 case data => exact ⟨rfl, hn, h1 _⟩
 all_goals exact ⟨rfl, hn, hd⟩
theorem readAll_keeps (k : Int) (t : List UInt8) (s : Rd) (hn : s.m.name.length ≤ t.length) (hd : s.m.data.length ≤ t.length) :
  (readAll k t s).m.ty = s.m.ty ∧ (readAll k t s).m.name.length ≤ t.length ∧ (readAll k t s).m.data.length ≤ t.length := by
 unfold readAll
 generalize layoutF k = ps
 induction ps generalizing s with
 | nil => exact ⟨rfl, hn, hd⟩
 | cons p r ih =>
  obtain ⟨a, b, c⟩ := readP_keeps p t s hn hd
  obtain ⟨x, y, z⟩ := ih (readP p t s) b c
  exact ⟨x.trans a, y, z⟩
theorem extract_body (t : List UInt8) (h l : Nat) : (ByteArray.mk t.toArray).extract h l = ⟨(bodyL t h l).toArray⟩ := by
 rw [ByteArray.extract_mk]
 congr 1
end Go.Proofs.YtanofjmkkhocaaaGreatDoor
namespace Go.Proofs.YtanofjmkkhocaaaGreatDoor
open Go.RowKit
theorem store_Msg (a : Addr) (v : Value) : storeVar 38 a v = rowStore 38 a v := rfl
attribute [local go_sem ↓] Go.wp_at_zero Go.wp_at_succ load_Msg store_Msg
def ReadIs (t : List UInt8) (m : Ms) (n e : Int) : Prop := ∀ w : World, Mx w → Calls Tryz.prog 445 #[.string ⟨t.toArray⟩] w fun r w' => r = .returned (.tuple #[.agg m.cs, .int .i64 n, .int .i64 e]) ∧ Below w.heap.size w w'
theorem store_zero {w : World} {b : Nat} {old : Array Value} (h : Obj? w b old 38) (hs : old.size = 16) : (rowStore 38 ⟨b, 0, none⟩ (.agg #[.int .i64 0, .bool false, .int .i64 0, .bool false, .bool false, .bool false, .int .i64 0, .int .i64 0, .int .i64 0, .int .i64 0, .bool false, .int .i64 0, .int .i64 0, .int .i64 0, .string ⟨#[]⟩, .string ⟨#[]⟩])).run Tryz.prog w = .ok () (w.setRow b #[.int .i64 0, .bool false, .int .i64 0, .bool false, .bool false, .bool false, .int .i64 0, .int .i64 0, .int .i64 0, .int .i64 0, .bool false, .int .i64 0, .int .i64 0, .int .i64 0, .string ⟨#[]⟩, .string ⟨#[]⟩]) :=
 rowStore_run w b 38 38 old _ h infoMs (by rw [hs]; rfl) (by simp [Value.oneCell'])
theorem store_msg {w : World} {b : Nat} {old : Array Value} (m : Ms) (h : Obj? w b old 38) (hs : old.size = 16) : (rowStore 38 ⟨b, 0, none⟩ (.agg m.cs)).run Tryz.prog w = .ok () (w.setRow b m.cs) :=
 rowStore_run w b 38 38 old _ h infoMs (by rw [hs]; rfl) (by simp [Ms.cs, Value.oneCell'])
theorem rdC_mid (cu : Nat) (X : Ms) : rdC cu X = #[.pointer (some ⟨cu, 0, none⟩), .int .i64 0] ++ X.cs ++ #[.slice none 0 0, .bool false] := by simp [rdC, cdC, Ms.cs]
theorem load_read {w : World} {b cu : Nat} {X : Ms} (h : Obj? w b (rdC cu X) 461) : (rowSem 38 ⟨b, 2, none⟩).run Tryz.prog w = .ok (.agg X.cs) w := by
 rw [rdC_mid] at h
 exact rowSem_mid w b 2 38 X.cs _ (fun j v hv => Obj?.mid h j v hv) Tryz.underlying38 rfl infoMs
theorem below_drewN {A : Nat} {a b : World} (h : Below A a b) (q : Nat) : Below A a (b.drewN q) := ⟨h.os, h.tape, h.output, h.size, h.block⟩
theorem store_Cd (a : Addr) (v : Value) : storeVar 461 a v = rowStore 461 a v := rfl
attribute [local go_sem ↓] store_Cd
theorem store_codec (w : World) (b : Nat) (k : Int) : (rowStore 461 ⟨w.heap.size, 0, none⟩ (.agg #[.pointer (some ⟨b, 0, none⟩), .int .i64 0, .int .i64 k, .bool false, .int .i64 0, .bool false, .bool false, .bool false, .int .i64 0, .int .i64 0, .int .i64 0, .int .i64 0, .bool false, .int .i64 0, .int .i64 0, .int .i64 0, .string ⟨#[]⟩, .string ⟨#[]⟩, .slice none 0 0, .bool false])).run Tryz.prog (w.alloc (.cells #[.pointer none, .int .i64 0, .int .i64 0, .bool false, .int .i64 0, .bool false, .bool false, .bool false, .int .i64 0, .int .i64 0, .int .i64 0, .int .i64 0, .bool false, .int .i64 0, .int .i64 0, .int .i64 0, .string ⟨#[]⟩, .string ⟨#[]⟩, .slice none 0 0, .bool false] 461 (0, 0))) = .ok () (w.alloc (.cells #[.pointer (some ⟨b, 0, none⟩), .int .i64 0, .int .i64 k, .bool false, .int .i64 0, .bool false, .bool false, .bool false, .int .i64 0, .int .i64 0, .int .i64 0, .int .i64 0, .bool false, .int .i64 0, .int .i64 0, .int .i64 0, .string ⟨#[]⟩, .string ⟨#[]⟩, .slice none 0 0, .bool false] 461 (0, 0))) := by
 have h := rowStore_run (P := Tryz.prog) (w.alloc (.cells #[.pointer none, .int .i64 0, .int .i64 0, .bool false, .int .i64 0, .bool false, .bool false, .bool false, .int .i64 0, .int .i64 0, .int .i64 0, .int .i64 0, .bool false, .int .i64 0, .int .i64 0, .int .i64 0, .string ⟨#[]⟩, .string ⟨#[]⟩, .slice none 0 0, .bool false] 461 (0, 0))) w.heap.size 461 461 _ #[.pointer (some ⟨b, 0, none⟩), .int .i64 0, .int .i64 k, .bool false, .int .i64 0, .bool false, .bool false, .bool false, .int .i64 0, .int .i64 0, .int .i64 0, .int .i64 0, .bool false, .int .i64 0, .int .i64 0, .int .i64 0, .string ⟨#[]⟩, .string ⟨#[]⟩, .slice none 0 0, .bool false] (Obj?.new w _ _) infoCd rfl (by simp [Value.oneCell'])
 rw [World.setRow_alloc_new] at h
 exact h
theorem invr_start {w : World} {b : Nat} {u : List UInt8} (h : Cur w b u 0 0) (k : Int) : InvR (w.alloc (.cells (rdC b (Ms.bare k fl0)) 461 (0, 0))) w.heap.size b u (rd0 k) :=
 ⟨Obj?.new w _ _, Obj?.alloc h _, Nat.zero_le _⟩
theorem msread_err (t : List UInt8) (ht : (t.length : Int) ≤ 4611686018427380000) (e : Int) (hs : snR t = (0, 0, 0, e)) (he : e ≠ 0) : ReadIs t ms0 0 e := by
 have de : (e != 0) = true := by simpa using he
 intro w hmx
 have hO0 := Obj?.new w #[.int .i64 0, .bool false, .int .i64 0, .bool false, .bool false, .bool false, .int .i64 0, .int .i64 0, .int .i64 0, .int .i64 0, .bool false, .int .i64 0, .int .i64 0, .int .i64 0, .string ⟨#[]⟩, .string ⟨#[]⟩] 38
 have hB0 := below_al (Below.refl _ w) (.cells #[.int .i64 0, .bool false, .int .i64 0, .bool false, .bool false, .bool false, .int .i64 0, .int .i64 0, .int .i64 0, .int .i64 0, .bool false, .int .i64 0, .int .i64 0, .int .i64 0, .string ⟨#[]⟩, .string ⟨#[]⟩] 38 (0, 0))
 have HM := Lib.hid hmx
 have H1 := Lib.hid (fun w => snread_any t (by omega) w)
 rw [hs] at H1
 have HO := Lib.hid hO0
 have HB := Lib.hid hB0
 clear hO0 hB0 hmx
 go_enter Tryz.func445, Tryz.ntmps445
 go_wp2_with fail
 refine (H1.out _).mono ?_
 rintro r w1 ⟨rfl, hb⟩
 have O1 := HO.out.below hb HO.out.lt
 have HB1 := Lib.hid (HB.out.trans (hb.mono HB.out.size))
 have hst1 := store_zero O1 rfl
 have HO1 := Lib.hid O1
 have hsz1 : w.heap.size < w1.heap.size := O1.lt
 clear hb O1
 go_wp2
 (try simp only [Exit.inBlock, Exit.then])
 refine bodyPost_ret (results_row_tmp2 rfl _ _ _ _ _ _ rfl (HO1.out.setRow _) Tryz.underlying38 rfl infoMs) rfl ?_
 exact ⟨rfl, below_row HB1.out (Nat.le_refl _) _⟩
theorem msread_enc (t : List UInt8) (ht : (t.length : Int) ≤ 4611686018427380000) (h l : Int) (hs : snR t = (254, h, l, 0)) : ReadIs t ms0 0 8 := by
 intro w hmx
 have hO0 := Obj?.new w #[.int .i64 0, .bool false, .int .i64 0, .bool false, .bool false, .bool false, .int .i64 0, .int .i64 0, .int .i64 0, .int .i64 0, .bool false, .int .i64 0, .int .i64 0, .int .i64 0, .string ⟨#[]⟩, .string ⟨#[]⟩] 38
 have hB0 := below_al (Below.refl _ w) (.cells #[.int .i64 0, .bool false, .int .i64 0, .bool false, .bool false, .bool false, .int .i64 0, .int .i64 0, .int .i64 0, .int .i64 0, .bool false, .int .i64 0, .int .i64 0, .int .i64 0, .string ⟨#[]⟩, .string ⟨#[]⟩] 38 (0, 0))
 have HM := Lib.hid hmx
 have H1 := Lib.hid (fun w => snread_any t (by omega) w)
 rw [hs] at H1
 have HO := Lib.hid hO0
 have HB := Lib.hid hB0
 clear hO0 hB0 hmx
 go_enter Tryz.func445, Tryz.ntmps445
 go_wp2_with fail
 refine (H1.out _).mono ?_
 rintro r w1 ⟨rfl, hb⟩
 have O1 := HO.out.below hb HO.out.lt
 have HB1 := Lib.hid (HB.out.trans (hb.mono HB.out.size))
 have hst1 := store_zero O1 rfl
 have HO1 := Lib.hid O1
 have hsz1 : w.heap.size < w1.heap.size := O1.lt
 clear hb O1
 go_wp2
 (try simp only [Exit.inBlock, Exit.then])
 refine bodyPost_ret (results_row_tmp2 rfl _ _ _ _ _ _ rfl (HO1.out.setRow _) Tryz.underlying38 rfl infoMs) rfl ?_
 exact ⟨rfl, below_row HB1.out (Nat.le_refl _) _⟩
theorem msread_short (t : List UInt8) (ht : (t.length : Int) ≤ 4611686018427380000) (k : Int) (h l : Nat) (hs : snR t = (k, (h : Int), (l : Int), 0)) (hk : k ≠ 254) (hl : t.length < l) : ReadIs t ms0 0 3 := by
 have dk : (k == 254) = false := by simpa using hk
 have dl : decide ((t.length : Int) < l) = true := by simp; omega
 intro w hmx
 have hO0 := Obj?.new w #[.int .i64 0, .bool false, .int .i64 0, .bool false, .bool false, .bool false, .int .i64 0, .int .i64 0, .int .i64 0, .int .i64 0, .bool false, .int .i64 0, .int .i64 0, .int .i64 0, .string ⟨#[]⟩, .string ⟨#[]⟩] 38
 have hB0 := below_al (Below.refl _ w) (.cells #[.int .i64 0, .bool false, .int .i64 0, .bool false, .bool false, .bool false, .int .i64 0, .int .i64 0, .int .i64 0, .int .i64 0, .bool false, .int .i64 0, .int .i64 0, .int .i64 0, .string ⟨#[]⟩, .string ⟨#[]⟩] 38 (0, 0))
 have HM := Lib.hid hmx
 have H1 := Lib.hid (fun w => snread_any t (by omega) w)
 rw [hs] at H1
 have HO := Lib.hid hO0
 have HB := Lib.hid hB0
 clear hO0 hB0 hmx
 go_enter Tryz.func445, Tryz.ntmps445
 go_wp2_with fail
 refine (H1.out _).mono ?_
 rintro r w1 ⟨rfl, hb⟩
 have O1 := HO.out.below hb HO.out.lt
 have HB1 := Lib.hid (HB.out.trans (hb.mono HB.out.size))
 have hst1 := store_zero O1 rfl
 have HO1 := Lib.hid O1
 have hsz1 : w.heap.size < w1.heap.size := O1.lt
 clear hb O1
 go_wp2
 (try simp only [Exit.inBlock, Exit.then])
 refine bodyPost_ret (results_row_tmp2 rfl _ _ _ _ _ _ rfl (HO1.out.setRow _) Tryz.underlying38 rfl infoMs) rfl ?_
 exact ⟨rfl, below_row HB1.out (Nat.le_refl _) _⟩
theorem msread_left (t : List UInt8) (ht : (t.length : Int) ≤ 4611686018427380000) (k : Int) (h l : Nat) (hs : snR t = (k, (h : Int), (l : Int), 0)) (hk : kindM k = true) (hhl : h ≤ l) (hl65 : l ≤ 65535) (hlt : l ≤ t.length) (X : Rd) (hX : X = readAll k (bodyL t h l) (rd0 k)) (he : X.e = 0) (hi : X.i < (bodyL t h l).length) : ReadIs t ms0 0 5 := by
 obtain ⟨xm, xi, xe⟩ := X
 simp only at he hi
 subst he
 have dk : (k == 254) = false := by
  have := kinds_of hk
  simp; omega
 have dl : decide ((t.length : Int) < l) = false := by simp; omega
 have hex := extract_body t h l
 have hul : (bodyL t h l).length = l - h := by unfold bodyL; simp; omega
 obtain ⟨u, hu⟩ : ∃ u, u = bodyL t h l := ⟨_, rfl⟩
 rw [← hu] at hex hul hX
 have HU := Lib.hid (And.intro hu hul)
 clear hu
 intro w hmx
 have hO0 := Obj?.new w #[.int .i64 0, .bool false, .int .i64 0, .bool false, .bool false, .bool false, .int .i64 0, .int .i64 0, .int .i64 0, .int .i64 0, .bool false, .int .i64 0, .int .i64 0, .int .i64 0, .string ⟨#[]⟩, .string ⟨#[]⟩] 38
 have hB0 := below_al (Below.refl _ w) (.cells #[.int .i64 0, .bool false, .int .i64 0, .bool false, .bool false, .bool false, .int .i64 0, .int .i64 0, .int .i64 0, .int .i64 0, .bool false, .int .i64 0, .int .i64 0, .int .i64 0, .string ⟨#[]⟩, .string ⟨#[]⟩] 38 (0, 0))
 have HM := Lib.hid hmx
 have H1 := Lib.hid (fun w => snread_any t (by omega) w)
 rw [hs] at H1
 have HO := Lib.hid hO0
 have HB := Lib.hid hB0
 clear hO0 hB0 hmx
 go_enter Tryz.func445, Tryz.ntmps445
 go_wp2_with fail
 refine (H1.out _).mono ?_
 rintro r w1 ⟨rfl, hb⟩
 have O1 := HO.out.below hb HO.out.lt
 have HB1 := Lib.hid (HB.out.trans (hb.mono HB.out.size))
 have hst1 := store_zero O1 rfl
 have HO1 := Lib.hid O1
 have hsz1 : w.heap.size < w1.heap.size := O1.lt
 clear hb O1
 clear hst1
 go_wp2_with fail
 refine (new_any u _).mono ?_
 rintro r w2 ⟨b, rfl, hb2, hcur, hg⟩
 have hbl : b < w2.heap.size := Obj?.lt hcur
 have O2 := HO1.out.kept hg (by simp)
 have HB2 := Lib.hid (HB1.out.grown hg HB1.out.size (fun j e => by cases e))
 have hst2 := store_codec w2 b k
 have HI := Lib.hid (invr_start hcur k)
 have HO2 := Lib.hid (O2.alloc (.cells (rdC b (Ms.bare k fl0)) 461 (0, 0)))
 have HB3 := Lib.hid (HB2.out.alloc HB2.out.size (.cells (rdC b (Ms.bare k fl0)) 461 (0, 0)))
 have hs3 := size_alloc1 w2 (.cells (rdC b (Ms.bare k fl0)) 461 (0, 0))
 have hs2 : w.heap.size < w2.heap.size := O2.lt
 clear hcur hg O2 HB2 HO1 HB1 
 unfold rdC cdC Ms.bare fl0 at HI HO2 HB3 hs3
 dsimp only at HI HO2 HB3 hs3
 go_wp2_with fail
 refine (through_read (s := rd0 k) hk HI.out (by omega) (by omega)).mono ?_
 rintro r w4 ⟨rfl, hi, hkp⟩
 have hi4 := hi
 rw [show readAll (rd0 k).m.ty u (rd0 k) = _ from hX.symm] at hi4
 have hp4 : w4.cell? ⟨w2.heap.size, 0, none⟩ = some (.pointer (some ⟨b, 0, none⟩)) := hi4.cells 0
 have hil : xi ≤ u.length := hi4.2.2
 rw [hs3] at hkp
 have HO4 := Lib.hid (hkp.obj HO2.out (by omega) (by omega) (by omega))
 have HB4 := Lib.hid (HB3.out.trans (hkp.to_below (A := w.heap.size) (by omega) (by omega) (by omega)))
 have HI4 := Lib.hid hi4
 have HX := Lib.hid hX
 clear hi hi4 hkp HI HO2 HB3 hst2 hX hs3
 go_wp2_with fail
 refine (err_any HI4.out.2.1).mono ?_
 rintro r w5 ⟨rfl, hw5⟩
 subst hw5
 have hlf : 0 < u.length - xi := by have h1 := hi; rw [HU.out.1]; omega
 go_wp2_with fail
 refine (left_any HI4.out.2.1 hil (by omega)).mono ?_
 rintro r w6 ⟨rfl, q, rfl⟩
 have hp6 : (w4.drewN q).cell? ⟨w2.heap.size, 0, none⟩ = some (.pointer (some ⟨b, 0, none⟩)) := hp4
 go_wp2_with fail
 refine (fail_any (w := w4.drewN q) HI4.out.2.1 5).mono ?_
 rintro r w7 ⟨rfl, hc7, hg7⟩
 have hp7 : w7.cell? ⟨w2.heap.size, 0, none⟩ = some (.pointer (some ⟨b, 0, none⟩)) := Obj?.cell ((show Obj? (w4.drewN q) _ _ _ from HI4.out.1).kept hg7 (by simp; omega)) 0 _ rfl
 have O7 := Obj?.kept (show Obj? (w4.drewN q) _ _ _ from HO4.out) hg7 (by simp; omega)
 have hst7 := store_zero O7 rfl
 have HB7 := Lib.hid ((below_drewN HB4.out q).grown hg7 HB4.out.size (fun j e => by cases e; omega))
 have HO7 := Lib.hid O7
 have HC7 := Lib.hid (show Cur w7 b u xi 5 from hc7)
 clear hc7 hg7 O7
 go_wp2_with fail
 refine (err_any HC7.out).mono ?_
 rintro r w8 ⟨rfl, hw8⟩
 subst hw8
 go_wp2
 (try simp only [Exit.inBlock, Exit.then])
 refine bodyPost_ret (results_row_tmp2 rfl _ _ _ _ _ _ rfl (HO7.out.setRow _) Tryz.underlying38 rfl infoMs) rfl ?_
 exact ⟨rfl, below_row HB7.out (Nat.le_refl _) _⟩
theorem msread_bad3 (t : List UInt8) (ht : (t.length : Int) ≤ 4611686018427380000) (k : Int) (h l : Nat) (hs : snR t = (k, (h : Int), (l : Int), 0)) (hk : kindM k = true) (hhl : h ≤ l) (hl65 : l ≤ 65535) (hlt : l ≤ t.length) (X : Rd) (hX : X = readAll k (bodyL t h l) (rd0 k)) (he : X.e = 3) : ReadIs t ms0 0 5 := by
 obtain ⟨xm, xi, xe⟩ := X
 simp only at he
 subst he
 have dk : (k == 254) = false := by
  have := kinds_of hk
  simp; omega
 have dl : decide ((t.length : Int) < l) = false := by simp; omega
 have hex := extract_body t h l
 have hul : (bodyL t h l).length = l - h := by unfold bodyL; simp; omega
 obtain ⟨u, hu⟩ : ∃ u, u = bodyL t h l := ⟨_, rfl⟩
 rw [← hu] at hex hul hX
 have HU := Lib.hid (And.intro hu hul)
 clear hu
 intro w hmx
 have hO0 := Obj?.new w #[.int .i64 0, .bool false, .int .i64 0, .bool false, .bool false, .bool false, .int .i64 0, .int .i64 0, .int .i64 0, .int .i64 0, .bool false, .int .i64 0, .int .i64 0, .int .i64 0, .string ⟨#[]⟩, .string ⟨#[]⟩] 38
 have hB0 := below_al (Below.refl _ w) (.cells #[.int .i64 0, .bool false, .int .i64 0, .bool false, .bool false, .bool false, .int .i64 0, .int .i64 0, .int .i64 0, .int .i64 0, .bool false, .int .i64 0, .int .i64 0, .int .i64 0, .string ⟨#[]⟩, .string ⟨#[]⟩] 38 (0, 0))
 have HM := Lib.hid hmx
 have H1 := Lib.hid (fun w => snread_any t (by omega) w)
 rw [hs] at H1
 have HO := Lib.hid hO0
 have HB := Lib.hid hB0
 clear hO0 hB0 hmx
 go_enter Tryz.func445, Tryz.ntmps445
 go_wp2_with fail
 refine (H1.out _).mono ?_
 rintro r w1 ⟨rfl, hb⟩
 have O1 := HO.out.below hb HO.out.lt
 have HB1 := Lib.hid (HB.out.trans (hb.mono HB.out.size))
 have hst1 := store_zero O1 rfl
 have HO1 := Lib.hid O1
 have hsz1 : w.heap.size < w1.heap.size := O1.lt
 clear hb O1
 clear hst1
 go_wp2_with fail
 refine (new_any u _).mono ?_
 rintro r w2 ⟨b, rfl, hb2, hcur, hg⟩
 have hbl : b < w2.heap.size := Obj?.lt hcur
 have O2 := HO1.out.kept hg (by simp)
 have HB2 := Lib.hid (HB1.out.grown hg HB1.out.size (fun j e => by cases e))
 have hst2 := store_codec w2 b k
 have HI := Lib.hid (invr_start hcur k)
 have HO2 := Lib.hid (O2.alloc (.cells (rdC b (Ms.bare k fl0)) 461 (0, 0)))
 have HB3 := Lib.hid (HB2.out.alloc HB2.out.size (.cells (rdC b (Ms.bare k fl0)) 461 (0, 0)))
 have hs3 := size_alloc1 w2 (.cells (rdC b (Ms.bare k fl0)) 461 (0, 0))
 have hs2 : w.heap.size < w2.heap.size := O2.lt
 clear hcur hg O2 HB2 HO1 HB1 
 unfold rdC cdC Ms.bare fl0 at HI HO2 HB3 hs3
 dsimp only at HI HO2 HB3 hs3
 go_wp2_with fail
 refine (through_read (s := rd0 k) hk HI.out (by omega) (by omega)).mono ?_
 rintro r w4 ⟨rfl, hi, hkp⟩
 have hi4 := hi
 rw [show readAll (rd0 k).m.ty u (rd0 k) = _ from hX.symm] at hi4
 have hp4 : w4.cell? ⟨w2.heap.size, 0, none⟩ = some (.pointer (some ⟨b, 0, none⟩)) := hi4.cells 0
 have hil : xi ≤ u.length := hi4.2.2
 rw [hs3] at hkp
 have HO4 := Lib.hid (hkp.obj HO2.out (by omega) (by omega) (by omega))
 have HB4 := Lib.hid (HB3.out.trans (hkp.to_below (A := w.heap.size) (by omega) (by omega) (by omega)))
 have HI4 := Lib.hid hi4
 have HX := Lib.hid hX
 clear hi hi4 hkp HI HO2 HB3 hst2 hX hs3
 go_wp2_with fail
 refine (err_any HI4.out.2.1).mono ?_
 rintro r w5 ⟨rfl, hw5⟩
 subst hw5
 have hst4 := store_zero HO4.out rfl
 go_wp2_with fail
 refine (err_any HI4.out.2.1).mono ?_
 rintro r w8 ⟨rfl, hw8⟩
 subst hw8
 go_wp2
 (try simp only [Exit.inBlock, Exit.then])
 refine bodyPost_ret (results_row_tmp2 rfl _ _ _ _ _ _ rfl (HO4.out.setRow _) Tryz.underlying38 rfl infoMs) rfl ?_
 exact ⟨rfl, below_row HB4.out (Nat.le_refl _) _⟩
theorem msread_bade (t : List UInt8) (ht : (t.length : Int) ≤ 4611686018427380000) (k : Int) (h l : Nat) (hs : snR t = (k, (h : Int), (l : Int), 0)) (hk : kindM k = true) (hhl : h ≤ l) (hl65 : l ≤ 65535) (hlt : l ≤ t.length) (X : Rd) (hX : X = readAll k (bodyL t h l) (rd0 k)) (he : X.e ≠ 0) (he3 : X.e ≠ 3) : ReadIs t ms0 0 X.e := by
 obtain ⟨xm, xi, xe⟩ := X
 simp only at he he3
 have d1 : (xe == 0) = false := by simpa using he
 have d2 : (xe == 3) = false := by simpa using he3
 have d3 : (xe != 0) = true := by simpa using he
 have dk : (k == 254) = false := by
  have := kinds_of hk
  simp; omega
 have dl : decide ((t.length : Int) < l) = false := by simp; omega
 have hex := extract_body t h l
 have hul : (bodyL t h l).length = l - h := by unfold bodyL; simp; omega
 obtain ⟨u, hu⟩ : ∃ u, u = bodyL t h l := ⟨_, rfl⟩
 rw [← hu] at hex hul hX
 have HU := Lib.hid (And.intro hu hul)
 clear hu
 intro w hmx
 have hO0 := Obj?.new w #[.int .i64 0, .bool false, .int .i64 0, .bool false, .bool false, .bool false, .int .i64 0, .int .i64 0, .int .i64 0, .int .i64 0, .bool false, .int .i64 0, .int .i64 0, .int .i64 0, .string ⟨#[]⟩, .string ⟨#[]⟩] 38
 have hB0 := below_al (Below.refl _ w) (.cells #[.int .i64 0, .bool false, .int .i64 0, .bool false, .bool false, .bool false, .int .i64 0, .int .i64 0, .int .i64 0, .int .i64 0, .bool false, .int .i64 0, .int .i64 0, .int .i64 0, .string ⟨#[]⟩, .string ⟨#[]⟩] 38 (0, 0))
 have HM := Lib.hid hmx
 have H1 := Lib.hid (fun w => snread_any t (by omega) w)
 rw [hs] at H1
 have HO := Lib.hid hO0
 have HB := Lib.hid hB0
 clear hO0 hB0 hmx
 go_enter Tryz.func445, Tryz.ntmps445
 go_wp2_with fail
 refine (H1.out _).mono ?_
 rintro r w1 ⟨rfl, hb⟩
 have O1 := HO.out.below hb HO.out.lt
 have HB1 := Lib.hid (HB.out.trans (hb.mono HB.out.size))
 have hst1 := store_zero O1 rfl
 have HO1 := Lib.hid O1
 have hsz1 : w.heap.size < w1.heap.size := O1.lt
 clear hb O1
 clear hst1
 go_wp2_with fail
 refine (new_any u _).mono ?_
 rintro r w2 ⟨b, rfl, hb2, hcur, hg⟩
 have hbl : b < w2.heap.size := Obj?.lt hcur
 have O2 := HO1.out.kept hg (by simp)
 have HB2 := Lib.hid (HB1.out.grown hg HB1.out.size (fun j e => by cases e))
 have hst2 := store_codec w2 b k
 have HI := Lib.hid (invr_start hcur k)
 have HO2 := Lib.hid (O2.alloc (.cells (rdC b (Ms.bare k fl0)) 461 (0, 0)))
 have HB3 := Lib.hid (HB2.out.alloc HB2.out.size (.cells (rdC b (Ms.bare k fl0)) 461 (0, 0)))
 have hs3 := size_alloc1 w2 (.cells (rdC b (Ms.bare k fl0)) 461 (0, 0))
 have hs2 : w.heap.size < w2.heap.size := O2.lt
 clear hcur hg O2 HB2 HO1 HB1 
 unfold rdC cdC Ms.bare fl0 at HI HO2 HB3 hs3
 dsimp only at HI HO2 HB3 hs3
 go_wp2_with fail
 refine (through_read (s := rd0 k) hk HI.out (by omega) (by omega)).mono ?_
 rintro r w4 ⟨rfl, hi, hkp⟩
 have hi4 := hi
 rw [show readAll (rd0 k).m.ty u (rd0 k) = _ from hX.symm] at hi4
 have hp4 : w4.cell? ⟨w2.heap.size, 0, none⟩ = some (.pointer (some ⟨b, 0, none⟩)) := hi4.cells 0
 have hil : xi ≤ u.length := hi4.2.2
 rw [hs3] at hkp
 have HO4 := Lib.hid (hkp.obj HO2.out (by omega) (by omega) (by omega))
 have HB4 := Lib.hid (HB3.out.trans (hkp.to_below (A := w.heap.size) (by omega) (by omega) (by omega)))
 have HI4 := Lib.hid hi4
 have HX := Lib.hid hX
 clear hi hi4 hkp HI HO2 HB3 hst2 hX hs3
 go_wp2_with fail
 refine (err_any HI4.out.2.1).mono ?_
 rintro r w5 ⟨rfl, hw5⟩
 subst hw5
 have hst4 := store_zero HO4.out rfl
 go_wp2_with fail
 refine (err_any HI4.out.2.1).mono ?_
 rintro r w8 ⟨rfl, hw8⟩
 subst hw8
 go_wp2
 (try simp only [Exit.inBlock, Exit.then])
 refine bodyPost_ret (results_row_tmp2 rfl _ _ _ _ _ _ rfl (HO4.out.setRow _) Tryz.underlying38 rfl infoMs) rfl ?_
 exact ⟨rfl, below_row HB4.out (Nat.le_refl _) _⟩
theorem msread_chk (t : List UInt8) (ht : (t.length : Int) ≤ 4611686018427380000) (k : Int) (h l : Nat) (hs : snR t = (k, (h : Int), (l : Int), 0)) (hk : kindM k = true) (hhl : h ≤ l) (hl65 : l ≤ 65535) (hlt : l ≤ t.length) (X : Rd) (hX : X = readAll k (bodyL t h l) (rd0 k)) (he : X.e = 0) (hi : X.i = (bodyL t h l).length) (hc : checkM X.m ≠ 0) : ReadIs t ms0 0 (checkM X.m) := by
 obtain ⟨xm, xi, xe⟩ := X
 simp only at he hi hc ⊢
 subst he
 obtain ⟨c, hcc⟩ : ∃ c, c = checkM xm := ⟨_, rfl⟩
 have d1 : (c != 0) = true := by rw [hcc]; simpa using hc
 rw [← hcc]
 clear hc
 have dk : (k == 254) = false := by
  have := kinds_of hk
  simp; omega
 have dl : decide ((t.length : Int) < l) = false := by simp; omega
 have hex := extract_body t h l
 have hul : (bodyL t h l).length = l - h := by unfold bodyL; simp; omega
 obtain ⟨u, hu⟩ : ∃ u, u = bodyL t h l := ⟨_, rfl⟩
 rw [← hu] at hex hul hX
 have HU := Lib.hid (And.intro hu hul)
 clear hu
 intro w hmx
 have hO0 := Obj?.new w #[.int .i64 0, .bool false, .int .i64 0, .bool false, .bool false, .bool false, .int .i64 0, .int .i64 0, .int .i64 0, .int .i64 0, .bool false, .int .i64 0, .int .i64 0, .int .i64 0, .string ⟨#[]⟩, .string ⟨#[]⟩] 38
 have hB0 := below_al (Below.refl _ w) (.cells #[.int .i64 0, .bool false, .int .i64 0, .bool false, .bool false, .bool false, .int .i64 0, .int .i64 0, .int .i64 0, .int .i64 0, .bool false, .int .i64 0, .int .i64 0, .int .i64 0, .string ⟨#[]⟩, .string ⟨#[]⟩] 38 (0, 0))
 have HM := Lib.hid hmx
 have H1 := Lib.hid (fun w => snread_any t (by omega) w)
 rw [hs] at H1
 have HO := Lib.hid hO0
 have HB := Lib.hid hB0
 clear hO0 hB0 hmx
 go_enter Tryz.func445, Tryz.ntmps445
 go_wp2_with fail
 refine (H1.out _).mono ?_
 rintro r w1 ⟨rfl, hb⟩
 have O1 := HO.out.below hb HO.out.lt
 have HB1 := Lib.hid (HB.out.trans (hb.mono HB.out.size))
 have hst1 := store_zero O1 rfl
 have HO1 := Lib.hid O1
 have hsz1 : w.heap.size < w1.heap.size := O1.lt
 clear hb O1
 clear hst1
 go_wp2_with fail
 refine (new_any u _).mono ?_
 rintro r w2 ⟨b, rfl, hb2, hcur, hg⟩
 have hbl : b < w2.heap.size := Obj?.lt hcur
 have O2 := HO1.out.kept hg (by simp)
 have HB2 := Lib.hid (HB1.out.grown hg HB1.out.size (fun j e => by cases e))
 have hst2 := store_codec w2 b k
 have HI := Lib.hid (invr_start hcur k)
 have HO2 := Lib.hid (O2.alloc (.cells (rdC b (Ms.bare k fl0)) 461 (0, 0)))
 have HB3 := Lib.hid (HB2.out.alloc HB2.out.size (.cells (rdC b (Ms.bare k fl0)) 461 (0, 0)))
 have hs3 := size_alloc1 w2 (.cells (rdC b (Ms.bare k fl0)) 461 (0, 0))
 have hs2 : w.heap.size < w2.heap.size := O2.lt
 clear hcur hg O2 HB2 HO1 HB1 
 unfold rdC cdC Ms.bare fl0 at HI HO2 HB3 hs3
 dsimp only at HI HO2 HB3 hs3
 go_wp2_with fail
 refine (through_read (s := rd0 k) hk HI.out (by omega) (by omega)).mono ?_
 rintro r w4 ⟨rfl, hi, hkp⟩
 have hi4 := hi
 rw [show readAll (rd0 k).m.ty u (rd0 k) = _ from hX.symm] at hi4
 have hp4 : w4.cell? ⟨w2.heap.size, 0, none⟩ = some (.pointer (some ⟨b, 0, none⟩)) := hi4.cells 0
 have hil : xi ≤ u.length := hi4.2.2
 rw [hs3] at hkp
 have HO4 := Lib.hid (hkp.obj HO2.out (by omega) (by omega) (by omega))
 have HB4 := Lib.hid (HB3.out.trans (hkp.to_below (A := w.heap.size) (by omega) (by omega) (by omega)))
 have HI4 := Lib.hid hi4
 have HX := Lib.hid hX
 clear hi hi4 hkp HI HO2 HB3 hst2 hX hs3
 go_wp2_with fail
 refine (err_any HI4.out.2.1).mono ?_
 rintro r w5 ⟨rfl, hw5⟩
 subst hw5
 have hlf : u.length - xi = 0 := by have h1 := hi; rw [HU.out.1]; omega
 go_wp2_with fail
 refine (left_any HI4.out.2.1 hil (by omega)).mono ?_
 rintro r w6 ⟨rfl, q, rfl⟩
 have hp6 : (w4.drewN q).cell? ⟨w2.heap.size, 0, none⟩ = some (.pointer (some ⟨b, 0, none⟩)) := hp4
 go_wp2_with fail
 refine (err_any (w := w4.drewN q) HI4.out.2.1).mono ?_
 rintro r w8 ⟨rfl, hw8⟩
 subst hw8
 have HK := Lib.hid (readAll_keeps k u (rd0 k) (Nat.zero_le _) (Nat.zero_le _))
 rw [← HX.out] at HK
 have HCk := Lib.hid (mscheck_any xm (by have := HK.out.2.1; simp only at this; omega) (by have := HK.out.2.2; simp only at this; omega) (w4.drewN q) (show Mx w4 from HM.out.below HB4.out HM.out.1))
 have hlk := load_read (w := w4.drewN q) (X := xm) HI4.out.1
 unfold Ms.cs at HCk hlk
 rw [← hcc] at HCk
 clear hcc
 go_wp2_with fail
 refine HCk.out.mono ?_
 rintro r w9 ⟨rfl, hb9⟩
 have O9 := Obj?.below (show Obj? (w4.drewN q) _ _ _ from HO4.out) hb9 (Obj?.lt HO4.out)
 have HB9 := Lib.hid ((below_drewN HB4.out q).trans (hb9.mono HB4.out.size))
 have hst9 := store_zero O9 rfl
 have HO9 := Lib.hid O9
 clear hb9 O9
 go_wp2
 (try simp only [Exit.inBlock, Exit.then])
 refine bodyPost_ret (results_row_tmp2 rfl _ _ _ _ _ _ rfl (HO9.out.setRow _) Tryz.underlying38 rfl infoMs) rfl ?_
 exact ⟨rfl, below_row HB9.out (Nat.le_refl _) _⟩
theorem msread_ok (t : List UInt8) (ht : (t.length : Int) ≤ 4611686018427380000) (k : Int) (h l : Nat) (hs : snR t = (k, (h : Int), (l : Int), 0)) (hk : kindM k = true) (hhl : h ≤ l) (hl65 : l ≤ 65535) (hlt : l ≤ t.length) (X : Rd) (hX : X = readAll k (bodyL t h l) (rd0 k)) (he : X.e = 0) (hi : X.i = (bodyL t h l).length) (hc : checkM X.m = 0) : ReadIs t X.m l 0 := by
 obtain ⟨xm, xi, xe⟩ := X
 simp only at he hi hc ⊢
 subst he
 have dk : (k == 254) = false := by
  have := kinds_of hk
  simp; omega
 have dl : decide ((t.length : Int) < l) = false := by simp; omega
 have hex := extract_body t h l
 have hul : (bodyL t h l).length = l - h := by unfold bodyL; simp; omega
 obtain ⟨u, hu⟩ : ∃ u, u = bodyL t h l := ⟨_, rfl⟩
 rw [← hu] at hex hul hX
 have HU := Lib.hid (And.intro hu hul)
 clear hu
 intro w hmx
 have hO0 := Obj?.new w #[.int .i64 0, .bool false, .int .i64 0, .bool false, .bool false, .bool false, .int .i64 0, .int .i64 0, .int .i64 0, .int .i64 0, .bool false, .int .i64 0, .int .i64 0, .int .i64 0, .string ⟨#[]⟩, .string ⟨#[]⟩] 38
 have hB0 := below_al (Below.refl _ w) (.cells #[.int .i64 0, .bool false, .int .i64 0, .bool false, .bool false, .bool false, .int .i64 0, .int .i64 0, .int .i64 0, .int .i64 0, .bool false, .int .i64 0, .int .i64 0, .int .i64 0, .string ⟨#[]⟩, .string ⟨#[]⟩] 38 (0, 0))
 have HM := Lib.hid hmx
 have H1 := Lib.hid (fun w => snread_any t (by omega) w)
 rw [hs] at H1
 have HO := Lib.hid hO0
 have HB := Lib.hid hB0
 clear hO0 hB0 hmx
 go_enter Tryz.func445, Tryz.ntmps445
 go_wp2_with fail
 refine (H1.out _).mono ?_
 rintro r w1 ⟨rfl, hb⟩
 have O1 := HO.out.below hb HO.out.lt
 have HB1 := Lib.hid (HB.out.trans (hb.mono HB.out.size))
 have hst1 := store_zero O1 rfl
 have HO1 := Lib.hid O1
 have hsz1 : w.heap.size < w1.heap.size := O1.lt
 clear hb O1
 clear hst1
 go_wp2_with fail
 refine (new_any u _).mono ?_
 rintro r w2 ⟨b, rfl, hb2, hcur, hg⟩
 have hbl : b < w2.heap.size := Obj?.lt hcur
 have O2 := HO1.out.kept hg (by simp)
 have HB2 := Lib.hid (HB1.out.grown hg HB1.out.size (fun j e => by cases e))
 have hst2 := store_codec w2 b k
 have HI := Lib.hid (invr_start hcur k)
 have HO2 := Lib.hid (O2.alloc (.cells (rdC b (Ms.bare k fl0)) 461 (0, 0)))
 have HB3 := Lib.hid (HB2.out.alloc HB2.out.size (.cells (rdC b (Ms.bare k fl0)) 461 (0, 0)))
 have hs3 := size_alloc1 w2 (.cells (rdC b (Ms.bare k fl0)) 461 (0, 0))
 have hs2 : w.heap.size < w2.heap.size := O2.lt
 clear hcur hg O2 HB2 HO1 HB1 
 unfold rdC cdC Ms.bare fl0 at HI HO2 HB3 hs3
 dsimp only at HI HO2 HB3 hs3
 go_wp2_with fail
 refine (through_read (s := rd0 k) hk HI.out (by omega) (by omega)).mono ?_
 rintro r w4 ⟨rfl, hi, hkp⟩
 have hi4 := hi
 rw [show readAll (rd0 k).m.ty u (rd0 k) = _ from hX.symm] at hi4
 have hp4 : w4.cell? ⟨w2.heap.size, 0, none⟩ = some (.pointer (some ⟨b, 0, none⟩)) := hi4.cells 0
 have hil : xi ≤ u.length := hi4.2.2
 rw [hs3] at hkp
 have HO4 := Lib.hid (hkp.obj HO2.out (by omega) (by omega) (by omega))
 have HB4 := Lib.hid (HB3.out.trans (hkp.to_below (A := w.heap.size) (by omega) (by omega) (by omega)))
 have HI4 := Lib.hid hi4
 have HX := Lib.hid hX
 clear hi hi4 hkp HI HO2 HB3 hst2 hX hs3
 go_wp2_with fail
 refine (err_any HI4.out.2.1).mono ?_
 rintro r w5 ⟨rfl, hw5⟩
 subst hw5
 have hlf : u.length - xi = 0 := by have h1 := hi; rw [HU.out.1]; omega
 go_wp2_with fail
 refine (left_any HI4.out.2.1 hil (by omega)).mono ?_
 rintro r w6 ⟨rfl, q, rfl⟩
 have hp6 : (w4.drewN q).cell? ⟨w2.heap.size, 0, none⟩ = some (.pointer (some ⟨b, 0, none⟩)) := hp4
 go_wp2_with fail
 refine (err_any (w := w4.drewN q) HI4.out.2.1).mono ?_
 rintro r w8 ⟨rfl, hw8⟩
 subst hw8
 have HK := Lib.hid (readAll_keeps k u (rd0 k) (Nat.zero_le _) (Nat.zero_le _))
 rw [← HX.out] at HK
 have HCk := Lib.hid (mscheck_any xm (by have := HK.out.2.1; simp only at this; omega) (by have := HK.out.2.2; simp only at this; omega) (w4.drewN q) (show Mx w4 from HM.out.below HB4.out HM.out.1))
 have hlk := load_read (w := w4.drewN q) (X := xm) HI4.out.1
 unfold Ms.cs at HCk hlk
 rw [hc] at HCk
 clear hc
 go_wp2_with fail
 refine HCk.out.mono ?_
 rintro r w9 ⟨rfl, hb9⟩
 have O9 := Obj?.below (show Obj? (w4.drewN q) _ _ _ from HO4.out) hb9 (Obj?.lt HO4.out)
 have C9 := Obj?.below (show Obj? (w4.drewN q) _ _ _ from HI4.out.1) hb9 (Obj?.lt HI4.out.1)
 have HB9 := Lib.hid ((below_drewN HB4.out q).trans (hb9.mono HB4.out.size))
 have hst9 := store_msg xm O9 rfl
 have hlk9 := load_read (X := xm) C9
 have HO9 := Lib.hid O9
 clear hb9 O9 C9
 unfold Ms.cs at hst9 hlk9
 go_wp2
 (try simp only [Exit.inBlock, Exit.then])
 refine bodyPost_ret (results_row_tmp2 rfl _ _ _ _ _ _ rfl (HO9.out.setRow _) Tryz.underlying38 rfl infoMs) rfl ?_
 exact ⟨rfl, below_row HB9.out (Nat.le_refl _) _⟩
end Go.Proofs.YtanofjmkkhocaaaGreatDoor
