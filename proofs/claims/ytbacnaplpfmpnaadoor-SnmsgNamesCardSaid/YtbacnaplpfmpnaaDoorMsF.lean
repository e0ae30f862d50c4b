/- snmsg: the parts that look. snmsg: the parts that look: flags, protocol, will, topic, duration; all of them. snmsg: compares of structs. -/
import Derived.Test.YtbacnaplpfmpnaaDoorMsB
namespace Go.Proofs.YtbacnaplpfmpnaaDoor
open Go.RowKit
set_option linter.unusedVariables false

def LookSaid (p : Pt) : Prop := ∀ (w : World) (cb : Nat) (m : Ms) (bad : Bool), Obj? w cb (lkC m bad) 69 → Calls Tryd.prog p.fn #[.pointer (some ⟨cb, 0, none⟩)] w fun r w' => r = .returned (.tuple #[]) ∧ Obj? w' cb (lkC (lookP p (m, bad)).1 (lookP p (m, bad)).2) 69 ∧ ∀ B, B ≤ w.heap.size → Kp B cb cb w w'

theorem look_gateway : LookSaid .gateway := by
  intro w cb m bad h
  have H := Lib.hid (number_look1 (j := 9) h rfl rfl rfl (by decide))
  have hlt := h.lt
  clear h
  show Calls Tryd.prog 75 _ _ _
  go_enter Tryd.func75, Tryd.ntmps75
  go_wp2_with fail
  refine H.out.mono ?_
  rintro r w1 ⟨rfl, ho, hg⟩
  have HF := Lib.hid (And.intro ho hg)
  clear ho hg
  go_wp2
  go_end0
  exact ⟨rfl, HF.out.1, fun B hB => Kp.of_grown HF.out.2 hB (.inl rfl)⟩

theorem look_radius : LookSaid .radius := by
  intro w cb m bad h
  have H := Lib.hid (number_look1 (j := 10) h rfl rfl rfl (by decide))
  have hlt := h.lt
  clear h
  show Calls Tryd.prog 77 _ _ _
  go_enter Tryd.func77, Tryd.ntmps77
  go_wp2_with fail
  refine H.out.mono ?_
  rintro r w1 ⟨rfl, ho, hg⟩
  have HF := Lib.hid (And.intro ho hg)
  clear ho hg
  go_wp2
  go_end0
  exact ⟨rfl, HF.out.1, fun B hB => Kp.of_grown HF.out.2 hB (.inl rfl)⟩

theorem look_code : LookSaid .code := by
  intro w cb m bad h
  have H := Lib.hid (number_look1 (j := 15) h rfl rfl rfl (by decide))
  have hlt := h.lt
  clear h
  show Calls Tryd.prog 81 _ _ _
  go_enter Tryd.func81, Tryd.ntmps81
  go_wp2_with fail
  refine H.out.mono ?_
  rintro r w1 ⟨rfl, ho, hg⟩
  have HF := Lib.hid (And.intro ho hg)
  clear ho hg
  go_wp2
  go_end0
  exact ⟨rfl, HF.out.1, fun B hB => Kp.of_grown HF.out.2 hB (.inl rfl)⟩

theorem look_time : LookSaid .time := by
  intro w cb m bad h
  have H := Lib.hid (number_look2 (j := 11) h rfl rfl rfl (by decide))
  have hlt := h.lt
  clear h
  show Calls Tryd.prog 76 _ _ _
  go_enter Tryd.func76, Tryd.ntmps76
  go_wp2_with fail
  refine H.out.mono ?_
  rintro r w1 ⟨rfl, ho, hg⟩
  have HF := Lib.hid (And.intro ho hg)
  clear ho hg
  go_wp2
  go_end0
  exact ⟨rfl, HF.out.1, fun B hB => Kp.of_grown HF.out.2 hB (.inl rfl)⟩

theorem look_id : LookSaid .id := by
  intro w cb m bad h
  have H := Lib.hid (number_look2 (j := 13) h rfl rfl rfl (by decide))
  have hlt := h.lt
  clear h
  show Calls Tryd.prog 84 _ _ _
  go_enter Tryd.func84, Tryd.ntmps84
  go_wp2_with fail
  refine H.out.mono ?_
  rintro r w1 ⟨rfl, ho, hg⟩
  have HF := Lib.hid (And.intro ho hg)
  clear ho hg
  go_wp2
  go_end0
  exact ⟨rfl, HF.out.1, fun B hB => Kp.of_grown HF.out.2 hB (.inl rfl)⟩

theorem look_msg : LookSaid .msg := by
  intro w cb m bad h
  have H := Lib.hid (number_look2 (j := 14) h rfl rfl rfl (by decide))
  have hlt := h.lt
  clear h
  show Calls Tryd.prog 85 _ _ _
  go_enter Tryd.func85, Tryd.ntmps85
  go_wp2_with fail
  refine H.out.mono ?_
  rintro r w1 ⟨rfl, ho, hg⟩
  have HF := Lib.hid (And.intro ho hg)
  clear ho hg
  go_wp2
  go_end0
  exact ⟨rfl, HF.out.1, fun B hB => Kp.of_grown HF.out.2 hB (.inl rfl)⟩

theorem look_name : LookSaid .name := by
  intro w cb m bad h
  have H := Lib.hid (text_look (j := 16) h rfl rfl)
  clear h
  show Calls Tryd.prog 78 _ _ _
  go_enter Tryd.func78, Tryd.ntmps78
  go_wp2_with fail
  refine H.out.mono ?_
  rintro r w1 ⟨rfl, ho, hg⟩
  have HF := Lib.hid (And.intro ho hg)
  clear ho hg
  go_wp2
  go_end0
  exact ⟨rfl, HF.out.1, fun B hB => Kp.of_grown HF.out.2 hB (.inl rfl)⟩

theorem look_data : LookSaid .data := by
  intro w cb m bad h
  have H := Lib.hid (text_look (j := 17) h rfl rfl)
  clear h
  show Calls Tryd.prog 83 _ _ _
  go_enter Tryd.func83, Tryd.ntmps83
  go_wp2_with fail
  refine H.out.mono ?_
  rintro r w1 ⟨rfl, ho, hg⟩
  have HF := Lib.hid (And.intro ho hg)
  clear ho hg
  go_wp2
  go_end0
  exact ⟨rfl, HF.out.1, fun B hB => Kp.of_grown HF.out.2 hB (.inl rfl)⟩
end Go.Proofs.YtbacnaplpfmpnaaDoor
namespace Go.Proofs.YtbacnaplpfmpnaaDoor
open Go.RowKit
set_option linter.unusedVariables false

theorem kp_below {B cb cu : Nat} {w w1 : World} (h : Below w.heap.size w w1) (hB : B ≤ w.heap.size) : Kp B cb cu w w1 := Kp.of_below h hB
set_option maxRecDepth 100000 in
set_option maxHeartbeats 800000 in
theorem look_flags : LookSaid .flags := by
  intro w cb m bad h
  have kc := h.cells
  simp only [lkC, cdC] at kc
  have HO := Lib.hid h
  have hlt := h.lt
  clear h
  show Calls Tryd.prog 79 _ _ _
  go_enter Tryd.func79, Tryd.ntmps79
  go_wp2_with fail
  refine (flag_fl m.fl _).mono ?_
  rintro r w1 ⟨rfl, hb⟩
  have hA := below_al hb (.cells #[.int .i64 (flagV m.fl).1] 3 (0, 0))
  have O1 := (HO.out.below hb hlt).alloc (.cells #[.int .i64 (flagV m.fl).1] 3 (0, 0))
  have kc1 := (HO.out.below hb hlt).cells
  have kc2 := O1.cells
  simp only [lkC, cdC] at kc1 kc2
  have HF := Lib.hid (And.intro O1 hA)
  clear hb hA O1 kc
  go_wp2
  (try simp only [Exit.inBlock, Exit.then])
  refine bodyPost_ret (results_none rfl _ _ _) rfl ?_
  exact ⟨rfl, HF.out.1, fun B hB => Kp.of_below HF.out.2 hB⟩

set_option maxRecDepth 100000 in
set_option maxHeartbeats 800000 in
/-- The number 1, looked at. -/
theorem number_look_one {w : World} {cb nb : Nat} {cs : Array Value} {bad : Bool} {T : TypeId} (h : Obj? w cb cs 69) (h0 : cs[1]? = some (.int .i64 2)) (hb : cs[19]? = some (.bool bad)) (hn : Obj? w nb #[.int .i64 1] T) (hne : nb ≠ cb) :
    Calls Tryd.prog 94 #[.pointer (some ⟨cb, 0, none⟩), .pointer (some ⟨nb, 0, none⟩), .int .i64 1] w fun e w' => e = .returned (.tuple #[]) ∧ Obj? w' cb (cs.setIfInBounds 19 (.bool bad)) 69 ∧ Obj? w' nb #[.int .i64 0] T ∧ ∀ B, B ≤ nb → Kp B cb cb w w' := by
  have k1 := h.cell 1 _ h0
  have k19 := h.cell 19 _ hb
  have kf := fun j => h.frozen j
  have kn := hn.cell 0 _ rfl
  have kg := hn.frozen 0
  have HO := Lib.hid (And.intro h hn)
  clear h h0 hb hn
  cases bad
  all_goals
    go_enter Tryd.func94, Tryd.ntmps94
    go_wp2_with fail
    go_region
    all_goals
      go_wp2
      go_end0
      refine ⟨rfl, ?_, ?_, fun B hB => ?_⟩
      · exact Obj?.kept (row := some nb) (obj_drewM (HO.out.1.set 19 _)) (grown_set (World.grownBy.refl _ _) (p := ⟨nb, 0, none⟩) rfl _) (by simp; exact hne)
      · exact Obj?.set (Obj?.kept (row := some cb) HO.out.2 (grown_set (World.grownBy.refl _ _) (p := ⟨cb, 19, none⟩) rfl _) (by simp; exact Ne.symm hne)) 0 _
      · exact (((Kp.refl B cb cb w).set (j := 19) (.inl rfl)).set (.inr (.inr hB))).drew

set_option maxRecDepth 100000 in
set_option maxHeartbeats 800000 in
theorem look_protocol : LookSaid .protocol := by
  intro w cb m bad h
  have hlt := h.lt
  have O1 := h.alloc (.cells #[.int .i64 1] 3 (0, 0))
  have H := Lib.hid (number_look_one O1 rfl rfl (Obj?.new w #[.int .i64 1] 3) (by omega))
  have HS : Hid ((lkC m bad).setIfInBounds 19 (.bool bad) = lkC m bad) := Lib.hid rfl
  clear h O1
  show Calls Tryd.prog 80 _ _ _
  go_enter Tryd.func80, Tryd.ntmps80
  go_wp2_with fail
  refine H.out.mono ?_
  rintro r w1 ⟨rfl, ho, hn, hk⟩
  have kc := ho.cells
  rw [HS.out] at kc ho
  simp only [lkC, cdC] at kc
  have HF := Lib.hid (And.intro ho hk)
  have kn := hn.cell 0 _ rfl
  clear ho hk hn
  go_wp2
  go_end0
  exact ⟨rfl, HF.out.1, fun B hB => ((Kp.refl B cb cb w).alloc hB _).trans (HF.out.2 B hB)⟩

set_option maxRecDepth 100000 in
set_option maxHeartbeats 800000 in
theorem look_will : LookSaid .will := by
  intro w cb m bad h
  have kc := h.cells
  simp only [lkC, cdC] at kc
  have HO := Lib.hid h
  clear h
  show Calls Tryd.prog 82 _ _ _
  by_cases hn : m.name = []
  · have HL := Lib.hid (show lookP .will (m, bad) = (m, bad) by simp [lookP, hn])
    have he : m.name.isEmpty = true := by rw [hn]; rfl
    rw [HL.out]
    clear hn
    go_enter Tryd.func82, Tryd.ntmps82
    go_wp2
    (try simp only [Exit.inBlock, Exit.then])
    refine bodyPost_ret (results_none rfl _ _ _) rfl ?_
    exact ⟨rfl, HO.out, fun B hB => Kp.refl _ _ _ _⟩
  · have HL := Lib.hid (show lookP .will (m, bad) = ({ m with name := [] }, bad) by simp [lookP, hn])
    have he : m.name.isEmpty = false := by cases hm : m.name with | nil => exact absurd hm hn | cons _ _ => rfl
    rw [HL.out]
    clear hn
    go_enter Tryd.func82, Tryd.ntmps82
    go_wp2_with fail
    refine (look_flags w cb m bad HO.out).mono ?_
    rintro r w1 ⟨rfl, ho, hk⟩
    replace ho : Obj? w1 cb (lkC m bad) 69 := ho
    have kc1 := ho.cells
    simp only [lkC, cdC] at kc1
    have HO1 := Lib.hid (And.intro ho hk)
    clear ho hk kc
    go_wp2_with fail
    refine (look_name w1 cb m bad HO1.out.1).mono ?_
    rintro r w2 ⟨rfl, ho, hk⟩
    have HO2 := Lib.hid (And.intro ho hk)
    clear ho hk kc1
    go_wp2
    go_end0
    exact ⟨rfl, HO2.out.1, fun B hB => (HO1.out.2 B hB).trans (HO2.out.2 B (Nat.le_trans hB (HO1.out.2 B hB).size))⟩

set_option maxRecDepth 100000 in
set_option maxHeartbeats 800000 in
theorem look_topic : LookSaid .topic := by
  intro w cb m bad h
  have kc := h.cells
  simp only [lkC, cdC] at kc
  have HO := Lib.hid h
  clear h
  show Calls Tryd.prog 86 _ _ _
  by_cases hn : m.fl.typ = 0
  · have HL := Lib.hid (show lookP .topic (m, bad) = lookP .name (m, bad) by simp [lookP, hn])
    have he : (m.fl.typ == 0) = true := by simpa using hn
    rw [HL.out]
    clear hn
    go_enter Tryd.func86, Tryd.ntmps86
    go_wp2_with fail
    refine (look_name w cb m bad HO.out).mono ?_
    rintro r w2 ⟨rfl, ho, hk⟩
    have HO2 := Lib.hid (And.intro ho hk)
    clear ho hk kc
    go_wp2
    go_end0
    exact ⟨rfl, HO2.out.1, HO2.out.2⟩
  · have HL := Lib.hid (show lookP .topic (m, bad) = lookP .id (m, bad) by simp [lookP, hn])
    have he : (m.fl.typ == 0) = false := by simpa using hn
    rw [HL.out]
    clear hn
    go_enter Tryd.func86, Tryd.ntmps86
    go_wp2_with fail
    refine (look_id w cb m bad HO.out).mono ?_
    rintro r w2 ⟨rfl, ho, hk⟩
    have HO2 := Lib.hid (And.intro ho hk)
    clear ho hk kc
    go_wp2
    go_end0
    exact ⟨rfl, HO2.out.1, HO2.out.2⟩

set_option maxRecDepth 100000 in
set_option maxHeartbeats 800000 in
theorem look_duration : LookSaid .duration := by
  intro w cb m bad h
  have kc := h.cells
  simp only [lkC, cdC] at kc
  have kf := h.froz
  have HO := Lib.hid h
  clear h
  show Calls Tryd.prog 87 _ _ _
  cases ht : m.timed with
  | false =>
    have HL := Lib.hid (show lookP .duration (m, bad) = ({ m with timed := false }, bad) by simp [lookP, ht]; cases m; simp_all)
    rw [HL.out]
    rw [ht] at kc
    clear ht
    go_enter Tryd.func87, Tryd.ntmps87
    go_wp2
    go_end0
    exact ⟨rfl, HO.out.set 12 _, fun B hB => (Kp.refl B cb cb w).set (.inl rfl)⟩
  | true =>
    have HL := Lib.hid (show lookP .duration (m, bad) = ({ m with time := 0, timed := false }, lkNum m.time 2 bad) by simp [lookP, ht])
    rw [HL.out]
    rw [ht] at kc
    clear ht
    go_enter Tryd.func87, Tryd.ntmps87
    go_wp2_with fail
    refine (look_time w cb m bad HO.out).mono ?_
    rintro r w1 ⟨rfl, ho, hk⟩
    replace ho : Obj? w1 cb (lkC { m with time := 0 } (lkNum m.time 2 bad)) 69 := ho
    have kc1 := ho.cells
    simp only [lkC, cdC] at kc1
    have kf1 := ho.froz
    have HO2 := Lib.hid (And.intro ho hk)
    clear ho hk kc kf
    go_wp2
    go_end0
    exact ⟨rfl, HO2.out.1.set 12 _, fun B hB => (HO2.out.2 B hB).set (.inl rfl)⟩

theorem look_all (p : Pt) : LookSaid p := by
  cases p
  · exact look_gateway
  · exact look_radius
  · exact look_code
  · exact look_time
  · exact look_id
  · exact look_msg
  · exact look_name
  · exact look_data
  · exact look_flags
  · exact look_protocol
  · exact look_will
  · exact look_topic
  · exact look_duration
end Go.Proofs.YtbacnaplpfmpnaaDoor
namespace Go.Proofs.YtbacnaplpfmpnaaDoor
open Go.RowKit
set_option linter.unusedVariables false
set_option linter.unusedSimpArgs false

theorem Fl.ext_iff' (a b : Fl) : (a.dup = b.dup ∧ a.q = b.q ∧ a.retain = b.retain ∧ a.will = b.will ∧ a.clean = b.clean ∧ a.typ = b.typ) ↔ a = b := by
  cases a; cases b; simp
instance instDecFl : DecidableEq Fl := fun a b => decidable_of_iff _ (Fl.ext_iff' a b)
theorem Ms.ext_iff' (a b : Ms) : (a.ty = b.ty ∧ a.fl = b.fl ∧ a.gw = b.gw ∧ a.rad = b.rad ∧ a.time = b.time ∧ a.timed = b.timed ∧ a.tid = b.tid ∧ a.mid = b.mid ∧ a.code = b.code ∧ a.name = b.name ∧ a.data = b.data) ↔ a = b := by
  cases a; cases b; simp
instance instDecMs : DecidableEq Ms := fun a b => decidable_of_iff _ (Ms.ext_iff' a b)
theorem neq_fl0 (f : Fl) (w : World) (hne : f ≠ fl0) : (binOp .neq 23 (.agg #[.bool f.dup, .int .i64 f.q, .bool f.retain, .bool f.will, .bool f.clean, .int .i64 f.typ]) (.agg #[.bool false, .int .i64 0, .bool false, .bool false, .bool false, .int .i64 0])).run Tryd.prog w = .ok (.bool true) w := by
  obtain ⟨dup, q, retain, will, clean, typ⟩ := f
  dsimp only
  cases dup
  · go_simp
    intro h1 h2 h3 h4 h5
    exact hne (by rw [h1, h2, h3, h4, h5]; rfl)
  · go_simp
theorem neq_fl0_no (w : World) : (binOp .neq 23 (.agg #[.bool fl0.dup, .int .i64 fl0.q, .bool fl0.retain, .bool fl0.will, .bool fl0.clean, .int .i64 fl0.typ]) (.agg #[.bool false, .int .i64 0, .bool false, .bool false, .bool false, .int .i64 0])).run Tryd.prog w = .ok (.bool false) w := by
  unfold fl0
  go_simp
/-- A message with nothing but its type and its flags. -/
def Ms.bare (ty : Int) (fl : Fl) : Ms := ⟨ty, fl, 0, 0, 0, false, 0, 0, 0, [], []⟩
def msNeq (x : Ms) (ty : Int) (fl : Fl) (w : World) (b : Bool) : Prop := (binOp .neq 25 (.agg #[.int .i64 x.ty, .bool x.fl.dup, .int .i64 x.fl.q, .bool x.fl.retain, .bool x.fl.will, .bool x.fl.clean, .int .i64 x.fl.typ, .int .i64 x.gw, .int .i64 x.rad, .int .i64 x.time, .bool x.timed, .int .i64 x.tid, .int .i64 x.mid, .int .i64 x.code, .string ⟨x.name.toArray⟩, .string ⟨x.data.toArray⟩]) (.agg #[.int .i64 ty, .bool fl.dup, .int .i64 fl.q, .bool fl.retain, .bool fl.will, .bool fl.clean, .int .i64 fl.typ, .int .i64 0, .int .i64 0, .int .i64 0, .bool false, .int .i64 0, .int .i64 0, .int .i64 0, .string ⟨#[]⟩, .string ⟨#[]⟩])).run Tryd.prog w = .ok (.bool b) w
theorem neq_bare (x : Ms) (ty : Int) (fl : Fl) (w : World) (hne : x ≠ Ms.bare ty fl) : msNeq x ty fl w true := by
  obtain ⟨ty', ⟨dup, q, retain, will, clean, typ⟩, gw, rad, time, timed, tid, mid, code, name, data⟩ := x
  obtain ⟨dup', q', retain', will', clean', typ'⟩ := fl
  unfold msNeq
  dsimp only
  go_simp
  intro h1 h2 h3 h4 h5 h6 h7 h8 h9 h10 h11 h12 h13 h14 h15 h16
  exact hne (by rw [h1, h2, h3, h4, h5, h6, h7, h8, h9, h10, h11, h12, h13, h14, h15, h16]; rfl)
theorem neq_bare_no (x : Ms) (ty : Int) (fl : Fl) (w : World) (he : x = Ms.bare ty fl) : msNeq x ty fl w false := by
  subst he
  unfold msNeq Ms.bare
  dsimp only
  go_simp
end Go.Proofs.YtbacnaplpfmpnaaDoor
