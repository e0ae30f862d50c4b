/- snmsg: the parts that read. -/
import Derived.Test.YtbacnaplpfmpnaaDoorMsB
import Derived.Deep.RegionWith
namespace Go.Proofs.YtbacnaplpfmpnaaDoor
open Go.RowKit
set_option linter.unusedVariables false

def rdC (cu : Nat) (m : Ms) : Array Value := cdC (.pointer (some ⟨cu, 0, none⟩)) 0 m (.slice none 0 0) false
theorem InvR.cells {w : World} {cb cu : Nat} {t : List UInt8} {s : Rd} (h : InvR w cb cu t s) : ∀ j, w.cell? ⟨cb, j, none⟩ = (rdC cu s.m)[j]? := Obj?.cells h.1
theorem InvR.froz {w : World} {cb cu : Nat} {t : List UInt8} {s : Rd} (h : InvR w cb cu t s) : ∀ j, w.frozen? ⟨cb, j, none⟩ = false := fun j => Obj?.frozen h.1 j
theorem InvR.below {w w' : World} {cb cu : Nat} {t : List UInt8} {s : Rd} (h : InvR w cb cu t s) (hb : Below w.heap.size w w') : InvR w' cb cu t s :=
  ⟨Obj?.below h.1 hb (Obj?.lt h.1), Obj?.below h.2.1 hb (Obj?.lt h.2.1), h.2.2⟩
def ReadSaid (p : Pt) : Prop := ∀ (w : World) (B cb cu : Nat) (t : List UInt8) (s : Rd), InvR w cb cu t s → cu ≠ cb → (t.length : Int) ≤ 9223372036854775807 → B ≤ w.heap.size → Calls Tryd.prog p.fn #[.pointer (some ⟨cb, 0, none⟩)] w fun r w' => r = .returned (.tuple #[]) ∧ InvR w' cb cu t (readP p t s) ∧ Kp B cb cu w w'

theorem read_gateway : ReadSaid .gateway := by
  intro w B cb cu t s h hne ht hB
  have H := Lib.hid (number_read (j := 9) (size := 1) h.1 rfl rfl rfl h.2.1 hne h.2.2 ht (by decide) hB)
  have hi := h.2.2
  clear h
  show Calls Tryd.prog 75 _ _ _
  go_enter Tryd.func75, Tryd.ntmps75
  go_wp2_with fail
  refine H.out.mono ?_
  rintro r w1 ⟨rfl, ho, hc, hk⟩
  have HF := Lib.hid (And.intro ho (And.intro hc hk))
  clear ho hc hk
  go_wp2
  go_end0
  exact ⟨rfl, ⟨HF.out.1, HF.out.2.1, takeI_le hi⟩, HF.out.2.2⟩

theorem read_radius : ReadSaid .radius := by
  intro w B cb cu t s h hne ht hB
  have H := Lib.hid (number_read (j := 10) (size := 1) h.1 rfl rfl rfl h.2.1 hne h.2.2 ht (by decide) hB)
  have hi := h.2.2
  clear h
  show Calls Tryd.prog 77 _ _ _
  go_enter Tryd.func77, Tryd.ntmps77
  go_wp2_with fail
  refine H.out.mono ?_
  rintro r w1 ⟨rfl, ho, hc, hk⟩
  have HF := Lib.hid (And.intro ho (And.intro hc hk))
  clear ho hc hk
  go_wp2
  go_end0
  exact ⟨rfl, ⟨HF.out.1, HF.out.2.1, takeI_le hi⟩, HF.out.2.2⟩

theorem read_code : ReadSaid .code := by
  intro w B cb cu t s h hne ht hB
  have H := Lib.hid (number_read (j := 15) (size := 1) h.1 rfl rfl rfl h.2.1 hne h.2.2 ht (by decide) hB)
  have hi := h.2.2
  clear h
  show Calls Tryd.prog 81 _ _ _
  go_enter Tryd.func81, Tryd.ntmps81
  go_wp2_with fail
  refine H.out.mono ?_
  rintro r w1 ⟨rfl, ho, hc, hk⟩
  have HF := Lib.hid (And.intro ho (And.intro hc hk))
  clear ho hc hk
  go_wp2
  go_end0
  exact ⟨rfl, ⟨HF.out.1, HF.out.2.1, takeI_le hi⟩, HF.out.2.2⟩

theorem read_time : ReadSaid .time := by
  intro w B cb cu t s h hne ht hB
  have H := Lib.hid (number_read (j := 11) (size := 2) h.1 rfl rfl rfl h.2.1 hne h.2.2 ht (by decide) hB)
  have hi := h.2.2
  clear h
  show Calls Tryd.prog 76 _ _ _
  go_enter Tryd.func76, Tryd.ntmps76
  go_wp2_with fail
  refine H.out.mono ?_
  rintro r w1 ⟨rfl, ho, hc, hk⟩
  have HF := Lib.hid (And.intro ho (And.intro hc hk))
  clear ho hc hk
  go_wp2
  go_end0
  exact ⟨rfl, ⟨HF.out.1, HF.out.2.1, takeI_le hi⟩, HF.out.2.2⟩

theorem read_id : ReadSaid .id := by
  intro w B cb cu t s h hne ht hB
  have H := Lib.hid (number_read (j := 13) (size := 2) h.1 rfl rfl rfl h.2.1 hne h.2.2 ht (by decide) hB)
  have hi := h.2.2
  clear h
  show Calls Tryd.prog 84 _ _ _
  go_enter Tryd.func84, Tryd.ntmps84
  go_wp2_with fail
  refine H.out.mono ?_
  rintro r w1 ⟨rfl, ho, hc, hk⟩
  have HF := Lib.hid (And.intro ho (And.intro hc hk))
  clear ho hc hk
  go_wp2
  go_end0
  exact ⟨rfl, ⟨HF.out.1, HF.out.2.1, takeI_le hi⟩, HF.out.2.2⟩

theorem read_msg : ReadSaid .msg := by
  intro w B cb cu t s h hne ht hB
  have H := Lib.hid (number_read (j := 14) (size := 2) h.1 rfl rfl rfl h.2.1 hne h.2.2 ht (by decide) hB)
  have hi := h.2.2
  clear h
  show Calls Tryd.prog 85 _ _ _
  go_enter Tryd.func85, Tryd.ntmps85
  go_wp2_with fail
  refine H.out.mono ?_
  rintro r w1 ⟨rfl, ho, hc, hk⟩
  have HF := Lib.hid (And.intro ho (And.intro hc hk))
  clear ho hc hk
  go_wp2
  go_end0
  exact ⟨rfl, ⟨HF.out.1, HF.out.2.1, takeI_le hi⟩, HF.out.2.2⟩

theorem read_name : ReadSaid .name := by
  intro w B cb cu t s h hne ht hB
  have H := Lib.hid (text_read (j := 16) h.1 rfl rfl rfl h.2.1 hne h.2.2 ht hB)
  have hi := h.2.2
  clear h
  show Calls Tryd.prog 78 _ _ _
  go_enter Tryd.func78, Tryd.ntmps78
  go_wp2_with fail
  refine H.out.mono ?_
  rintro r w1 ⟨rfl, ho, hc, hk⟩
  have HF := Lib.hid (And.intro ho (And.intro hc hk))
  clear ho hc hk
  go_wp2
  go_end0
  refine ⟨rfl, ⟨HF.out.1, HF.out.2.1, ?_⟩, HF.out.2.2⟩
  show (if s.e = 0 then t.length else s.i) ≤ t.length
  split
  · exact Nat.le_refl _
  · exact hi

theorem read_data : ReadSaid .data := by
  intro w B cb cu t s h hne ht hB
  have H := Lib.hid (text_read (j := 17) h.1 rfl rfl rfl h.2.1 hne h.2.2 ht hB)
  have hi := h.2.2
  clear h
  show Calls Tryd.prog 83 _ _ _
  go_enter Tryd.func83, Tryd.ntmps83
  go_wp2_with fail
  refine H.out.mono ?_
  rintro r w1 ⟨rfl, ho, hc, hk⟩
  have HF := Lib.hid (And.intro ho (And.intro hc hk))
  clear ho hc hk
  go_wp2
  go_end0
  refine ⟨rfl, ⟨HF.out.1, HF.out.2.1, ?_⟩, HF.out.2.2⟩
  show (if s.e = 0 then t.length else s.i) ≤ t.length
  split
  · exact Nat.le_refl _
  · exact hi

def set6 (w : World) (b : Nat) (f : Fl) : World := ((((((w.setCell ⟨b, 3, none⟩ (.bool f.dup)).setCell ⟨b, 4, none⟩ (.int .i64 f.q)).setCell ⟨b, 5, none⟩ (.bool f.retain)).setCell ⟨b, 6, none⟩ (.bool f.will)).setCell ⟨b, 7, none⟩ (.bool f.clean)).setCell ⟨b, 8, none⟩ (.int .i64 f.typ))
theorem obj_set6 {w : World} {b cu : Nat} {m : Ms} (h : Obj? w b (rdC cu m) 69) (f : Fl) : Obj? (set6 w b f) b (rdC cu { m with fl := f }) 69 :=
  (((((h.set 3 _).set 4 _).set 5 _).set 6 _).set 7 _).set 8 _
theorem grown_set6 (w : World) (b : Nat) (f : Fl) : w.grownBy (set6 w b f) (some b) :=
  grown_set (grown_set (grown_set (grown_set (grown_set (grown_set (World.grownBy.refl w _) (p := ⟨b, 3, none⟩) rfl _) (p := ⟨b, 4, none⟩) rfl _) (p := ⟨b, 5, none⟩) rfl _) (p := ⟨b, 6, none⟩) rfl _) (p := ⟨b, 7, none⟩) rfl _) (p := ⟨b, 8, none⟩) rfl _
theorem kp_set6 {B c d : Nat} {a w : World} (h : Kp B c d a w) (f : Fl) : Kp B c d a (set6 w c f) :=
  (((((h.set (.inl rfl)).set (.inl rfl)).set (.inl rfl)).set (.inl rfl)).set (.inl rfl)).set (.inl rfl)
theorem InvR.drewN {w : World} {cb cu : Nat} {t : List UInt8} {s : Rd} (h : InvR w cb cu t s) (k : Nat) : InvR (w.drewN k) cb cu t s := h
theorem Kp.drewN {B c d : Nat} {a b : World} (h : Kp B c d a b) (k : Nat) : Kp B c d a (b.drewN k) := ⟨h.os, h.tape, h.output, h.size, h.block⟩
theorem InvR.failed {w w' : World} {cb cu : Nat} {t : List UInt8} {s : Rd} (h : InvR w cb cu t s) (hne : cu ≠ cb) {x : Int} (hc : Cur w' cu t s.i (failE s.e x)) (hg : w.grownBy w' (some cu)) : InvR w' cb cu t (rdFail s x) :=
  ⟨h.1.kept hg (by simp; exact hne), hc, h.2.2⟩

set_option maxRecDepth 100000 in
set_option maxHeartbeats 1600000 in
theorem read_flags : ReadSaid .flags := by
  intro w B cb cu t s h hne ht hB
  have kc := h.cells
  simp only [rdC, cdC] at kc
  have HI := Lib.hid h
  have HB := Lib.hid hB
  clear h
  show Calls Tryd.prog 79 _ _ _
  go_enter Tryd.func79, Tryd.ntmps79
  go_wp2_with fail
  refine (flag_fl s.m.fl _).mono ?_
  rintro r w1 ⟨rfl, hb⟩
  obtain ⟨x, hx⟩ : ∃ x, x = (flagV s.m.fl).1 := ⟨_, rfl⟩
  rw [← hx]
  clear hx
  have hcl : cb < w1.heap.size := Nat.lt_of_lt_of_le (Obj?.lt HI.out.1) hb.size
  have hul : cu < w1.heap.size := Nat.lt_of_lt_of_le (Obj?.lt HI.out.2.1) hb.size
  have I2 := (HI.out.below hb).below (below_al (Below.refl _ _) (.cells #[.int .i64 x] 3 (0, 0)))
  have N := Obj?.new w1 #[.int .i64 x] 3
  have hB1 : B ≤ w1.heap.size := Nat.le_trans HB.out hb.size
  have hB2 : B ≤ (w1.alloc (.cells #[.int .i64 x] 3 (0, 0))).heap.size := Nat.le_trans hB1 (below_al (Below.refl _ _) _).size
  have H := Lib.hid (number_read_var (size := 1) I2.1 rfl rfl N I2.2.1 hne (by omega) (by omega) I2.2.2 ht (by decide) hB2 hB1)
  have kc1 := I2.cells
  simp only [rdC, cdC] at kc1
  have HK := Lib.hid ((Kp.of_below (B := B) (c := cb) (d := cu) hb HB.out).alloc HB.out (.cells #[.int .i64 x] 3 (0, 0)))
  clear hb I2 N kc
  go_wp2_with fail
  refine H.out.mono ?_
  rintro r w2 ⟨rfl, ho, hn, hc, hk⟩
  have kc2 := ho.cells
  simp only [cdC] at kc2
  have hk2 := HK.out.trans hk
  have hB3 := Nat.le_trans HB.out hk2.size
  have hcl2 := ho.lt
  have hul2 := Obj?.lt hc
  have HF := Lib.hid (And.intro ho (And.intro hc hk2))
  have kn := hn.cell 0 _ rfl
  have hi' := takeI_le (e := s.e) (n := 1) HI.out.2.2
  have HE := Lib.hid (err_any hc)
  clear ho hc hk hk2 hn kc1 H
  by_cases he : takeE t s.i s.e 1 = 0
  · have HL := Lib.hid (show readP .flags t s = ⟨{ s.m with fl := rfF (rdNum t s 1) }, takeI t s.i s.e 1, rfE (rdNum t s 1)⟩ by simp [readP, rdFlags, he])
    rw [he] at HF HE
    have hgl := getL_two (takeS t s.i s.e 1) (by have := takeS_len t s.i s.e 1; omega)
    obtain ⟨g, hg⟩ : ∃ g, g = getL (takeS t s.i s.e 1) := ⟨_, rfl⟩
    have HG := Lib.hid (show rdNum t s 1 = g from hg.symm)
    rw [← hg] at kn hgl
    clear he hg
    go_wp2_with fail
    refine HE.out.mono ?_
    rintro r w' ⟨rfl, hw⟩
    subst hw
    go_wp2_with fail
    refine (readflag_any g _).mono ?_
    rintro r w3 ⟨rfl, hb3⟩
    obtain ⟨o, hoo⟩ : ∃ o, o = Obj.cells #[.bool (rfF g).dup, .int .i64 (rfF g).q, .bool (rfF g).retain, .bool (rfF g).will, .bool (rfF g).clean, .int .i64 (rfF g).typ] 23 (0, 0) := ⟨_, rfl⟩
    have hcl3 := Nat.lt_of_lt_of_le hcl2 hb3.size
    have hul3 := Nat.lt_of_lt_of_le hul2 hb3.size
    have O3 := (HF.out.1.below hb3 hcl2).alloc o
    have C3 := Obj?.alloc (Obj?.below HF.out.2.1 hb3 hul2) o
    have N3 := Obj?.new w3 #[.bool (rfF g).dup, .int .i64 (rfF g).q, .bool (rfF g).retain, .bool (rfF g).will, .bool (rfF g).clean, .int .i64 (rfF g).typ] 23
    have K3 := (HF.out.2.2.trans (Kp.of_below hb3 hB3)).alloc HB.out o
    rw [← hoo] at N3
    have HFA := Lib.hid (fail_any C3 (rfE g))
    have kc3 := O3.cells
    simp only [cdC] at kc3
    rw [hoo] at kc3 HFA
    have HN := Lib.hid (And.intro O3 (And.intro N3 (And.intro K3 hoo)))
    clear O3 C3 N3 K3 hoo kc2
    go_wp2_with fail
    refine HFA.out.mono ?_
    rintro r w4 ⟨rfl, hc, hgr⟩
    rw [← HN.out.2.2.2] at hgr
    have O4 := HN.out.1.kept hgr (by simp; exact hne)
    have N4 := HN.out.2.1.kept hgr (by simp; omega)
    have kc4 := O4.cells
    simp only [cdC] at kc4
    have kf4 := O4.froz
    have kn4 := N4.cells
    have HM := Lib.hid (And.intro O4 (And.intro hc hgr))
    clear O4 N4 hc hgr kc3 kn
    go_wp2
    go_end0
    rw [HL.out, HG.out]
    have hk4 := HN.out.2.2.1.trans (Kp.of_grown (B := B) (c := cb) (d := cu) HM.out.2.2 (Nat.le_trans hB3 (Nat.le_trans hb3.size (below_al (Below.refl _ _) _).size)) (.inr (.inl rfl)))
    refine ⟨rfl, ⟨obj_set6 HM.out.1 (rfF g), Cur.kept HM.out.2.1 (grown_set6 w4 cb (rfF g)) (by simp; exact Ne.symm hne), hi'⟩, kp_set6 hk4 (rfF g)⟩
  · have HL := Lib.hid (show readP .flags t s = ⟨s.m, takeI t s.i s.e 1, takeE t s.i s.e 1⟩ by simp [readP, rdFlags, he])
    obtain ⟨e1, he1⟩ : ∃ e1, e1 = takeE t s.i s.e 1 := ⟨_, rfl⟩
    have de : (e1 == 0) = false := by rw [he1]; simpa using he
    rw [← he1] at HF HE HL
    clear he he1
    go_wp2_with fail
    refine HE.out.mono ?_
    rintro r w' ⟨rfl, hw⟩
    subst hw
    go_wp2
    go_end0
    rw [HL.out]
    exact ⟨rfl, ⟨HF.out.1, HF.out.2.1, hi'⟩, HF.out.2.2⟩

set_option maxRecDepth 100000 in
set_option maxHeartbeats 1600000 in
theorem read_protocol : ReadSaid .protocol := by
  intro w B cb cu t s h hne ht hB
  have hcl := Obj?.lt h.1
  have hul := Obj?.lt h.2.1
  have I2 := h.below (below_al (Below.refl _ _) (.cells #[.int .i64 1] 3 (0, 0)))
  have N := Obj?.new w #[.int .i64 1] 3
  have hB2 : B ≤ (w.alloc (.cells #[.int .i64 1] 3 (0, 0))).heap.size := Nat.le_trans hB (below_al (Below.refl _ _) _).size
  have H := Lib.hid (number_read_var (size := 1) I2.1 rfl rfl N I2.2.1 hne (by omega) (by omega) I2.2.2 ht (by decide) hB2 hB)
  have HI := Lib.hid h
  have HB := Lib.hid hB
  have HK := Lib.hid ((Kp.refl B cb cu w).alloc hB (.cells #[.int .i64 1] 3 (0, 0)))
  clear h I2 N
  show Calls Tryd.prog 80 _ _ _
  go_enter Tryd.func80, Tryd.ntmps80
  go_wp2_with fail
  refine H.out.mono ?_
  rintro r w2 ⟨rfl, ho, hn, hc, hk⟩
  have hi' := takeI_le (e := s.e) (n := 1) HI.out.2.2
  have I3 : InvR w2 cb cu t ⟨s.m, takeI t s.i s.e 1, takeE t s.i s.e 1⟩ := ⟨ho, hc, hi'⟩
  have kc2 := ho.cells
  simp only [cdC] at kc2
  have kn := hn.cells
  have hk2 := HK.out.trans hk
  have hB3 := Nat.le_trans HB.out hk2.size
  have HF := Lib.hid (And.intro I3 hk2)
  clear ho hc hk hk2 hn H I3
  obtain ⟨g, hg⟩ : ∃ g, g = getL (takeS t s.i s.e 1) := ⟨_, rfl⟩
  rw [← hg] at kn
  by_cases h1 : g = 1
  · have HL := Lib.hid (show readP .protocol t s = ⟨s.m, takeI t s.i s.e 1, takeE t s.i s.e 1⟩ by simp only [readP]; rw [if_pos (show rdNum t s 1 = 1 from hg.symm.trans h1)])
    have d1 : (g == 1) = true := by simpa using h1
    clear hg h1
    go_wp2
    go_end0
    rw [HL.out]
    exact ⟨rfl, HF.out.1, HF.out.2⟩
  · have HL := Lib.hid (show readP .protocol t s = rdFail ⟨s.m, takeI t s.i s.e 1, takeE t s.i s.e 1⟩ 5 by simp only [readP]; rw [if_neg (show ¬ rdNum t s 1 = 1 from fun hh => h1 (hg.trans hh))])
    have d1 : (g == 1) = false := by simpa using h1
    have HFA := Lib.hid (fail_any HF.out.1.2.1 5)
    clear hg h1
    go_wp2_with fail
    refine HFA.out.mono ?_
    rintro r w4 ⟨rfl, hc, hgr⟩
    have HM := Lib.hid (And.intro (HF.out.1.failed hne hc hgr) (HF.out.2.trans (Kp.of_grown (B := B) (c := cb) (d := cu) hgr hB3 (.inr (.inl rfl)))))
    clear hc hgr kn kc2
    go_wp2
    go_end0
    rw [HL.out]
    exact ⟨rfl, HM.out.1, HM.out.2⟩

set_option maxRecDepth 100000 in
set_option maxHeartbeats 1600000 in
theorem read_topic : ReadSaid .topic := by
  intro w B cb cu t s h hne ht hB
  have kc := h.cells
  simp only [rdC, cdC] at kc
  have HI := Lib.hid h
  clear h
  show Calls Tryd.prog 86 _ _ _
  by_cases hn : s.m.fl.typ = 0
  · have HL := Lib.hid (show readP .topic t s = readP .name t s by simp [readP, hn])
    have he : (s.m.fl.typ == 0) = true := by simpa using hn
    have H := Lib.hid (read_name w B cb cu t s HI.out hne ht hB)
    clear hn
    go_enter Tryd.func86, Tryd.ntmps86
    go_wp2_with fail
    refine H.out.mono ?_
    rintro r w2 ⟨rfl, ho, hk⟩
    have HO2 := Lib.hid (And.intro ho hk)
    clear ho hk kc
    go_wp2
    go_end0
    rw [HL.out]
    exact ⟨rfl, HO2.out.1, HO2.out.2⟩
  · have HL := Lib.hid (show readP .topic t s = readP .id t s by simp [readP, hn])
    have he : (s.m.fl.typ == 0) = false := by simpa using hn
    have H := Lib.hid (read_id w B cb cu t s HI.out hne ht hB)
    clear hn
    go_enter Tryd.func86, Tryd.ntmps86
    go_wp2_with fail
    refine H.out.mono ?_
    rintro r w2 ⟨rfl, ho, hk⟩
    have HO2 := Lib.hid (And.intro ho hk)
    clear ho hk kc
    go_wp2
    go_end0
    rw [HL.out]
    exact ⟨rfl, HO2.out.1, HO2.out.2⟩

set_option maxRecDepth 100000 in
set_option maxHeartbeats 1600000 in
theorem read_duration : ReadSaid .duration := by
  intro w B cb cu t s h hne ht hB
  have kc := h.cells
  simp only [rdC, cdC] at kc
  have kf := h.froz
  have HLf := Lib.hid (left_any h.2.1 h.2.2 ht)
  obtain ⟨L, hL⟩ : ∃ L, L = t.length - s.i := ⟨_, rfl⟩
  rw [← hL] at HLf
  have HI := Lib.hid h
  clear h
  show Calls Tryd.prog 87 _ _ _
  by_cases hn : L = 0
  · have HL := Lib.hid (show readP .duration t s = ⟨{ s.m with timed := false }, s.i, s.e⟩ by simp only [readP]; rw [if_pos (hL.symm.trans hn)])
    subst hn
    clear hL
    go_enter Tryd.func87, Tryd.ntmps87
    go_wp2_with fail
    refine HLf.out.mono ?_
    rintro r w2 ⟨rfl, k, rfl⟩
    have I2 : InvR ((w.drewN k).setCell ⟨cb, 12, none⟩ (.bool false)) cb cu t ⟨{ s.m with timed := false }, s.i, s.e⟩ := ⟨Obj?.set (HI.out.drewN k).1 12 _, Cur.kept (HI.out.drewN k).2.1 (row := some cb) (grown_set (World.grownBy.refl _ _) (p := ⟨cb, 12, none⟩) rfl _) (by simp; exact Ne.symm hne), HI.out.2.2⟩
    have K2 := ((Kp.refl B cb cu w).drewN k).set (j := 12) (v := .bool false) (.inl rfl)
    have kc2 := I2.cells
    simp only [rdC, cdC] at kc2
    have HF := Lib.hid (And.intro I2 K2)
    clear I2 K2
    go_wp2
    go_end0
    rw [HL.out]
    exact ⟨rfl, HF.out.1, HF.out.2⟩
  · have HL := Lib.hid (show readP .duration t s = readP .time t ⟨{ s.m with timed := true }, s.i, s.e⟩ by simp only [readP]; rw [if_neg (fun hh => hn (hL.trans hh))]; rfl)
    have hn0 : 0 < L := Nat.pos_of_ne_zero hn
    have d1 : decide (0 < L) = true := by simpa using hn0
    clear hL hn
    go_enter Tryd.func87, Tryd.ntmps87
    go_wp2_with fail
    refine HLf.out.mono ?_
    rintro r w2 ⟨rfl, k, rfl⟩
    have I2 : InvR ((w.drewN k).setCell ⟨cb, 12, none⟩ (.bool true)) cb cu t ⟨{ s.m with timed := true }, s.i, s.e⟩ := ⟨Obj?.set (HI.out.drewN k).1 12 _, Cur.kept (HI.out.drewN k).2.1 (row := some cb) (grown_set (World.grownBy.refl _ _) (p := ⟨cb, 12, none⟩) rfl _) (by simp; exact Ne.symm hne), HI.out.2.2⟩
    have K2 := ((Kp.refl B cb cu w).drewN k).set (j := 12) (v := .bool true) (.inl rfl)
    have kc2 := I2.cells
    simp only [rdC, cdC] at kc2
    have HF := Lib.hid (And.intro I2 K2)
    have H := Lib.hid (read_time _ B cb cu t _ I2 hne ht (Nat.le_trans hB K2.size))
    clear I2 K2
    go_wp2_with fail
    refine H.out.mono ?_
    rintro r w3 ⟨rfl, ho, hk⟩
    have kc3 := ho.cells
    simp only [rdC, cdC] at kc3
    have HO2 := Lib.hid (And.intro ho hk)
    clear ho hk kc kc2
    go_wp2
    go_end0
    rw [HL.out]
    exact ⟨rfl, HO2.out.1, HF.out.2.trans HO2.out.2⟩

set_option maxRecDepth 100000 in
set_option maxHeartbeats 3200000 in
theorem read_will : ReadSaid .will := by
  intro w B cb cu t s h hne ht hB
  have kc := h.cells
  simp only [rdC, cdC] at kc
  have HLf := Lib.hid (left_any h.2.1 h.2.2 ht)
  obtain ⟨L, hL⟩ : ∃ L, L = t.length - s.i := ⟨_, rfl⟩
  rw [← hL] at HLf
  have HI := Lib.hid h
  clear h
  show Calls Tryd.prog 82 _ _ _
  by_cases hn : L = 0
  · have HL := Lib.hid (show readP .will t s = s by simp only [readP]; rw [if_pos (hL.symm.trans hn)])
    subst hn
    clear hL
    go_enter Tryd.func82, Tryd.ntmps82
    go_wp2_with fail
    refine HLf.out.mono ?_
    rintro r w2 ⟨rfl, k, rfl⟩
    go_wp2
    (try simp only [Exit.inBlock, Exit.then])
    refine bodyPost_ret (results_none rfl _ _ _) rfl ?_
    rw [HL.out]
    exact ⟨rfl, HI.out.drewN k, (Kp.refl B cb cu w).drewN k⟩
  · have HL := Lib.hid (show readP .will t s = readP .name t (if t.length - (readP .flags t s).i = 0 then rdFail (readP .flags t s) 5 else readP .flags t s) by simp only [readP]; rw [if_neg (fun hh => hn (hL.trans hh))]; rfl)
    have d1 : ((L : Int) == 0) = false := by simpa using hn
    clear hL
    go_enter Tryd.func82, Tryd.ntmps82
    go_wp2_with fail
    refine HLf.out.mono ?_
    rintro r w2 ⟨rfl, k, rfl⟩
    have H := Lib.hid (read_flags _ B cb cu t s (HI.out.drewN k) hne ht hB)
    go_wp2_with fail
    refine H.out.mono ?_
    rintro r w3 ⟨rfl, ho, hk⟩
    obtain ⟨u, hu⟩ : ∃ u, u = readP .flags t s := ⟨_, rfl⟩
    rw [← hu] at HL ho
    clear hu
    have kc3 := ho.cells
    simp only [rdC, cdC] at kc3
    have hk3 := ((Kp.refl B cb cu w).drewN k).trans hk
    have hB3 := Nat.le_trans hB hk3.size
    have HF := Lib.hid (And.intro ho hk3)
    have HLg := Lib.hid (left_any ho.2.1 ho.2.2 ht)
    obtain ⟨M, hM⟩ : ∃ M, M = t.length - u.i := ⟨_, rfl⟩
    rw [← hM] at HLg HL
    clear hM ho hk hk3 kc H HLf
    by_cases hm : M = 0
    · subst hm
      rw [if_pos rfl] at HL
      go_wp2_with fail
      refine HLg.out.mono ?_
      rintro r w4 ⟨rfl, k2, rfl⟩
      have HFA := Lib.hid (fail_any (HF.out.1.drewN k2).2.1 5)
      go_wp2_with fail
      refine HFA.out.mono ?_
      rintro r w5 ⟨rfl, hc, hgr⟩
      have I5 := (HF.out.1.drewN k2).failed hne hc hgr
      have K5 := (HF.out.2.drewN k2).trans (Kp.of_grown (B := B) (c := cb) (d := cu) hgr hB3 (.inr (.inl rfl)))
      have H5 := Lib.hid (read_name _ B cb cu t _ I5 hne ht (Nat.le_trans hB K5.size))
      have HK5 := Lib.hid K5
      clear hc hgr I5 K5 kc3
      go_wp2_with fail
      refine H5.out.mono ?_
      rintro r w6 ⟨rfl, ho, hk⟩
      have HO2 := Lib.hid (And.intro ho hk)
      clear ho hk
      go_wp2
      go_end0
      rw [HL.out]
      exact ⟨rfl, HO2.out.1, HK5.out.trans HO2.out.2⟩
    · rw [if_neg hm] at HL
      have d2 : ((M : Int) == 0) = false := by simpa using hm
      go_wp2_with fail
      refine HLg.out.mono ?_
      rintro r w4 ⟨rfl, k2, rfl⟩
      have H5 := Lib.hid (read_name _ B cb cu t _ (HF.out.1.drewN k2) hne ht hB3)
      clear kc3
      go_wp2_with fail
      refine H5.out.mono ?_
      rintro r w6 ⟨rfl, ho, hk⟩
      have HO2 := Lib.hid (And.intro ho hk)
      clear ho hk
      go_wp2
      go_end0
      rw [HL.out]
      exact ⟨rfl, HO2.out.1, (HF.out.2.drewN k2).trans HO2.out.2⟩

theorem read_all (p : Pt) : ReadSaid p := by
  cases p
  · exact read_gateway
  · exact read_radius
  · exact read_code
  · exact read_time
  · exact read_id
  · exact read_msg
  · exact read_name
  · exact read_data
  · exact read_flags
  · exact read_protocol
  · exact read_will
  · exact read_topic
  · exact read_duration
end Go.Proofs.YtbacnaplpfmpnaaDoor
