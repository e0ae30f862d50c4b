/- snmsg: the parts that write. -/
import Derived.Test.YtbacnaplpfmpnaaDoorMsB
namespace Go.Proofs.YtbacnaplpfmpnaaDoor
open Go.RowKit
set_option linter.unusedVariables false

theorem InvW.below {w w' : World} {B cb : Nat} {m : Ms} {out : List UInt8} (h : InvW w B cb m out) (hb : Below w.heap.size w w') : InvW w' B cb m out := by
  obtain ⟨h1, h2, v, h3, h4⟩ := h
  exact ⟨h1, Nat.le_trans h2 hb.size, v, h3.below hb h3.lt, own_below hb h4⟩
def wrC (m : Ms) (v : Value) : Array Value := cdC (.pointer none) 1 m v false
theorem wrC_set (m : Ms) (v u : Value) : (wrC m v).setIfInBounds 18 u = wrC m u := rfl
theorem num_write {w : World} {B cb j : Nat} {m : Ms} {out : List UInt8} {x size : Int} (h : InvW w B cb m out) (hl : (out.length : Int) ≤ 50000000) (hj : ∀ v, (wrC m v)[j]? = some (.int .i64 x)) (hx : 0 ≤ x ∧ x ≤ 65535) (hs : size = 1 ∨ size = 2) :
    Calls Tryd.prog 94 #[.pointer (some ⟨cb, 0, none⟩), .pointer (some ⟨cb, j, none⟩), .int .i64 size] w fun e w' => e = .returned (.tuple #[]) ∧ InvW w' B cb m (out ++ putL x size) ∧ Kp B cb cb w w' := by
  obtain ⟨h1, h2, v, h3, h4⟩ := h
  have h3' : Obj? w cb (wrC m v) 69 := h3
  refine (number_write (pb := cb) (pj := j) h3' rfl rfl (h3'.cell j _ (hj v)) h3.lt hx.1 (by omega) hs h4 (by omega) h1 h2 (.inl h1)).mono ?_
  rintro e w' ⟨rfl, v', ho, hw, hk⟩
  refine ⟨rfl, ⟨h1, Nat.le_trans h2 hk.size, v', ho, ?_⟩, hk⟩
  have e : (out ++ putL x size).length = out.length + size.toNat := by rw [List.length_append, length_putL]; rcases hs with rfl | rfl <;> rfl
  rw [e]; exact hw
theorem num_write_var {w : World} {B cb nb : Nat} {m : Ms} {out : List UInt8} {x size : Int} {T : TypeId} (h : InvW w B cb m out) (hl : (out.length : Int) ≤ 50000000) (hn : Obj? w nb #[.int .i64 x] T) (hx : 0 ≤ x ∧ x ≤ 65535) (hs : size = 1 ∨ size = 2) (hnv : ∀ v, Obj? w cb (wrC m v) 69 → ∀ g, v.ownBlock = some g → g ≠ nb) :
    Calls Tryd.prog 94 #[.pointer (some ⟨cb, 0, none⟩), .pointer (some ⟨nb, 0, none⟩), .int .i64 size] w fun e w' => e = .returned (.tuple #[]) ∧ InvW w' B cb m (out ++ putL x size) ∧ Kp B cb cb w w' := by
  obtain ⟨h1, h2, v, h3, h4⟩ := h
  refine (number_write (pb := nb) (pj := 0) h3 rfl rfl (hn.cell 0 _ rfl) hn.lt hx.1 (by omega) hs h4 (by omega) h1 h2 (.inr (hnv v h3))).mono ?_
  rintro e w' ⟨rfl, v', ho, hw, hk⟩
  refine ⟨rfl, ⟨h1, Nat.le_trans h2 hk.size, v', ho, ?_⟩, hk⟩
  have e : (out ++ putL x size).length = out.length + size.toNat := by rw [List.length_append, length_putL]; rcases hs with rfl | rfl <;> rfl
  rw [e]; exact hw
theorem txt_write {w : World} {B cb j : Nat} {m : Ms} {out s : List UInt8} (h : InvW w B cb m out) (hl : (out.length : Int) ≤ 50000000) (hj : ∀ v, (wrC m v)[j]? = some (.string ⟨s.toArray⟩)) (hs : (s.length : Int) ≤ 100000) :
    Calls Tryd.prog 95 #[.pointer (some ⟨cb, 0, none⟩), .pointer (some ⟨cb, j, none⟩)] w fun e w' => e = .returned (.tuple #[]) ∧ InvW w' B cb m (out ++ s) ∧ Kp B cb cb w w' := by
  obtain ⟨h1, h2, v, h3, h4⟩ := h
  have h3' : Obj? w cb (wrC m v) 69 := h3
  refine (text_write (pj := j) h3' rfl rfl (hj v) h4 (by omega) (by omega) h1 h2).mono ?_
  rintro e w' ⟨rfl, v', ho, hw, hk⟩
  refine ⟨rfl, ⟨h1, Nat.le_trans h2 hk.size, v', ho, ?_⟩, hk⟩
  rw [List.length_append]; exact hw

def WriteB (M : Int) (p : Pt) : Prop := ∀ (w : World) (B cb : Nat) (m : Ms) (out : List UInt8), InvW w B cb m out → MsOk m → (out.length : Int) ≤ M → Calls Tryd.prog p.fn #[.pointer (some ⟨cb, 0, none⟩)] w fun r w' => r = .returned (.tuple #[]) ∧ InvW w' B cb m (out ++ writeP p m) ∧ Kp B cb cb w w'
abbrev WriteSaid (p : Pt) : Prop := WriteB 49000000 p
theorem InvW.cells {w : World} {B cb : Nat} {m : Ms} {out : List UInt8} (h : InvW w B cb m out) : ∃ v, ∀ j, w.cell? ⟨cb, j, none⟩ = (wrC m v)[j]? := by
  obtain ⟨h1, h2, v, h3, h4⟩ := h
  exact ⟨v, h3.cells⟩

theorem write_gateway : WriteSaid .gateway := by
  intro w B cb m out h hm hl
  have H := Lib.hid (num_write (j := 9) (x := m.gw) (size := 1) h (by omega) (fun _ => rfl) (show 0 ≤ m.gw ∧ m.gw ≤ 65535 from hm.1) (by decide))
  clear h
  show Calls Tryd.prog 75 _ _ _
  go_enter Tryd.func75, Tryd.ntmps75
  go_wp2_with fail
  refine H.out.mono ?_
  rintro r w1 ⟨rfl, ho, hk⟩
  have HF := Lib.hid (And.intro ho hk)
  clear ho hk
  go_wp2
  go_end0
  exact ⟨rfl, HF.out.1, HF.out.2⟩

theorem write_radius : WriteSaid .radius := by
  intro w B cb m out h hm hl
  have H := Lib.hid (num_write (j := 10) (x := m.rad) (size := 1) h (by omega) (fun _ => rfl) (show 0 ≤ m.rad ∧ m.rad ≤ 65535 from hm.2.1) (by decide))
  clear h
  show Calls Tryd.prog 77 _ _ _
  go_enter Tryd.func77, Tryd.ntmps77
  go_wp2_with fail
  refine H.out.mono ?_
  rintro r w1 ⟨rfl, ho, hk⟩
  have HF := Lib.hid (And.intro ho hk)
  clear ho hk
  go_wp2
  go_end0
  exact ⟨rfl, HF.out.1, HF.out.2⟩

theorem write_code : WriteSaid .code := by
  intro w B cb m out h hm hl
  have H := Lib.hid (num_write (j := 15) (x := m.code) (size := 1) h (by omega) (fun _ => rfl) (show 0 ≤ m.code ∧ m.code ≤ 65535 from hm.2.2.2.2.2.1) (by decide))
  clear h
  show Calls Tryd.prog 81 _ _ _
  go_enter Tryd.func81, Tryd.ntmps81
  go_wp2_with fail
  refine H.out.mono ?_
  rintro r w1 ⟨rfl, ho, hk⟩
  have HF := Lib.hid (And.intro ho hk)
  clear ho hk
  go_wp2
  go_end0
  exact ⟨rfl, HF.out.1, HF.out.2⟩

theorem write_time : WriteSaid .time := by
  intro w B cb m out h hm hl
  have H := Lib.hid (num_write (j := 11) (x := m.time) (size := 2) h (by omega) (fun _ => rfl) (show 0 ≤ m.time ∧ m.time ≤ 65535 from hm.2.2.1) (by decide))
  clear h
  show Calls Tryd.prog 76 _ _ _
  go_enter Tryd.func76, Tryd.ntmps76
  go_wp2_with fail
  refine H.out.mono ?_
  rintro r w1 ⟨rfl, ho, hk⟩
  have HF := Lib.hid (And.intro ho hk)
  clear ho hk
  go_wp2
  go_end0
  exact ⟨rfl, HF.out.1, HF.out.2⟩

theorem write_id : WriteSaid .id := by
  intro w B cb m out h hm hl
  have H := Lib.hid (num_write (j := 13) (x := m.tid) (size := 2) h (by omega) (fun _ => rfl) (show 0 ≤ m.tid ∧ m.tid ≤ 65535 from hm.2.2.2.1) (by decide))
  clear h
  show Calls Tryd.prog 84 _ _ _
  go_enter Tryd.func84, Tryd.ntmps84
  go_wp2_with fail
  refine H.out.mono ?_
  rintro r w1 ⟨rfl, ho, hk⟩
  have HF := Lib.hid (And.intro ho hk)
  clear ho hk
  go_wp2
  go_end0
  exact ⟨rfl, HF.out.1, HF.out.2⟩

theorem write_msg : WriteSaid .msg := by
  intro w B cb m out h hm hl
  have H := Lib.hid (num_write (j := 14) (x := m.mid) (size := 2) h (by omega) (fun _ => rfl) (show 0 ≤ m.mid ∧ m.mid ≤ 65535 from hm.2.2.2.2.1) (by decide))
  clear h
  show Calls Tryd.prog 85 _ _ _
  go_enter Tryd.func85, Tryd.ntmps85
  go_wp2_with fail
  refine H.out.mono ?_
  rintro r w1 ⟨rfl, ho, hk⟩
  have HF := Lib.hid (And.intro ho hk)
  clear ho hk
  go_wp2
  go_end0
  exact ⟨rfl, HF.out.1, HF.out.2⟩

theorem write_name : WriteSaid .name := by
  intro w B cb m out h hm hl
  have H := Lib.hid (txt_write (j := 16) (s := m.name) h (by omega) (fun _ => rfl) (show (m.name.length : Int) ≤ 100000 from hm.2.2.2.2.2.2.1))
  clear h
  show Calls Tryd.prog 78 _ _ _
  go_enter Tryd.func78, Tryd.ntmps78
  go_wp2_with fail
  refine H.out.mono ?_
  rintro r w1 ⟨rfl, ho, hk⟩
  have HF := Lib.hid (And.intro ho hk)
  clear ho hk
  go_wp2
  go_end0
  exact ⟨rfl, HF.out.1, HF.out.2⟩

theorem write_data : WriteSaid .data := by
  intro w B cb m out h hm hl
  have H := Lib.hid (txt_write (j := 17) (s := m.data) h (by omega) (fun _ => rfl) (show (m.data.length : Int) ≤ 100000 from hm.2.2.2.2.2.2.2.1))
  clear h
  show Calls Tryd.prog 83 _ _ _
  go_enter Tryd.func83, Tryd.ntmps83
  go_wp2_with fail
  refine H.out.mono ?_
  rintro r w1 ⟨rfl, ho, hk⟩
  have HF := Lib.hid (And.intro ho hk)
  clear ho hk
  go_wp2
  go_end0
  exact ⟨rfl, HF.out.1, HF.out.2⟩

theorem flagV_range {f : Fl} (h : flagOk f.q f.typ = true) : 0 ≤ (flagV f).1 ∧ (flagV f).1 ≤ 65535 := by
  obtain ⟨h1, h2, h3, h4⟩ := (by simpa [flagOk] using h : -1 ≤ f.q ∧ f.q ≤ 2 ∧ 0 ≤ f.typ ∧ f.typ ≤ 2)
  unfold flagV flagF
  rw [if_pos h]
  show 0 ≤ flagN f.dup f.q f.retain f.will f.clean f.typ ∧ flagN f.dup f.q f.retain f.will f.clean f.typ ≤ 65535
  unfold flagN bitN
  constructor
  · have : 0 ≤ f.q % 4 := Int.emod_nonneg _ (by decide)
    split <;> split <;> split <;> split <;> omega
  · have : f.q % 4 < 4 := Int.emod_lt_of_pos _ (by decide)
    split <;> split <;> split <;> split <;> omega
theorem own_ne {w : World} {B cb : Nat} {m : Ms} {out : List UInt8} (h : InvW w B cb m out) {nb : Nat} (hn : w.heap.size ≤ nb) : ∀ v, Obj? w cb (wrC m v) 69 → ∀ g, v.ownBlock = some g → g ≠ nb := by
  intro v hv g hg
  obtain ⟨h1, h2, v', h3, h4⟩ := h
  have e : v = v' := by
    have a1 := hv.cell 18 v rfl
    have a2 := h3.cell 18 v' rfl
    exact Option.some.inj (a1.symm.trans a2)
  subst e
  have := (h4.lt g hg).2
  omega

set_option maxRecDepth 100000 in
set_option maxHeartbeats 800000 in
theorem write_flags : WriteSaid .flags := by
  intro w B cb m out h hm hl
  obtain ⟨v0, kc⟩ := h.cells
  simp only [wrC, cdC] at kc
  have hfr := flagV_range hm.2.2.2.2.2.2.2.2
  have HI := Lib.hid h
  clear h
  show Calls Tryd.prog 79 _ _ _
  go_enter Tryd.func79, Tryd.ntmps79
  go_wp2_with fail
  refine (flag_fl m.fl _).mono ?_
  rintro r w1 ⟨rfl, hb⟩
  obtain ⟨x, hx⟩ : ∃ x, x = (flagV m.fl).1 := ⟨_, rfl⟩
  rw [← hx] at hfr ⊢
  have HX := Lib.hid hx
  clear hx
  have I1 := HI.out.below hb
  have I2 := I1.below (below_al (Below.refl _ _) (.cells #[.int .i64 x] 3 (0, 0)))
  have N := Obj?.new w1 #[.int .i64 x] 3
  have H := Lib.hid (num_write_var (size := 1) I2 (by omega) N hfr (by decide) (fun v hv => by
    have hlt : cb < w1.heap.size := by have := I1.1; have := I1.2.1; omega
    have hv' : Obj? w1 cb (wrC m v) 69 := by
      unfold Obj? at hv ⊢
      rw [← hv]; exact (((Below.refl w1.heap.size w1).alloc (Nat.le_refl _) _).block cb hlt).symm
    exact own_ne I1 (Nat.le_refl _) v hv'))
  obtain ⟨v1, kc1⟩ := I2.cells
  simp only [wrC, cdC] at kc1
  have HB := Lib.hid (And.intro hb (Nat.le_trans HI.out.2.1 hb.size))
  clear hb I1 I2 N kc
  go_wp2_with fail
  refine H.out.mono ?_
  rintro r w2 ⟨rfl, ho, hk⟩
  obtain ⟨v2, kc2⟩ := ho.cells
  simp only [wrC, cdC] at kc2
  have HF := Lib.hid (And.intro ho hk)
  clear ho hk kc1
  go_wp2
  go_end0
  refine ⟨rfl, ?_, ((Kp.of_below HB.out.1 HI.out.2.1).alloc HI.out.2.1 _).trans HF.out.2⟩
  have := HF.out.1
  rw [HX.out] at this
  exact this

set_option maxRecDepth 100000 in
set_option maxHeartbeats 800000 in
theorem write_protocol : WriteSaid .protocol := by
  intro w B cb m out h hm hl
  have I2 := h.below (below_al (Below.refl _ _) (.cells #[.int .i64 1] 3 (0, 0)))
  have N := Obj?.new w #[.int .i64 1] 3
  have H := Lib.hid (num_write_var (size := 1) I2 (by omega) N (by decide) (by decide) (fun v hv => by
    have hlt : cb < w.heap.size := by have := h.1; have := h.2.1; omega
    have hv' : Obj? w cb (wrC m v) 69 := by
      unfold Obj? at hv ⊢
      rw [← hv]; exact (((Below.refl w.heap.size w).alloc (Nat.le_refl _) _).block cb hlt).symm
    exact own_ne h (Nat.le_refl _) v hv'))
  have hB := h.2.1
  clear h I2 N
  show Calls Tryd.prog 80 _ _ _
  go_enter Tryd.func80, Tryd.ntmps80
  go_wp2_with fail
  refine H.out.mono ?_
  rintro r w1 ⟨rfl, ho, hk⟩
  obtain ⟨v2, kc2⟩ := ho.cells
  simp only [wrC, cdC] at kc2
  have HF := Lib.hid (And.intro ho hk)
  clear ho hk
  go_wp2
  go_end0
  exact ⟨rfl, HF.out.1, ((Kp.refl B cb cb w).alloc hB _).trans HF.out.2⟩

set_option maxRecDepth 100000 in
set_option maxHeartbeats 800000 in
theorem write_will : WriteB 40000000 .will := by
  intro w B cb m out h hm hl
  obtain ⟨v0, kc⟩ := h.cells
  simp only [wrC, cdC] at kc
  have HI := Lib.hid h
  clear h
  show Calls Tryd.prog 82 _ _ _
  by_cases hn : m.name = []
  · have HL := Lib.hid (show out ++ writeP .will m = out by simp [writeP, hn])
    have he : m.name.isEmpty = true := by rw [hn]; rfl
    rw [HL.out]
    clear hn
    go_enter Tryd.func82, Tryd.ntmps82
    go_wp2
    (try simp only [Exit.inBlock, Exit.then])
    refine bodyPost_ret (results_none rfl _ _ _) rfl ?_
    exact ⟨rfl, HI.out, Kp.refl _ _ _ _⟩
  · have HL := Lib.hid (show out ++ writeP .will m = out ++ writeP .flags m ++ writeP .name m by simp [writeP, hn])
    have he : m.name.isEmpty = false := by cases hm : m.name with | nil => exact absurd hm hn | cons _ _ => rfl
    rw [HL.out]
    clear hn
    go_enter Tryd.func82, Tryd.ntmps82
    go_wp2_with fail
    refine (write_flags w B cb m out HI.out hm (by omega)).mono ?_
    rintro r w1 ⟨rfl, ho, hk⟩
    obtain ⟨v1, kc1⟩ := ho.cells
    simp only [wrC, cdC] at kc1
    have hl1 : ((out ++ writeP .flags m).length : Int) ≤ 40000000 + 1 := by
      have : (writeP .flags m).length = 1 := by show (putL _ 1).length = 1; rw [length_putL]; rfl
      rw [List.length_append, this]; omega
    have HO1 := Lib.hid (And.intro ho hk)
    clear ho hk kc
    have H2 := Lib.hid (write_name w1 B cb m _ HO1.out.1 hm (by omega))
    go_wp2_with fail
    refine H2.out.mono ?_
    rintro r w2 ⟨rfl, ho, hk⟩
    have HO2 := Lib.hid (And.intro ho hk)
    clear ho hk kc1
    go_wp2
    go_end0
    exact ⟨rfl, HO2.out.1, HO1.out.2.trans HO2.out.2⟩

theorem write_topic : WriteSaid .topic := by
  intro w B cb m out h hm hl
  obtain ⟨v0, kc⟩ := h.cells
  simp only [wrC, cdC] at kc
  have HI := Lib.hid h
  clear h
  show Calls Tryd.prog 86 _ _ _
  by_cases hn : m.fl.typ = 0
  · have HL := Lib.hid (show writeP .topic m = writeP .name m by simp [writeP, hn])
    have he : (m.fl.typ == 0) = true := by simpa using hn
    rw [HL.out]
    clear hn
    go_enter Tryd.func86, Tryd.ntmps86
    go_wp2_with fail
    refine (write_name w B cb m out HI.out hm hl).mono ?_
    rintro r w2 ⟨rfl, ho, hk⟩
    have HO2 := Lib.hid (And.intro ho hk)
    clear ho hk kc
    go_wp2
    go_end0
    exact ⟨rfl, HO2.out.1, HO2.out.2⟩
  · have HL := Lib.hid (show writeP .topic m = writeP .id m by simp [writeP, hn])
    have he : (m.fl.typ == 0) = false := by simpa using hn
    rw [HL.out]
    clear hn
    go_enter Tryd.func86, Tryd.ntmps86
    go_wp2_with fail
    refine (write_id w B cb m out HI.out hm hl).mono ?_
    rintro r w2 ⟨rfl, ho, hk⟩
    have HO2 := Lib.hid (And.intro ho hk)
    clear ho hk kc
    go_wp2
    go_end0
    exact ⟨rfl, HO2.out.1, HO2.out.2⟩

theorem write_duration : WriteSaid .duration := by
  intro w B cb m out h hm hl
  obtain ⟨v0, kc⟩ := h.cells
  simp only [wrC, cdC] at kc
  have HI := Lib.hid h
  clear h
  show Calls Tryd.prog 87 _ _ _
  cases ht : m.timed with
  | false =>
    have HL := Lib.hid (show out ++ writeP .duration m = out by simp [writeP, ht])
    rw [HL.out]
    rw [ht] at kc
    clear ht
    go_enter Tryd.func87, Tryd.ntmps87
    go_wp2
    go_end0
    exact ⟨rfl, HI.out, Kp.refl _ _ _ _⟩
  | true =>
    have HL := Lib.hid (show writeP .duration m = writeP .time m by simp [writeP, ht])
    rw [HL.out]
    have HT := Lib.hid ht
    rw [ht] at kc
    clear ht
    go_enter Tryd.func87, Tryd.ntmps87
    go_wp2_with fail
    refine (write_time w B cb m out HI.out hm hl).mono ?_
    rintro r w1 ⟨rfl, ho, hk⟩
    obtain ⟨v1, kc1⟩ := ho.cells
    simp only [wrC, cdC] at kc1
    have HO2 := Lib.hid (And.intro ho hk)
    clear ho hk kc
    go_wp2
    go_end0
    exact ⟨rfl, HO2.out.1, HO2.out.2⟩
theorem WriteB.le {M M' : Int} {p : Pt} (h : WriteB M p) (hM : M' ≤ M) : WriteB M' p :=
  fun w B cb m out h1 h2 h3 => h w B cb m out h1 h2 (Int.le_trans h3 hM)
theorem write_all (p : Pt) : WriteB 40000000 p := by
  cases p with
  | gateway => exact write_gateway.le (by decide)
  | radius => exact write_radius.le (by decide)
  | code => exact write_code.le (by decide)
  | time => exact write_time.le (by decide)
  | id => exact write_id.le (by decide)
  | msg => exact write_msg.le (by decide)
  | name => exact write_name.le (by decide)
  | data => exact write_data.le (by decide)
  | flags => exact write_flags.le (by decide)
  | protocol => exact write_protocol.le (by decide)
  | will => exact write_will
  | topic => exact write_topic.le (by decide)
  | duration => exact write_duration.le (by decide)
end Go.Proofs.YtbacnaplpfmpnaaDoor
