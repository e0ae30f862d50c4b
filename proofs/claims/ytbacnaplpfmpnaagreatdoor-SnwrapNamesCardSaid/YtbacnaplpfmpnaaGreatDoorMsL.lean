/- snmsg: layout. snmsg: through. snmsg: through, in each of the three modes; rest. -/
import Derived.Test.YtbacnaplpfmpnaaGreatDoorMsB
import Derived.Great.BuildSlice
import Derived.Shelf.Abstract
import Derived.Test.YtbacnaplpfmpnaaGreatDoorMsF
import Derived.Deep.WholeRow
import Derived.Deep.Cut
namespace Go.Proofs.YtbacnaplpfmpnaaGreatDoor
open Go.RowKit
set_option linter.unusedVariables false

/-- A part as a value. -/
def Pt.val (cb : Nat) (p : Pt) : Value := .func (.func p.fn) #[.pointer (some ⟨cb, 0, none⟩)] #[]
def ptsV (cb : Nat) (ps : List Pt) : Array Value := (ps.map (Pt.val cb)).toArray
/-- A slice of parts. -/
def PtsAt (w : World) (cb A : Nat) (v : Value) (ps : List Pt) : Prop := (ps = [] ∧ v = .slice none 0 0) ∨ ∃ g, A ≤ g ∧ v = .slice (some ⟨g, 0, none⟩) ps.length ps.length ∧ Obj? w g (ptsV cb ps) 1
def LayoutSaid (k : Int) : Prop := ∀ (w : World) (cb : Nat), w.cell? ⟨cb, 2, none⟩ = some (.int .i64 k) →
    Calls Tryz.prog 91 #[.pointer (some ⟨cb, 0, none⟩)] w fun r w' => ∃ v, r = .returned v ∧ PtsAt w' cb w.heap.size v (layoutF k) ∧ Below w.heap.size w w'
theorem layout_got {w : World} {cb : Nat} {ps : List Pt} : PtsAt (w.alloc (.cells (ptsV cb ps) 1 (0, 0))) cb w.heap.size (.slice (some ⟨w.heap.size, 0, none⟩) ps.length ps.length) ps ∧ Below w.heap.size w (w.alloc (.cells (ptsV cb ps) 1 (0, 0))) :=
  ⟨.inr ⟨w.heap.size, Nat.le_refl _, rfl, Obj?.new w _ _⟩, below_al (Below.refl _ _) _⟩
def kindM (k : Int) : Bool := decide ((0 ≤ k ∧ k ≤ 2) ∨ (4 ≤ k ∧ k ≤ 16) ∨ (18 ≤ k ∧ k ≤ 24) ∨ (26 ≤ k ∧ k ≤ 29))

theorem layout_0 : LayoutSaid 0 := by
  intro w cb h
  go_enter Tryz.func91, Tryz.ntmps91
  go_wp2
  go_ret
  exact ⟨_, rfl, layout_got (ps := layoutF 0)⟩

theorem layout_1 : LayoutSaid 1 := by
  intro w cb h
  go_enter Tryz.func91, Tryz.ntmps91
  go_wp2
  go_ret
  exact ⟨_, rfl, layout_got (ps := layoutF 1)⟩

theorem layout_2 : LayoutSaid 2 := by
  intro w cb h
  go_enter Tryz.func91, Tryz.ntmps91
  go_wp2
  go_ret
  exact ⟨_, rfl, layout_got (ps := layoutF 2)⟩

theorem layout_4 : LayoutSaid 4 := by
  intro w cb h
  go_enter Tryz.func91, Tryz.ntmps91
  go_wp2
  go_ret
  exact ⟨_, rfl, layout_got (ps := layoutF 4)⟩

theorem layout_5 : LayoutSaid 5 := by
  intro w cb h
  go_enter Tryz.func91, Tryz.ntmps91
  go_wp2
  go_ret
  exact ⟨_, rfl, layout_got (ps := layoutF 5)⟩

theorem layout_6 : LayoutSaid 6 := by
  intro w cb h
  go_enter Tryz.func91, Tryz.ntmps91
  go_wp2
  go_ret
  exact ⟨_, rfl, .inl ⟨rfl, rfl⟩, Below.refl _ _⟩

theorem layout_7 : LayoutSaid 7 := by
  intro w cb h
  go_enter Tryz.func91, Tryz.ntmps91
  go_wp2
  go_ret
  exact ⟨_, rfl, layout_got (ps := layoutF 7)⟩

theorem layout_8 : LayoutSaid 8 := by
  intro w cb h
  go_enter Tryz.func91, Tryz.ntmps91
  go_wp2
  go_ret
  exact ⟨_, rfl, .inl ⟨rfl, rfl⟩, Below.refl _ _⟩

theorem layout_9 : LayoutSaid 9 := by
  intro w cb h
  go_enter Tryz.func91, Tryz.ntmps91
  go_wp2
  go_ret
  exact ⟨_, rfl, layout_got (ps := layoutF 9)⟩

theorem layout_10 : LayoutSaid 10 := by
  intro w cb h
  go_enter Tryz.func91, Tryz.ntmps91
  go_wp2
  go_ret
  exact ⟨_, rfl, layout_got (ps := layoutF 10)⟩

theorem layout_11 : LayoutSaid 11 := by
  intro w cb h
  go_enter Tryz.func91, Tryz.ntmps91
  go_wp2
  go_ret
  exact ⟨_, rfl, layout_got (ps := layoutF 11)⟩

theorem layout_12 : LayoutSaid 12 := by
  intro w cb h
  go_enter Tryz.func91, Tryz.ntmps91
  go_wp2
  go_ret
  exact ⟨_, rfl, layout_got (ps := layoutF 12)⟩

theorem layout_13 : LayoutSaid 13 := by
  intro w cb h
  go_enter Tryz.func91, Tryz.ntmps91
  go_wp2
  go_ret
  exact ⟨_, rfl, layout_got (ps := layoutF 13)⟩

theorem layout_14 : LayoutSaid 14 := by
  intro w cb h
  go_enter Tryz.func91, Tryz.ntmps91
  go_wp2
  go_ret
  exact ⟨_, rfl, layout_got (ps := layoutF 14)⟩

theorem layout_15 : LayoutSaid 15 := by
  intro w cb h
  go_enter Tryz.func91, Tryz.ntmps91
  go_wp2
  go_ret
  exact ⟨_, rfl, layout_got (ps := layoutF 15)⟩

theorem layout_16 : LayoutSaid 16 := by
  intro w cb h
  go_enter Tryz.func91, Tryz.ntmps91
  go_wp2
  go_ret
  exact ⟨_, rfl, layout_got (ps := layoutF 16)⟩

theorem layout_18 : LayoutSaid 18 := by
  intro w cb h
  go_enter Tryz.func91, Tryz.ntmps91
  go_wp2
  go_ret
  exact ⟨_, rfl, layout_got (ps := layoutF 18)⟩

theorem layout_19 : LayoutSaid 19 := by
  intro w cb h
  go_enter Tryz.func91, Tryz.ntmps91
  go_wp2
  go_ret
  exact ⟨_, rfl, layout_got (ps := layoutF 19)⟩

theorem layout_20 : LayoutSaid 20 := by
  intro w cb h
  go_enter Tryz.func91, Tryz.ntmps91
  go_wp2
  go_ret
  exact ⟨_, rfl, layout_got (ps := layoutF 20)⟩

theorem layout_21 : LayoutSaid 21 := by
  intro w cb h
  go_enter Tryz.func91, Tryz.ntmps91
  go_wp2
  go_ret
  exact ⟨_, rfl, layout_got (ps := layoutF 21)⟩

theorem layout_22 : LayoutSaid 22 := by
  intro w cb h
  go_enter Tryz.func91, Tryz.ntmps91
  go_wp2
  go_ret
  exact ⟨_, rfl, layout_got (ps := layoutF 22)⟩

theorem layout_23 : LayoutSaid 23 := by
  intro w cb h
  go_enter Tryz.func91, Tryz.ntmps91
  go_wp2
  go_ret
  exact ⟨_, rfl, .inl ⟨rfl, rfl⟩, Below.refl _ _⟩

theorem layout_24 : LayoutSaid 24 := by
  intro w cb h
  go_enter Tryz.func91, Tryz.ntmps91
  go_wp2
  go_ret
  exact ⟨_, rfl, layout_got (ps := layoutF 24)⟩

theorem layout_26 : LayoutSaid 26 := by
  intro w cb h
  go_enter Tryz.func91, Tryz.ntmps91
  go_wp2
  go_ret
  exact ⟨_, rfl, layout_got (ps := layoutF 26)⟩

theorem layout_27 : LayoutSaid 27 := by
  intro w cb h
  go_enter Tryz.func91, Tryz.ntmps91
  go_wp2
  go_ret
  exact ⟨_, rfl, layout_got (ps := layoutF 27)⟩

theorem layout_28 : LayoutSaid 28 := by
  intro w cb h
  go_enter Tryz.func91, Tryz.ntmps91
  go_wp2
  go_ret
  exact ⟨_, rfl, layout_got (ps := layoutF 28)⟩

theorem layout_29 : LayoutSaid 29 := by
  intro w cb h
  go_enter Tryz.func91, Tryz.ntmps91
  go_wp2
  go_ret
  exact ⟨_, rfl, layout_got (ps := layoutF 29)⟩

theorem layout_all {k : Int} (hk : kindM k = true) : LayoutSaid k := by
  have h := of_decide_eq_true hk
  have hs : k = 0 ∨ k = 1 ∨ k = 2 ∨ k = 4 ∨ k = 5 ∨ k = 6 ∨ k = 7 ∨ k = 8 ∨ k = 9 ∨ k = 10 ∨ k = 11 ∨ k = 12 ∨ k = 13 ∨ k = 14 ∨ k = 15 ∨ k = 16 ∨ k = 18 ∨ k = 19 ∨ k = 20 ∨ k = 21 ∨ k = 22 ∨ k = 23 ∨ k = 24 ∨ k = 26 ∨ k = 27 ∨ k = 28 ∨ k = 29 := by omega
  rcases hs with rfl | rfl | rfl | rfl | rfl | rfl | rfl | rfl | rfl | rfl | rfl | rfl | rfl | rfl | rfl | rfl | rfl | rfl | rfl | rfl | rfl | rfl | rfl | rfl | rfl | rfl | rfl
  · exact layout_0
  · exact layout_1
  · exact layout_2
  · exact layout_4
  · exact layout_5
  · exact layout_6
  · exact layout_7
  · exact layout_8
  · exact layout_9
  · exact layout_10
  · exact layout_11
  · exact layout_12
  · exact layout_13
  · exact layout_14
  · exact layout_15
  · exact layout_16
  · exact layout_18
  · exact layout_19
  · exact layout_20
  · exact layout_21
  · exact layout_22
  · exact layout_23
  · exact layout_24
  · exact layout_26
  · exact layout_27
  · exact layout_28
  · exact layout_29
end Go.Proofs.YtbacnaplpfmpnaaGreatDoor
namespace Go.Proofs.YtbacnaplpfmpnaaGreatDoor
open Go.RowKit
set_option linter.unusedVariables false

theorem Kp.mono {B B' c d : Nat} {a b : World} (h : Kp B c d a b) (hB : B' ≤ B) : Kp B' c d a b :=
  ⟨h.os, h.tape, h.output, h.size, fun i hi h1 h2 => h.block i (Nat.lt_of_lt_of_le hi hB) h1 h2⟩
theorem ptsV_cell {cb k : Nat} {ps : List Pt} (hk : k < ps.length) : (ptsV cb ps)[k]? = some (Pt.val cb ps[k]) := by
  simp [ptsV, hk]
theorem foldl_take {α β : Type} (f : β → α → β) (s : β) (l : List α) (k : Nat) (hk : k < l.length) : (l.take (k + 1)).foldl f s = f ((l.take k).foldl f s) l[k] := by
  rw [List.take_succ_eq_append_getElem hk, List.foldl_append]; rfl
theorem ite_len {c : Prop} [Decidable c] {a b : List Pt} (ha : a.length ≤ 4) (hb : b.length ≤ 4) : (if c then a else b).length ≤ 4 := by split <;> assumption
theorem layout_len (k : Int) : (layoutF k).length ≤ 4 := by
  unfold layoutF
  repeat' (refine ite_len ?_ ?_)
  all_goals decide

theorem pt_enters (p : Pt) : Enters Tryz.prog p.fn := by
  cases p
  · exact enters_of Tryz.func111 (by kernel_rfl) rfl
  · exact enters_of Tryz.func113 (by kernel_rfl) rfl
  · exact enters_of Tryz.func117 (by kernel_rfl) rfl
  · exact enters_of Tryz.func112 (by kernel_rfl) rfl
  · exact enters_of Tryz.func120 (by kernel_rfl) rfl
  · exact enters_of Tryz.func121 (by kernel_rfl) rfl
  · exact enters_of Tryz.func114 (by kernel_rfl) rfl
  · exact enters_of Tryz.func119 (by kernel_rfl) rfl
  · exact enters_of Tryz.func115 (by kernel_rfl) rfl
  · exact enters_of Tryz.func116 (by kernel_rfl) rfl
  · exact enters_of Tryz.func118 (by kernel_rfl) rfl
  · exact enters_of Tryz.func122 (by kernel_rfl) rfl
  · exact enters_of Tryz.func123 (by kernel_rfl) rfl

set_option maxRecDepth 100000 in
set_option maxHeartbeats 3200000 in
theorem through_gen {σ : Type} (step : Pt → σ → σ) (w : World) (cb d : Nat) (kd : Int) (hk : kindM kd = true) (hc : w.cell? ⟨cb, 2, none⟩ = some (.int .i64 kd)) (hcb : cb < w.heap.size) (hd : d < w.heap.size) (s0 : σ)
    (Inv : Nat → Nat → World → σ → Prop) (h0 : ∀ w', Below w.heap.size w w' → Inv w'.heap.size 0 w' s0)
    (hd0 : ∀ B k w' s q, Inv B k w' s → Inv B k (w'.drewN q) s)
    (hs : ∀ B p k w' s, k < 4 → w.heap.size ≤ B → B ≤ w'.heap.size → Inv B k w' s → Calls Tryz.prog (Pt.fn p) #[.pointer (some ⟨cb, 0, none⟩)] w' fun r w'' => r = .returned (.tuple #[]) ∧ Inv B (k + 1) w'' (step p s) ∧ Kp B cb d w' w'') :
    Calls Tryz.prog 49 #[.pointer (some ⟨cb, 0, none⟩)] w fun r w' => r = .returned (.tuple #[]) ∧ (∃ B k, w.heap.size ≤ B ∧ k ≤ 4 ∧ Inv B k w' ((layoutF kd).foldl (fun s p => step p s) s0)) ∧ Kp w.heap.size cb d w w' := by
  obtain ⟨ps, hps⟩ : ∃ ps, ps = layoutF kd := ⟨_, rfl⟩
  have hlen : ps.length ≤ 4 := by rw [hps]; exact layout_len kd
  have H := Lib.hid (layout_all hk w cb hc)
  rw [← hps] at H ⊢
  clear hps hk hc
  go_enter Tryz.func49, Tryz.ntmps49
  go_wp2_with fail
  refine H.out.mono ?_
  rintro r w1 ⟨v, rfl, hp, hb⟩
  have HI := Lib.hid (h0 w1 hb)
  have hB1 := hb.size
  have HB := Lib.hid hb
  clear H h0
  rcases hp with ⟨rfl, rfl⟩ | ⟨g, hg, rfl, hrow⟩
  · go_wp2
    go_loopw [7] (fun i wr => i = .int .i64 0 ∧ wr = w1) (fun i _ => 0)
    case atStart => exact ⟨rfl, rfl⟩
    case round =>
      obtain ⟨rfl, rfl⟩ := hrel
      go_wp2
      go_end0
      exact ⟨rfl, ⟨wr.heap.size, 0, hB1, by omega, HI.out⟩, Kp.of_below HB.out (Nat.le_refl _)⟩
  · have HR := Lib.hid hrow
    have hgl := hrow.lt
    obtain ⟨n, hn⟩ : ∃ n, n = ps.length := ⟨_, rfl⟩
    rw [← hn]
    go_wp2
    go_loopw [7] (fun i wr => ∃ k : Nat, k ≤ n ∧ i = .int .i64 k ∧ Inv w1.heap.size k wr ((ps.take k).foldl (fun s p => step p s) s0) ∧ Obj? wr g (ptsV cb ps) 1 ∧ Kp w1.heap.size cb d w1 wr) (fun i _ => n - (intOf i).toNat)
    case atStart => exact ⟨0, Nat.zero_le _, rfl, HI.out, HR.out, Kp.refl _ _ _ _⟩
    case round =>
      obtain ⟨k, hk, rfl, hi, ho, hkp⟩ := hrel
      by_cases hlt : k < n
      · have hlt2 : k < ps.length := hn ▸ hlt
        have hcell := ho.cell k _ (ptsV_cell hlt2)
        unfold Pt.val at hcell
        have hfr := ho.frozen k
        have hent := pt_enters ps[k]
        unfold Enters at hent
        have HS := Lib.hid (hs w1.heap.size ps[k] k wr _ (by omega) hB1 hkp.size hi)
        rw [← foldl_take (fun s p => step p s) s0 ps k hlt2] at HS
        have HO := Lib.hid (And.intro ho hkp)
        have d1 : decide (k < n) = true := by simpa using hlt
        clear hi ho hkp
        go_wp2_with (go_at_fn (ps[k].fn); refine HS.out.mono ?_; rintro r w3 ⟨rfl, hi3, hk3⟩; have HQ := Lib.hid (And.intro hi3 hk3); clear hi3 hk3)
        go_roundw
        case rel => exact ⟨k + 1, by omega, by go_num, HQ.out.1, HQ.out.2.obj HO.out.1 hgl (by omega) (by omega), HO.out.2.trans HQ.out.2⟩
        case measure => simp [intOf]; omega
      · obtain rfl : k = n := by omega
        have d1 : decide (k < k) = false := by simp
        have HO := Lib.hid (And.intro hi hkp)
        clear hi ho hkp
        go_wp2
        go_end0
        have e : ps.take k = ps := by rw [hn]; exact List.take_length
        have h1 := HO.out.1
        rw [e] at h1
        exact ⟨rfl, ⟨w1.heap.size, k, hB1, by omega, h1⟩, (Kp.of_below HB.out (Nat.le_refl _)).trans (HO.out.2.mono hB1)⟩
end Go.Proofs.YtbacnaplpfmpnaaGreatDoor
namespace Go.Proofs.YtbacnaplpfmpnaaGreatDoor
open Go.RowKit
set_option linter.unusedVariables false

def lookAll (m : Ms) : Ms × Bool := (layoutF m.ty).foldl (fun s p => lookP p s) (m, false)
def restL (m : Ms) : List UInt8 := (layoutF m.ty).foldl (fun s p => s ++ writeP p m) []
def readAll (k : Int) (t : List UInt8) (s : Rd) : Rd := (layoutF k).foldl (fun s p => readP p t s) s

theorem through_look {w : World} {cb : Nat} {m : Ms} (hk : kindM m.ty = true) (h : Obj? w cb (lkC m false) 76) :
    Calls Tryz.prog 49 #[.pointer (some ⟨cb, 0, none⟩)] w fun r w' => r = .returned (.tuple #[]) ∧ Obj? w' cb (lkC (lookAll m).1 (lookAll m).2) 76 ∧ Kp w.heap.size cb cb w w' := by
  have hlt := h.lt
  refine (through_gen (σ := Ms × Bool) lookP w cb cb m.ty hk (h.cell 2 _ rfl) hlt hlt (m, false) (fun B k w s => Obj? w cb (lkC s.1 s.2) 76) (fun w' hb => h.below hb hlt) (fun B k w' s q hi => hi) ?_).mono ?_
  · intro B p k w' s hk hB1 hB2 hi
    refine (look_all p w' cb s.1 s.2 hi).mono ?_
    rintro r w2 ⟨rfl, ho, hkp⟩
    exact ⟨rfl, ho, hkp B hB2⟩
  · rintro r w' ⟨rfl, ⟨B, k, _, _, ho⟩, hkp⟩
    exact ⟨rfl, ho, hkp⟩

theorem putL_le2 (x n : Int) (hn : n = 1 ∨ n = 2) : ((putL x n).length : Int) ≤ 2 := by
  rw [length_putL]; rcases hn with rfl | rfl <;> decide
theorem writeP_len (p : Pt) {m : Ms} (hn : (m.name.length : Int) ≤ 100000) (hd : (m.data.length : Int) ≤ 100000) : ((writeP p m).length : Int) ≤ 100002 := by
  have h1 := fun x => putL_le2 x 1 (.inl rfl)
  have h2 := fun x => putL_le2 x 2 (.inr rfl)
  cases p
  case gateway => have := h1 m.gw; simp only [writeP]; omega
  case radius => have := h1 m.rad; simp only [writeP]; omega
  case code => have := h1 m.code; simp only [writeP]; omega
  case time => have := h2 m.time; simp only [writeP]; omega
  case id => have := h2 m.tid; simp only [writeP]; omega
  case msg => have := h2 m.mid; simp only [writeP]; omega
  case name => simp only [writeP]; omega
  case data => simp only [writeP]; omega
  case flags => have := h1 (flagV m.fl).1; simp only [writeP]; omega
  case protocol => have := h1 1; simp only [writeP]; omega
  case will => have := h1 (flagV m.fl).1; simp only [writeP]; split <;> simp <;> omega
  case topic => have := h2 m.tid; simp only [writeP]; split <;> omega
  case duration => have := h2 m.time; simp only [writeP]; split <;> simp <;> omega
theorem through_write {w : World} {cb : Nat} {m : Ms} (hk : kindM m.ty = true) (hm : MsOk m) (h : Obj? w cb (wrC m (.slice none 0 0)) 76) :
    Calls Tryz.prog 49 #[.pointer (some ⟨cb, 0, none⟩)] w fun r w' => r = .returned (.tuple #[]) ∧ (∃ B v, w.heap.size ≤ B ∧ Obj? w' cb (wrC m v) 76 ∧ w'.ownsRow B 5 1 v (restL m).length (u8s (restL m))) ∧ ((restL m).length : Int) ≤ 400008 ∧ Kp w.heap.size cb cb w w' := by
  have hlt := h.lt
  refine (through_gen (σ := List UInt8) (fun p s => s ++ writeP p m) w cb cb m.ty hk (h.cell 2 _ rfl) hlt hlt [] (fun B k w s => InvW w B cb m s ∧ (s.length : Int) ≤ 100002 * (k : Int)) (fun w' hb => ⟨⟨Nat.lt_of_lt_of_le hlt hb.size, Nat.le_refl _, .slice none 0 0, h.below hb hlt, ?_⟩, by simp⟩) (fun B k w' s q hi => hi) ?_).mono ?_
  · exact World.ownsRow_nil _ _ _ _
  · intro B p k w' s hk hB1 hB2 hi
    refine (write_all p w' B cb m s hi.1 hm (by have := hi.2; omega)).mono ?_
    rintro r w2 ⟨rfl, ho, hkp⟩
    refine ⟨rfl, ⟨ho, ?_⟩, hkp⟩
    have h1 := writeP_len p hm.2.2.2.2.2.2.1 hm.2.2.2.2.2.2.2.1
    have h2 := hi.2
    rw [List.length_append]; push_cast; omega
  · rintro r w' ⟨rfl, ⟨B, k, hB, hk4, ho, hl⟩, hkp⟩
    obtain ⟨_, _, v, h3, h4⟩ := ho
    refine ⟨rfl, ⟨B, v, hB, h3, h4⟩, ?_, hkp⟩
    unfold restL
    omega
theorem through_read {w : World} {cb cu : Nat} {t : List UInt8} {s : Rd} (hk : kindM s.m.ty = true) (h : InvR w cb cu t s) (hne : cu ≠ cb) (ht : (t.length : Int) ≤ 9223372036854775807) :
    Calls Tryz.prog 49 #[.pointer (some ⟨cb, 0, none⟩)] w fun r w' => r = .returned (.tuple #[]) ∧ InvR w' cb cu t (readAll s.m.ty t s) ∧ Kp w.heap.size cb cu w w' := by
  have hlt := Obj?.lt h.1
  have hlu := Obj?.lt h.2.1
  refine (through_gen (σ := Rd) (fun p s => readP p t s) w cb cu s.m.ty hk (Obj?.cell h.1 2 _ rfl) hlt hlu s (fun B k w s => InvR w cb cu t s) (fun w' hb => h.below hb) (fun B k w' s q hi => hi.drewN q) ?_).mono ?_
  · intro B p k w' s hk hB1 hB2 hi
    exact read_all p w' B cb cu t s hi hne ht hB2
  · rintro r w' ⟨rfl, ⟨B, k, _, _, ho⟩, hkp⟩
    exact ⟨rfl, ho, hkp⟩

theorem size_alloc1 (w : World) (o : Obj) : (w.alloc o).heap.size = w.heap.size + 1 := by show (w.heap.push o).size = _; exact Array.size_push _
theorem heap_alloc_last2 (w : World) (o o' : Obj) : ((w.alloc o).alloc o').heap[w.heap.size + 1]? = some o' := by
  rw [← size_alloc1 w o]; exact heap_alloc_last _ _
theorem setRow_alloc_new2 (w : World) (o : Obj) (c c' : Array Value) (t : TypeId) : ((w.alloc o).alloc (.cells c t)).setRow (w.heap.size + 1) c' = (w.alloc o).alloc (.cells c' t) := by
  rw [← size_alloc1 w o]; exact World.setRow_alloc_new _ _ _ _
theorem owns_zero' {W : World} {base : Nat} {e : TypeId} {size : Nat} {v : Value} {xs : List Value} (h : W.ownsRow base e size v 0 xs) : v = .slice none 0 0 ∨ ∃ g c, v = .slice (some ⟨g, 0, none⟩) 0 c := by
  rcases h.2 with ⟨h, _⟩ | ⟨g, c, _, h, _⟩
  · exact .inl h
  · exact .inr ⟨g, c, h⟩
theorem strOf_u8s (l : List UInt8) : strOfNums (l.map fun b => (b.toNat : Int)) = ⟨l.toArray⟩ := by
  unfold strOfNums
  congr 2
  rw [List.map_map]
  have : ((fun n : Int => UInt8.ofNat n.toNat) ∘ fun b : UInt8 => (b.toNat : Int)) = id := by funext b; simp
  rw [this, List.map_id]
theorem conv_own {w : World} {B : Nat} {v : Value} {l : List UInt8} (h : w.ownsRow B 5 1 v l.length (u8s l)) : (convert 53 9 v).run Tryz.prog w = .ok (.string ⟨l.toArray⟩) w := by
  cases l with
  | nil =>
    rcases owns_zero' h with rfl | ⟨g, c, rfl⟩
    · exact run_convert_bytes_nil (P := Tryz.prog) w 53 5 Tryz.underlying53 Tryz.underlying5 0 0 9 Tryz.underlying9
    · exact run_convert_bytes_arg (P := Tryz.prog) w 53 5 Tryz.underlying53 Tryz.underlying5 g 0 0 c [] rfl (fun i hi => by omega) 9 Tryz.underlying9
  | cons a l =>
    obtain ⟨g, c, rfl⟩ := owns_succ h
    have h2 : w.ownsRow B 5 1 (.slice (some ⟨g, 0, none⟩) (l.length + 1) c) (l.length + 1) (((a :: l).map fun b => (b.toNat : Int)).map (Value.int .u8)) := by
      rw [List.map_map]; exact h
    have hc := run_convert_bytes_arg (P := Tryz.prog) w 53 5 Tryz.underlying53 Tryz.underlying5 g 0 (l.length + 1) c ((a :: l).map fun b => (b.toNat : Int)) (by simp) (owns_ints h2 (by simp)) 9 Tryz.underlying9
    rw [strOf_u8s] at hc
    exact hc
theorem infoMs : (Tryz.prog.info? 25).map (·.size) = some 16 := by kernel_rfl
theorem infoCd : (Tryz.prog.info? 76).map (·.size) = some 20 := by kernel_rfl
set_option maxRecDepth 100000 in
set_option maxHeartbeats 1600000 in
theorem msrest_any (m : Ms) (hk : kindM m.ty = true) (hm : MsOk m) (w : World) :
    Calls Tryz.prog 43 #[.agg m.cs] w fun r w' => r = .returned (.string ⟨(restL m).toArray⟩) ∧ ((restL m).length : Int) ≤ 400008 ∧ Below w.heap.size w w' := by
  unfold Ms.cs
  go_enter Tryz.func43, Tryz.ntmps43
  go_upto_region 1 with fail
  go_step
  refine wpList_load_row rfl 25 _ rfl _ rfl 25 _ _ _ (heap_alloc_last _ _) Tryz.underlying25 rfl infoMs ?_
  go_step
  go_step
  go_step
  go_step
  go_step
  go_step
  refine wpList_store_rowTo rfl 76 _ _ rfl rfl _ _ rfl rfl 76 _ (heap_alloc_last2 _ _ _) infoCd rfl (by simp [Value.oneCell']) ?_
  rw [setRow_alloc_new2]
  have hO1 := Obj?.new (w.alloc (.cells m.cs 25 (0, 0))) (wrC m (.slice none 0 0)) 76
  rw [size_alloc1] at hO1
  have H := Lib.hid (through_write hk hm hO1)
  have HB0 := Lib.hid (below_al (below_al (Below.refl _ w) (.cells m.cs 25 (0, 0))) (.cells (wrC m (.slice none 0 0)) 76 (0, 0)))
  clear hO1
  unfold wrC cdC Ms.cs at H HB0
  go_wp2_with fail
  refine H.out.mono ?_
  rintro r w2 ⟨rfl, ⟨B, v, hB, ho, hr⟩, hl, hkp⟩
  have kc := Obj?.cells ho
  have hconv := conv_own hr
  have HF := Lib.hid (And.intro hl (HB0.out.trans (hkp.to_below (by omega) (by omega) (by simp; omega))))
  clear H hkp ho hr HB0
  go_wp2
  go_ret
  exact ⟨rfl, HF.out.1, HF.out.2⟩
end Go.Proofs.YtbacnaplpfmpnaaGreatDoor
