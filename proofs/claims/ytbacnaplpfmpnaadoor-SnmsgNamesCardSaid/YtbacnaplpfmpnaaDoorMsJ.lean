/- snmsg: layout. snmsg: through. -/
import Derived.Test.YtbacnaplpfmpnaaDoorMsB
import Derived.Great.BuildSlice
import Derived.Shelf.Abstract
namespace Go.Proofs.YtbacnaplpfmpnaaDoor
open Go.RowKit
set_option linter.unusedVariables false

/-- A part as a value. -/
def Pt.val (cb : Nat) (p : Pt) : Value := .func (.func p.fn) #[.pointer (some ⟨cb, 0, none⟩)] #[]
def ptsV (cb : Nat) (ps : List Pt) : Array Value := (ps.map (Pt.val cb)).toArray
/-- A slice of parts. -/
def PtsAt (w : World) (cb A : Nat) (v : Value) (ps : List Pt) : Prop := (ps = [] ∧ v = .slice none 0 0) ∨ ∃ g, A ≤ g ∧ v = .slice (some ⟨g, 0, none⟩) ps.length ps.length ∧ Obj? w g (ptsV cb ps) 1
def LayoutSaid (k : Int) : Prop := ∀ (w : World) (cb : Nat), w.cell? ⟨cb, 2, none⟩ = some (.int .i64 k) →
    Calls Tryd.prog 63 #[.pointer (some ⟨cb, 0, none⟩)] w fun r w' => ∃ v, r = .returned v ∧ PtsAt w' cb w.heap.size v (layoutF k) ∧ Below w.heap.size w w'
theorem layout_got {w : World} {cb : Nat} {ps : List Pt} : PtsAt (w.alloc (.cells (ptsV cb ps) 1 (0, 0))) cb w.heap.size (.slice (some ⟨w.heap.size, 0, none⟩) ps.length ps.length) ps ∧ Below w.heap.size w (w.alloc (.cells (ptsV cb ps) 1 (0, 0))) :=
  ⟨.inr ⟨w.heap.size, Nat.le_refl _, rfl, Obj?.new w _ _⟩, below_al (Below.refl _ _) _⟩
def kindM (k : Int) : Bool := decide ((0 ≤ k ∧ k ≤ 2) ∨ (4 ≤ k ∧ k ≤ 16) ∨ (18 ≤ k ∧ k ≤ 24) ∨ (26 ≤ k ∧ k ≤ 29))

theorem layout_0 : LayoutSaid 0 := by
  intro w cb h
  go_enter Tryd.func63, Tryd.ntmps63
  go_wp2
  go_ret
  exact ⟨_, rfl, layout_got (ps := layoutF 0)⟩

theorem layout_1 : LayoutSaid 1 := by
  intro w cb h
  go_enter Tryd.func63, Tryd.ntmps63
  go_wp2
  go_ret
  exact ⟨_, rfl, layout_got (ps := layoutF 1)⟩

theorem layout_2 : LayoutSaid 2 := by
  intro w cb h
  go_enter Tryd.func63, Tryd.ntmps63
  go_wp2
  go_ret
  exact ⟨_, rfl, layout_got (ps := layoutF 2)⟩

theorem layout_4 : LayoutSaid 4 := by
  intro w cb h
  go_enter Tryd.func63, Tryd.ntmps63
  go_wp2
  go_ret
  exact ⟨_, rfl, layout_got (ps := layoutF 4)⟩

theorem layout_5 : LayoutSaid 5 := by
  intro w cb h
  go_enter Tryd.func63, Tryd.ntmps63
  go_wp2
  go_ret
  exact ⟨_, rfl, layout_got (ps := layoutF 5)⟩

theorem layout_6 : LayoutSaid 6 := by
  intro w cb h
  go_enter Tryd.func63, Tryd.ntmps63
  go_wp2
  go_ret
  exact ⟨_, rfl, .inl ⟨rfl, rfl⟩, Below.refl _ _⟩

theorem layout_7 : LayoutSaid 7 := by
  intro w cb h
  go_enter Tryd.func63, Tryd.ntmps63
  go_wp2
  go_ret
  exact ⟨_, rfl, layout_got (ps := layoutF 7)⟩

theorem layout_8 : LayoutSaid 8 := by
  intro w cb h
  go_enter Tryd.func63, Tryd.ntmps63
  go_wp2
  go_ret
  exact ⟨_, rfl, .inl ⟨rfl, rfl⟩, Below.refl _ _⟩

theorem layout_9 : LayoutSaid 9 := by
  intro w cb h
  go_enter Tryd.func63, Tryd.ntmps63
  go_wp2
  go_ret
  exact ⟨_, rfl, layout_got (ps := layoutF 9)⟩

theorem layout_10 : LayoutSaid 10 := by
  intro w cb h
  go_enter Tryd.func63, Tryd.ntmps63
  go_wp2
  go_ret
  exact ⟨_, rfl, layout_got (ps := layoutF 10)⟩

theorem layout_11 : LayoutSaid 11 := by
  intro w cb h
  go_enter Tryd.func63, Tryd.ntmps63
  go_wp2
  go_ret
  exact ⟨_, rfl, layout_got (ps := layoutF 11)⟩

theorem layout_12 : LayoutSaid 12 := by
  intro w cb h
  go_enter Tryd.func63, Tryd.ntmps63
  go_wp2
  go_ret
  exact ⟨_, rfl, layout_got (ps := layoutF 12)⟩

theorem layout_13 : LayoutSaid 13 := by
  intro w cb h
  go_enter Tryd.func63, Tryd.ntmps63
  go_wp2
  go_ret
  exact ⟨_, rfl, layout_got (ps := layoutF 13)⟩

theorem layout_14 : LayoutSaid 14 := by
  intro w cb h
  go_enter Tryd.func63, Tryd.ntmps63
  go_wp2
  go_ret
  exact ⟨_, rfl, layout_got (ps := layoutF 14)⟩

theorem layout_15 : LayoutSaid 15 := by
  intro w cb h
  go_enter Tryd.func63, Tryd.ntmps63
  go_wp2
  go_ret
  exact ⟨_, rfl, layout_got (ps := layoutF 15)⟩

theorem layout_16 : LayoutSaid 16 := by
  intro w cb h
  go_enter Tryd.func63, Tryd.ntmps63
  go_wp2
  go_ret
  exact ⟨_, rfl, layout_got (ps := layoutF 16)⟩

theorem layout_18 : LayoutSaid 18 := by
  intro w cb h
  go_enter Tryd.func63, Tryd.ntmps63
  go_wp2
  go_ret
  exact ⟨_, rfl, layout_got (ps := layoutF 18)⟩

theorem layout_19 : LayoutSaid 19 := by
  intro w cb h
  go_enter Tryd.func63, Tryd.ntmps63
  go_wp2
  go_ret
  exact ⟨_, rfl, layout_got (ps := layoutF 19)⟩

theorem layout_20 : LayoutSaid 20 := by
  intro w cb h
  go_enter Tryd.func63, Tryd.ntmps63
  go_wp2
  go_ret
  exact ⟨_, rfl, layout_got (ps := layoutF 20)⟩

theorem layout_21 : LayoutSaid 21 := by
  intro w cb h
  go_enter Tryd.func63, Tryd.ntmps63
  go_wp2
  go_ret
  exact ⟨_, rfl, layout_got (ps := layoutF 21)⟩

theorem layout_22 : LayoutSaid 22 := by
  intro w cb h
  go_enter Tryd.func63, Tryd.ntmps63
  go_wp2
  go_ret
  exact ⟨_, rfl, layout_got (ps := layoutF 22)⟩

theorem layout_23 : LayoutSaid 23 := by
  intro w cb h
  go_enter Tryd.func63, Tryd.ntmps63
  go_wp2
  go_ret
  exact ⟨_, rfl, .inl ⟨rfl, rfl⟩, Below.refl _ _⟩

theorem layout_24 : LayoutSaid 24 := by
  intro w cb h
  go_enter Tryd.func63, Tryd.ntmps63
  go_wp2
  go_ret
  exact ⟨_, rfl, layout_got (ps := layoutF 24)⟩

theorem layout_26 : LayoutSaid 26 := by
  intro w cb h
  go_enter Tryd.func63, Tryd.ntmps63
  go_wp2
  go_ret
  exact ⟨_, rfl, layout_got (ps := layoutF 26)⟩

theorem layout_27 : LayoutSaid 27 := by
  intro w cb h
  go_enter Tryd.func63, Tryd.ntmps63
  go_wp2
  go_ret
  exact ⟨_, rfl, layout_got (ps := layoutF 27)⟩

theorem layout_28 : LayoutSaid 28 := by
  intro w cb h
  go_enter Tryd.func63, Tryd.ntmps63
  go_wp2
  go_ret
  exact ⟨_, rfl, layout_got (ps := layoutF 28)⟩

theorem layout_29 : LayoutSaid 29 := by
  intro w cb h
  go_enter Tryd.func63, Tryd.ntmps63
  go_wp2
  go_ret
  exact ⟨_, rfl, layout_got (ps := layoutF 29)⟩

theorem layout_all {k : Int} (hk : kindM k = true) : LayoutSaid k := by
  have h := of_decide_eq_true hk
  have hs : k = 0 ∨ k = 1 ∨ k = 2 ∨ k = 4 ∨ k = 5 ∨ k = 6 ∨ k = 7 ∨ k = 8 ∨ k = 9 ∨ k = 10 ∨ k = 11 ∨ k = 12 ∨ k = 13 ∨ k = 14 ∨ k = 15 ∨ k = 16 ∨ k = 18 ∨ k = 19 ∨ k = 20 ∨ k = 21 ∨ k = 22 ∨ k = 23 ∨ k = 24 ∨ k = 26 ∨ k = 27 ∨ k = 28 ∨ k = 29 := by omega
  rcases hs with rfl | rfl | rfl | rfl | rfl | rfl | rfl | rfl | rfl | rfl | rfl | rfl | rfl | rfl | rfl | rfl | rfl | rfl | rfl | rfl | rfl | rfl | rfl | rfl | rfl | rfl | rfl
  · exact layout_0
  · exact layout_1
  · exact layout_2
  · exact layout_4
  · exact layout_5
  · exact layout_6
  · exact layout_7
  · exact layout_8
  · exact layout_9
  · exact layout_10
  · exact layout_11
  · exact layout_12
  · exact layout_13
  · exact layout_14
  · exact layout_15
  · exact layout_16
  · exact layout_18
  · exact layout_19
  · exact layout_20
  · exact layout_21
  · exact layout_22
  · exact layout_23
  · exact layout_24
  · exact layout_26
  · exact layout_27
  · exact layout_28
  · exact layout_29
end Go.Proofs.YtbacnaplpfmpnaaDoor
namespace Go.Proofs.YtbacnaplpfmpnaaDoor
open Go.RowKit
set_option linter.unusedVariables false

theorem Kp.mono {B B' c d : Nat} {a b : World} (h : Kp B c d a b) (hB : B' ≤ B) : Kp B' c d a b :=
  ⟨h.os, h.tape, h.output, h.size, fun i hi h1 h2 => h.block i (Nat.lt_of_lt_of_le hi hB) h1 h2⟩
theorem ptsV_cell {cb k : Nat} {ps : List Pt} (hk : k < ps.length) : (ptsV cb ps)[k]? = some (Pt.val cb ps[k]) := by
  simp [ptsV, hk]
theorem foldl_take {α β : Type} (f : β → α → β) (s : β) (l : List α) (k : Nat) (hk : k < l.length) : (l.take (k + 1)).foldl f s = f ((l.take k).foldl f s) l[k] := by
  rw [List.take_succ_eq_append_getElem hk, List.foldl_append]; rfl
theorem ite_len {c : Prop} [Decidable c] {a b : List Pt} (ha : a.length ≤ 4) (hb : b.length ≤ 4) : (if c then a else b).length ≤ 4 := by split <;> assumption
theorem layout_len (k : Int) : (layoutF k).length ≤ 4 := by
  unfold layoutF
  repeat' (refine ite_len ?_ ?_)
  all_goals decide

theorem pt_enters (p : Pt) : Enters Tryd.prog p.fn := by
  cases p
  · exact enters_of Tryd.func75 (by kernel_rfl) rfl
  · exact enters_of Tryd.func77 (by kernel_rfl) rfl
  · exact enters_of Tryd.func81 (by kernel_rfl) rfl
  · exact enters_of Tryd.func76 (by kernel_rfl) rfl
  · exact enters_of Tryd.func84 (by kernel_rfl) rfl
  · exact enters_of Tryd.func85 (by kernel_rfl) rfl
  · exact enters_of Tryd.func78 (by kernel_rfl) rfl
  · exact enters_of Tryd.func83 (by kernel_rfl) rfl
  · exact enters_of Tryd.func79 (by kernel_rfl) rfl
  · exact enters_of Tryd.func80 (by kernel_rfl) rfl
  · exact enters_of Tryd.func82 (by kernel_rfl) rfl
  · exact enters_of Tryd.func86 (by kernel_rfl) rfl
  · exact enters_of Tryd.func87 (by kernel_rfl) rfl

set_option maxRecDepth 100000 in
set_option maxHeartbeats 3200000 in
theorem through_gen {σ : Type} (step : Pt → σ → σ) (w : World) (cb d : Nat) (kd : Int) (hk : kindM kd = true) (hc : w.cell? ⟨cb, 2, none⟩ = some (.int .i64 kd)) (hcb : cb < w.heap.size) (hd : d < w.heap.size) (s0 : σ)
    (Inv : Nat → Nat → World → σ → Prop) (h0 : ∀ w', Below w.heap.size w w' → Inv w'.heap.size 0 w' s0)
    (hd0 : ∀ B k w' s q, Inv B k w' s → Inv B k (w'.drewN q) s)
    (hs : ∀ B p k w' s, k < 4 → w.heap.size ≤ B → B ≤ w'.heap.size → Inv B k w' s → Calls Tryd.prog (Pt.fn p) #[.pointer (some ⟨cb, 0, none⟩)] w' fun r w'' => r = .returned (.tuple #[]) ∧ Inv B (k + 1) w'' (step p s) ∧ Kp B cb d w' w'') :
    Calls Tryd.prog 33 #[.pointer (some ⟨cb, 0, none⟩)] w fun r w' => r = .returned (.tuple #[]) ∧ (∃ B k, w.heap.size ≤ B ∧ k ≤ 4 ∧ Inv B k w' ((layoutF kd).foldl (fun s p => step p s) s0)) ∧ Kp w.heap.size cb d w w' := by
  obtain ⟨ps, hps⟩ : ∃ ps, ps = layoutF kd := ⟨_, rfl⟩
  have hlen : ps.length ≤ 4 := by rw [hps]; exact layout_len kd
  have H := Lib.hid (layout_all hk w cb hc)
  rw [← hps] at H ⊢
  clear hps hk hc
  go_enter Tryd.func33, Tryd.ntmps33
  go_wp2_with fail
  refine H.out.mono ?_
  rintro r w1 ⟨v, rfl, hp, hb⟩
  have HI := Lib.hid (h0 w1 hb)
  have hB1 := hb.size
  have HB := Lib.hid hb
  clear H h0
  rcases hp with ⟨rfl, rfl⟩ | ⟨g, hg, rfl, hrow⟩
  · go_wp2
    go_loopw [7] (fun i wr => i = .int .i64 0 ∧ wr = w1) (fun i _ => 0)
    case atStart => exact ⟨rfl, rfl⟩
    case round =>
      obtain ⟨rfl, rfl⟩ := hrel
      go_wp2
      go_end0
      exact ⟨rfl, ⟨wr.heap.size, 0, hB1, by omega, HI.out⟩, Kp.of_below HB.out (Nat.le_refl _)⟩
  · have HR := Lib.hid hrow
    have hgl := hrow.lt
    obtain ⟨n, hn⟩ : ∃ n, n = ps.length := ⟨_, rfl⟩
    rw [← hn]
    go_wp2
    go_loopw [7] (fun i wr => ∃ k : Nat, k ≤ n ∧ i = .int .i64 k ∧ Inv w1.heap.size k wr ((ps.take k).foldl (fun s p => step p s) s0) ∧ Obj? wr g (ptsV cb ps) 1 ∧ Kp w1.heap.size cb d w1 wr) (fun i _ => n - (intOf i).toNat)
    case atStart => exact ⟨0, Nat.zero_le _, rfl, HI.out, HR.out, Kp.refl _ _ _ _⟩
    case round =>
      obtain ⟨k, hk, rfl, hi, ho, hkp⟩ := hrel
      by_cases hlt : k < n
      · have hlt2 : k < ps.length := hn ▸ hlt
        have hcell := ho.cell k _ (ptsV_cell hlt2)
        unfold Pt.val at hcell
        have hfr := ho.frozen k
        have hent := pt_enters ps[k]
        unfold Enters at hent
        have HS := Lib.hid (hs w1.heap.size ps[k] k wr _ (by omega) hB1 hkp.size hi)
        rw [← foldl_take (fun s p => step p s) s0 ps k hlt2] at HS
        have HO := Lib.hid (And.intro ho hkp)
        have d1 : decide (k < n) = true := by simpa using hlt
        clear hi ho hkp
        go_wp2_with (go_at_fn (ps[k].fn); refine HS.out.mono ?_; rintro r w3 ⟨rfl, hi3, hk3⟩; have HQ := Lib.hid (And.intro hi3 hk3); clear hi3 hk3)
        go_roundw
        case rel => exact ⟨k + 1, by omega, by go_num, HQ.out.1, HQ.out.2.obj HO.out.1 hgl (by omega) (by omega), HO.out.2.trans HQ.out.2⟩
        case measure => simp [intOf]; omega
      · obtain rfl : k = n := by omega
        have d1 : decide (k < k) = false := by simp
        have HO := Lib.hid (And.intro hi hkp)
        clear hi ho hkp
        go_wp2
        go_end0
        have e : ps.take k = ps := by rw [hn]; exact List.take_length
        have h1 := HO.out.1
        rw [e] at h1
        exact ⟨rfl, ⟨w1.heap.size, k, hB1, by omega, h1⟩, (Kp.of_below HB.out (Nat.le_refl _)).trans (HO.out.2.mono hB1)⟩
end Go.Proofs.YtbacnaplpfmpnaaDoor
