/- snmsg: layout. -/
import Derived.Test.YtbacnaplpfmpnaaDoorMsB
import Derived.Great.BuildSlice
namespace Go.Proofs.YtbacnaplpfmpnaaDoor
open Go.RowKit
set_option linter.unusedVariables false

/-- A part as a value. -/
def Pt.val (cb : Nat) (p : Pt) : Value := .func (.func p.fn) #[.pointer (some ⟨cb, 0, none⟩)] #[]
def ptsV (cb : Nat) (ps : List Pt) : Array Value := (ps.map (Pt.val cb)).toArray
/-- A slice of parts. -/
def PtsAt (w : World) (cb A : Nat) (v : Value) (ps : List Pt) : Prop := (ps = [] ∧ v = .slice none 0 0) ∨ ∃ g, A ≤ g ∧ v = .slice (some ⟨g, 0, none⟩) ps.length ps.length ∧ Obj? w g (ptsV cb ps) 1
def LayoutSaid (k : Int) : Prop := ∀ (w : World) (cb : Nat), w.cell? ⟨cb, 2, none⟩ = some (.int .i64 k) →
    Calls Tryd.prog 63 #[.pointer (some ⟨cb, 0, none⟩)] w fun r w' => ∃ v, r = .returned v ∧ PtsAt w' cb w.heap.size v (layoutF k) ∧ Below w.heap.size w w'
theorem layout_got {w : World} {cb : Nat} {ps : List Pt} : PtsAt (w.alloc (.cells (ptsV cb ps) 1 (0, 0))) cb w.heap.size (.slice (some ⟨w.heap.size, 0, none⟩) ps.length ps.length) ps ∧ Below w.heap.size w (w.alloc (.cells (ptsV cb ps) 1 (0, 0))) :=
  ⟨.inr ⟨w.heap.size, Nat.le_refl _, rfl, Obj?.new w _ _⟩, below_al (Below.refl _ _) _⟩
def kindM (k : Int) : Bool := decide ((0 ≤ k ∧ k ≤ 2) ∨ (4 ≤ k ∧ k ≤ 16) ∨ (18 ≤ k ∧ k ≤ 24) ∨ (26 ≤ k ∧ k ≤ 29))

theorem layout_0 : LayoutSaid 0 := by
  intro w cb h
  go_enter Tryd.func63, Tryd.ntmps63
  go_wp2
  go_ret
  exact ⟨_, rfl, layout_got (ps := layoutF 0)⟩

theorem layout_1 : LayoutSaid 1 := by
  intro w cb h
  go_enter Tryd.func63, Tryd.ntmps63
  go_wp2
  go_ret
  exact ⟨_, rfl, layout_got (ps := layoutF 1)⟩

theorem layout_2 : LayoutSaid 2 := by
  intro w cb h
  go_enter Tryd.func63, Tryd.ntmps63
  go_wp2
  go_ret
  exact ⟨_, rfl, layout_got (ps := layoutF 2)⟩

theorem layout_4 : LayoutSaid 4 := by
  intro w cb h
  go_enter Tryd.func63, Tryd.ntmps63
  go_wp2
  go_ret
  exact ⟨_, rfl, layout_got (ps := layoutF 4)⟩

theorem layout_5 : LayoutSaid 5 := by
  intro w cb h
  go_enter Tryd.func63, Tryd.ntmps63
  go_wp2
  go_ret
  exact ⟨_, rfl, layout_got (ps := layoutF 5)⟩

theorem layout_6 : LayoutSaid 6 := by
  intro w cb h
  go_enter Tryd.func63, Tryd.ntmps63
  go_wp2
  go_ret
  exact ⟨_, rfl, .inl ⟨rfl, rfl⟩, Below.refl _ _⟩

theorem layout_7 : LayoutSaid 7 := by
  intro w cb h
  go_enter Tryd.func63, Tryd.ntmps63
  go_wp2
  go_ret
  exact ⟨_, rfl, layout_got (ps := layoutF 7)⟩

theorem layout_8 : LayoutSaid 8 := by
  intro w cb h
  go_enter Tryd.func63, Tryd.ntmps63
  go_wp2
  go_ret
  exact ⟨_, rfl, .inl ⟨rfl, rfl⟩, Below.refl _ _⟩

theorem layout_9 : LayoutSaid 9 := by
  intro w cb h
  go_enter Tryd.func63, Tryd.ntmps63
  go_wp2
  go_ret
  exact ⟨_, rfl, layout_got (ps := layoutF 9)⟩

theorem layout_10 : LayoutSaid 10 := by
  intro w cb h
  go_enter Tryd.func63, Tryd.ntmps63
  go_wp2
  go_ret
  exact ⟨_, rfl, layout_got (ps := layoutF 10)⟩

theorem layout_11 : LayoutSaid 11 := by
  intro w cb h
  go_enter Tryd.func63, Tryd.ntmps63
  go_wp2
  go_ret
  exact ⟨_, rfl, layout_got (ps := layoutF 11)⟩

theorem layout_12 : LayoutSaid 12 := by
  intro w cb h
  go_enter Tryd.func63, Tryd.ntmps63
  go_wp2
  go_ret
  exact ⟨_, rfl, layout_got (ps := layoutF 12)⟩

theorem layout_13 : LayoutSaid 13 := by
  intro w cb h
  go_enter Tryd.func63, Tryd.ntmps63
  go_wp2
  go_ret
  exact ⟨_, rfl, layout_got (ps := layoutF 13)⟩

theorem layout_14 : LayoutSaid 14 := by
  intro w cb h
  go_enter Tryd.func63, Tryd.ntmps63
  go_wp2
  go_ret
  exact ⟨_, rfl, layout_got (ps := layoutF 14)⟩

theorem layout_15 : LayoutSaid 15 := by
  intro w cb h
  go_enter Tryd.func63, Tryd.ntmps63
  go_wp2
  go_ret
  exact ⟨_, rfl, layout_got (ps := layoutF 15)⟩

theorem layout_16 : LayoutSaid 16 := by
  intro w cb h
  go_enter Tryd.func63, Tryd.ntmps63
  go_wp2
  go_ret
  exact ⟨_, rfl, layout_got (ps := layoutF 16)⟩

theorem layout_18 : LayoutSaid 18 := by
  intro w cb h
  go_enter Tryd.func63, Tryd.ntmps63
  go_wp2
  go_ret
  exact ⟨_, rfl, layout_got (ps := layoutF 18)⟩

theorem layout_19 : LayoutSaid 19 := by
  intro w cb h
  go_enter Tryd.func63, Tryd.ntmps63
  go_wp2
  go_ret
  exact ⟨_, rfl, layout_got (ps := layoutF 19)⟩

theorem layout_20 : LayoutSaid 20 := by
  intro w cb h
  go_enter Tryd.func63, Tryd.ntmps63
  go_wp2
  go_ret
  exact ⟨_, rfl, layout_got (ps := layoutF 20)⟩

theorem layout_21 : LayoutSaid 21 := by
  intro w cb h
  go_enter Tryd.func63, Tryd.ntmps63
  go_wp2
  go_ret
  exact ⟨_, rfl, layout_got (ps := layoutF 21)⟩

theorem layout_22 : LayoutSaid 22 := by
  intro w cb h
  go_enter Tryd.func63, Tryd.ntmps63
  go_wp2
  go_ret
  exact ⟨_, rfl, layout_got (ps := layoutF 22)⟩

theorem layout_23 : LayoutSaid 23 := by
  intro w cb h
  go_enter Tryd.func63, Tryd.ntmps63
  go_wp2
  go_ret
  exact ⟨_, rfl, .inl ⟨rfl, rfl⟩, Below.refl _ _⟩

theorem layout_24 : LayoutSaid 24 := by
  intro w cb h
  go_enter Tryd.func63, Tryd.ntmps63
  go_wp2
  go_ret
  exact ⟨_, rfl, layout_got (ps := layoutF 24)⟩

theorem layout_26 : LayoutSaid 26 := by
  intro w cb h
  go_enter Tryd.func63, Tryd.ntmps63
  go_wp2
  go_ret
  exact ⟨_, rfl, layout_got (ps := layoutF 26)⟩

theorem layout_27 : LayoutSaid 27 := by
  intro w cb h
  go_enter Tryd.func63, Tryd.ntmps63
  go_wp2
  go_ret
  exact ⟨_, rfl, layout_got (ps := layoutF 27)⟩

theorem layout_28 : LayoutSaid 28 := by
  intro w cb h
  go_enter Tryd.func63, Tryd.ntmps63
  go_wp2
  go_ret
  exact ⟨_, rfl, layout_got (ps := layoutF 28)⟩

theorem layout_29 : LayoutSaid 29 := by
  intro w cb h
  go_enter Tryd.func63, Tryd.ntmps63
  go_wp2
  go_ret
  exact ⟨_, rfl, layout_got (ps := layoutF 29)⟩

theorem layout_all {k : Int} (hk : kindM k = true) : LayoutSaid k := by
  have h := of_decide_eq_true hk
  have hs : k = 0 ∨ k = 1 ∨ k = 2 ∨ k = 4 ∨ k = 5 ∨ k = 6 ∨ k = 7 ∨ k = 8 ∨ k = 9 ∨ k = 10 ∨ k = 11 ∨ k = 12 ∨ k = 13 ∨ k = 14 ∨ k = 15 ∨ k = 16 ∨ k = 18 ∨ k = 19 ∨ k = 20 ∨ k = 21 ∨ k = 22 ∨ k = 23 ∨ k = 24 ∨ k = 26 ∨ k = 27 ∨ k = 28 ∨ k = 29 := by omega
  rcases hs with rfl | rfl | rfl | rfl | rfl | rfl | rfl | rfl | rfl | rfl | rfl | rfl | rfl | rfl | rfl | rfl | rfl | rfl | rfl | rfl | rfl | rfl | rfl | rfl | rfl | rfl | rfl
  · exact layout_0
  · exact layout_1
  · exact layout_2
  · exact layout_4
  · exact layout_5
  · exact layout_6
  · exact layout_7
  · exact layout_8
  · exact layout_9
  · exact layout_10
  · exact layout_11
  · exact layout_12
  · exact layout_13
  · exact layout_14
  · exact layout_15
  · exact layout_16
  · exact layout_18
  · exact layout_19
  · exact layout_20
  · exact layout_21
  · exact layout_22
  · exact layout_23
  · exact layout_24
  · exact layout_26
  · exact layout_27
  · exact layout_28
  · exact layout_29
end Go.Proofs.YtbacnaplpfmpnaaDoor
