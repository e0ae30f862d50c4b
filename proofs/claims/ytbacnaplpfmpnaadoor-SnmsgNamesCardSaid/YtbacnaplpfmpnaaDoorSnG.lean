/- snhead.Uses, May. -/
import Derived.Test.YtbacnaplpfmpnaaDoorSnF
namespace Go.Proofs.YtbacnaplpfmpnaaDoor
open Go.RowKit
set_option linter.unusedVariables false

def kindOf (k : Int) : Prop := k ≠ 4 ∧ k ≠ 7 ∧ k ≠ 26 ∧ k ≠ 19 ∧ k ≠ 12 ∧ k ≠ 18 ∧ k ≠ 20
theorem results_cell1 {fn : Func} {p : Tmp} {ty : TypeId} (h : fn.results = #[.cell p ty]) (tmps : Array Value) (P : Program) (w : World) :
    (results fn tmps).run P w = ((asAddr (tmps.getD p undef)).run P w).andThen fun a w₁ => (loadVar ty a).run P w₁ := by
  simp only [results, h]
  simp [Sem.run_bind, Result.andThen]
theorem results_row1 {P : Program} {fn : Func} {p : Tmp} {ty : TypeId} (h : fn.results = #[.cell p ty]) (tmps : Array Value) (w : World) (g : Nat) (t : TypeId) (cs : Array Value) (d : TypeDesc)
    (hp : tmps.getD p undef = .pointer (some ⟨g, 0, none⟩)) (hg : Obj? w g cs t)
    (hu : P.underlying ty = some d) (hd : (match d with | .struct _ | .array _ _ => true | _ => false) = true) (hi : (P.info? ty).map (·.size) = some cs.size) :
    (results fn tmps).run P w = .ok (.agg cs) w := by
  rw [results_cell1 h, hp]
  simp [asAddr, Result.andThen, run_loadVar_row w g t ty cs (0, 0) d hg hu hd hi]
theorem uses_else {k : Int} (h : kindOf k) : usesF k = fl0 := by
  obtain ⟨h1, h2, h3, h4, h5, h6, h7⟩ := h
  unfold usesF; rw [if_neg h1, if_neg (by omega), if_neg h4, if_neg h5, if_neg h6, if_neg h7]
theorem kinds_split (k : Int) : k = 4 ∨ k = 7 ∨ k = 26 ∨ k = 19 ∨ k = 12 ∨ k = 18 ∨ k = 20 ∨ kindOf k := by unfold kindOf; omega
theorem kindOf_bool {k : Int} (h : kindOf k) : (k == 4) = false ∧ (k == 7) = false ∧ (k == 26) = false ∧ (k == 19) = false ∧ (k == 12) = false ∧ (k == 18) = false ∧ (k == 20) = false := by
  obtain ⟨h1, h2, h3, h4, h5, h6, h7⟩ := h
  simp [h1, h2, h3, h4, h5, h6, h7]

set_option maxRecDepth 100000 in
set_option maxHeartbeats 800000 in
theorem uses_any (k : Int) (w : World) : Calls Tryd.prog 62 #[.int .i64 k] w fun e w' =>
    e = .returned (.agg #[.bool (usesF k).dup, .int .i64 (usesF k).q, .bool (usesF k).retain, .bool (usesF k).will, .bool (usesF k).clean, .int .i64 (usesF k).typ]) ∧ Below w.heap.size w w' := by
  rcases kinds_split k with rfl | rfl | rfl | rfl | rfl | rfl | rfl | h
  rotate_right
  · have HU := Lib.hid (uses_else h)
    obtain ⟨q1, q2, q3, q4, q5, q6, q7⟩ := kindOf_bool h
    clear h
    go_enter Tryd.func62, Tryd.ntmps62
    go_wp2
    refine bodyPost_ret (results_row1 rfl _ _ _ _ _ _ rfl ((Obj?.new _ _ _).alloc _) Tryd.underlying23 rfl infoFl) rfl ?_
    exact ⟨by rw [HU.out]; rfl, ((Below.refl _ _).alloc (Nat.le_refl _) _).alloc (by simp) _⟩
  all_goals
    go_enter Tryd.func62, Tryd.ntmps62
    go_wp2
    refine bodyPost_ret (results_row1 rfl _ _ _ _ _ _ rfl ((Obj?.new _ _ _).alloc _) Tryd.underlying23 rfl infoFl) rfl ?_
    exact ⟨rfl, ((Below.refl _ _).alloc (Nat.le_refl _) _).alloc (by simp) _⟩

def mayF (k : Int) (f : Fl) : Bool :=
  flagOk f.q f.typ && ((usesF k).dup || !f.dup) && ((usesF k).q == 1 || f.q == 0) && ((usesF k).retain || !f.retain) && ((usesF k).will || !f.will) && ((usesF k).clean || !f.clean) && ((usesF k).typ == 1 || f.typ == 0) && (decide (0 ≤ f.q) || k == 12)
theorem Obj?.cells {w : World} {b : Nat} {cs : Array Value} {t : TypeId} (h : Obj? w b cs t) : ∀ j, w.cell? ⟨b, j, none⟩ = cs[j]? := by
  intro j
  unfold Obj? at h
  simp [World.cell?, h]
theorem Obj?.froz {w : World} {b : Nat} {cs : Array Value} {t : TypeId} (h : Obj? w b cs t) : ∀ j, w.frozen? ⟨b, j, none⟩ = false := fun j => h.frozen j
set_option maxRecDepth 100000 in
set_option maxHeartbeats 800000 in
theorem may_no (k : Int) (f : Fl) (h : flagOk f.q f.typ = false) (w : World) : Calls Tryd.prog 31 #[.int .i64 k, .agg #[.bool f.dup, .int .i64 f.q, .bool f.retain, .bool f.will, .bool f.clean, .int .i64 f.typ]] w fun e w' =>
    e = .returned (.bool (mayF k f)) ∧ Below w.heap.size w w' := by
  have hm : mayF k f = false := by unfold mayF; rw [h]; rfl
  have hf : flagV f = (0, 7) := by unfold flagV flagF; rw [h]; rfl
  have HM := Lib.hid (And.intro hm hf)
  have hA : Below w.heap.size w (w.alloc (.cells #[.bool f.dup, .int .i64 f.q, .bool f.retain, .bool f.will, .bool f.clean, .int .i64 f.typ] 23 (0, 0))) := (Below.refl _ _).alloc (Nat.le_refl _) _
  clear h hm hf
  go_enter Tryd.func31, Tryd.ntmps31
  go_wp2_with fail
  refine (flag_fl f _).mono ?_
  rintro e w1 ⟨rfl, hb⟩
  rw [HM.out.2]
  have hB1 := hA.trans (hb.mono hA.size)
  clear hb
  go_wp2
  go_ret
  exact ⟨by rw [HM.out.1]; rfl, hB1⟩
set_option maxRecDepth 100000 in
set_option maxHeartbeats 800000 in
theorem may_no2 (k : Int) (f : Fl) (h : flagOk f.q f.typ = true) (h2 : f.q < 0) (h3 : k ≠ 12) (w : World) : Calls Tryd.prog 31 #[.int .i64 k, .agg #[.bool f.dup, .int .i64 f.q, .bool f.retain, .bool f.will, .bool f.clean, .int .i64 f.typ]] w fun e w' =>
    e = .returned (.bool (mayF k f)) ∧ Below w.heap.size w w' := by
  have hm : mayF k f = false := by unfold mayF; rw [show decide (0 ≤ f.q) = false from decide_eq_false (by omega), show (k == 12) = false by simpa using h3]; simp
  have hf : (flagV f).2 = 0 := by unfold flagV flagF; rw [h]; rfl
  have HM := Lib.hid (And.intro hm hf)
  have hA : Below w.heap.size w (w.alloc (.cells #[.bool f.dup, .int .i64 f.q, .bool f.retain, .bool f.will, .bool f.clean, .int .i64 f.typ] 23 (0, 0))) := (Below.refl _ _).alloc (Nat.le_refl _) _
  have q1 : (k != 12) = true := by simpa using h3
  clear h hm hf h3
  go_enter Tryd.func31, Tryd.ntmps31
  go_wp2_with fail
  refine (flag_fl f _).mono ?_
  rintro e w1 ⟨rfl, hb⟩
  rw [HM.out.2]
  have hB1 := hA.trans (hb.mono hA.size)
  have O := (Obj?.new w #[.bool f.dup, .int .i64 f.q, .bool f.retain, .bool f.will, .bool f.clean, .int .i64 f.typ] 23).below hb (by simp)
  have k1 := O.cell 1 _ rfl
  clear hb O
  go_wp2
  go_ret
  exact ⟨by rw [HM.out.1]; rfl, hB1⟩
theorem uses_cls (k : Int) : usesF k = ⟨false, 0, false, true, true, 0⟩ ∨ usesF k = ⟨false, 1, true, false, false, 0⟩ ∨ usesF k = ⟨false, 1, false, false, false, 0⟩ ∨ usesF k = ⟨true, 1, true, false, false, 1⟩ ∨
    usesF k = ⟨true, 1, false, false, false, 1⟩ ∨ usesF k = ⟨false, 0, false, false, false, 1⟩ ∨ usesF k = fl0 := by
  rcases kinds_split k with rfl | rfl | rfl | rfl | rfl | rfl | rfl | h
  · exact .inl rfl
  · exact .inr (.inl rfl)
  · exact .inr (.inl rfl)
  · exact .inr (.inr (.inl rfl))
  · exact .inr (.inr (.inr (.inl rfl)))
  · exact .inr (.inr (.inr (.inr (.inl rfl))))
  · exact .inr (.inr (.inr (.inr (.inr (.inl rfl)))))
  · exact .inr (.inr (.inr (.inr (.inr (.inr (uses_else h))))))
theorem below_al {a w : World} (h : Below a.heap.size a w) (o : Obj) : Below a.heap.size a (w.alloc o) := h.alloc h.size o
theorem flagOk_range {q t : Int} (h : flagOk q t = true) : -1 ≤ q ∧ q ≤ 2 ∧ 0 ≤ t ∧ t ≤ 2 := by simpa [flagOk] using h

set_option maxRecDepth 100000 in
set_option maxHeartbeats 6400000 in
theorem may_go (k : Int) (f : Fl) (h : flagOk f.q f.typ = true) (u : Fl) (hu : usesF k = u) (hu' : u = ⟨false, 0, false, true, true, 0⟩ ∨ u = ⟨false, 1, true, false, false, 0⟩ ∨ u = ⟨false, 1, false, false, false, 0⟩ ∨ u = ⟨true, 1, true, false, false, 1⟩ ∨
    u = ⟨true, 1, false, false, false, 1⟩ ∨ u = ⟨false, 0, false, false, false, 1⟩ ∨ u = fl0) (hd : decide (f.q < 0) = false) (w : World) : Calls Tryd.prog 31 #[.int .i64 k, .agg #[.bool f.dup, .int .i64 f.q, .bool f.retain, .bool f.will, .bool f.clean, .int .i64 f.typ]] w fun e w' =>
    e = .returned (.bool (mayF k f)) ∧ Below w.heap.size w w' := by
  have hg : (decide (0 ≤ f.q) || k == 12) = true := by rw [show decide (0 ≤ f.q) = true from decide_eq_true (by simp at hd; omega)]; rfl
  have HM := Lib.hid (And.intro (show (flagV f).2 = 0 by unfold flagV flagF; rw [h]; rfl) (show mayF k f = ((u.dup || !f.dup) && (u.q == 1 || f.q == 0) && (u.retain || !f.retain) && (u.will || !f.will) && (u.clean || !f.clean) && (u.typ == 1 || f.typ == 0)) by unfold mayF; rw [h, hu, hg]; simp))
  have HU := Lib.hid hu
  have hA : Below w.heap.size w (w.alloc (.cells #[.bool f.dup, .int .i64 f.q, .bool f.retain, .bool f.will, .bool f.clean, .int .i64 f.typ] 23 (0, 0))) := (Below.refl _ _).alloc (Nat.le_refl _) _
  have hs := flagOk_range h
  clear h hu hg
  have hm := HM.out.2
  rw [hm]
  clear hm
  go_enter Tryd.func31, Tryd.ntmps31
  go_wp2_with fail
  refine (flag_fl f _).mono ?_
  rintro e w1 ⟨rfl, hb⟩
  rw [HM.out.1]
  have hB1 := hA.trans (hb.mono hA.size)
  have O := (Obj?.new w #[.bool f.dup, .int .i64 f.q, .bool f.retain, .bool f.will, .bool f.clean, .int .i64 f.typ] 23).below hb (by simp)
  have k1 := O.cell 1 _ rfl
  have HO := Lib.hid O
  clear hb O
  go_wp2_with fail
  refine (uses_any _ _).mono ?_
  rintro e w2 ⟨rfl, hb⟩
  rw [HU.out]
  have hB2 := hB1.trans (hb.mono hB1.size)
  have O := HO.out.below hb HO.out.lt
  have kc := O.cells
  have kf := O.froz
  have hz := O.lt
  clear hb HO k1 O HU HM
  rcases hu' with rfl | rfl | rfl | rfl | rfl | rfl | rfl
  all_goals go_wp2_with fail
  all_goals go_ret
  all_goals refine ⟨?_, ?_⟩
  any_goals ((repeat (first | exact hB2 | refine below_al ?_ _ | refine Below.setCell ?_ (by simp) _)); done)
  all_goals simp_all

set_option maxRecDepth 100000 in
set_option maxHeartbeats 3200000 in
theorem may_go2 (f : Fl) (h : flagOk f.q f.typ = true) (hd : decide (f.q < 0) = true) (w : World) : Calls Tryd.prog 31 #[.int .i64 12, .agg #[.bool f.dup, .int .i64 f.q, .bool f.retain, .bool f.will, .bool f.clean, .int .i64 f.typ]] w fun e w' =>
    e = .returned (.bool (mayF 12 f)) ∧ Below w.heap.size w w' := by
  have HM := Lib.hid (And.intro (show (flagV f).2 = 0 by unfold flagV flagF; rw [h]; rfl) (show mayF 12 f = (!f.will && !f.clean) by unfold mayF; rw [h, show usesF 12 = ⟨true, 1, true, false, false, 1⟩ from rfl]; simp))
  have hA : Below w.heap.size w (w.alloc (.cells #[.bool f.dup, .int .i64 f.q, .bool f.retain, .bool f.will, .bool f.clean, .int .i64 f.typ] 23 (0, 0))) := (Below.refl _ _).alloc (Nat.le_refl _) _
  have hs := flagOk_range h
  clear h
  have hm := HM.out.2
  rw [hm]
  clear hm
  go_enter Tryd.func31, Tryd.ntmps31
  go_wp2_with fail
  refine (flag_fl f _).mono ?_
  rintro e w1 ⟨rfl, hb⟩
  rw [HM.out.1]
  have hB1 := hA.trans (hb.mono hA.size)
  have O := (Obj?.new w #[.bool f.dup, .int .i64 f.q, .bool f.retain, .bool f.will, .bool f.clean, .int .i64 f.typ] 23).below hb (by simp)
  have k1 := O.cell 1 _ rfl
  have HO := Lib.hid O
  clear hb O
  go_wp2_with fail
  refine (uses_any _ _).mono ?_
  rintro e w2 ⟨rfl, hb⟩
  rw [show usesF 12 = ⟨true, 1, true, false, false, 1⟩ from rfl]
  have hB2 := hB1.trans (hb.mono hB1.size)
  have O := HO.out.below hb HO.out.lt
  have kc := O.cells
  have kf := O.froz
  have hz := O.lt
  clear hb HO k1 O HM
  go_wp2_with fail
  all_goals go_ret
  all_goals refine ⟨?_, ?_⟩
  any_goals ((repeat (first | exact hB2 | refine below_al ?_ _ | refine Below.setCell ?_ (by simp) _)); done)
  all_goals simp_all
/-- snhead.May. -/
theorem may_any (k : Int) (f : Fl) (w : World) : Calls Tryd.prog 31 #[.int .i64 k, .agg #[.bool f.dup, .int .i64 f.q, .bool f.retain, .bool f.will, .bool f.clean, .int .i64 f.typ]] w fun e w' =>
    e = .returned (.bool (mayF k f)) ∧ Below w.heap.size w w' := by
  cases h : flagOk f.q f.typ with
  | false => exact may_no k f h w
  | true =>
    by_cases h2 : f.q < 0
    · by_cases h3 : k = 12
      · subst h3
        exact may_go2 f h (decide_eq_true h2) w
      · exact may_no2 k f h h2 h3 w
    · exact may_go k f h _ rfl (uses_cls k) (decide_eq_false h2) w
end Go.Proofs.YtbacnaplpfmpnaaDoor
