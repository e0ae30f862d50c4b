/- prop.Bytes and Valid of no properties; control.Valid, Tail, Body and Read of a PINGREQ. -/
import Derived.Test.YtlfgkdiehmoohaaGreatDoorTrA
import Derived.LoopN
namespace Go.Proofs.YtlfgkdiehmoohaaGreatDoor
open Go Go.RowKit
set_option linter.unusedVariables false
set_option linter.unusedSimpArgs false

set_option maxRecDepth 100000 in
set_option maxHeartbeats 1600000 in
theorem pbytes_none (k : Int) (w : World) : Calls Tryz.prog 85 #[.int .i64 k, .slice none 0 0] w fun e w' => e = .returned (.tuple #[.string ⟨[0].toArray⟩, .int .i64 0]) ∧ Below w.heap.size w w' := by
  have HV := Lib.hid (fun W => vbytes_any 0 (by decide) (by decide) W)
  rw [show vbytes 0 = [0] by decide] at HV
  go_enter Tryz.func85, Tryz.ntmps85
  refine wp_hide fun Q1 hQ1 => ?_
  have HQ1 := Lib.hid hQ1
  clear hQ1
  go_wp2_with fail
  refine (rules_any _).mono ?_
  rintro e w1 ⟨rfl, hb⟩
  have HB1 := Lib.hid hb
  clear hb
  go_wp2_with fail
  refine wp_loop_rounds 1 ?_
  rw [rounds_succ]
  go_wp2_with fail
  refine (lone_any ((Obj?.new _ _ _).cell 22 _ rfl)).mono ?_
  rintro e w2 ⟨rfl, hb⟩
  have HB2 := Lib.hid (HB1.out.trans (((below_al (Below.refl _ _) _).trans (hb.mono (by simp))).mono HB1.out.size))
  clear hb HB1
  go_wp2_with fail
  refine (HV.out _).mono ?_
  rintro e w3 ⟨rfl, hb⟩
  have HB3 := Lib.hid (below_thenh HB2.out hb)
  clear hb HB2
  have hcv := run_convert_bytes_nil (P := Tryz.prog) w3 65 5 Tryz.underlying65 Tryz.underlying5 0 0 9 Tryz.underlying9
  go_wp2_with fail
  refine HQ1.out _ _ _ ?_
  go_ret2
  exact ⟨rfl, HB3.out⟩
theorem pvalid_none (k : Int) (w : World) : Calls Tryz.prog 112 #[.int .i64 k, .slice none 0 0] w fun e w' => e = .returned (.int .i64 0) ∧ Below w.heap.size w w' := by
  go_enter Tryz.func112, Tryz.ntmps112
  go_wp2_with fail
  refine (pbytes_none k _).mono ?_
  rintro e w1 ⟨rfl, hb⟩
  go_wp2_with fail
  go_ret
  exact ⟨rfl, hb⟩
theorem tail_none (w : World) : Calls Tryz.prog 99 #[.int .i64 0, .slice none 0 0, .int .i64 12] w fun e w' => e = .returned (.string ⟨#[]⟩) ∧ Below w.heap.size w w' := by
  go_enter Tryz.func99, Tryz.ntmps99
  go_wp2_with fail
  refine (pbytes_none 12 _).mono ?_
  rintro e w1 ⟨rfl, hb⟩
  have HB1 := Lib.hid hb
  clear hb
  go_wp2_with fail
  refine (put_any _ _ _).mono ?_
  rintro e w2 ⟨rfl, hb⟩
  have HB2 := Lib.hid (below_thenh HB1.out hb)
  clear hb HB1
  go_wp2_with fail
  go_ret
  exact ⟨rfl, HB2.out⟩
/-- A PINGREQ, and its cells. -/
def p12 : Pk := ⟨⟨12, 0, 0, 0, 0, false, false, false, false, false, false, false, [], [], [], [], []⟩, ⟨[], [], 0, false, []⟩, [], [], []⟩
def c12 : Array Value := #[.int .i64 12, .bool false, .bool false, .int .i64 0, .int .i64 0, .string ⟨#[]⟩, .string ⟨#[]⟩, .bool false, .int .i64 0, .string ⟨#[]⟩, .bool false, .string ⟨#[]⟩, .bool false, .string ⟨#[]⟩, .bool false, .string ⟨#[]⟩, .string ⟨#[]⟩, .int .i64 0, .bool false, .slice none 0 0, .bool false, .int .i64 0, .slice none 0 0, .slice none 0 0, .slice none 0 0]
theorem c12_lit : c12 = #[.int .i64 12, .bool false, .bool false, .int .i64 0, .int .i64 0, .string ⟨#[]⟩, .string ⟨#[]⟩, .bool false, .int .i64 0, .string ⟨#[]⟩, .bool false, .string ⟨#[]⟩, .bool false, .string ⟨#[]⟩, .bool false, .string ⟨#[]⟩, .string ⟨#[]⟩, .int .i64 0, .bool false, .slice none 0 0, .bool false, .int .i64 0, .slice none 0 0, .slice none 0 0, .slice none 0 0] := rfl
theorem c12_pk : c12 = pkCs p12 (.slice none 0 0) (.slice none 0 0) (.slice none 0 0) (.slice none 0 0) := rfl
theorem p12_at (w : World) : PkAt w p12 (.slice none 0 0) (.slice none 0 0) (.slice none 0 0) (.slice none 0 0) := ⟨rowOf_nil _ _ _, rowOf_nil _ _ _, rowOf_nil _ _ _, rowOf_nil _ _ _⟩
theorem hsame_12 (w : World) : Calls Tryz.prog 120 #[.agg c12, .agg c12] w fun e w' => e = .returned (.bool true) ∧ Below w.heap.size w w' := by
  have := hsame_any (p12_at w) (p12_at w)
  rw [decide_eq_true rfl, ← c12_pk] at this
  exact this
theorem store_new12 (w : World) : (rowStore 55 ⟨w.heap.size, 0, none⟩ (.agg #[.int .i64 12, .bool false, .bool false, .int .i64 0, .int .i64 0, .string ⟨#[]⟩, .string ⟨#[]⟩, .bool false, .int .i64 0, .string ⟨#[]⟩, .bool false, .string ⟨#[]⟩, .bool false, .string ⟨#[]⟩, .bool false, .string ⟨#[]⟩, .string ⟨#[]⟩, .int .i64 0, .bool false, .slice none 0 0, .bool false, .int .i64 0, .slice none 0 0, .slice none 0 0, .slice none 0 0])).run Tryz.prog (w.alloc (.cells #[.int .i64 0, .bool false, .bool false, .int .i64 0, .int .i64 0, .string ⟨#[]⟩, .string ⟨#[]⟩, .bool false, .int .i64 0, .string ⟨#[]⟩, .bool false, .string ⟨#[]⟩, .bool false, .string ⟨#[]⟩, .bool false, .string ⟨#[]⟩, .string ⟨#[]⟩, .int .i64 0, .bool false, .slice none 0 0, .bool false, .int .i64 0, .slice none 0 0, .slice none 0 0, .slice none 0 0] 55 (0, 0))) = .ok () (w.alloc (.cells c12 55 (0, 0))) := by
  have h := store_pkres (p := p12) (vw := (.slice none 0 0)) (vc := (.slice none 0 0)) (vf := (.slice none 0 0)) (vp := (.slice none 0 0)) (Obj?.new w #[.int .i64 0, .bool false, .bool false, .int .i64 0, .int .i64 0, .string ⟨#[]⟩, .string ⟨#[]⟩, .bool false, .int .i64 0, .string ⟨#[]⟩, .bool false, .string ⟨#[]⟩, .bool false, .string ⟨#[]⟩, .bool false, .string ⟨#[]⟩, .string ⟨#[]⟩, .int .i64 0, .bool false, .slice none 0 0, .bool false, .int .i64 0, .slice none 0 0, .slice none 0 0, .slice none 0 0] 55) rfl (pk_one rfl rfl rfl rfl)
  rw [World.setRow_alloc_new, ← c12_pk] at h
  exact h
theorem store_12 {w : World} {b : Nat} (h : Obj? w b #[.int .i64 0, .bool false, .bool false, .int .i64 0, .int .i64 0, .string ⟨#[]⟩, .string ⟨#[]⟩, .bool false, .int .i64 0, .string ⟨#[]⟩, .bool false, .string ⟨#[]⟩, .bool false, .string ⟨#[]⟩, .bool false, .string ⟨#[]⟩, .string ⟨#[]⟩, .int .i64 0, .bool false, .slice none 0 0, .bool false, .int .i64 0, .slice none 0 0, .slice none 0 0, .slice none 0 0] 55) : (rowStore 55 ⟨b, 0, none⟩ (.agg c12)).run Tryz.prog w = .ok () (w.setRow b c12) := by
  have h := store_pkres (p := p12) (vw := (.slice none 0 0)) (vc := (.slice none 0 0)) (vf := (.slice none 0 0)) (vp := (.slice none 0 0)) h rfl (pk_one rfl rfl rfl rfl)
  rw [← c12_pk] at h
  exact h
theorem load_12 {w : World} {b : Nat} (h : Obj? w b c12 55) : (rowSem 55 ⟨b, 0, none⟩).run Tryz.prog w = .ok (.agg c12) w := by
  rw [c12_pk] at h ⊢
  exact load_pk h
theorem c12_info : (Tryz.prog.info? 55).map (·.size) = some c12.size := by rw [infoPk5]; rfl
theorem c12_one : c12.all (·.oneCell') = true := by unfold c12; exact pk_one (p := p12) (vw := (.slice none 0 0)) (vc := (.slice none 0 0)) (vf := (.slice none 0 0)) (vp := (.slice none 0 0)) rfl rfl rfl rfl
theorem results_rowT {P : Program} {fn : Func} {p u : Tmp} {ty : TypeId} (h : fn.results = #[.cell p ty, .tmp u]) (tmps : Array Value) (w : World) (g : Nat) (t : TypeId) (cs : Array Value) (d : TypeDesc)
    (hp : tmps.getD p undef = .pointer (some ⟨g, 0, none⟩)) (hg : Obj? w g cs t)
    (hu : P.underlying ty = some d) (hd : (match d with | .struct _ | .array _ _ => true | _ => false) = true) (hi : (P.info? ty).map (·.size) = some cs.size) :
    (results fn tmps).run P w = .ok (.tuple #[.agg cs, tmps.getD u undef]) w := by
  rw [results_cell_tmp h, hp]
  simp [asAddr, Result.andThen, run_loadVar_row w g t ty cs (0, 0) d hg hu hd hi]
attribute [local go_sem ↓] load_Pk store_Pk
attribute [local irreducible] rowSem rowStore c12
theorem c12_0 : c12[0]? = some (.int .i64 12) := by unfold c12; rfl
theorem c12_17 : c12[17]? = some (.int .i64 0) := by unfold c12; rfl
theorem c12_21 : c12[21]? = some (.int .i64 0) := by unfold c12; rfl
theorem c12_24 : c12[24]? = some (.slice none 0 0) := by unfold c12; rfl
set_option maxRecDepth 100000 in
set_option maxHeartbeats 1600000 in
theorem cvalid_12 (w : World) : Calls Tryz.prog 98 #[.int .i64 4, .agg c12] w fun e w' => e = .returned (.int .i64 0) ∧ Below w.heap.size w w' := by
  have HB0 := Lib.hid (below_al (Below.refl _ w) (.cells c12 55 (0, 0)))
  have HO0 := Lib.hid (Obj?.new w c12 55)
  have a0 := HO0.out.cell 0 _ c12_0
  go_enter Tryz.func98, Tryz.ntmps98
  refine wp_hide fun Q1 hQ1 => ?_
  have HQ1 := Lib.hid hQ1
  clear hQ1
  go_wp2_with fail
  refine (known_12 _).mono ?_
  rintro e w1 ⟨rfl, hb⟩
  have HB1 := Lib.hid (below_thenh HB0.out hb)
  have HO1 := Lib.hid (HO0.out.below hb HO0.out.lt)
  clear hb HB0 HO0 a0
  have a0 := HO1.out.cell 0 _ c12_0
  have a1 := (HO1.out.alloc (.cells c12 55 (0, 0))).cell 0 _ c12_0
  have hst := store_new12 w1
  go_wp2_with fail
  refine (says_12 _).mono ?_
  rintro e w2 ⟨rfl, hb⟩
  have HB2 := Lib.hid (below_thenh (below_al HB1.out _) hb)
  have HO2 := Lib.hid ((HO1.out.alloc (.cells c12 55 (0, 0))).below hb (by have := HO1.out.lt; simp; omega))
  have HP2 := Lib.hid ((Obj?.new w1 c12 55).below hb (by simp))
  clear hb HB1 HO1 a0 a1 hst
  have l1 := load_12 HO2.out
  have l2 := load_12 HP2.out
  go_wp2_with fail
  refine (hsame_12 _).mono ?_
  rintro e w3 ⟨rfl, hb⟩
  have HB3 := Lib.hid (below_thenh HB2.out hb)
  have HO3 := Lib.hid (HO2.out.below hb HO2.out.lt)
  clear hb HB2 HO2 HP2 l1 l2
  have a0 := HO3.out.cell 0 _ c12_0
  have a1 := HO3.out.cell 24 _ c12_24
  go_wp2_with fail
  refine (pvalid_none 12 _).mono ?_
  rintro e w4 ⟨rfl, hb⟩
  have HB4 := Lib.hid (below_thenh HB3.out hb)
  clear hb HB3 a0 a1
  go_wp2_with fail
  refine HQ1.out _ _ _ ?_
  go_ret
  exact ⟨rfl, HB4.out⟩
set_option maxRecDepth 100000 in
set_option maxHeartbeats 1600000 in
theorem cbody_12 (w : World) : Calls Tryz.prog 63 #[.int .i64 4, .agg c12] w fun e w' => e = .returned (.tuple #[.string ⟨#[]⟩, .int .i64 0]) ∧ Below w.heap.size w w' := by
  have HB0 := Lib.hid (below_al (Below.refl _ w) (.cells c12 55 (0, 0)))
  have HO0 := Lib.hid (Obj?.new w c12 55)
  have l0 := load_12 HO0.out
  go_enter Tryz.func63, Tryz.ntmps63
  refine wp_hide fun Q1 hQ1 => ?_
  have HQ1 := Lib.hid hQ1
  clear hQ1
  go_wp2_with fail
  refine (cvalid_12 _).mono ?_
  rintro e w1 ⟨rfl, hb⟩
  have HB1 := Lib.hid (below_thenh HB0.out hb)
  have HO1 := Lib.hid (HO0.out.below hb HO0.out.lt)
  clear hb HB0 HO0 l0
  have a0 := HO1.out.cell 0 _ c12_0
  have a1 := HO1.out.cell 24 _ c12_24
  have a2 := HO1.out.cell 21 _ c12_21
  go_wp2_with fail
  refine (tail_none _).mono ?_
  rintro e w2 ⟨rfl, hb⟩
  have HB2 := Lib.hid (below_thenh HB1.out hb)
  clear hb HB1 a0 a1 a2
  go_wp2_with fail
  refine HQ1.out _ _ _ ?_
  go_ret2
  exact ⟨rfl, HB2.out⟩
set_option maxRecDepth 100000 in
set_option maxHeartbeats 1600000 in
theorem cread_12 (w : World) : Calls Tryz.prog 64 #[.int .i64 4, .int .i64 12, .string ⟨#[]⟩] w fun e w' => e = .returned (.tuple #[.agg c12, .int .i64 0]) ∧ Below w.heap.size w w' := by
  have HB0 := Lib.hid (below_al (Below.refl _ w) (.cells #[.int .i64 0, .bool false, .bool false, .int .i64 0, .int .i64 0, .string ⟨#[]⟩, .string ⟨#[]⟩, .bool false, .int .i64 0, .string ⟨#[]⟩, .bool false, .string ⟨#[]⟩, .bool false, .string ⟨#[]⟩, .bool false, .string ⟨#[]⟩, .string ⟨#[]⟩, .int .i64 0, .bool false, .slice none 0 0, .bool false, .int .i64 0, .slice none 0 0, .slice none 0 0, .slice none 0 0] 55 (0, 0)))
  have HO0 := Lib.hid (Obj?.new w #[.int .i64 0, .bool false, .bool false, .int .i64 0, .int .i64 0, .string ⟨#[]⟩, .string ⟨#[]⟩, .bool false, .int .i64 0, .string ⟨#[]⟩, .bool false, .string ⟨#[]⟩, .bool false, .string ⟨#[]⟩, .bool false, .string ⟨#[]⟩, .string ⟨#[]⟩, .int .i64 0, .bool false, .slice none 0 0, .bool false, .int .i64 0, .slice none 0 0, .slice none 0 0, .slice none 0 0] 55)
  go_enter Tryz.func64, Tryz.ntmps64
  go_wp2_with fail
  refine (known_12 _).mono ?_
  rintro e w1 ⟨rfl, hb⟩
  have HB1 := Lib.hid (below_thenh HB0.out hb)
  have HO1 := Lib.hid (HO0.out.below hb HO0.out.lt)
  clear hb HB0 HO0
  have hst := store_new12 w1
  go_wp2_with fail
  refine (says_12 _).mono ?_
  rintro e w2 ⟨rfl, hb⟩
  have HB2 := Lib.hid (below_thenh (below_al HB1.out _) hb)
  have HO2 := Lib.hid ((HO1.out.alloc (.cells c12 55 (0, 0))).below hb (by have := HO1.out.lt; simp; omega))
  have HP2 := Lib.hid ((Obj?.new w1 c12 55).below hb (by simp))
  clear hb HB1 HO1 hst
  have l2 := load_12 HP2.out
  go_wp2_with fail
  refine (cvalid_12 _).mono ?_
  rintro e w3 ⟨rfl, hb⟩
  have HB3 := Lib.hid (below_thenh HB2.out hb)
  have HO3 := Lib.hid (HO2.out.below hb HO2.out.lt)
  have HP3 := Lib.hid (HP2.out.below hb HP2.out.lt)
  clear hb HB2 HO2 HP2 l2
  have l3 := load_12 HP3.out
  have hst := store_pkres (p := p12) (vw := (.slice none 0 0)) (vc := (.slice none 0 0)) (vf := (.slice none 0 0)) (vp := (.slice none 0 0)) HO3.out rfl (pk_one rfl rfl rfl rfl)
  rw [← c12_pk] at hst
  go_wp2_with fail
  refine bodyPost_ret (results_rowT rfl _ _ _ _ _ _ rfl (HO3.out.setRow c12) Tryz.underlying55 rfl c12_info) rfl ?_
  exact ⟨rfl, below_row HB3.out (Nat.le_refl _) _⟩
end Go.Proofs.YtlfgkdiehmoohaaGreatDoor
