/- A session of MQTT 3.1.1, fed a PINGREQ. -/
import Derived.Test.YtlfgkdiehmoohaaGreatDoorTrM
namespace Go.Proofs.YtlfgkdiehmoohaaGreatDoor
open Go Go.RowKit
set_option linter.unusedVariables false
set_option linter.unusedSimpArgs false
attribute [local go_sem ↓] load_Pk store_Pk load_Ev store_Ev
attribute [local irreducible] rowSem rowStore c12 c00 evN evP
set_option maxRecDepth 100000 in
theorem sright_any (w : World) : Calls Tryz.prog 23 #[.agg #[.int .i64 4096, .int .i64 6]] w fun e w' => e = .returned (.bool true) ∧ Below w.heap.size w w' := by
  have HB := Lib.hid (below_al (Below.refl _ w) (.cells #[.int .i64 4096, .int .i64 6] 23 (0, 0)))
  go_enter Tryz.func23, Tryz.ntmps23
  go_wp2
  go_ret
  exact ⟨rfl, HB.out⟩
theorem fversion_1 (w : World) : Calls Tryz.prog 24 #[.int .i64 1] w fun e w' => e = .returned (.tuple #[.int .i64 4, .bool true]) ∧ w' = w := by
  go_enter Tryz.func24, Tryz.ntmps24
  go_wp2
  go_ret2
  exact ⟨rfl, rfl⟩
theorem limits_any (w : World) : Calls Tryz.prog 17 #[] w fun e w' => e = .returned (.agg #[.int .i64 4096, .int .i64 6]) ∧ Below w.heap.size w w' := by
  have HB := Lib.hid (below_al (Below.refl _ w) (.cells #[.int .i64 4096, .int .i64 6] 23 (0, 0)))
  have HO := Lib.hid (Obj?.new w #[.int .i64 4096, .int .i64 6] 23)
  go_enter Tryz.func17, Tryz.ntmps17
  go_wp2_with fail
  refine bodyPost_ret (results_row1 rfl _ _ _ _ _ _ rfl HO.out Tryz.underlying23 rfl (by kernel_rfl)) rfl ?_
  exact ⟨rfl, HB.out⟩
theorem store_func {P : Program} {w : World} {a : Addr} {m : Mode} (fn : Fn) (x y : Array Value) : (store a (.func fn x y) m).run P w = stored P w a (.func fn x y) m := run_store P w a _ m rfl
attribute [local go_sem] store_func
def cnC : Array Value := #[.int .i64 1, .int .i64 4096, .int .i64 6, .string ⟨#[]⟩]
def ssC (d f : Value) (e t : Int) : Array Value := #[.int .i64 1, .int .i64 4096, .int .i64 6, .string ⟨#[]⟩, d, f, .int .i64 e, .int .i64 t]
set_option maxRecDepth 100000 in
set_option maxHeartbeats 3200000 in
theorem snew_3 (w : World) : Calls Tryz.prog 16 #[.agg #[.int .i64 1, .int .i64 4096, .int .i64 6, .string ⟨#[]⟩], .pointer none] w fun e w' => ∃ ss sp, e = .returned (.tuple #[.pointer (some ⟨ss, 0, none⟩), .int .i64 0]) ∧ Below w.heap.size w w' ∧ w.heap.size ≤ ss ∧ ss < sp ∧
    Obj? w' ss (ssC (.iface 83 (.agg (omC sp))) (.func (.method "polyglot/session.feed") #[.iface 83 (.agg (omC sp))] #[]) 0 0) 79 ∧ Obj? w' sp (stC 4 4096 (.slice none 0 0) 0 0 0) 67 := by
  have hmf := mkfun
  have HO0 := Lib.hid (Obj?.new w #[.int .i64 1, .int .i64 4096, .int .i64 6, .string ⟨#[]⟩] 44)
  have HB0 := Lib.hid (below_al (Below.refl _ w) (.cells #[.int .i64 1, .int .i64 4096, .int .i64 6, .string ⟨#[]⟩] 44 (0, 0)))
  go_enter Tryz.func16, Tryz.ntmps16
  refine wp_hide fun Q1 hQ1 => ?_
  have HQ1 := Lib.hid hQ1
  clear hQ1
  go_wp2_with fail
  refine (sright_any _).mono ?_
  rintro e w1 ⟨rfl, hb⟩
  have HB1 := Lib.hid (below_thenh HB0.out hb)
  have HO1 := Lib.hid (HO0.out.below hb HO0.out.lt)
  have k1 := HO1.out.cells
  have k2 := (HO1.out.alloc (.cells (ssC .nilIface .nilFunc 0 0) 79 (0, 0))).cells
  have HS1 := Lib.hid (Obj?.new w1 (ssC .nilIface .nilFunc 0 0) 79)
  have HO2 := Lib.hid (HO1.out.alloc (.cells (ssC .nilIface .nilFunc 0 0) 79 (0, 0)))
  have HB2 := Lib.hid (below_al HB1.out (.cells (ssC .nilIface .nilFunc 0 0) 79 (0, 0)))
  have HZ := Lib.hid (show w.heap.size ≤ w1.heap.size from HB1.out.size)
  unfold ssC at k2
  clear hb HB0 HO0
  go_wp2_with fail
  refine (fversion_1 _).mono ?_
  rintro e w2 ⟨rfl, hw⟩
  subst hw
  go_wp2_with fail
  refine (mnew_ok 4 4096 6 (.inl rfl) (by decide) _).mono ?_
  rintro e w3 ⟨rfl, hb, hO⟩
  obtain ⟨sp, hsp⟩ : ∃ sp, sp = (w1.alloc (.cells #[.int .i64 1, .int .i64 4096, .int .i64 6, .string ⟨#[]⟩, .nilIface, .nilFunc, .int .i64 0, .int .i64 0] 79 (0, 0))).heap.size + 1 := ⟨_, rfl⟩
  have HSp := Lib.hid (show w1.heap.size < sp by rw [hsp]; simp; omega)
  rw [← hsp] at hO
  rw [← hsp]
  clear hsp k1 k2
  have HT3 := Lib.hid hO
  have HB3 := Lib.hid (below_thenh HB2.out hb)
  have HO3 := Lib.hid (HO2.out.below hb HO2.out.lt)
  have HS3 := Lib.hid (HS1.out.below hb HS1.out.lt)
  have k3 := HO3.out.cells
  have ks := HS3.out.cells
  have f4 := HS3.out.frozen 4
  have HS4 := Lib.hid (HS3.out.set 4 (.iface 83 (.agg (omC sp))))
  have f5 := HS4.out.frozen 5
  have c5 := HS4.out.cell 5 .nilFunc rfl
  have c4 := HS4.out.cell 4 (.iface 83 (.agg (omC sp))) rfl
  have HS5 := Lib.hid (HS4.out.set 5 (.func (.method "polyglot/session.feed") #[.iface 83 (.agg (omC sp))] #[]))
  have HT5 := Lib.hid (obj_set_ne (obj_set_ne HT3.out (show sp ≠ w1.heap.size from fun e => by have := HSp.out; omega) (j := 4) (u := (.iface 83 (.agg (omC sp))))) (show sp ≠ w1.heap.size from fun e => by have := HSp.out; omega) (j := 5) (u := (.func (.method "polyglot/session.feed") #[.iface 83 (.agg (omC sp))] #[])))
  have HB5 := Lib.hid ((HB3.out.setCell (p := ⟨w1.heap.size, 4, none⟩) HZ.out (.iface 83 (.agg (omC sp)))).setCell (p := ⟨w1.heap.size, 5, none⟩) HZ.out (.func (.method "polyglot/session.feed") #[.iface 83 (.agg (omC sp))] #[]))
  unfold omC at f5 c5 c4 HS5 HT5 HB5
  unfold ssC at ks
  clear hb hO HB2 HO2 HS1 HB1 HO1 HO3 HS3 HS4 HB3 HT3
  go_wp2_with fail
  refine HQ1.out _ _ _ ?_
  go_ret2
  exact ⟨w1.heap.size, sp, rfl, HB5.out, HZ.out, HSp.out, HS5.out, HT5.out⟩
end Go.Proofs.YtlfgkdiehmoohaaGreatDoor
