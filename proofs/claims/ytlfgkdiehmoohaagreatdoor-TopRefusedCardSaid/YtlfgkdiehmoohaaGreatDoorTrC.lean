/- mqtt.chapters; the chapter of a PINGREQ. -/
import Derived.Test.YtlfgkdiehmoohaaGreatDoorTrB
namespace Go.Proofs.YtlfgkdiehmoohaaGreatDoor
open Go Go.RowKit
set_option linter.unusedVariables false
set_option linter.unusedSimpArgs false
theorem load_Ch (a : Addr) : loadVar 104 a = rowSem 104 a := rfl
theorem store_Ch (a : Addr) (v : Value) : storeVar 104 a v = rowStore 104 a v := rfl
theorem infoCh : (Tryz.prog.info? 104).map (·.size) = some 2 := by kernel_rfl
theorem store_newch (w : World) (f g : Nat) : (rowStore 104 ⟨w.heap.size, 0, none⟩ (.agg #[.func (.func f) #[] #[], .func (.func g) #[] #[]])).run Tryz.prog (w.alloc (.cells #[.nilFunc, .nilFunc] 104 (0, 0))) = .ok () (w.alloc (.cells #[.func (.func f) #[] #[], .func (.func g) #[] #[]] 104 (0, 0))) := by
  have h := rowStore_run (P := Tryz.prog) _ w.heap.size 104 104 _ #[.func (.func f) #[] #[], .func (.func g) #[] #[]] (Obj?.new w #[.nilFunc, .nilFunc] 104) infoCh rfl (by simp [Value.oneCell'])
  rw [World.setRow_alloc_new] at h
  exact h
theorem load_ch {w : World} {b : Nat} {u v : Value} (h : Obj? w b #[u, v] 104) : (rowSem 104 ⟨b, 0, none⟩).run Tryz.prog w = .ok (.agg #[u, v]) w :=
  rowSem_run w b 104 104 _ _ h Tryz.underlying104 rfl infoCh
attribute [local go_sem ↓] load_Pk store_Pk
attribute [local irreducible] rowSem rowStore c12

def chL : List (Int × Value) := [(1, .agg #[.func (.func 41) #[] #[], .func (.func 42) #[] #[]]), (2, .agg #[.func (.func 41) #[] #[], .func (.func 42) #[] #[]]), (3, .agg #[.func (.func 49) #[] #[], .func (.func 50) #[] #[]]), (4, .agg #[.func (.func 43) #[] #[], .func (.func 44) #[] #[]]), (5, .agg #[.func (.func 43) #[] #[], .func (.func 44) #[] #[]]), (6, .agg #[.func (.func 43) #[] #[], .func (.func 44) #[] #[]]), (7, .agg #[.func (.func 43) #[] #[], .func (.func 44) #[] #[]]), (8, .agg #[.func (.func 45) #[] #[], .func (.func 46) #[] #[]]), (9, .agg #[.func (.func 45) #[] #[], .func (.func 46) #[] #[]]), (10, .agg #[.func (.func 45) #[] #[], .func (.func 46) #[] #[]]), (11, .agg #[.func (.func 45) #[] #[], .func (.func 46) #[] #[]]), (12, .agg #[.func (.func 47) #[] #[], .func (.func 48) #[] #[]]), (13, .agg #[.func (.func 47) #[] #[], .func (.func 48) #[] #[]]), (14, .agg #[.func (.func 47) #[] #[], .func (.func 48) #[] #[]]), (15, .agg #[.func (.func 47) #[] #[], .func (.func 48) #[] #[]])]
attribute [local go_sem ↓] load_Ch store_Ch
set_option maxRecDepth 100000 in
set_option maxHeartbeats 3200000 in
theorem chapters_any (w : World) : Calls Tryz.prog 31 #[] w fun e w' => e = .returned (.map (some (w.heap.size + 4))) ∧ Below w.heap.size w w' ∧ w'.heap[w.heap.size + 4]? = some (mapO chL) := by
  have hmm := mkmap 105 ((((w.alloc (.cells #[.func (.func 41) #[] #[], .func (.func 42) #[] #[]] 104 (0, 0))).alloc (.cells #[.func (.func 43) #[] #[], .func (.func 44) #[] #[]] 104 (0, 0))).alloc (.cells #[.func (.func 45) #[] #[], .func (.func 46) #[] #[]] 104 (0, 0))).alloc (.cells #[.func (.func 47) #[] #[], .func (.func 48) #[] #[]] 104 (0, 0))) chL
  have hI0 := run_insL (P := Tryz.prog) (w := ((((w.alloc (.cells #[.func (.func 41) #[] #[], .func (.func 42) #[] #[]] 104 (0, 0))).alloc (.cells #[.func (.func 43) #[] #[], .func (.func 44) #[] #[]] 104 (0, 0))).alloc (.cells #[.func (.func 45) #[] #[], .func (.func 46) #[] #[]] 104 (0, 0))).alloc (.cells #[.func (.func 47) #[] #[], .func (.func 48) #[] #[]] 104 (0, 0)))) (T := 105) chL 0 1 rfl 1 (.agg #[.func (.func 41) #[] #[], .func (.func 42) #[] #[]]) rfl rfl Tryz.underlying105 Tryz.underlying3
  have hI1 := run_insL (P := Tryz.prog) (w := ((((w.alloc (.cells #[.func (.func 41) #[] #[], .func (.func 42) #[] #[]] 104 (0, 0))).alloc (.cells #[.func (.func 43) #[] #[], .func (.func 44) #[] #[]] 104 (0, 0))).alloc (.cells #[.func (.func 45) #[] #[], .func (.func 46) #[] #[]] 104 (0, 0))).alloc (.cells #[.func (.func 47) #[] #[], .func (.func 48) #[] #[]] 104 (0, 0)))) (T := 105) chL 1 2 rfl 2 (.agg #[.func (.func 41) #[] #[], .func (.func 42) #[] #[]]) rfl rfl Tryz.underlying105 Tryz.underlying3
  have hI2 := run_insL (P := Tryz.prog) (w := ((((w.alloc (.cells #[.func (.func 41) #[] #[], .func (.func 42) #[] #[]] 104 (0, 0))).alloc (.cells #[.func (.func 43) #[] #[], .func (.func 44) #[] #[]] 104 (0, 0))).alloc (.cells #[.func (.func 45) #[] #[], .func (.func 46) #[] #[]] 104 (0, 0))).alloc (.cells #[.func (.func 47) #[] #[], .func (.func 48) #[] #[]] 104 (0, 0)))) (T := 105) chL 2 3 rfl 3 (.agg #[.func (.func 49) #[] #[], .func (.func 50) #[] #[]]) rfl rfl Tryz.underlying105 Tryz.underlying3
  have hI3 := run_insL (P := Tryz.prog) (w := ((((w.alloc (.cells #[.func (.func 41) #[] #[], .func (.func 42) #[] #[]] 104 (0, 0))).alloc (.cells #[.func (.func 43) #[] #[], .func (.func 44) #[] #[]] 104 (0, 0))).alloc (.cells #[.func (.func 45) #[] #[], .func (.func 46) #[] #[]] 104 (0, 0))).alloc (.cells #[.func (.func 47) #[] #[], .func (.func 48) #[] #[]] 104 (0, 0)))) (T := 105) chL 3 4 rfl 4 (.agg #[.func (.func 43) #[] #[], .func (.func 44) #[] #[]]) rfl rfl Tryz.underlying105 Tryz.underlying3
  have hI4 := run_insL (P := Tryz.prog) (w := ((((w.alloc (.cells #[.func (.func 41) #[] #[], .func (.func 42) #[] #[]] 104 (0, 0))).alloc (.cells #[.func (.func 43) #[] #[], .func (.func 44) #[] #[]] 104 (0, 0))).alloc (.cells #[.func (.func 45) #[] #[], .func (.func 46) #[] #[]] 104 (0, 0))).alloc (.cells #[.func (.func 47) #[] #[], .func (.func 48) #[] #[]] 104 (0, 0)))) (T := 105) chL 4 5 rfl 5 (.agg #[.func (.func 43) #[] #[], .func (.func 44) #[] #[]]) rfl rfl Tryz.underlying105 Tryz.underlying3
  have hI5 := run_insL (P := Tryz.prog) (w := ((((w.alloc (.cells #[.func (.func 41) #[] #[], .func (.func 42) #[] #[]] 104 (0, 0))).alloc (.cells #[.func (.func 43) #[] #[], .func (.func 44) #[] #[]] 104 (0, 0))).alloc (.cells #[.func (.func 45) #[] #[], .func (.func 46) #[] #[]] 104 (0, 0))).alloc (.cells #[.func (.func 47) #[] #[], .func (.func 48) #[] #[]] 104 (0, 0)))) (T := 105) chL 5 6 rfl 6 (.agg #[.func (.func 43) #[] #[], .func (.func 44) #[] #[]]) rfl rfl Tryz.underlying105 Tryz.underlying3
  have hI6 := run_insL (P := Tryz.prog) (w := ((((w.alloc (.cells #[.func (.func 41) #[] #[], .func (.func 42) #[] #[]] 104 (0, 0))).alloc (.cells #[.func (.func 43) #[] #[], .func (.func 44) #[] #[]] 104 (0, 0))).alloc (.cells #[.func (.func 45) #[] #[], .func (.func 46) #[] #[]] 104 (0, 0))).alloc (.cells #[.func (.func 47) #[] #[], .func (.func 48) #[] #[]] 104 (0, 0)))) (T := 105) chL 6 7 rfl 7 (.agg #[.func (.func 43) #[] #[], .func (.func 44) #[] #[]]) rfl rfl Tryz.underlying105 Tryz.underlying3
  have hI7 := run_insL (P := Tryz.prog) (w := ((((w.alloc (.cells #[.func (.func 41) #[] #[], .func (.func 42) #[] #[]] 104 (0, 0))).alloc (.cells #[.func (.func 43) #[] #[], .func (.func 44) #[] #[]] 104 (0, 0))).alloc (.cells #[.func (.func 45) #[] #[], .func (.func 46) #[] #[]] 104 (0, 0))).alloc (.cells #[.func (.func 47) #[] #[], .func (.func 48) #[] #[]] 104 (0, 0)))) (T := 105) chL 7 8 rfl 8 (.agg #[.func (.func 45) #[] #[], .func (.func 46) #[] #[]]) rfl rfl Tryz.underlying105 Tryz.underlying3
  have hI8 := run_insL (P := Tryz.prog) (w := ((((w.alloc (.cells #[.func (.func 41) #[] #[], .func (.func 42) #[] #[]] 104 (0, 0))).alloc (.cells #[.func (.func 43) #[] #[], .func (.func 44) #[] #[]] 104 (0, 0))).alloc (.cells #[.func (.func 45) #[] #[], .func (.func 46) #[] #[]] 104 (0, 0))).alloc (.cells #[.func (.func 47) #[] #[], .func (.func 48) #[] #[]] 104 (0, 0)))) (T := 105) chL 8 9 rfl 9 (.agg #[.func (.func 45) #[] #[], .func (.func 46) #[] #[]]) rfl rfl Tryz.underlying105 Tryz.underlying3
  have hI9 := run_insL (P := Tryz.prog) (w := ((((w.alloc (.cells #[.func (.func 41) #[] #[], .func (.func 42) #[] #[]] 104 (0, 0))).alloc (.cells #[.func (.func 43) #[] #[], .func (.func 44) #[] #[]] 104 (0, 0))).alloc (.cells #[.func (.func 45) #[] #[], .func (.func 46) #[] #[]] 104 (0, 0))).alloc (.cells #[.func (.func 47) #[] #[], .func (.func 48) #[] #[]] 104 (0, 0)))) (T := 105) chL 9 10 rfl 10 (.agg #[.func (.func 45) #[] #[], .func (.func 46) #[] #[]]) rfl rfl Tryz.underlying105 Tryz.underlying3
  have hI10 := run_insL (P := Tryz.prog) (w := ((((w.alloc (.cells #[.func (.func 41) #[] #[], .func (.func 42) #[] #[]] 104 (0, 0))).alloc (.cells #[.func (.func 43) #[] #[], .func (.func 44) #[] #[]] 104 (0, 0))).alloc (.cells #[.func (.func 45) #[] #[], .func (.func 46) #[] #[]] 104 (0, 0))).alloc (.cells #[.func (.func 47) #[] #[], .func (.func 48) #[] #[]] 104 (0, 0)))) (T := 105) chL 10 11 rfl 11 (.agg #[.func (.func 45) #[] #[], .func (.func 46) #[] #[]]) rfl rfl Tryz.underlying105 Tryz.underlying3
  have hI11 := run_insL (P := Tryz.prog) (w := ((((w.alloc (.cells #[.func (.func 41) #[] #[], .func (.func 42) #[] #[]] 104 (0, 0))).alloc (.cells #[.func (.func 43) #[] #[], .func (.func 44) #[] #[]] 104 (0, 0))).alloc (.cells #[.func (.func 45) #[] #[], .func (.func 46) #[] #[]] 104 (0, 0))).alloc (.cells #[.func (.func 47) #[] #[], .func (.func 48) #[] #[]] 104 (0, 0)))) (T := 105) chL 11 12 rfl 12 (.agg #[.func (.func 47) #[] #[], .func (.func 48) #[] #[]]) rfl rfl Tryz.underlying105 Tryz.underlying3
  have hI12 := run_insL (P := Tryz.prog) (w := ((((w.alloc (.cells #[.func (.func 41) #[] #[], .func (.func 42) #[] #[]] 104 (0, 0))).alloc (.cells #[.func (.func 43) #[] #[], .func (.func 44) #[] #[]] 104 (0, 0))).alloc (.cells #[.func (.func 45) #[] #[], .func (.func 46) #[] #[]] 104 (0, 0))).alloc (.cells #[.func (.func 47) #[] #[], .func (.func 48) #[] #[]] 104 (0, 0)))) (T := 105) chL 12 13 rfl 13 (.agg #[.func (.func 47) #[] #[], .func (.func 48) #[] #[]]) rfl rfl Tryz.underlying105 Tryz.underlying3
  have hI13 := run_insL (P := Tryz.prog) (w := ((((w.alloc (.cells #[.func (.func 41) #[] #[], .func (.func 42) #[] #[]] 104 (0, 0))).alloc (.cells #[.func (.func 43) #[] #[], .func (.func 44) #[] #[]] 104 (0, 0))).alloc (.cells #[.func (.func 45) #[] #[], .func (.func 46) #[] #[]] 104 (0, 0))).alloc (.cells #[.func (.func 47) #[] #[], .func (.func 48) #[] #[]] 104 (0, 0)))) (T := 105) chL 13 14 rfl 14 (.agg #[.func (.func 47) #[] #[], .func (.func 48) #[] #[]]) rfl rfl Tryz.underlying105 Tryz.underlying3
  have hI14 := run_insL (P := Tryz.prog) (w := ((((w.alloc (.cells #[.func (.func 41) #[] #[], .func (.func 42) #[] #[]] 104 (0, 0))).alloc (.cells #[.func (.func 43) #[] #[], .func (.func 44) #[] #[]] 104 (0, 0))).alloc (.cells #[.func (.func 45) #[] #[], .func (.func 46) #[] #[]] 104 (0, 0))).alloc (.cells #[.func (.func 47) #[] #[], .func (.func 48) #[] #[]] 104 (0, 0)))) (T := 105) chL 14 15 rfl 15 (.agg #[.func (.func 47) #[] #[], .func (.func 48) #[] #[]]) rfl rfl Tryz.underlying105 Tryz.underlying3
  have HB := Lib.hid (below_al (below_al (below_al (below_al (below_al (Below.refl _ w) (.cells #[.func (.func 41) #[] #[], .func (.func 42) #[] #[]] 104 (0, 0))) (.cells #[.func (.func 43) #[] #[], .func (.func 44) #[] #[]] 104 (0, 0))) (.cells #[.func (.func 45) #[] #[], .func (.func 46) #[] #[]] 104 (0, 0))) (.cells #[.func (.func 47) #[] #[], .func (.func 48) #[] #[]] 104 (0, 0))) (mapN chL 15))
  have HM := Lib.hid (MapKept.heap_alloc ((((w.alloc (.cells #[.func (.func 41) #[] #[], .func (.func 42) #[] #[]] 104 (0, 0))).alloc (.cells #[.func (.func 43) #[] #[], .func (.func 44) #[] #[]] 104 (0, 0))).alloc (.cells #[.func (.func 45) #[] #[], .func (.func 46) #[] #[]] 104 (0, 0))).alloc (.cells #[.func (.func 47) #[] #[], .func (.func 48) #[] #[]] 104 (0, 0))) (mapN chL 15)).1
  have hs0 := store_newch w 41 42
  have hs1 := store_newch (w.alloc (.cells #[.func (.func 41) #[] #[], .func (.func 42) #[] #[]] 104 (0, 0))) 43 44
  have hs2 := store_newch ((w.alloc (.cells #[.func (.func 41) #[] #[], .func (.func 42) #[] #[]] 104 (0, 0))).alloc (.cells #[.func (.func 43) #[] #[], .func (.func 44) #[] #[]] 104 (0, 0))) 45 46
  have hs3 := store_newch (((w.alloc (.cells #[.func (.func 41) #[] #[], .func (.func 42) #[] #[]] 104 (0, 0))).alloc (.cells #[.func (.func 43) #[] #[], .func (.func 44) #[] #[]] 104 (0, 0))).alloc (.cells #[.func (.func 45) #[] #[], .func (.func 46) #[] #[]] 104 (0, 0))) 47 48
  have hl0 := fun i => load_ch ((((Obj?.new w _ _).alloc (.cells #[.func (.func 43) #[] #[], .func (.func 44) #[] #[]] 104 (0, 0))).alloc (.cells #[.func (.func 45) #[] #[], .func (.func 46) #[] #[]] 104 (0, 0))).alloc (.cells #[.func (.func 47) #[] #[], .func (.func 48) #[] #[]] 104 (0, 0)) |>.alloc (mapN chL i) : Obj? (((((w.alloc (.cells #[.func (.func 41) #[] #[], .func (.func 42) #[] #[]] 104 (0, 0))).alloc (.cells #[.func (.func 43) #[] #[], .func (.func 44) #[] #[]] 104 (0, 0))).alloc (.cells #[.func (.func 45) #[] #[], .func (.func 46) #[] #[]] 104 (0, 0))).alloc (.cells #[.func (.func 47) #[] #[], .func (.func 48) #[] #[]] 104 (0, 0))).alloc (mapN chL i)) w.heap.size #[.func (.func 41) #[] #[], .func (.func 42) #[] #[]] 104)
  have hl1 := fun i => load_ch (((Obj?.new (w.alloc (.cells #[.func (.func 41) #[] #[], .func (.func 42) #[] #[]] 104 (0, 0))) _ _).alloc (.cells #[.func (.func 45) #[] #[], .func (.func 46) #[] #[]] 104 (0, 0))).alloc (.cells #[.func (.func 47) #[] #[], .func (.func 48) #[] #[]] 104 (0, 0)) |>.alloc (mapN chL i) : Obj? (((((w.alloc (.cells #[.func (.func 41) #[] #[], .func (.func 42) #[] #[]] 104 (0, 0))).alloc (.cells #[.func (.func 43) #[] #[], .func (.func 44) #[] #[]] 104 (0, 0))).alloc (.cells #[.func (.func 45) #[] #[], .func (.func 46) #[] #[]] 104 (0, 0))).alloc (.cells #[.func (.func 47) #[] #[], .func (.func 48) #[] #[]] 104 (0, 0))).alloc (mapN chL i)) (w.alloc (.cells #[.func (.func 41) #[] #[], .func (.func 42) #[] #[]] 104 (0, 0))).heap.size #[.func (.func 43) #[] #[], .func (.func 44) #[] #[]] 104)
  have hl2 := fun i => load_ch ((Obj?.new ((w.alloc (.cells #[.func (.func 41) #[] #[], .func (.func 42) #[] #[]] 104 (0, 0))).alloc (.cells #[.func (.func 43) #[] #[], .func (.func 44) #[] #[]] 104 (0, 0))) _ _).alloc (.cells #[.func (.func 47) #[] #[], .func (.func 48) #[] #[]] 104 (0, 0)) |>.alloc (mapN chL i) : Obj? (((((w.alloc (.cells #[.func (.func 41) #[] #[], .func (.func 42) #[] #[]] 104 (0, 0))).alloc (.cells #[.func (.func 43) #[] #[], .func (.func 44) #[] #[]] 104 (0, 0))).alloc (.cells #[.func (.func 45) #[] #[], .func (.func 46) #[] #[]] 104 (0, 0))).alloc (.cells #[.func (.func 47) #[] #[], .func (.func 48) #[] #[]] 104 (0, 0))).alloc (mapN chL i)) ((w.alloc (.cells #[.func (.func 41) #[] #[], .func (.func 42) #[] #[]] 104 (0, 0))).alloc (.cells #[.func (.func 43) #[] #[], .func (.func 44) #[] #[]] 104 (0, 0))).heap.size #[.func (.func 45) #[] #[], .func (.func 46) #[] #[]] 104)
  have hl3 := fun i => load_ch (Obj?.new (((w.alloc (.cells #[.func (.func 41) #[] #[], .func (.func 42) #[] #[]] 104 (0, 0))).alloc (.cells #[.func (.func 43) #[] #[], .func (.func 44) #[] #[]] 104 (0, 0))).alloc (.cells #[.func (.func 45) #[] #[], .func (.func 46) #[] #[]] 104 (0, 0))) _ _ |>.alloc (mapN chL i) : Obj? (((((w.alloc (.cells #[.func (.func 41) #[] #[], .func (.func 42) #[] #[]] 104 (0, 0))).alloc (.cells #[.func (.func 43) #[] #[], .func (.func 44) #[] #[]] 104 (0, 0))).alloc (.cells #[.func (.func 45) #[] #[], .func (.func 46) #[] #[]] 104 (0, 0))).alloc (.cells #[.func (.func 47) #[] #[], .func (.func 48) #[] #[]] 104 (0, 0))).alloc (mapN chL i)) (((w.alloc (.cells #[.func (.func 41) #[] #[], .func (.func 42) #[] #[]] 104 (0, 0))).alloc (.cells #[.func (.func 43) #[] #[], .func (.func 44) #[] #[]] 104 (0, 0))).alloc (.cells #[.func (.func 45) #[] #[], .func (.func 46) #[] #[]] 104 (0, 0))).heap.size #[.func (.func 47) #[] #[], .func (.func 48) #[] #[]] 104)
  simp only [World.size_alloc] at hmm hs1 hs2 hs3 hl1 hl2 hl3 hI0 hI1 hI2 hI3 hI4 hI5 hI6 hI7 hI8 hI9 hI10 hI11 hI12 hI13 hI14 HM
  go_enter Tryz.func31, Tryz.ntmps31
  refine wp_hide fun Q1 hQ1 => ?_
  have HQ1 := Lib.hid hQ1
  clear hQ1
  go_upto_region 5 with fail
  (try dsimp only [List.append])
  go_wp2_with fail
  refine HQ1.out _ _ _ ?_
  go_ret
  exact ⟨rfl, HB.out, HM.out⟩

set_option maxRecDepth 100000 in
set_option maxHeartbeats 1600000 in
theorem wcontrol_12 (w : World) : Calls Tryz.prog 48 #[.agg #[.int .i64 4, .int .i64 12, .int .i64 0, .int .i64 0, .string ⟨#[]⟩]] w fun e w' => e = .returned (.tuple #[.agg c12, .int .i64 0]) ∧ Below w.heap.size w w' := by
  have HB0 := Lib.hid (below_al (below_al (Below.refl _ w) (.cells #[.int .i64 4, .int .i64 12, .int .i64 0, .int .i64 0, .string ⟨#[]⟩] 108 (0, 0))) (.cells #[.int .i64 0, .bool false, .bool false, .int .i64 0, .int .i64 0, .string ⟨#[]⟩, .string ⟨#[]⟩, .bool false, .int .i64 0, .string ⟨#[]⟩, .bool false, .string ⟨#[]⟩, .bool false, .string ⟨#[]⟩, .bool false, .string ⟨#[]⟩, .string ⟨#[]⟩, .int .i64 0, .bool false, .slice none 0 0, .bool false, .int .i64 0, .slice none 0 0, .slice none 0 0, .slice none 0 0] 55 (0, 0)))
  have HO0 := Lib.hid (Obj?.new (w.alloc (.cells #[.int .i64 4, .int .i64 12, .int .i64 0, .int .i64 0, .string ⟨#[]⟩] 108 (0, 0))) #[.int .i64 0, .bool false, .bool false, .int .i64 0, .int .i64 0, .string ⟨#[]⟩, .string ⟨#[]⟩, .bool false, .int .i64 0, .string ⟨#[]⟩, .bool false, .string ⟨#[]⟩, .bool false, .string ⟨#[]⟩, .bool false, .string ⟨#[]⟩, .string ⟨#[]⟩, .int .i64 0, .bool false, .slice none 0 0, .bool false, .int .i64 0, .slice none 0 0, .slice none 0 0, .slice none 0 0] 55)
  rw [World.size_alloc] at HO0
  go_enter Tryz.func48, Tryz.ntmps48
  go_wp2_with fail
  refine (cread_12 _).mono ?_
  rintro e w1 ⟨rfl, hb⟩
  have HB1 := Lib.hid (below_thenh HB0.out hb)
  have HO1 := Lib.hid (HO0.out.below hb HO0.out.lt)
  clear hb HB0 HO0
  have hst := store_pkres (p := p12) (vw := (.slice none 0 0)) (vc := (.slice none 0 0)) (vf := (.slice none 0 0)) (vp := (.slice none 0 0)) HO1.out rfl (pk_one rfl rfl rfl rfl)
  rw [← c12_pk] at hst
  go_wp2_with fail
  refine bodyPost_ret (results_rowT rfl _ _ _ _ _ _ rfl (HO1.out.setRow c12) Tryz.underlying55 rfl c12_info) rfl ?_
  exact ⟨rfl, below_row HB1.out (by simp) _⟩
set_option maxRecDepth 100000 in
set_option maxHeartbeats 1600000 in
theorem dcontrol_12 (w : World) : Calls Tryz.prog 47 #[.agg (#[.int .i64 4] ++ c12)] w fun e w' => e = .returned (.tuple #[.string ⟨#[]⟩, .int .i64 0]) ∧ Below w.heap.size w w' := by
  have HB0 := Lib.hid (below_al (Below.refl _ w) (.cells (#[.int .i64 4] ++ c12) 121 (0, 0)))
  have HO0 := Lib.hid (Obj?.new w (#[.int .i64 4] ++ c12) 121)
  have a0 := HO0.out.cell 0 (.int .i64 4) (by rw [Array.getElem?_append_left (by decide)]; rfl)
  have l0 := rowSem_mid (P := Tryz.prog) (w.alloc (.cells (#[.int .i64 4] ++ c12) 121 (0, 0))) w.heap.size 1 55 c12 _ (fun j v hj => HO0.out.cell (1 + j) v (by rw [Array.getElem?_append_right (show 1 ≤ 1 + j by omega)]; show c12[1 + j - 1]? = some v; rw [Nat.add_sub_cancel_left]; exact hj)) Tryz.underlying55 rfl c12_info
  go_enter Tryz.func47, Tryz.ntmps47
  refine wp_hide fun Q1 hQ1 => ?_
  have HQ1 := Lib.hid hQ1
  clear hQ1
  go_wp2_with fail
  refine (cbody_12 _).mono ?_
  rintro e w1 ⟨rfl, hb⟩
  have HB1 := Lib.hid (below_thenh HB0.out hb)
  clear hb HB0 HO0 a0 l0
  go_wp2_with fail
  refine HQ1.out _ _ _ ?_
  go_ret2
  exact ⟨rfl, HB1.out⟩
end Go.Proofs.YtlfgkdiehmoohaaGreatDoor
