/- control.says and control.known of a PINGREQ; prop.rules; prop.Bytes and Valid of no properties. -/
import Derived.Test.YtlfgkdiehmoohaaGreatDoorMapI
import Derived.Test.YtlfgkdiehmoohaaGreatDoorHeE
namespace Go.Proofs.YtlfgkdiehmoohaaGreatDoor
open Go Go.RowKit
set_option linter.unusedVariables false
set_option linter.unusedSimpArgs false

theorem mkmap (T : TypeId) (w : World) (L : List (Int × Value)) : (Instr.makeMap T none).run Tryz.prog w = .ok (.map (some w.heap.size)) (w.alloc (mapN L 0)) := run_makeMap_plain w T
theorem mkfun : ∀ (fn : Fn) (first cap : Array Value) (w : World), (Instr.makeFunc fn first cap).run Tryz.prog w = .ok (.func fn first cap) w := fun _ _ _ _ => rfl
def rulesL : List (Int × Value) := [(1, .agg #[.int .i64 1, .int .i64 65544, .int .u32 0, .int .u32 1]), (2, .agg #[.int .i64 3, .int .i64 65544, .int .u32 0, .int .u32 4294967295]), (3, .agg #[.int .i64 5, .int .i64 65544, .int .u32 0, .int .u32 0]), (8, .agg #[.int .i64 5, .int .i64 65544, .int .u32 0, .int .u32 0]), (9, .agg #[.int .i64 6, .int .i64 65544, .int .u32 0, .int .u32 0]), (11, .agg #[.int .i64 4, .int .i64 264, .int .u32 1, .int .u32 268435455]), (17, .agg #[.int .i64 3, .int .i64 16390, .int .u32 0, .int .u32 4294967295]), (18, .agg #[.int .i64 5, .int .i64 4, .int .u32 0, .int .u32 0]), (19, .agg #[.int .i64 2, .int .i64 4, .int .u32 0, .int .u32 65535]), (21, .agg #[.int .i64 5, .int .i64 32774, .int .u32 0, .int .u32 0]), (22, .agg #[.int .i64 6, .int .i64 32774, .int .u32 0, .int .u32 0]), (23, .agg #[.int .i64 1, .int .i64 2, .int .u32 0, .int .u32 1]), (24, .agg #[.int .i64 3, .int .i64 65536, .int .u32 0, .int .u32 4294967295]), (25, .agg #[.int .i64 1, .int .i64 2, .int .u32 0, .int .u32 1]), (26, .agg #[.int .i64 5, .int .i64 4, .int .u32 0, .int .u32 0]), (28, .agg #[.int .i64 5, .int .i64 16388, .int .u32 0, .int .u32 0]), (31, .agg #[.int .i64 5, .int .i64 51956, .int .u32 0, .int .u32 0]), (33, .agg #[.int .i64 2, .int .i64 6, .int .u32 1, .int .u32 65535]), (34, .agg #[.int .i64 2, .int .i64 6, .int .u32 0, .int .u32 65535]), (35, .agg #[.int .i64 2, .int .i64 8, .int .u32 1, .int .u32 65535]), (36, .agg #[.int .i64 1, .int .i64 4, .int .u32 0, .int .u32 1]), (37, .agg #[.int .i64 1, .int .i64 4, .int .u32 0, .int .u32 1]), (38, .agg #[.int .i64 7, .int .i64 118782, .int .u32 0, .int .u32 0]), (39, .agg #[.int .i64 3, .int .i64 6, .int .u32 1, .int .u32 4294967295]), (40, .agg #[.int .i64 1, .int .i64 4, .int .u32 0, .int .u32 1]), (41, .agg #[.int .i64 1, .int .i64 4, .int .u32 0, .int .u32 1]), (42, .agg #[.int .i64 1, .int .i64 4, .int .u32 0, .int .u32 1])]
set_option maxRecDepth 100000 in
set_option maxHeartbeats 3200000 in
/-- All properties' rules: some map. -/
theorem rules_any (w : World) : Calls Tryz.prog 121 #[] w fun e w' => e = .returned (.map (some w.heap.size)) ∧ Below w.heap.size w w' := by
  have hmm := mkmap 186 w rulesL
  have hI0 := run_insL (P := Tryz.prog) (w := w) (T := 186) rulesL 0 1 rfl 1 (.agg #[.int .i64 1, .int .i64 65544, .int .u32 0, .int .u32 1]) rfl rfl Tryz.underlying186 Tryz.underlying3
  have hI1 := run_insL (P := Tryz.prog) (w := w) (T := 186) rulesL 1 2 rfl 2 (.agg #[.int .i64 3, .int .i64 65544, .int .u32 0, .int .u32 4294967295]) rfl rfl Tryz.underlying186 Tryz.underlying3
  have hI2 := run_insL (P := Tryz.prog) (w := w) (T := 186) rulesL 2 3 rfl 3 (.agg #[.int .i64 5, .int .i64 65544, .int .u32 0, .int .u32 0]) rfl rfl Tryz.underlying186 Tryz.underlying3
  have hI3 := run_insL (P := Tryz.prog) (w := w) (T := 186) rulesL 3 4 rfl 8 (.agg #[.int .i64 5, .int .i64 65544, .int .u32 0, .int .u32 0]) rfl rfl Tryz.underlying186 Tryz.underlying3
  have hI4 := run_insL (P := Tryz.prog) (w := w) (T := 186) rulesL 4 5 rfl 9 (.agg #[.int .i64 6, .int .i64 65544, .int .u32 0, .int .u32 0]) rfl rfl Tryz.underlying186 Tryz.underlying3
  have hI5 := run_insL (P := Tryz.prog) (w := w) (T := 186) rulesL 5 6 rfl 11 (.agg #[.int .i64 4, .int .i64 264, .int .u32 1, .int .u32 268435455]) rfl rfl Tryz.underlying186 Tryz.underlying3
  have hI6 := run_insL (P := Tryz.prog) (w := w) (T := 186) rulesL 6 7 rfl 17 (.agg #[.int .i64 3, .int .i64 16390, .int .u32 0, .int .u32 4294967295]) rfl rfl Tryz.underlying186 Tryz.underlying3
  have hI7 := run_insL (P := Tryz.prog) (w := w) (T := 186) rulesL 7 8 rfl 18 (.agg #[.int .i64 5, .int .i64 4, .int .u32 0, .int .u32 0]) rfl rfl Tryz.underlying186 Tryz.underlying3
  have hI8 := run_insL (P := Tryz.prog) (w := w) (T := 186) rulesL 8 9 rfl 19 (.agg #[.int .i64 2, .int .i64 4, .int .u32 0, .int .u32 65535]) rfl rfl Tryz.underlying186 Tryz.underlying3
  have hI9 := run_insL (P := Tryz.prog) (w := w) (T := 186) rulesL 9 10 rfl 21 (.agg #[.int .i64 5, .int .i64 32774, .int .u32 0, .int .u32 0]) rfl rfl Tryz.underlying186 Tryz.underlying3
  have hI10 := run_insL (P := Tryz.prog) (w := w) (T := 186) rulesL 10 11 rfl 22 (.agg #[.int .i64 6, .int .i64 32774, .int .u32 0, .int .u32 0]) rfl rfl Tryz.underlying186 Tryz.underlying3
  have hI11 := run_insL (P := Tryz.prog) (w := w) (T := 186) rulesL 11 12 rfl 23 (.agg #[.int .i64 1, .int .i64 2, .int .u32 0, .int .u32 1]) rfl rfl Tryz.underlying186 Tryz.underlying3
  have hI12 := run_insL (P := Tryz.prog) (w := w) (T := 186) rulesL 12 13 rfl 24 (.agg #[.int .i64 3, .int .i64 65536, .int .u32 0, .int .u32 4294967295]) rfl rfl Tryz.underlying186 Tryz.underlying3
  have hI13 := run_insL (P := Tryz.prog) (w := w) (T := 186) rulesL 13 14 rfl 25 (.agg #[.int .i64 1, .int .i64 2, .int .u32 0, .int .u32 1]) rfl rfl Tryz.underlying186 Tryz.underlying3
  have hI14 := run_insL (P := Tryz.prog) (w := w) (T := 186) rulesL 14 15 rfl 26 (.agg #[.int .i64 5, .int .i64 4, .int .u32 0, .int .u32 0]) rfl rfl Tryz.underlying186 Tryz.underlying3
  have hI15 := run_insL (P := Tryz.prog) (w := w) (T := 186) rulesL 15 16 rfl 28 (.agg #[.int .i64 5, .int .i64 16388, .int .u32 0, .int .u32 0]) rfl rfl Tryz.underlying186 Tryz.underlying3
  have hI16 := run_insL (P := Tryz.prog) (w := w) (T := 186) rulesL 16 17 rfl 31 (.agg #[.int .i64 5, .int .i64 51956, .int .u32 0, .int .u32 0]) rfl rfl Tryz.underlying186 Tryz.underlying3
  have hI17 := run_insL (P := Tryz.prog) (w := w) (T := 186) rulesL 17 18 rfl 33 (.agg #[.int .i64 2, .int .i64 6, .int .u32 1, .int .u32 65535]) rfl rfl Tryz.underlying186 Tryz.underlying3
  have hI18 := run_insL (P := Tryz.prog) (w := w) (T := 186) rulesL 18 19 rfl 34 (.agg #[.int .i64 2, .int .i64 6, .int .u32 0, .int .u32 65535]) rfl rfl Tryz.underlying186 Tryz.underlying3
  have hI19 := run_insL (P := Tryz.prog) (w := w) (T := 186) rulesL 19 20 rfl 35 (.agg #[.int .i64 2, .int .i64 8, .int .u32 1, .int .u32 65535]) rfl rfl Tryz.underlying186 Tryz.underlying3
  have hI20 := run_insL (P := Tryz.prog) (w := w) (T := 186) rulesL 20 21 rfl 36 (.agg #[.int .i64 1, .int .i64 4, .int .u32 0, .int .u32 1]) rfl rfl Tryz.underlying186 Tryz.underlying3
  have hI21 := run_insL (P := Tryz.prog) (w := w) (T := 186) rulesL 21 22 rfl 37 (.agg #[.int .i64 1, .int .i64 4, .int .u32 0, .int .u32 1]) rfl rfl Tryz.underlying186 Tryz.underlying3
  have hI22 := run_insL (P := Tryz.prog) (w := w) (T := 186) rulesL 22 23 rfl 38 (.agg #[.int .i64 7, .int .i64 118782, .int .u32 0, .int .u32 0]) rfl rfl Tryz.underlying186 Tryz.underlying3
  have hI23 := run_insL (P := Tryz.prog) (w := w) (T := 186) rulesL 23 24 rfl 39 (.agg #[.int .i64 3, .int .i64 6, .int .u32 1, .int .u32 4294967295]) rfl rfl Tryz.underlying186 Tryz.underlying3
  have hI24 := run_insL (P := Tryz.prog) (w := w) (T := 186) rulesL 24 25 rfl 40 (.agg #[.int .i64 1, .int .i64 4, .int .u32 0, .int .u32 1]) rfl rfl Tryz.underlying186 Tryz.underlying3
  have hI25 := run_insL (P := Tryz.prog) (w := w) (T := 186) rulesL 25 26 rfl 41 (.agg #[.int .i64 1, .int .i64 4, .int .u32 0, .int .u32 1]) rfl rfl Tryz.underlying186 Tryz.underlying3
  have hI26 := run_insL (P := Tryz.prog) (w := w) (T := 186) rulesL 26 27 rfl 42 (.agg #[.int .i64 1, .int .i64 4, .int .u32 0, .int .u32 1]) rfl rfl Tryz.underlying186 Tryz.underlying3
  have HB := Lib.hid (below_al (Below.refl _ w) (mapN rulesL 27))
  go_enter Tryz.func121, Tryz.ntmps121
  refine wp_hide fun Q1 hQ1 => ?_
  have HQ1 := Lib.hid hQ1
  clear hQ1
  go_upto_region 1 with fail
  (try dsimp only [List.append])
  go_wp2_with fail
  refine HQ1.out _ _ _ ?_
  go_ret
  exact ⟨rfl, HB.out⟩

def saysL : List (Int × Value) := [(12, .func (.func 137) #[.agg #[]] #[]), (13, .func (.func 137) #[.agg #[]] #[]), (14, .func (.func 138) #[.agg #[]] #[]), (15, .func (.func 138) #[.agg #[]] #[])]
theorem nothing_any (v : Int) (w : World) : Calls Tryz.prog 137 #[.agg #[], .int .i64 v] w fun e w' => e = .returned (.bool false) ∧ Below w.heap.size w w' := by
  go_enter Tryz.func137, Tryz.ntmps137
  go_wp2
  go_ret
  exact ⟨rfl, below_al (Below.refl _ _) _⟩
set_option maxRecDepth 100000 in
set_option maxHeartbeats 1600000 in
theorem says_12 (w : World) : Calls Tryz.prog 101 #[.int .i64 4, .int .i64 12] w fun e w' => e = .returned (.tuple #[.bool false, .bool true]) ∧ Below w.heap.size w w' := by
  have hmm := mkmap 206 (w.alloc (.cells #[] 205 (0, 0))) saysL
  have hmf := mkfun
  have hI0 := run_insL (P := Tryz.prog) (w := w.alloc (.cells #[] 205 (0, 0))) (T := 206) saysL 0 1 rfl 12 (.func (.func 137) #[.agg #[]] #[]) rfl rfl Tryz.underlying206 Tryz.underlying3
  have hI1 := run_insL (P := Tryz.prog) (w := w.alloc (.cells #[] 205 (0, 0))) (T := 206) saysL 1 2 rfl 13 (.func (.func 137) #[.agg #[]] #[]) rfl rfl Tryz.underlying206 Tryz.underlying3
  have hI2 := run_insL (P := Tryz.prog) (w := w.alloc (.cells #[] 205 (0, 0))) (T := 206) saysL 2 3 rfl 14 (.func (.func 138) #[.agg #[]] #[]) rfl rfl Tryz.underlying206 Tryz.underlying3
  have hI3 := run_insL (P := Tryz.prog) (w := w.alloc (.cells #[] 205 (0, 0))) (T := 206) saysL 3 4 rfl 15 (.func (.func 138) #[.agg #[]] #[]) rfl rfl Tryz.underlying206 Tryz.underlying3
  have hL := run_lookupI_ok (P := Tryz.prog) (w := (w.alloc (.cells #[] 205 (0, 0))).alloc (mapN saysL 4)) (T := 206) (b := (w.alloc (.cells #[] 205 (0, 0))).heap.size) (l := saysL) (k := 12) Tryz.underlying206 Tryz.underlying3 (MapKept.heap_alloc _ _).1 (i := 0) (v := .func (.func 137) #[.agg #[]] #[]) rfl
  have HB := Lib.hid (below_al (below_al (Below.refl _ w) (.cells #[] 205 (0, 0))) (mapN saysL 4))
  rw [World.size_alloc] at hmm hI0 hI1 hI2 hI3 hL
  go_enter Tryz.func101, Tryz.ntmps101
  go_wp2_with fail
  refine (nothing_any _ _).mono ?_
  rintro e w1 ⟨rfl, hb⟩
  have HB1 := Lib.hid (below_thenh HB.out hb)
  clear hb HB
  go_wp2_with fail
  go_ret2
  exact ⟨rfl, HB1.out⟩
set_option maxRecDepth 100000 in
set_option maxHeartbeats 1600000 in
theorem known_12 (w : World) : Calls Tryz.prog 100 #[.int .i64 4, .int .i64 12] w fun e w' => e = .returned (.int .i64 0) ∧ Below w.heap.size w w' := by
  go_enter Tryz.func100, Tryz.ntmps100
  go_wp2_with fail
  refine (says_12 _).mono ?_
  rintro e w1 ⟨rfl, hb⟩
  have HB1 := Lib.hid hb
  clear hb
  go_wp2_with fail
  go_ret
  exact ⟨rfl, HB1.out⟩

theorem lone_any {w : World} {b : Nat} (h : w.cell? ⟨b, 22, none⟩ = some (.int .i64 0)) : Calls Tryz.prog 125 #[.pointer (some ⟨b, 0, none⟩)] w fun e w' => e = .returned (.bool false) ∧ Below w.heap.size w w' := by
  go_enter Tryz.func125, Tryz.ntmps125
  go_wp2_with fail
  go_ret
  exact ⟨rfl, Below.refl _ _⟩
end Go.Proofs.YtlfgkdiehmoohaaGreatDoor
