/- Limits; mstream.New; what a stream tells of itself. -/
import Derived.Test.YtlfgkdiehmoohaaGreatDoorHeC
namespace Go.Proofs.YtlfgkdiehmoohaaGreatDoor
open Go Go.RowKit
set_option linter.unusedVariables false
set_option linter.unusedSimpArgs false

def limM (mp md : Int) : Bool := decide (16 ≤ mp ∧ mp ≤ 1048576 ∧ 0 ≤ md ∧ md ≤ 32)
theorem version_any (n : Int) (w : World) : Calls Tryz.prog 5 #[.int .i64 n] w fun e w' => e = .returned (.int .i64 (if n % 2 = 0 then 4 else 5)) ∧ w = w' := by
  have ht : n.tmod 2 = 0 ↔ n % 2 = 0 := ⟨fun h => by have := Int.mul_tdiv_add_tmod n 2; omega, fun h => Int.tmod_eq_zero_of_dvd (Int.dvd_of_emod_eq_zero h)⟩
  by_cases h : n % 2 = 0
  · have h2 : n.tmod 2 = 0 := ht.2 h
    rw [if_pos h]
    clear h ht
    go_enter Tryz.func5, Tryz.ntmps5
    go_wp2
    go_ret
    exact ⟨rfl, rfl⟩
  · have h2 : ¬ n.tmod 2 = 0 := fun q => h (ht.1 q)
    rw [if_neg h]
    clear h ht
    go_enter Tryz.func5, Tryz.ntmps5
    go_wp2
    go_ret
    exact ⟨rfl, rfl⟩
set_option maxRecDepth 100000 in
set_option maxHeartbeats 1600000 in
theorem rlimits_any (mp md : Int) (w : World) : Calls Tryz.prog 26 #[.agg #[.int .i64 mp, .int .i64 md]] w fun e w' => e = .returned (.bool (limM mp md)) ∧ Below w.heap.size w w' := by
  have HB := Lib.hid (below_al (Below.refl _ w) (.cells #[.int .i64 mp, .int .i64 md] 23 (0, 0)))
  by_cases h1 : 16 ≤ mp
  · by_cases h2 : mp ≤ 1048576
    · by_cases h3 : 0 ≤ md
      · by_cases h4 : md ≤ 32
        · have HL := Lib.hid (show limM mp md = true by simp [limM]; omega)
          rw [HL.out]
          go_enter Tryz.func26, Tryz.ntmps26
          go_wp2
          go_ret
          exact ⟨rfl, HB.out⟩
        · have HL := Lib.hid (show limM mp md = false by simp [limM]; omega)
          rw [HL.out]
          go_enter Tryz.func26, Tryz.ntmps26
          go_wp2
          go_ret
          exact ⟨rfl, HB.out⟩
      · have HL := Lib.hid (show limM mp md = false by simp [limM]; omega)
        rw [HL.out]
        go_enter Tryz.func26, Tryz.ntmps26
        go_wp2
        go_ret
        exact ⟨rfl, HB.out⟩
    · have HL := Lib.hid (show limM mp md = false by simp [limM]; omega)
      rw [HL.out]
      go_enter Tryz.func26, Tryz.ntmps26
      go_wp2
      go_ret
      exact ⟨rfl, HB.out⟩
  · have HL := Lib.hid (show limM mp md = false by simp [limM]; omega)
    rw [HL.out]
    go_enter Tryz.func26, Tryz.ntmps26
    go_wp2
    go_ret
    exact ⟨rfl, HB.out⟩
set_option maxRecDepth 100000 in
theorem rcheck15_any (mp md : Int) (w : World) : Calls Tryz.prog 19 #[.agg #[.int .i64 mp, .int .i64 md]] w fun e w' => e = .returned (.int .i64 (if limM mp md then 0 else 2)) ∧ Below w.heap.size w w' := by
  have HB := Lib.hid (below_al (Below.refl _ w) (.cells #[.int .i64 mp, .int .i64 md] 23 (0, 0)))
  have HR := Lib.hid (fun W => rlimits_any mp md W)
  cases h : limM mp md with
  | true =>
    rw [h] at HR
    go_enter Tryz.func19, Tryz.ntmps19
    go_wp2_with fail
    refine (HR.out _).mono ?_
    rintro e w1 ⟨rfl, hb⟩
    have HB1 := Lib.hid (below_thenh HB.out hb)
    clear hb HB
    go_wp2_with fail
    go_ret
    exact ⟨rfl, HB1.out⟩
  | false =>
    rw [h] at HR
    go_enter Tryz.func19, Tryz.ntmps19
    go_wp2_with fail
    refine (HR.out _).mono ?_
    rintro e w1 ⟨rfl, hb⟩
    have HB1 := Lib.hid (below_thenh HB.out hb)
    clear hb HB
    go_wp2_with fail
    go_ret
    exact ⟨rfl, HB1.out⟩
set_option maxRecDepth 100000 in
theorem topright_no (v mp md : Int) (hv : v = 4 ∨ v = 5) (h : limM mp md = false) (w : World) : Calls Tryz.prog 8 #[.int .i64 v, .agg #[.int .i64 mp, .int .i64 md]] w fun e w' => e = .returned (.bool false) ∧ Below w.heap.size w w' := by
  have HB := Lib.hid (below_al (Below.refl _ w) (.cells #[.int .i64 mp, .int .i64 md] 23 (0, 0)))
  have HR := Lib.hid (fun W => rcheck15_any mp md W)
  rw [h] at HR
  rcases hv with rfl | rfl
  · go_enter Tryz.func8, Tryz.ntmps8
    go_wp2_with fail
    refine (HR.out _).mono ?_
    rintro e w1 ⟨rfl, hb⟩
    have HB1 := Lib.hid (below_thenh HB.out hb)
    clear hb HB
    go_wp2_with fail
    go_ret
    exact ⟨rfl, HB1.out⟩
  · go_enter Tryz.func8, Tryz.ntmps8
    go_wp2_with fail
    refine (HR.out _).mono ?_
    rintro e w1 ⟨rfl, hb⟩
    have HB1 := Lib.hid (below_thenh HB.out hb)
    clear hb HB
    go_wp2_with fail
    go_ret
    exact ⟨rfl, HB1.out⟩
/-- A stream's cells. -/
def stC (v m : Int) (kv : Value) (at' told e : Int) : Array Value := #[.int .i64 v, .int .i64 m, kv, .int .i64 at', .int .i64 told, .int .i64 e]
set_option maxRecDepth 100000 in
set_option maxHeartbeats 1600000 in
theorem mnew_ok (v mp md : Int) (hv : v = 4 ∨ v = 5) (h : limM mp md = true) (w : World) : Calls Tryz.prog 7 #[.int .i64 v, .agg #[.int .i64 mp, .int .i64 md]] w fun e w' =>
    e = .returned (.tuple #[.pointer (some ⟨w.heap.size + 1, 0, none⟩), .int .i64 0]) ∧ Below w.heap.size w w' ∧ Obj? w' (w.heap.size + 1) (stC v mp (.slice none 0 0) 0 0 0) 67 := by
  have HB := Lib.hid (below_al (below_al (Below.refl _ w) (.cells #[.int .i64 mp, .int .i64 md] 23 (0, 0))) (.cells (stC v mp (.slice none 0 0) 0 0 0) 67 (0, 0)))
  have HO := Lib.hid (Obj?.new (w.alloc (.cells #[.int .i64 mp, .int .i64 md] 23 (0, 0))) (stC v mp (.slice none 0 0) 0 0 0) 67)
  rw [World.size_alloc] at HO
  obtain ⟨h1, h2, h3, h4⟩ : 16 ≤ mp ∧ mp ≤ 1048576 ∧ 0 ≤ md ∧ md ≤ 32 := by simpa [limM] using h
  clear h
  unfold stC at HB HO ⊢
  rcases hv with rfl | rfl
  · go_enter Tryz.func7, Tryz.ntmps7
    go_wp2
    go_ret2
    exact ⟨rfl, HB.out, HO.out⟩
  · go_enter Tryz.func7, Tryz.ntmps7
    go_wp2
    go_ret2
    exact ⟨rfl, HB.out, HO.out⟩
set_option maxRecDepth 100000 in
set_option maxHeartbeats 1600000 in
theorem mnew_no (v mp md : Int) (hv : v = 4 ∨ v = 5) (h : limM mp md = false) (w : World) : Calls Tryz.prog 7 #[.int .i64 v, .agg #[.int .i64 mp, .int .i64 md]] w fun e w' =>
    e = .returned (.tuple #[.pointer none, .int .i64 2]) ∧ Below w.heap.size w w' := by
  have HB := Lib.hid (below_al (Below.refl _ w) (.cells #[.int .i64 mp, .int .i64 md] 23 (0, 0)))
  have hn : mp < 16 ∨ (16 ≤ mp ∧ 1048576 < mp) ∨ (16 ≤ mp ∧ mp ≤ 1048576 ∧ md < 0) ∨ (16 ≤ mp ∧ mp ≤ 1048576 ∧ 0 ≤ md ∧ 32 < md) := by simp [limM] at h; omega
  clear h
  rcases hv with rfl | rfl <;> rcases hn with h1 | ⟨h1, h2⟩ | ⟨h1, h2, h3⟩ | ⟨h1, h2, h3, h4⟩
  all_goals
    go_enter Tryz.func7, Tryz.ntmps7
    go_wp2
    go_ret2
    exact ⟨rfl, HB.out⟩
section getters
variable {w : World} {sp : Nat} {v m a t e : Int} {kv : Value}
set_option maxRecDepth 100000 in
theorem stkept_any {al : Option Addr} {n c : Nat} (h : Obj? w sp (stC v m (.slice al n c) a t e) 67) : Calls Tryz.prog 11 #[.pointer (some ⟨sp, 0, none⟩)] w fun r w' => r = .returned (.int .i64 n) ∧ w' = w := by
  have c2 := h.cell 2 (.slice al n c) rfl
  clear h
  go_enter Tryz.func11, Tryz.ntmps11
  go_wp2
  go_ret
  exact ⟨rfl, rfl⟩
set_option maxRecDepth 100000 in
theorem stat_any (h : Obj? w sp (stC v m kv a t e) 67) : Calls Tryz.prog 13 #[.pointer (some ⟨sp, 0, none⟩)] w fun r w' => r = .returned (.int .i64 a) ∧ w' = w := by
  have c2 := h.cell 3 (.int .i64 a) rfl
  clear h
  go_enter Tryz.func13, Tryz.ntmps13
  go_wp2
  go_ret
  exact ⟨rfl, rfl⟩
set_option maxRecDepth 100000 in
theorem sttold_any (h : Obj? w sp (stC v m kv a t e) 67) : Calls Tryz.prog 14 #[.pointer (some ⟨sp, 0, none⟩)] w fun r w' => r = .returned (.int .i64 t) ∧ w' = w := by
  have c2 := h.cell 4 (.int .i64 t) rfl
  clear h
  go_enter Tryz.func14, Tryz.ntmps14
  go_wp2
  go_ret
  exact ⟨rfl, rfl⟩
set_option maxRecDepth 100000 in
theorem sterr_any (h : Obj? w sp (stC v m kv a t e) 67) : Calls Tryz.prog 15 #[.pointer (some ⟨sp, 0, none⟩)] w fun r w' => r = .returned (.int .i64 e) ∧ w' = w := by
  have c2 := h.cell 5 (.int .i64 e) rfl
  clear h
  go_enter Tryz.func15, Tryz.ntmps15
  go_wp2
  go_ret
  exact ⟨rfl, rfl⟩
end getters
end Go.Proofs.YtlfgkdiehmoohaaGreatDoor
