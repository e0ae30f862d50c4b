/- SnheadNames. -/
import Derived.Test.YtdalhnhbmgidaaaSnG
import Derived.Test.YtdalhnhbmgidaaaSnH
import Derived.Test.YtdalhnhbmgidaaaSnB
import Derived.Deep.Cut
namespace Go.Proofs.Ytdalhnhbmgidaaa
open Go.RowKit
set_option linter.unusedVariables false

def bad10 : Array Value := #[.string ⟨#[]⟩, .string ⟨#[2]⟩, .string ⟨#[0, 23]⟩, .string ⟨#[1, 0]⟩, .string ⟨#[1, 0, 255, 23]⟩, .string ⟨#[2, 3]⟩, .string ⟨#[1, 1, 0]⟩, .string ⟨#[1, 1, 0, 23]⟩, .string ⟨#[1, 1, 1, 23]⟩, .string ⟨#[1, 1, 2, 23]⟩]
def want10 : Array Value := #[.int .i64 3, .int .i64 3, .int .i64 5, .int .i64 3, .int .i64 5, .int .i64 8, .int .i64 3, .int .i64 5, .int .i64 5, .int .i64 0]
def wantN : List Int := [3, 3, 5, 3, 5, 8, 3, 5, 5, 0]
theorem bad10_at (k : Nat) (h : k < 10) : ∃ l : List UInt8, bad10[k]? = some (.string ⟨l.toArray⟩) ∧ (snR l).2.2.2 = wantN.getD k 0 ∧ l.length ≤ 10 := by
  rcases (by omega : k = 0 ∨ k = 1 ∨ k = 2 ∨ k = 3 ∨ k = 4 ∨ k = 5 ∨ k = 6 ∨ k = 7 ∨ k = 8 ∨ k = 9) with rfl | rfl | rfl | rfl | rfl | rfl | rfl | rfl | rfl | rfl
  · exact ⟨[], rfl, by decide +kernel, by decide⟩
  · exact ⟨[2], rfl, by decide +kernel, by decide⟩
  · exact ⟨[0, 23], rfl, by decide +kernel, by decide⟩
  · exact ⟨[1, 0], rfl, by decide +kernel, by decide⟩
  · exact ⟨[1, 0, 255, 23], rfl, by decide +kernel, by decide⟩
  · exact ⟨[2, 3], rfl, by decide +kernel, by decide⟩
  · exact ⟨[1, 1, 0], rfl, by decide +kernel, by decide⟩
  · exact ⟨[1, 1, 0, 23], rfl, by decide +kernel, by decide⟩
  · exact ⟨[1, 1, 1, 23], rfl, by decide +kernel, by decide⟩
  · exact ⟨[1, 1, 2, 23], rfl, by decide +kernel, by decide⟩
theorem want10_at (k : Nat) (h : k < 10) : want10[k]? = some (.int .i64 (wantN.getD k 0)) := by
  rcases (by omega : k = 0 ∨ k = 1 ∨ k = 2 ∨ k = 3 ∨ k = 4 ∨ k = 5 ∨ k = 6 ∨ k = 7 ∨ k = 8 ∨ k = 9) with rfl | rfl | rfl | rfl | rfl | rfl | rfl | rfl | rfl | rfl <;> rfl

set_option maxRecDepth 100000 in
set_option maxHeartbeats 1600000 in
theorem snheadNames_walk (w : World) : Calls Try.prog 8 #[] w fun e w' => e = .returned (.bool true) ∧ Below w.heap.size w w' := by
  go_enter Try.func8, Try.ntmps8
  go_wp2_with fail
  refine (lives21 _).mono ?_
  rintro e w1 ⟨rfl, hB1⟩
  go_wp2_with fail
  have O := (Obj?.new w1 bad10 9).alloc (.cells want10 23 (0, 0))
  have P := Obj?.new (w1.alloc (.cells bad10 9 (0, 0))) want10 23
  rw [World.size_alloc] at P
  have hBs := below_al (below_al hB1 (.cells bad10 9 (0, 0))) (.cells want10 23 (0, 0))
  go_loopw [3] (fun i wr => ∃ k : Nat, k ≤ 10 ∧ i = .int .i64 k ∧ Hid (Obj? wr w1.heap.size bad10 9 ∧ Obj? wr (w1.heap.size + 1) want10 23) ∧ Below w.heap.size w wr) (fun i _ => 10 - (intOf i).toNat)
  case atStart => exact ⟨0, Nat.zero_le _, rfl, ⟨O, P⟩, hBs⟩
  case round =>
    obtain ⟨k, hk, rfl, ho, hB⟩ := hrel
    clear O P hBs
    by_cases hlt : k < 10
    · obtain ⟨l, hl, hv, hll⟩ := bad10_at k hlt
      have hcell := ho.out.1.cell k _ hl
      have HH := Lib.hid (And.intro hl hv)
      clear hl hv
      go_wp2_with fail
      refine (snread_any l (by omega) _).mono ?_
      rintro e w2 ⟨rfl, hb⟩
      rw [HH.out.2]
      have hB2 := hB.trans (hb.mono hB.size)
      have ho2 := Lib.hid (And.intro (ho.out.1.below hb ho.out.1.lt) (ho.out.2.below hb ho.out.2.lt))
      clear hcell hb
      have hcell := ho2.out.2.cell k _ (want10_at k hlt)
      obtain ⟨E, hE⟩ : ∃ E, E = wantN.getD k 0 := ⟨_, rfl⟩
      rw [← hE] at hcell ⊢
      clear hE
      go_wp2_with fail
      go_roundw
      case rel => exact ⟨k + 1, by omega, by go_num, ho2, hB2⟩
      case measure => simp [intOf]; omega
    · obtain rfl : k = 10 := by omega
      clear hlt
      go_wp2_with fail
      refine (snread_any [7, 12] (by decide) _).mono ?_
      rintro e w1 ⟨rfl, hb⟩
      rw [show snR [7, 12] = (12, 2, 7, 0) by decide +kernel]
      have hB1 := hB.trans (hb.mono hB.size)
      clear hb
      go_wp2_with fail
      refine (snbytes_any 3 0 (by decide) _).mono ?_
      rintro e w2 ⟨rfl, hb⟩
      rw [show snB 3 0 = ([], 8) by decide +kernel]
      have hB2 := hB1.trans (hb.mono hB1.size)
      clear hb
      go_wp2_with fail
      refine (snbytes_any 12 65532 (by decide) _).mono ?_
      rintro e w3 ⟨rfl, hb⟩
      rw [show snB 12 65532 = ([], 4) by decide +kernel]
      have hB3 := hB2.trans (hb.mono hB2.size)
      clear hb
      go_wp2_with fail
      refine (snbytes_any 12 (-1) (by decide) _).mono ?_
      rintro e w4 ⟨rfl, hb⟩
      rw [show snB 12 (-1) = ([], 2) by decide +kernel]
      have hB4 := hB3.trans (hb.mono hB3.size)
      clear hb
      go_wp2_with fail
      refine (flag_fl ⟨true, -1, false, false, true, 2⟩ _).mono ?_
      rintro e w5 ⟨rfl, hb⟩
      rw [show flagV ⟨true, -1, false, false, true, 2⟩ = (230, 0) by decide +kernel]
      have hB5 := hB4.trans (hb.mono hB4.size)
      clear hb
      go_wp2_with fail
      refine (flag_fl ⟨false, 3, false, false, false, 0⟩ _).mono ?_
      rintro e w6 ⟨rfl, hb⟩
      rw [show flagV ⟨false, 3, false, false, false, 0⟩ = (0, 7) by decide +kernel]
      have hB6 := hB5.trans (hb.mono hB5.size)
      clear hb
      go_wp2_with fail
      refine (readflag_any 230 _).mono ?_
      rintro e w7 ⟨rfl, hb⟩
      rw [show rfF 230 = ⟨true, -1, false, false, true, 2⟩ by decide +kernel]
      rw [show rfE 230 = 0 by decide +kernel]
      have hB7 := hB6.trans (hb.mono hB6.size)
      clear hb
      have hB7' := below_al hB7 (.cells #[.bool true, .int .i64 (-1), .bool false, .bool false, .bool true, .int .i64 2] 45 (0, 0))
      have HX0 := Lib.hid (Obj?.new w7 #[.bool true, .int .i64 (-1), .bool false, .bool false, .bool true, .int .i64 2] 45)
      go_wp2_with fail
      refine (readflag_any 3 _).mono ?_
      rintro e w8 ⟨rfl, hb⟩
      rw [show rfF 3 = ⟨false, 0, false, false, false, 0⟩ by decide +kernel]
      rw [show rfE 3 = 7 by decide +kernel]
      have hB8 := hB7'.trans (hb.mono hB7'.size)
      have HX1 := Lib.hid (HX0.out.below hb HX0.out.lt)
      clear HX0
      clear hb
      have hB8' := below_al hB8 (.cells #[.bool false, .int .i64 0, .bool false, .bool false, .bool false, .int .i64 0] 45 (0, 0))
      have HX2 := Lib.hid (HX1.out.alloc (.cells #[.bool false, .int .i64 0, .bool false, .bool false, .bool false, .int .i64 0] 45 (0, 0)))
      clear HX1
      have kcX := HX2.out.cells
      have kfX := HX2.out.froz
      have kzX := HX2.out.lt
      go_upto_region 19 with fail
      dsimp only [List.append]
      go_wp2_with fail
      refine (known_any 254 _).mono ?_
      rintro e w' ⟨rfl, rfl⟩
      rw [show knownK 254 = true by decide]
      clear kcX kfX kzX
      go_wp2_with fail
      refine (known_any 17 _).mono ?_
      rintro e w' ⟨rfl, rfl⟩
      rw [show knownK 17 = false by decide]
      go_wp2_with fail
      refine (known_any (-1) _).mono ?_
      rintro e w' ⟨rfl, rfl⟩
      rw [show knownK (-1) = false by decide]
      go_wp2_with fail
      refine (uses_any 20 _).mono ?_
      rintro e w9 ⟨rfl, hb⟩
      rw [show usesF 20 = ⟨false, 0, false, false, false, 1⟩ by decide +kernel]
      have hB9 := hB8'.trans (hb.mono hB8'.size)
      have HX3 := Lib.hid (HX2.out.below hb HX2.out.lt)
      clear HX2
      clear hb
      go_wp2_with fail
      refine (may_any 12 ⟨false, -1, false, false, false, 0⟩ _).mono ?_
      rintro e w10 ⟨rfl, hb⟩
      rw [show mayF 12 ⟨false, -1, false, false, false, 0⟩ = true by decide +kernel]
      have hB10 := hB9.trans (hb.mono hB9.size)
      have HX4 := Lib.hid (HX3.out.below hb HX3.out.lt)
      clear HX3
      clear hb
      go_wp2_with fail
      refine (may_any 18 ⟨false, -1, false, false, false, 0⟩ _).mono ?_
      rintro e w11 ⟨rfl, hb⟩
      rw [show mayF 18 ⟨false, -1, false, false, false, 0⟩ = false by decide +kernel]
      have hB11 := hB10.trans (hb.mono hB10.size)
      have HX5 := Lib.hid (HX4.out.below hb HX4.out.lt)
      clear HX4
      clear hb
      go_wp2_with fail
      refine (may_any 4 ⟨false, 0, true, false, false, 0⟩ _).mono ?_
      rintro e w12 ⟨rfl, hb⟩
      rw [show mayF 4 ⟨false, 0, true, false, false, 0⟩ = false by decide +kernel]
      have hB12 := hB11.trans (hb.mono hB11.size)
      have HX6 := Lib.hid (HX5.out.below hb HX5.out.lt)
      clear HX5
      clear hb
      go_wp2_with fail
      go_ret
      exact ⟨rfl, hB12⟩
end Go.Proofs.Ytdalhnhbmgidaaa
