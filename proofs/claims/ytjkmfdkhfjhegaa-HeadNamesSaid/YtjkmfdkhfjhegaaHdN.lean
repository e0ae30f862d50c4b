/- head.Name and the reference's. -/
import Derived.Test.YtjkmfdkhfjhegaaHdB
namespace Go.Proofs.Ytjkmfdkhfjhegaa
open Go.RowKit
set_option linter.unusedVariables false

def nameFn (k : Int) : List UInt8 :=
  if k = 1 then [99, 111, 110, 110, 101, 99, 116] else if k = 2 then [99, 111, 110, 110, 97, 99, 107] else if k = 3 then [112, 117, 98, 108, 105, 115, 104]
  else if k = 4 then [112, 117, 98, 97, 99, 107] else if k = 5 then [112, 117, 98, 114, 101, 99] else if k = 6 then [112, 117, 98, 114, 101, 108] else if k = 7 then [112, 117, 98, 99, 111, 109, 112]
  else if k = 8 then [115, 117, 98, 115, 99, 114, 105, 98, 101] else if k = 9 then [115, 117, 98, 97, 99, 107] else if k = 10 then [117, 110, 115, 117, 98, 115, 99, 114, 105, 98, 101]
  else if k = 11 then [117, 110, 115, 117, 98, 97, 99, 107] else if k = 12 then [112, 105, 110, 103, 114, 101, 113] else if k = 13 then [112, 105, 110, 103, 114, 101, 115, 112]
  else if k = 14 then [100, 105, 115, 99, 111, 110, 110, 101, 99, 116] else if k = 15 then [97, 117, 116, 104] else [63]
theorem name_else {k : Int} (h : k < 1 ∨ 15 < k) : nameFn k = [63] := by
  unfold nameFn
  repeat rw [if_neg (by omega)]
set_option maxRecDepth 100000 in
set_option maxHeartbeats 1600000 in
theorem hdname_any (k : Int) (w : World) : Calls Try.prog 11 #[.int .i64 k] w fun e w' => e = .returned (.string ⟨(nameFn k).toArray⟩) ∧ Below w.heap.size w w' := by
  rcases (by omega : k = 1 ∨ k = 2 ∨ k = 3 ∨ k = 4 ∨ k = 5 ∨ k = 6 ∨ k = 7 ∨ k = 8 ∨ k = 9 ∨ k = 10 ∨ k = 11 ∨ k = 12 ∨ k = 13 ∨ k = 14 ∨ k = 15 ∨ k = 0 ∨ k < 0 ∨ 15 < k) with rfl | rfl | rfl | rfl | rfl | rfl | rfl | rfl | rfl | rfl | rfl | rfl | rfl | rfl | rfl | rfl | h | h
  rotate_right 2
  · have HN := Lib.hid (name_else (k := k) (by omega))
    rw [HN.out]
    go_enter Try.func11, Try.ntmps11
    go_wp2
    go_ret
    exact ⟨rfl, (Below.refl _ _).alloc (Nat.le_refl _) _⟩
  · have HN := Lib.hid (name_else (k := k) (by omega))
    rw [HN.out]
    go_enter Try.func11, Try.ntmps11
    go_wp2
    go_ret
    exact ⟨rfl, (Below.refl _ _).alloc (Nat.le_refl _) _⟩
  all_goals
    go_enter Try.func11, Try.ntmps11
    go_wp2
    go_ret
    exact ⟨rfl, (Below.refl _ _).alloc (Nat.le_refl _) _⟩
set_option maxRecDepth 100000 in
set_option maxHeartbeats 1600000 in
theorem rhdname_any (k : Int) (w : World) : Calls Try.prog 20 #[.int .i64 k] w fun e w' => e = .returned (.string ⟨(nameFn k).toArray⟩) ∧ Below w.heap.size w w' := by
  rcases (by omega : k = 1 ∨ k = 2 ∨ k = 3 ∨ k = 4 ∨ k = 5 ∨ k = 6 ∨ k = 7 ∨ k = 8 ∨ k = 9 ∨ k = 10 ∨ k = 11 ∨ k = 12 ∨ k = 13 ∨ k = 14 ∨ k = 15 ∨ k < 1 ∨ 15 < k) with rfl | rfl | rfl | rfl | rfl | rfl | rfl | rfl | rfl | rfl | rfl | rfl | rfl | rfl | rfl | h | h
  rotate_right 2
  · have HN := Lib.hid (name_else (k := k) (by omega))
    rw [HN.out]
    go_enter Try.func20, Try.ntmps20
    go_wp2
    go_ret
    exact ⟨rfl, Below.refl _ _⟩
  · have HN := Lib.hid (name_else (k := k) (by omega))
    rw [HN.out]
    go_enter Try.func20, Try.ntmps20
    go_wp2
    go_ret
    exact ⟨rfl, Below.refl _ _⟩
  all_goals
    go_enter Try.func20, Try.ntmps20
    go_wp2
    go_ret
    exact ⟨rfl, (Below.refl _ _).alloc (Nat.le_refl _) _⟩
end Go.Proofs.Ytjkmfdkhfjhegaa
