/- SnmsgNames, plain. -/
import Derived.Test.YtbacnaplpfmpnaaDoorLkC
import Derived.Test.YtbacnaplpfmpnaaDoorTimes
namespace Go.Proofs.YtbacnaplpfmpnaaDoor
open Go.RowKit
set_option linter.unusedVariables false
set_option linter.unusedSimpArgs false
theorem rep_len (c : UInt8) (n : Nat) : (rep n [c]).length = n := by simp [rep]
def mT (ty : Int) : Ms := Ms.bare ty fl0
def wrongX (A D : List UInt8) : Nat → Ms
  | 0 => mT 3
  | 1 => mT 254
  | 2 => ⟨12, ⟨false, 0, false, false, true, 0⟩, 0, 0, 0, false, 1, 0, 0, [], []⟩
  | 3 => ⟨7, ⟨false, 0, true, false, false, 0⟩, 0, 0, 0, false, 0, 0, 0, [], []⟩
  | 4 => { mT 1 with rad := 256 }
  | 5 => { mT 23 with code := 1 }
  | 6 => ⟨12, ⟨false, 1, false, false, false, 0⟩, 0, 0, 0, false, 1, 0, 0, [], []⟩
  | 7 => { mT 12 with tid := 1, mid := 1 }
  | 8 => mT 12
  | 9 => ⟨12, ⟨false, 0, false, false, false, 2⟩, 0, 0, 0, false, 11105, 0, 0, [], []⟩
  | 10 => mT 4
  | 11 => { mT 10 with tid := 1, mid := 1, name := [97, 35] }
  | 12 => { mT 18 with mid := 1, name := [35, 97] }
  | 13 => { mT 2 with name := A }
  | _ => { mT 12 with tid := 1, data := D }
def wrongM : Nat → Ms := wrongX (rep 17 [97]) (rep 65530 [97])
theorem wrongX_small {A D : List UInt8} (hA : A.length = 17) (hD : D.length = 65530) (k : Nat) : ((wrongX A D k).name.length : Int) ≤ 100000 ∧ ((wrongX A D k).data.length : Int) ≤ 100000 := by
  unfold wrongX
  split <;> simp only [mT, Ms.bare, List.length_nil, List.length_cons, hA, hD] <;> decide
def wantE : Nat → Int
  | 0 => 8 | 1 => 8 | 2 => 7 | 3 => 7 | 4 => 2 | 5 => 2 | 6 => 2 | 7 => 2 | 8 => 2 | 9 => 10 | 10 => 6 | 11 => 10 | 12 => 10 | 13 => 2 | _ => 4
def badT : Nat → List UInt8
  | 0 => [2, 254] | 1 => [3, 23] | 2 => [2, 5] | 3 => [7, 4, 4, 2, 0, 1, 97] | 4 => [4, 18, 3, 0] | 5 => [3, 23, 0] | _ => [7, 4, 4, 1, 0, 1, 97]
def toldE : Nat → Int
  | 0 => 8 | 1 => 3 | 2 => 5 | 3 => 5 | 4 => 7 | 5 => 5 | _ => 0
theorem bad_told (k : Nat) (h : k < 7) : (readM (badT k)).2.2 = toldE k := by
  match k, h with
  | 0, _ => decide +kernel
  | 1, _ => decide +kernel
  | 2, _ => decide +kernel
  | 3, _ => decide +kernel
  | 4, _ => decide +kernel
  | 5, _ => decide +kernel
  | 6, _ => decide +kernel
theorem wrong_want (k : Nat) (h : k < 14) : checkM (wrongM k) = wantE k := by
  match k, h with
  | 0, _ => decide +kernel
  | 1, _ => decide +kernel
  | 2, _ => decide +kernel
  | 3, _ => decide +kernel
  | 4, _ => decide +kernel
  | 5, _ => decide +kernel
  | 6, _ => decide +kernel
  | 7, _ => decide +kernel
  | 8, _ => decide +kernel
  | 9, _ => decide +kernel
  | 10, _ => decide +kernel
  | 11, _ => decide +kernel
  | 12, _ => decide +kernel
  | 13, _ => decide +kernel
theorem long_check (D : List UInt8) (h : 65526 < D.length) : checkM ⟨12, fl0, 0, 0, 0, false, 1, 0, 0, [], D⟩ = 4 := by
  obtain ⟨m, hm⟩ : ∃ m : Ms, m = ⟨12, fl0, 0, 0, 0, false, 1, 0, 0, [], D⟩ := ⟨_, rfl⟩
  have l1 : ∀ x : Int, (putL x 1).length = 1 := fun x => by rw [length_putL]; rfl
  have l2 : ∀ x : Int, (putL x 2).length = 2 := fun x => by rw [length_putL]; rfl
  have hl : (restL m).length = 5 + D.length := by
    rw [hm]; simp [restL, layoutF, writeP, l1, l2, fl0]; omega
  have hk : kindM m.ty = true := by rw [hm]; exact (show kindM 12 = true by decide)
  have hf : fitsM m = true := by rw [hm]; simp [fitsM, fitB, useGw, useRad, useCode, useTime, useTid, useMid, useName, useData, fl0]
  obtain ⟨a, b⟩ := (look_iff hk).2 hf
  have hi : msgIdB m = true := by rw [hm]; simp [msgIdB, fl0]
  have ht : topicIdF m = 0 := by rw [hm]; simp [topicIdF, fl0]
  have hna : nameF m = 0 := by rw [hm]; simp [nameF]
  have hy : mayF m.ty m.fl = true := by rw [hm]; rfl
  have hwb : willB m.ty = false := by rw [hm]; rfl
  have hty : m.ty = 12 := by rw [hm]
  rw [← hm]
  unfold checkM
  rw [if_neg (by rw [hk]; simp), if_neg (by rw [hy, hwb]; simp), if_neg (by rw [a, b, hi]; simp), if_neg (by rw [ht]; simp), if_neg (by rw [hna]; simp), hty]
  unfold snB
  rw [if_neg (by decide), if_neg (by omega), if_pos (by omega)]
theorem wrong_any (k : Nat) : checkM (wrongM k) = wantE k := by
  by_cases h : k < 14
  · exact wrong_want k h
  · match k, h with
    | k + 14, _ => exact long_check (rep 65530 [97]) (by rw [rep_len]; omega)
end Go.Proofs.YtbacnaplpfmpnaaDoor
