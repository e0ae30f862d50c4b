/- OctetNames: the walk. -/
import Derived.Test.YtcfeombnobgplaaOctL
import Derived.Test.YtcfeombnobgplaaOctC
namespace Go.Proofs.Ytcfeombnobgplaa
open Go.RowKit

set_option maxRecDepth 100000 in
set_option maxHeartbeats 1600000 in
theorem octetNames_walk (w0 : World) : Calls Try.prog 11 #[] w0 fun e w' => e = .returned (.bool true) ∧ Below w0.heap.size w0 w' := by
  go_enter Try.func11, Try.ntmps11
  go_wp2_with fail
  refine (lives01 _).mono ?_
  rintro r w1 ⟨rfl, hB1⟩
  go_wp2_with fail
  refine (new_any [1, 2, 3, 4, 5] _).mono ?_
  rintro r w2 ⟨bc, rfl, hbc, Cbc, hg⟩
  have hB2 := hB1.trans ((below_grown hg).mono hB1.size)
  have Lbc : w0.heap.size ≤ bc := Nat.le_trans hB1.size hbc
  clear hg
  go_wp2_with fail
  refine (take_any Cbc 1 (by decide) (by decide)).mono ?_
  rintro r w3 ⟨rfl, K, hg⟩
  rw [show takeI [1, 2, 3, 4, 5] 0 0 1 = 1 by decide, show takeE [1, 2, 3, 4, 5] 0 0 1 = 0 by decide] at K
  rw [show takeS [1, 2, 3, 4, 5] 0 0 1 = [1] by decide]
  clear Cbc
  have Cbc := K
  clear K
  have hB3 := hB2.grown hg hB2.size (fun j e => by cases e; exact Lbc)
  clear hg
  go_wp2_with fail
  refine (number_any Cbc 2 (by decide) (by decide)).mono ?_
  rintro r w4 ⟨rfl, K, hg⟩
  rw [show takeI [1, 2, 3, 4, 5] 1 0 2 = 3 by decide, show takeE [1, 2, 3, 4, 5] 1 0 2 = 0 by decide] at K
  rw [show getL (takeS [1, 2, 3, 4, 5] 1 0 2) = 515 by decide]
  clear Cbc
  have Cbc := K
  clear K
  have hB4 := hB3.grown hg hB3.size (fun j e => by cases e; exact Lbc)
  clear hg
  go_wp2_with fail
  refine (peek_any Cbc 2 (by decide) (by decide)).mono ?_
  rintro r w5 ⟨rfl, hq⟩
  rw [show takeS [1, 2, 3, 4, 5] 3 0 2 = [4, 5] by decide]
  have hg := quiet_grown hq none
  replace Cbc := Cur.kept Cbc hg (by simp)
  have hB5 := hB4.grown hg hB4.size (by simp)
  clear hq hg
  go_wp2_with fail
  refine (peek_any Cbc 9 (by decide) (by decide)).mono ?_
  rintro r w6 ⟨rfl, hq⟩
  rw [show takeS [1, 2, 3, 4, 5] 3 0 9 = [] by decide]
  have hg := quiet_grown hq none
  replace Cbc := Cur.kept Cbc hg (by simp)
  have hB6 := hB5.grown hg hB5.size (by simp)
  clear hq hg
  go_wp2_with fail
  refine (take_any Cbc 3 (by decide) (by decide)).mono ?_
  rintro r w7 ⟨rfl, K, hg⟩
  rw [show takeI [1, 2, 3, 4, 5] 3 0 3 = 3 by decide, show takeE [1, 2, 3, 4, 5] 3 0 3 = 3 by decide] at K
  rw [show takeS [1, 2, 3, 4, 5] 3 0 3 = [] by decide]
  clear Cbc
  have Cbc := K
  clear K
  have hB7 := hB6.grown hg hB6.size (fun j e => by cases e; exact Lbc)
  clear hg
  go_wp2_with fail
  refine (err_any Cbc).mono ?_
  rintro r w ⟨rfl, rfl⟩
  go_wp2_with fail
  refine (fail_any Cbc 5).mono ?_
  rintro r w8 ⟨rfl, K, hg⟩
  rw [show failE 3 5 = 3 by decide] at K
  clear Cbc
  have Cbc := K
  clear K
  have hB8 := hB7.grown hg hB7.size (fun j e => by cases e; exact Lbc)
  clear hg
  go_wp2_with fail
  refine (take_any Cbc 1 (by decide) (by decide)).mono ?_
  rintro r w9 ⟨rfl, K, hg⟩
  rw [show takeI [1, 2, 3, 4, 5] 3 3 1 = 3 by decide, show takeE [1, 2, 3, 4, 5] 3 3 1 = 3 by decide] at K
  rw [show takeS [1, 2, 3, 4, 5] 3 3 1 = [] by decide]
  clear Cbc
  have Cbc := K
  clear K
  have hB9 := hB8.grown hg hB8.size (fun j e => by cases e; exact Lbc)
  clear hg
  go_wp2_with fail
  refine (new_any [120] _).mono ?_
  have Nbc : bc < w9.heap.size := Obj?.lt Cbc
  rintro r w10 ⟨bd, rfl, hbd, Cbd, hg⟩
  have hB10 := hB9.trans ((below_grown hg).mono hB9.size)
  have Lbd : w0.heap.size ≤ bd := Nat.le_trans hB9.size hbd
  replace Cbc := Cur.kept Cbc hg (by simp)
  clear hg
  go_wp2_with fail
  refine (fail_any Cbd 0).mono ?_
  rintro r w11 ⟨rfl, K, hg⟩
  rw [show failE 0 0 = 0 by decide] at K
  clear Cbd
  have Cbd := K
  clear K
  have hB11 := hB10.grown hg hB10.size (fun j e => by cases e; exact Lbd)
  replace Cbc := Cur.kept Cbc hg (by simp; omega)
  clear hg
  go_wp2_with fail
  refine (err_any Cbd).mono ?_
  rintro r w ⟨rfl, rfl⟩
  go_wp2_with fail
  refine (fail_any Cbd 5).mono ?_
  rintro r w12 ⟨rfl, K, hg⟩
  rw [show failE 0 5 = 5 by decide] at K
  clear Cbd
  have Cbd := K
  clear K
  have hB12 := hB11.grown hg hB11.size (fun j e => by cases e; exact Lbd)
  replace Cbc := Cur.kept Cbc hg (by simp; omega)
  clear hg
  go_wp2_with fail
  refine (take_any Cbd (-1) (by decide) (by decide)).mono ?_
  rintro r w13 ⟨rfl, K, hg⟩
  rw [show takeI [120] 0 5 (-1) = 0 by decide, show takeE [120] 0 5 (-1) = 5 by decide] at K
  rw [show takeS [120] 0 5 (-1) = [] by decide]
  clear Cbd
  have Cbd := K
  clear K
  have hB13 := hB12.grown hg hB12.size (fun j e => by cases e; exact Lbd)
  replace Cbc := Cur.kept Cbc hg (by simp; omega)
  clear hg
  go_wp2_with fail
  refine (fail_nil 5 _).mono ?_
  rintro r w ⟨rfl, rfl⟩
  go_wp2_with fail
  refine (err_any Cbc).mono ?_
  rintro r w ⟨rfl, rfl⟩
  go_wp2_with fail
  refine (at_any Cbc).mono ?_
  rintro r w ⟨rfl, rfl⟩
  go_wp2_with fail
  refine (left_any Cbc (by decide) (by decide)).mono ?_
  rintro r w14 ⟨rfl, hq⟩
  rw [show (((List.length ([1, 2, 3, 4, 5] : List UInt8) - 3 : Nat)) : Int) = 2 by decide]
  have hg := quiet_grown hq none
  replace Cbc := Cur.kept Cbc hg (by simp)
  replace Cbd := Cur.kept Cbd hg (by simp)
  have hB14 := hB13.grown hg hB13.size (by simp)
  clear hq hg
  go_wp2_with fail
  refine (rest_any Cbc (by decide) (by decide)).mono ?_
  rintro r w15 ⟨rfl, hq⟩
  rw [show List.drop 3 ([1, 2, 3, 4, 5] : List UInt8) = [4, 5] by decide]
  have hg := quiet_grown hq none
  replace Cbc := Cur.kept Cbc hg (by simp)
  replace Cbd := Cur.kept Cbd hg (by simp)
  have hB15 := hB14.grown hg hB14.size (by simp)
  clear hq hg
  go_wp2_with fail
  refine (peek_any Cbc 1 (by decide) (by decide)).mono ?_
  rintro r w16 ⟨rfl, hq⟩
  rw [show takeS [1, 2, 3, 4, 5] 3 3 1 = [] by decide]
  have hg := quiet_grown hq none
  replace Cbc := Cur.kept Cbc hg (by simp)
  replace Cbd := Cur.kept Cbd hg (by simp)
  have hB16 := hB15.grown hg hB15.size (by simp)
  clear hq hg
  go_wp2_with fail
  refine (number_any Cbc 1 (by decide) (by decide)).mono ?_
  rintro r w17 ⟨rfl, K, hg⟩
  rw [show takeI [1, 2, 3, 4, 5] 3 3 1 = 3 by decide, show takeE [1, 2, 3, 4, 5] 3 3 1 = 3 by decide] at K
  rw [show getL (takeS [1, 2, 3, 4, 5] 3 3 1) = 0 by decide]
  clear Cbc
  have Cbc := K
  clear K
  have hB17 := hB16.grown hg hB16.size (fun j e => by cases e; exact Lbc)
  replace Cbd := Cur.kept Cbd hg (by simp; omega)
  clear hg
  go_wp2_with fail
  refine (err_any Cbd).mono ?_
  rintro r w ⟨rfl, rfl⟩
  go_wp2_with fail
  refine (put_any 1 0 _).mono ?_
  rintro r w18 ⟨rfl, hb⟩
  rw [show putL 1 0 = [] by decide]
  have hB18 := hB17.trans (hb.mono hB17.size)
  replace Cbc := Cur.below Cbc hb
  replace Cbd := Cur.below Cbd hb
  clear hb
  go_wp2_with fail
  refine (put_any 1 (-3) _).mono ?_
  rintro r w19 ⟨rfl, hb⟩
  rw [show putL 1 (-3) = [] by decide]
  have hB19 := hB18.trans (hb.mono hB18.size)
  replace Cbc := Cur.below Cbc hb
  replace Cbd := Cur.below Cbd hb
  clear hb
  go_wp2_with fail
  refine (put_any 1 99 _).mono ?_
  rintro r w20 ⟨rfl, hb⟩
  rw [show putL 1 99 = [0, 0, 0, 0, 0, 0, 0, 0, 0, 0, 0, 0, 0, 0, 0, 1] by decide]
  have hB20 := hB19.trans (hb.mono hB19.size)
  replace Cbc := Cur.below Cbc hb
  replace Cbd := Cur.below Cbd hb
  clear hb
  go_wp2_with fail
  refine (put_any 511 1 _).mono ?_
  rintro r w21 ⟨rfl, hb⟩
  rw [show putL 511 1 = [255] by decide]
  have hB21 := hB20.trans (hb.mono hB20.size)
  replace Cbc := Cur.below Cbc hb
  replace Cbd := Cur.below Cbd hb
  clear hb
  go_wp2_with fail
  refine (get_any [] (by decide) _).mono ?_
  rintro r w ⟨rfl, rfl⟩
  rw [show getL [] = 0 by decide]
  go_wp2_with fail
  refine (get_any [9, 0, 0, 0, 0, 0, 0, 0, 1] (by decide) _).mono ?_
  rintro r w ⟨rfl, rfl⟩
  rw [show getL [9, 0, 0, 0, 0, 0, 0, 0, 1] = 1 by decide]
  go_wp2_with fail
  refine (take_nil 1 _).mono ?_
  rintro r w ⟨rfl, rfl⟩
  go_wp2_with fail
  refine (number_nil 1 _).mono ?_
  rintro r w ⟨rfl, rfl⟩
  go_wp2_with fail
  refine (peek_nil 1 _).mono ?_
  rintro r w ⟨rfl, rfl⟩
  go_wp2_with fail
  refine (at_nil _).mono ?_
  rintro r w ⟨rfl, rfl⟩
  go_wp2_with fail
  refine (left_nil _).mono ?_
  rintro r w ⟨rfl, rfl⟩
  go_wp2_with fail
  refine (rest_nil _).mono ?_
  rintro r w ⟨rfl, rfl⟩
  go_wp2_with fail
  refine (err_nil _).mono ?_
  rintro r w ⟨rfl, rfl⟩
  go_wp2
  go_ret
  exact ⟨rfl, hB21⟩
end Go.Proofs.Ytcfeombnobgplaa
