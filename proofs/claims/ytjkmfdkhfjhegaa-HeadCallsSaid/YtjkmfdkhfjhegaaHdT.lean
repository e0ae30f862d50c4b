/- The reference of chapter 7: Read. -/
import Derived.Test.YtjkmfdkhfjhegaaHdS
namespace Go.Proofs.Ytjkmfdkhfjhegaa
open Go.RowKit
set_option linter.unusedVariables false

set_option maxRecDepth 100000 in
set_option maxHeartbeats 800000 in
theorem rhdread_early (v : Int) (t : List UInt8) (h : knownV v = false ∨ (knownV v = true ∧ t = [])) (w : World) : Calls Try.prog 16 #[.int .i64 v, .string ⟨t.toArray⟩] w fun e w' =>
    e = .returned (.tuple #[.agg #[.int .i64 (rdH v t).1, .int .i64 (rdH v t).2.1, .int .i64 (rdH v t).2.2.1], .int .i64 (rdH v t).2.2.2.1, .int .i64 (rdH v t).2.2.2.2]) ∧ Below w.heap.size w w' := by
  rcases h with h | ⟨h, rfl⟩
  · have HH := Lib.hid (And.intro h (show rdH v t = (0, 0, 0, 0, 2) by unfold rdH; rw [if_pos h]))
    rw [HH.out.2]
    clear h
    go_enter Try.func16, Try.ntmps16
    go_wp2_with fail
    refine (rversion_v v _).mono ?_
    rintro r w' ⟨rfl, rfl⟩
    rw [HH.out.1]
    go_wp2
    (try simp only [Exit.inBlock, Exit.then])
    refine bodyPost_ret (results_row_tmp2 rfl _ _ _ _ _ _ rfl (Obj?.new _ _ _) Try.underlying26 rfl infoHd) rfl ?_
    exact ⟨rfl, below_al (Below.refl _ _) _⟩
  · have HH := Lib.hid (And.intro h (show rdH v [] = (0, 0, 0, 0, 3) by unfold rdH; rw [if_neg (by simp [h])]))
    rw [HH.out.2]
    clear h
    go_enter Try.func16, Try.ntmps16
    go_wp2_with fail
    refine (rversion_v v _).mono ?_
    rintro r w' ⟨rfl, rfl⟩
    rw [HH.out.1]
    go_wp2
    (try simp only [Exit.inBlock, Exit.then])
    refine bodyPost_ret (results_row_tmp2 rfl _ _ _ _ _ _ rfl (Obj?.new _ _ _) Try.underlying26 rfl infoHd) rfl ?_
    exact ⟨rfl, below_al (Below.refl _ _) _⟩
set_option maxRecDepth 100000 in
set_option maxHeartbeats 1600000 in
theorem rhdread_kind (v : Int) (c : UInt8) (r : List UInt8) (hr : (r.length : Int) ≤ 4611686018427380000) (h : knownV v = true) (hc : checkF v ((c.toNat / 16 : Nat) : Int) ((c.toNat % 16 : Nat) : Int) 0 ≠ 0) (w : World) : Calls Try.prog 16 #[.int .i64 v, .string ⟨(c :: r).toArray⟩] w fun e w' =>
    e = .returned (.tuple #[.agg #[.int .i64 (rdH v (c :: r)).1, .int .i64 (rdH v (c :: r)).2.1, .int .i64 (rdH v (c :: r)).2.2.1], .int .i64 (rdH v (c :: r)).2.2.2.1, .int .i64 (rdH v (c :: r)).2.2.2.2]) ∧ Below w.heap.size w w' := by
  have hR : rdH v (c :: r) = (0, 0, 0, 0, checkF v ((c.toNat / 16 : Nat) : Int) ((c.toNat % 16 : Nat) : Int) 0) := by unfold rdH; rw [if_neg (by simp [h])]; simp only; rw [if_pos hc]
  obtain ⟨k, hk⟩ : ∃ k : Nat, k = c.toNat / 16 := ⟨_, rfl⟩
  obtain ⟨f, hf⟩ : ∃ f : Nat, f = c.toNat % 16 := ⟨_, rfl⟩
  rw [← hk, ← hf] at hc
  try rw [← hk, ← hf] at hR
  have u1 : ((c.toNat : Int)) / 16 = (k : Int) := by omega
  have u2 : ((c.toNat : Int)) % 16 = (f : Int) := by omega
  have b0 : ((c.toNat : Int)) < 256 := by have := c.toNat_lt; omega
  have hx : (ByteArray.mk (c :: r).toArray)[0]'(Nat.succ_pos _) = c := rfl
  have HH := Lib.hid (And.intro h (And.intro hR (And.intro hk hf)))
  have q1 : (checkF v k f 0 == 0) = false := by simpa using hc
  have q2 : (checkF v k f 0 != 0) = true := by simp [hc]
  rw [HH.out.2.1]
  have hb16 : k < 16 ∧ f < 16 := by omega
  obtain ⟨hb1, hb2⟩ := hb16
  clear h hc hR hk hf
  have HU := Lib.hid (And.intro u1 u2)
  clear u1 u2
  go_enter Try.func16, Try.ntmps16
  go_wp2_with fail
  refine (rversion_v v _).mono ?_
  rintro e0 w' ⟨rfl, rfl⟩
  rw [HH.out.1]
  go_wp2
  obtain ⟨u1, u2⟩ := HU.out
  have u3 : IntKind.i64.wrap (c.toNat : Int) = (c.toNat : Int) := by rw [IntKind.wrap_i64]; omega
  go_region
  clear u1 u2 u3
  go_wp2_with fail
  refine (rcheck_any v k f 0 _).mono ?_
  rintro e1 w1 ⟨rfl, hb⟩
  have hB0 : Below w.heap.size w ((w.alloc (.cells #[.int .i64 0, .int .i64 0, .int .i64 0] 26 (0, 0))).alloc (.cells #[.int .i64 k, .int .i64 f, .int .i64 0] 26 (0, 0))).drew := below_drew (below_al (below_al (Below.refl _ _) _) _)
  have hB1 := hB0.trans (hb.mono hB0.size)
  have O1 := Obj?.below (Obj?.drew ((Obj?.new w #[.int .i64 0, .int .i64 0, .int .i64 0] 26).alloc (.cells #[.int .i64 k, .int .i64 f, .int .i64 0] 26 (0, 0)))) hb (by simp; omega)
  have P0 := Obj?.new (w.alloc (.cells #[.int .i64 0, .int .i64 0, .int .i64 0] 26 (0, 0))) #[.int .i64 k, .int .i64 f, .int .i64 0] 26
  rw [World.size_alloc] at P0
  have P1 := Obj?.below (Obj?.drew P0) hb (by simp)
  clear hb P0
  have kc := O1.cells
  have kf := O1.froz
  have HO := Lib.hid O1
  clear O1 P1
  go_wp2_with fail
  (try simp only [Exit.inBlock, Exit.then])
  refine bodyPost_ret (results_row_tmp2 rfl _ _ _ _ _ _ rfl (((HO.out.set 0 _).set 1 _).set 2 _) Try.underlying26 rfl infoHd) rfl ?_
  exact ⟨rfl, ((hB1.setCell (by simp) _).setCell (by simp) _).setCell (by simp) _⟩
set_option maxRecDepth 100000 in
set_option maxHeartbeats 1600000 in
theorem rhdread_var (v : Int) (c : UInt8) (r : List UInt8) (hr : (r.length : Int) ≤ 4611686018427380000) (h : knownV v = true) (hc : checkF v ((c.toNat / 16 : Nat) : Int) ((c.toNat % 16 : Nat) : Int) 0 = 0) (hv : (vread r).2.2 ≠ 0) (w : World) : Calls Try.prog 16 #[.int .i64 v, .string ⟨(c :: r).toArray⟩] w fun e w' =>
    e = .returned (.tuple #[.agg #[.int .i64 (rdH v (c :: r)).1, .int .i64 (rdH v (c :: r)).2.1, .int .i64 (rdH v (c :: r)).2.2.1], .int .i64 (rdH v (c :: r)).2.2.2.1, .int .i64 (rdH v (c :: r)).2.2.2.2]) ∧ Below w.heap.size w w' := by
  have hR : rdH v (c :: r) = (0, 0, 0, 0, (vread r).2.2) := by unfold rdH; rw [if_neg (by simp [h])]; simp only; rw [if_neg (fun q => q hc), if_pos hv]
  obtain ⟨k, hk⟩ : ∃ k : Nat, k = c.toNat / 16 := ⟨_, rfl⟩
  obtain ⟨f, hf⟩ : ∃ f : Nat, f = c.toNat % 16 := ⟨_, rfl⟩
  rw [← hk, ← hf] at hc
  try rw [← hk, ← hf] at hR
  have u1 : ((c.toNat : Int)) / 16 = (k : Int) := by omega
  have u2 : ((c.toNat : Int)) % 16 = (f : Int) := by omega
  have b0 : ((c.toNat : Int)) < 256 := by have := c.toNat_lt; omega
  have hx : (ByteArray.mk (c :: r).toArray)[0]'(Nat.succ_pos _) = c := rfl
  have HH := Lib.hid (And.intro h (And.intro hR (And.intro hk (And.intro hf hc))))
  have q1 : ((vread r).2.2 == 0) = false := by simpa using hv
  have q2 : ((vread r).2.2 != 0) = true := by simp [hv]
  have hex : (ByteArray.mk (c :: r).toArray).extract 1 (r.length + 1) = ByteArray.mk r.toArray := by rw [ByteArray.extract_mk]; simp
  clear hv
  rw [HH.out.2.1]
  have hb16 : k < 16 ∧ f < 16 := by omega
  obtain ⟨hb1, hb2⟩ := hb16
  clear h hc hR hk hf
  have HU := Lib.hid (And.intro u1 u2)
  clear u1 u2
  go_enter Try.func16, Try.ntmps16
  go_wp2_with fail
  refine (rversion_v v _).mono ?_
  rintro e0 w' ⟨rfl, rfl⟩
  rw [HH.out.1]
  go_wp2
  obtain ⟨u1, u2⟩ := HU.out
  have u3 : IntKind.i64.wrap (c.toNat : Int) = (c.toNat : Int) := by rw [IntKind.wrap_i64]; omega
  go_region
  clear u1 u2 u3
  go_wp2_with fail
  refine (rcheck_any v k f 0 _).mono ?_
  rintro e1 w1 ⟨rfl, hb⟩
  have hB0 : Below w.heap.size w ((w.alloc (.cells #[.int .i64 0, .int .i64 0, .int .i64 0] 26 (0, 0))).alloc (.cells #[.int .i64 k, .int .i64 f, .int .i64 0] 26 (0, 0))).drew := below_drew (below_al (below_al (Below.refl _ _) _) _)
  have hB1 := hB0.trans (hb.mono hB0.size)
  have O1 := Obj?.below (Obj?.drew ((Obj?.new w #[.int .i64 0, .int .i64 0, .int .i64 0] 26).alloc (.cells #[.int .i64 k, .int .i64 f, .int .i64 0] 26 (0, 0)))) hb (by simp; omega)
  have P0 := Obj?.new (w.alloc (.cells #[.int .i64 0, .int .i64 0, .int .i64 0] 26 (0, 0))) #[.int .i64 k, .int .i64 f, .int .i64 0] 26
  rw [World.size_alloc] at P0
  have P1 := Obj?.below (Obj?.drew P0) hb (by simp)
  clear hb P0
  rw [HH.out.2.2.2.2]
  have HO := Lib.hid O1
  clear O1 P1
  go_wp2_with fail
  refine (rvread_any r (by omega) _).mono ?_
  rintro e2 w2 ⟨rfl, rfl⟩
  have kc := HO.out.cells
  have kf := HO.out.froz
  go_wp2_with fail
  (try simp only [Exit.inBlock, Exit.then])
  refine bodyPost_ret (results_row_tmp2 rfl _ _ _ _ _ _ rfl (((HO.out.set 0 _).set 1 _).set 2 _) Try.underlying26 rfl infoHd) rfl ?_
  exact ⟨rfl, ((hB1.setCell (by simp) _).setCell (by simp) _).setCell (by simp) _⟩
set_option maxRecDepth 100000 in
set_option maxHeartbeats 1600000 in
theorem rhdread_ok (v : Int) (c : UInt8) (r : List UInt8) (hr : (r.length : Int) ≤ 4611686018427380000) (h : knownV v = true) (hc : checkF v ((c.toNat / 16 : Nat) : Int) ((c.toNat % 16 : Nat) : Int) 0 = 0) (hv : (vread r).2.2 = 0) (w : World) : Calls Try.prog 16 #[.int .i64 v, .string ⟨(c :: r).toArray⟩] w fun e w' =>
    e = .returned (.tuple #[.agg #[.int .i64 (rdH v (c :: r)).1, .int .i64 (rdH v (c :: r)).2.1, .int .i64 (rdH v (c :: r)).2.2.1], .int .i64 (rdH v (c :: r)).2.2.2.1, .int .i64 (rdH v (c :: r)).2.2.2.2]) ∧ Below w.heap.size w w' := by
  have hR : rdH v (c :: r) = (((c.toNat / 16 : Nat) : Int), ((c.toNat % 16 : Nat) : Int), (vread r).1, (vread r).2.1 + 1, 0) := by unfold rdH; rw [if_neg (by simp [h])]; simp only; rw [if_neg (fun q => q hc), if_neg (fun q => q hv)]
  obtain ⟨k, hk⟩ : ∃ k : Nat, k = c.toNat / 16 := ⟨_, rfl⟩
  obtain ⟨f, hf⟩ : ∃ f : Nat, f = c.toNat % 16 := ⟨_, rfl⟩
  rw [← hk, ← hf] at hc
  try rw [← hk, ← hf] at hR
  have u1 : ((c.toNat : Int)) / 16 = (k : Int) := by omega
  have u2 : ((c.toNat : Int)) % 16 = (f : Int) := by omega
  have b0 : ((c.toNat : Int)) < 256 := by have := c.toNat_lt; omega
  have hx : (ByteArray.mk (c :: r).toArray)[0]'(Nat.succ_pos _) = c := rfl
  have hvr := vread_range r
  have HH := Lib.hid (And.intro h (And.intro hR (And.intro hk (And.intro hf (And.intro hc hv)))))
  have hex : (ByteArray.mk (c :: r).toArray).extract 1 (r.length + 1) = ByteArray.mk r.toArray := by rw [ByteArray.extract_mk]; simp
  clear hv
  rw [HH.out.2.1]
  have hb16 : k < 16 ∧ f < 16 := by omega
  obtain ⟨hb1, hb2⟩ := hb16
  clear h hc hR hk hf
  have HU := Lib.hid (And.intro u1 u2)
  clear u1 u2
  go_enter Try.func16, Try.ntmps16
  go_wp2_with fail
  refine (rversion_v v _).mono ?_
  rintro e0 w' ⟨rfl, rfl⟩
  rw [HH.out.1]
  go_wp2
  obtain ⟨u1, u2⟩ := HU.out
  have u3 : IntKind.i64.wrap (c.toNat : Int) = (c.toNat : Int) := by rw [IntKind.wrap_i64]; omega
  go_region
  clear u1 u2 u3
  go_wp2_with fail
  refine (rcheck_any v k f 0 _).mono ?_
  rintro e1 w1 ⟨rfl, hb⟩
  have hB0 : Below w.heap.size w ((w.alloc (.cells #[.int .i64 0, .int .i64 0, .int .i64 0] 26 (0, 0))).alloc (.cells #[.int .i64 k, .int .i64 f, .int .i64 0] 26 (0, 0))).drew := below_drew (below_al (below_al (Below.refl _ _) _) _)
  have hB1 := hB0.trans (hb.mono hB0.size)
  have O1 := Obj?.below (Obj?.drew ((Obj?.new w #[.int .i64 0, .int .i64 0, .int .i64 0] 26).alloc (.cells #[.int .i64 k, .int .i64 f, .int .i64 0] 26 (0, 0)))) hb (by simp; omega)
  have P0 := Obj?.new (w.alloc (.cells #[.int .i64 0, .int .i64 0, .int .i64 0] 26 (0, 0))) #[.int .i64 k, .int .i64 f, .int .i64 0] 26
  rw [World.size_alloc] at P0
  have P1 := Obj?.below (Obj?.drew P0) hb (by simp)
  clear hb P0
  rw [HH.out.2.2.2.2.1]
  have HO := Lib.hid O1
  have HP := Lib.hid P1
  clear O1 P1
  go_wp2_with fail
  refine (rvread_any r (by omega) _).mono ?_
  rintro e2 w2 ⟨rfl, rfl⟩
  rw [HH.out.2.2.2.2.2]
  have kc := HO.out.cells
  have kf := HO.out.froz
  have kp := HP.out.cells
  have kq := HP.out.froz
  obtain ⟨hv1, hv2⟩ := hvr
  go_wp2_with fail
  (try simp only [Exit.inBlock, Exit.then])
  have O2 := HO.out.kept (row := some (w.heap.size + 1)) (grown_set (World.grownBy.refl _ _) (p := ⟨w.heap.size + 1, 2, none⟩) rfl (.int .i64 (vread r).1)) (by simp)
  refine bodyPost_ret (results_row_tmp2 rfl _ _ _ _ _ _ rfl (((O2.set 0 _).set 1 _).set 2 _) Try.underlying26 rfl infoHd) rfl ?_
  refine ⟨?_, (((hB1.setCell (by simp) _).setCell (by simp) _).setCell (by simp) _).setCell (by simp) _⟩
  show Ending.returned (.tuple #[_, .int .i64 (1 + (vread r).2.1), _]) = _
  rw [Int.add_comm]; rfl
set_option maxRecDepth 100000 in
/-- The reference's Read. -/
theorem rhdread_any (v : Int) (t : List UInt8) (ht : (t.length : Int) ≤ 4611686018427380000) (w : World) : Calls Try.prog 16 #[.int .i64 v, .string ⟨t.toArray⟩] w fun e w' =>
    e = .returned (.tuple #[.agg #[.int .i64 (rdH v t).1, .int .i64 (rdH v t).2.1, .int .i64 (rdH v t).2.2.1], .int .i64 (rdH v t).2.2.2.1, .int .i64 (rdH v t).2.2.2.2]) ∧ Below w.heap.size w w' := by
  cases h : knownV v with
  | false => exact rhdread_early v t (.inl h) w
  | true =>
    cases t with
    | nil => exact rhdread_early v [] (.inr ⟨h, rfl⟩) w
    | cons c r =>
      have hr : (r.length : Int) ≤ 4611686018427380000 := by rw [List.length_cons] at ht; omega
      by_cases hc : checkF v ((c.toNat / 16 : Nat) : Int) ((c.toNat % 16 : Nat) : Int) 0 = 0
      · by_cases hv : (vread r).2.2 = 0
        · exact rhdread_ok v c r hr h hc hv w
        · exact rhdread_var v c r hr h hc hv w
      · exact rhdread_kind v c r hr h hc w
end Go.Proofs.Ytjkmfdkhfjhegaa
