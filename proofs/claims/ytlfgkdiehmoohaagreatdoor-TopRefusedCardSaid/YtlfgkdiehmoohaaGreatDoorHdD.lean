/- head.Read. -/
import Derived.Test.YtlfgkdiehmoohaaGreatDoorHdB
import Derived.Laws.ResultCell
import Derived.Laws.Rows
import Derived.RegionTactic
import Derived.ChangeAlike
namespace Go.Proofs.YtlfgkdiehmoohaaGreatDoor
open Go.RowKit
set_option linter.unusedVariables false

theorem Obj?.cells {w : World} {b : Nat} {cs : Array Value} {t : TypeId} (h : Obj? w b cs t) : ∀ j, w.cell? ⟨b, j, none⟩ = cs[j]? := by
  intro j
  unfold Obj? at h
  simp [World.cell?, h]
theorem Obj?.froz {w : World} {b : Nat} {cs : Array Value} {t : TypeId} (h : Obj? w b cs t) : ∀ j, w.frozen? ⟨b, j, none⟩ = false := fun j => h.frozen j
theorem Obj?.drew {w : World} {b : Nat} {cs : Array Value} {t : TypeId} (h : Obj? w b cs t) : Obj? w.drew b cs t := h
theorem below_al {a w : World} (h : Below a.heap.size a w) (o : Obj) : Below a.heap.size a (w.alloc o) := h.alloc h.size o
theorem below_drew {w W : World} (h : Below w.heap.size w W) : Below w.heap.size w W.drew := h.trans ((below_grown (quiet_grown ⟨1, rfl⟩ none)).mono h.size)
theorem results_cell_tmp2 {fn : Func} {p u v : Tmp} {ty : TypeId} (h : fn.results = #[.cell p ty, .tmp u, .tmp v]) (tmps : Array Value) (P : Program) (w : World) :
    (results fn tmps).run P w =
      ((asAddr (tmps.getD p undef)).run P w).andThen fun a w₁ => ((loadVar ty a).run P w₁).andThen fun x w₂ => .ok (.tuple #[x, tmps.getD u undef, tmps.getD v undef]) w₂ := by
  simp only [results, h]
  simp [Sem.run_bind, Result.andThen]
theorem results_row_tmp2 {P : Program} {fn : Func} {p u v : Tmp} {ty : TypeId} (h : fn.results = #[.cell p ty, .tmp u, .tmp v]) (tmps : Array Value) (w : World) (g : Nat) (t : TypeId) (cs : Array Value) (d : TypeDesc)
    (hp : tmps.getD p undef = .pointer (some ⟨g, 0, none⟩)) (hg : Obj? w g cs t)
    (hu : P.underlying ty = some d) (hd : (match d with | .struct _ | .array _ _ => true | _ => false) = true) (hi : (P.info? ty).map (·.size) = some cs.size) :
    (results fn tmps).run P w = .ok (.tuple #[.agg cs, tmps.getD u undef, tmps.getD v undef]) w := by
  rw [results_cell_tmp2 h, hp]
  simp [asAddr, Result.andThen, run_loadVar_row w g t ty cs (0, 0) d hg hu hd hi]
theorem infoHd : (Tryz.prog.info? 93).map (·.size) = some 3 := by kernel_rfl

/-- What head.Read returns: kind, flags, length, size, error. -/
def rdH (v : Int) (t : List UInt8) : Int × Int × Int × Int × Int :=
  if knownV v = false then (0, 0, 0, 0, 2) else
  match t with
  | [] => (0, 0, 0, 0, 3)
  | c :: r =>
    if checkF v ((c.toNat / 16 : Nat) : Int) ((c.toNat % 16 : Nat) : Int) 0 ≠ 0 then (0, 0, 0, 0, checkF v ((c.toNat / 16 : Nat) : Int) ((c.toNat % 16 : Nat) : Int) 0)
    else if (vread r).2.2 ≠ 0 then (0, 0, 0, 0, (vread r).2.2)
    else (((c.toNat / 16 : Nat) : Int), ((c.toNat % 16 : Nat) : Int), (vread r).1, (vread r).2.1 + 1, 0)

set_option maxRecDepth 100000 in
set_option maxHeartbeats 800000 in
theorem hdread_early (v : Int) (t : List UInt8) (h : knownV v = false ∨ (knownV v = true ∧ t = [])) (w : World) : Calls Tryz.prog 28 #[.int .i64 v, .string ⟨t.toArray⟩] w fun e w' =>
    e = .returned (.tuple #[.agg #[.int .i64 (rdH v t).1, .int .i64 (rdH v t).2.1, .int .i64 (rdH v t).2.2.1], .int .i64 (rdH v t).2.2.2.1, .int .i64 (rdH v t).2.2.2.2]) ∧ Below w.heap.size w w' := by
  rcases h with h | ⟨h, rfl⟩
  · have HH := Lib.hid (And.intro h (show rdH v t = (0, 0, 0, 0, 2) by unfold rdH; rw [if_pos h]))
    rw [HH.out.2]
    clear h
    go_enter Tryz.func28, Tryz.ntmps28
    go_wp2_with fail
    refine (known_v v _).mono ?_
    rintro r w' ⟨rfl, rfl⟩
    rw [HH.out.1]
    go_wp2
    (try simp only [Exit.inBlock, Exit.then])
    refine bodyPost_ret (results_row_tmp2 rfl _ _ _ _ _ _ rfl (Obj?.new _ _ _) Tryz.underlying93 rfl infoHd) rfl ?_
    exact ⟨rfl, below_al (Below.refl _ _) _⟩
  · have HH := Lib.hid (And.intro h (show rdH v [] = (0, 0, 0, 0, 3) by unfold rdH; rw [if_neg (by simp [h])]))
    rw [HH.out.2]
    clear h
    go_enter Tryz.func28, Tryz.ntmps28
    go_wp2_with fail
    refine (known_v v _).mono ?_
    rintro r w' ⟨rfl, rfl⟩
    rw [HH.out.1]
    go_wp2
    (try simp only [Exit.inBlock, Exit.then])
    refine bodyPost_ret (results_row_tmp2 rfl _ _ _ _ _ _ rfl (Obj?.new _ _ _) Tryz.underlying93 rfl infoHd) rfl ?_
    exact ⟨rfl, below_al (Below.refl _ _) _⟩
theorem vread_range (l : List UInt8) : 0 ≤ (vread l).2.1 ∧ (vread l).2.1 ≤ 4 := by
  rcases vread_inv l with ⟨m, h0, h1, e, h2, _⟩ | e | e
  · rw [e]; have := vsz_pos h0 h1; simp only; omega
  · rw [e]; decide
  · rw [e]; decide
theorem u8_shift : ∀ c : Fin 256, (((c : Nat) : Int) / 16 = (((c : Nat) / 16 : Nat) : Int)) ∧ bits .and .u8 ((c : Nat) : Int) 15 = (((c : Nat) % 16 : Nat) : Int) := by decide +kernel
set_option maxRecDepth 100000 in
set_option maxHeartbeats 1600000 in
theorem hdread_kind (v : Int) (c : UInt8) (r : List UInt8) (hr : (r.length : Int) ≤ 4611686018427380000) (h : knownV v = true) (hc : checkF v ((c.toNat / 16 : Nat) : Int) ((c.toNat % 16 : Nat) : Int) 0 ≠ 0) (w : World) : Calls Tryz.prog 28 #[.int .i64 v, .string ⟨(c :: r).toArray⟩] w fun e w' =>
    e = .returned (.tuple #[.agg #[.int .i64 (rdH v (c :: r)).1, .int .i64 (rdH v (c :: r)).2.1, .int .i64 (rdH v (c :: r)).2.2.1], .int .i64 (rdH v (c :: r)).2.2.2.1, .int .i64 (rdH v (c :: r)).2.2.2.2]) ∧ Below w.heap.size w w' := by
  have hR : rdH v (c :: r) = (0, 0, 0, 0, checkF v ((c.toNat / 16 : Nat) : Int) ((c.toNat % 16 : Nat) : Int) 0) := by unfold rdH; rw [if_neg (by simp [h])]; simp only; rw [if_pos hc]
  obtain ⟨k, hk⟩ : ∃ k : Nat, k = c.toNat / 16 := ⟨_, rfl⟩
  obtain ⟨f, hf⟩ : ∃ f : Nat, f = c.toNat % 16 := ⟨_, rfl⟩
  rw [← hk, ← hf] at hc
  try rw [← hk, ← hf] at hR
  obtain ⟨u1, u2⟩ := u8_shift ⟨c.toNat, c.toNat_lt⟩
  simp only [← hk, ← hf] at u1 u2
  have hx : (ByteArray.mk (c :: r).toArray)[0]'(Nat.succ_pos _) = c := rfl
  have HH := Lib.hid (And.intro h (And.intro hR (And.intro hk hf)))
  have q1 : (checkF v k f 0 == 0) = false := by simpa using hc
  have q2 : (checkF v k f 0 != 0) = true := by simp [hc]
  rw [HH.out.2.1]
  have hb16 : k < 16 ∧ f < 16 := by have := c.toNat_lt; omega
  obtain ⟨hb1, hb2⟩ := hb16
  clear h hc hR hk hf
  have HU := Lib.hid (And.intro u1 u2)
  clear u1 u2
  go_enter Tryz.func28, Tryz.ntmps28
  go_wp2_with fail
  refine (known_v v _).mono ?_
  rintro e0 w' ⟨rfl, rfl⟩
  rw [HH.out.1]
  go_wp2
  obtain ⟨u1, u2⟩ := HU.out
  go_region
  clear u1 u2
  go_wp2_with fail
  refine (check_any v k f 0 _).mono ?_
  rintro e1 w1 ⟨rfl, hb⟩
  have hB0 : Below w.heap.size w (w.alloc (.cells #[.int .i64 k, .int .i64 f, .int .i64 0] 93 (0, 0))).drew := below_drew (below_al (Below.refl _ _) _)
  have hB1 := hB0.trans (hb.mono hB0.size)
  have O1 := Obj?.below (Obj?.drew (Obj?.new w #[.int .i64 k, .int .i64 f, .int .i64 0] 93)) hb (by simp)
  clear hb
  have kc := O1.cells
  have kf := O1.froz
  have HO := Lib.hid O1
  clear O1
  go_wp2_with fail
  (try simp only [Exit.inBlock, Exit.then])
  refine bodyPost_ret (results_row_tmp2 rfl _ _ _ _ _ _ rfl (((HO.out.set 0 _).set 1 _).set 2 _) Tryz.underlying93 rfl infoHd) rfl ?_
  exact ⟨rfl, ((hB1.setCell (by simp) _).setCell (by simp) _).setCell (by simp) _⟩
set_option maxRecDepth 100000 in
set_option maxHeartbeats 1600000 in
theorem hdread_var (v : Int) (c : UInt8) (r : List UInt8) (hr : (r.length : Int) ≤ 4611686018427380000) (h : knownV v = true) (hc : checkF v ((c.toNat / 16 : Nat) : Int) ((c.toNat % 16 : Nat) : Int) 0 = 0) (hv : (vread r).2.2 ≠ 0) (w : World) : Calls Tryz.prog 28 #[.int .i64 v, .string ⟨(c :: r).toArray⟩] w fun e w' =>
    e = .returned (.tuple #[.agg #[.int .i64 (rdH v (c :: r)).1, .int .i64 (rdH v (c :: r)).2.1, .int .i64 (rdH v (c :: r)).2.2.1], .int .i64 (rdH v (c :: r)).2.2.2.1, .int .i64 (rdH v (c :: r)).2.2.2.2]) ∧ Below w.heap.size w w' := by
  have hR : rdH v (c :: r) = (0, 0, 0, 0, (vread r).2.2) := by unfold rdH; rw [if_neg (by simp [h])]; simp only; rw [if_neg (fun q => q hc), if_pos hv]
  obtain ⟨k, hk⟩ : ∃ k : Nat, k = c.toNat / 16 := ⟨_, rfl⟩
  obtain ⟨f, hf⟩ : ∃ f : Nat, f = c.toNat % 16 := ⟨_, rfl⟩
  rw [← hk, ← hf] at hc
  try rw [← hk, ← hf] at hR
  obtain ⟨u1, u2⟩ := u8_shift ⟨c.toNat, c.toNat_lt⟩
  simp only [← hk, ← hf] at u1 u2
  have hx : (ByteArray.mk (c :: r).toArray)[0]'(Nat.succ_pos _) = c := rfl
  have HH := Lib.hid (And.intro h (And.intro hR (And.intro hk (And.intro hf hc))))
  have q1 : ((vread r).2.2 == 0) = false := by simpa using hv
  have q2 : ((vread r).2.2 != 0) = true := by simp [hv]
  have hex : (ByteArray.mk (c :: r).toArray).extract 1 (r.length + 1) = ByteArray.mk r.toArray := by rw [ByteArray.extract_mk]; simp
  clear hv
  rw [HH.out.2.1]
  have hb16 : k < 16 ∧ f < 16 := by have := c.toNat_lt; omega
  obtain ⟨hb1, hb2⟩ := hb16
  clear h hc hR hk hf
  have HU := Lib.hid (And.intro u1 u2)
  clear u1 u2
  go_enter Tryz.func28, Tryz.ntmps28
  go_wp2_with fail
  refine (known_v v _).mono ?_
  rintro e0 w' ⟨rfl, rfl⟩
  rw [HH.out.1]
  go_wp2
  obtain ⟨u1, u2⟩ := HU.out
  go_region
  clear u1 u2
  go_wp2_with fail
  refine (check_any v k f 0 _).mono ?_
  rintro e1 w1 ⟨rfl, hb⟩
  have hB0 : Below w.heap.size w (w.alloc (.cells #[.int .i64 k, .int .i64 f, .int .i64 0] 93 (0, 0))).drew := below_drew (below_al (Below.refl _ _) _)
  have hB1 := hB0.trans (hb.mono hB0.size)
  have O1 := Obj?.below (Obj?.drew (Obj?.new w #[.int .i64 k, .int .i64 f, .int .i64 0] 93)) hb (by simp)
  clear hb
  rw [HH.out.2.2.2.2]
  have HO := Lib.hid O1
  clear O1
  go_wp2_with fail
  refine (vread_any r (by omega) _).mono ?_
  rintro e2 w2 ⟨rfl, hb⟩
  have hB2 := hB1.trans (hb.mono hB1.size)
  have O2 := HO.out.below hb HO.out.lt
  have kc := O2.cells
  have kf := O2.froz
  have HO2 := Lib.hid O2
  clear O2 hb
  go_wp2_with fail
  (try simp only [Exit.inBlock, Exit.then])
  refine bodyPost_ret (results_row_tmp2 rfl _ _ _ _ _ _ rfl ((((HO2.out.set 2 _).set 0 _).set 1 _).set 2 _) Tryz.underlying93 rfl infoHd) rfl ?_
  exact ⟨rfl, (((hB2.setCell (by simp) _).setCell (by simp) _).setCell (by simp) _).setCell (by simp) _⟩
set_option maxRecDepth 100000 in
set_option maxHeartbeats 1600000 in
theorem hdread_ok (v : Int) (c : UInt8) (r : List UInt8) (hr : (r.length : Int) ≤ 4611686018427380000) (h : knownV v = true) (hc : checkF v ((c.toNat / 16 : Nat) : Int) ((c.toNat % 16 : Nat) : Int) 0 = 0) (hv : (vread r).2.2 = 0) (w : World) : Calls Tryz.prog 28 #[.int .i64 v, .string ⟨(c :: r).toArray⟩] w fun e w' =>
    e = .returned (.tuple #[.agg #[.int .i64 (rdH v (c :: r)).1, .int .i64 (rdH v (c :: r)).2.1, .int .i64 (rdH v (c :: r)).2.2.1], .int .i64 (rdH v (c :: r)).2.2.2.1, .int .i64 (rdH v (c :: r)).2.2.2.2]) ∧ Below w.heap.size w w' := by
  have hR : rdH v (c :: r) = (((c.toNat / 16 : Nat) : Int), ((c.toNat % 16 : Nat) : Int), (vread r).1, (vread r).2.1 + 1, 0) := by unfold rdH; rw [if_neg (by simp [h])]; simp only; rw [if_neg (fun q => q hc), if_neg (fun q => q hv)]
  obtain ⟨k, hk⟩ : ∃ k : Nat, k = c.toNat / 16 := ⟨_, rfl⟩
  obtain ⟨f, hf⟩ : ∃ f : Nat, f = c.toNat % 16 := ⟨_, rfl⟩
  rw [← hk, ← hf] at hc
  try rw [← hk, ← hf] at hR
  obtain ⟨u1, u2⟩ := u8_shift ⟨c.toNat, c.toNat_lt⟩
  simp only [← hk, ← hf] at u1 u2
  have hx : (ByteArray.mk (c :: r).toArray)[0]'(Nat.succ_pos _) = c := rfl
  have hvr := vread_range r
  have HH := Lib.hid (And.intro h (And.intro hR (And.intro hk (And.intro hf (And.intro hc hv)))))
  have hex : (ByteArray.mk (c :: r).toArray).extract 1 (r.length + 1) = ByteArray.mk r.toArray := by rw [ByteArray.extract_mk]; simp
  clear hv
  rw [HH.out.2.1]
  have hb16 : k < 16 ∧ f < 16 := by have := c.toNat_lt; omega
  obtain ⟨hb1, hb2⟩ := hb16
  clear h hc hR hk hf
  have HU := Lib.hid (And.intro u1 u2)
  clear u1 u2
  go_enter Tryz.func28, Tryz.ntmps28
  go_wp2_with fail
  refine (known_v v _).mono ?_
  rintro e0 w' ⟨rfl, rfl⟩
  rw [HH.out.1]
  go_wp2
  obtain ⟨u1, u2⟩ := HU.out
  go_region
  clear u1 u2
  go_wp2_with fail
  refine (check_any v k f 0 _).mono ?_
  rintro e1 w1 ⟨rfl, hb⟩
  have hB0 : Below w.heap.size w (w.alloc (.cells #[.int .i64 k, .int .i64 f, .int .i64 0] 93 (0, 0))).drew := below_drew (below_al (Below.refl _ _) _)
  have hB1 := hB0.trans (hb.mono hB0.size)
  have O1 := Obj?.below (Obj?.drew (Obj?.new w #[.int .i64 k, .int .i64 f, .int .i64 0] 93)) hb (by simp)
  clear hb
  rw [HH.out.2.2.2.2.1]
  have HO := Lib.hid O1
  clear O1
  go_wp2_with fail
  refine (vread_any r (by omega) _).mono ?_
  rintro e2 w2 ⟨rfl, hb⟩
  rw [HH.out.2.2.2.2.2]
  have hB2 := hB1.trans (hb.mono hB1.size)
  have O2 := HO.out.below hb HO.out.lt
  have kc := O2.cells
  have kf := O2.froz
  have HO2 := Lib.hid O2
  obtain ⟨hv1, hv2⟩ := hvr
  clear O2 hb
  go_wp2_with fail
  (try simp only [Exit.inBlock, Exit.then])
  refine bodyPost_ret (results_row_tmp2 rfl _ _ _ _ _ _ rfl ((((HO2.out.set 2 _).set 0 _).set 1 _).set 2 _) Tryz.underlying93 rfl infoHd) rfl ?_
  exact ⟨rfl, (((hB2.setCell (by simp) _).setCell (by simp) _).setCell (by simp) _).setCell (by simp) _⟩
set_option maxRecDepth 100000 in
/-- head.Read. -/
theorem hdread_any (v : Int) (t : List UInt8) (ht : (t.length : Int) ≤ 4611686018427380000) (w : World) : Calls Tryz.prog 28 #[.int .i64 v, .string ⟨t.toArray⟩] w fun e w' =>
    e = .returned (.tuple #[.agg #[.int .i64 (rdH v t).1, .int .i64 (rdH v t).2.1, .int .i64 (rdH v t).2.2.1], .int .i64 (rdH v t).2.2.2.1, .int .i64 (rdH v t).2.2.2.2]) ∧ Below w.heap.size w w' := by
  cases h : knownV v with
  | false => exact hdread_early v t (.inl h) w
  | true =>
    cases t with
    | nil => exact hdread_early v [] (.inr ⟨h, rfl⟩) w
    | cons c r =>
      have hr : (r.length : Int) ≤ 4611686018427380000 := by rw [List.length_cons] at ht; omega
      by_cases hc : checkF v ((c.toNat / 16 : Nat) : Int) ((c.toNat % 16 : Nat) : Int) 0 = 0
      · by_cases hv : (vread r).2.2 = 0
        · exact hdread_ok v c r hr h hc hv w
        · exact hdread_var v c r hr h hc hv w
      · exact hdread_kind v c r hr h hc w
end Go.Proofs.YtlfgkdiehmoohaaGreatDoor
