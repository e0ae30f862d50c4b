/- The reference of chapter 21: Bytes. -/
import Derived.Test.YtbacnaplpfmpnaaDoorSnP
namespace Go.Proofs.YtbacnaplpfmpnaaDoor
open Go.RowKit
set_option linter.unusedVariables false

theorem putL_one (n : Int) (h0 : 0 ≤ n) (h1 : n < 256) : putL n 1 = [UInt8.ofNat n.toNat] := by
  unfold putL
  rw [show (min (1 : Int) 16).toNat = 0 + 1 by decide, putB_succ, byteAt_eq n 0 (by decide), show n / 256 ^ 0 % 256 = n by simp; omega]
  rfl
theorem putL_two (n : Int) : putL n 2 = putB n 2 := rfl
theorem conv_at {w' : World} {g : Nat} {a : Int} (O : Obj? w' g #[.int .u8 a] 5) : ∀ dst, Tryd.prog.underlying dst = some .string →
    (convert 62 dst (.slice (some ⟨g, 0, none⟩) 1 1)).run Tryd.prog w' = .ok (.string ⟨#[UInt8.ofNat a.toNat]⟩) w' := by
  refine run_convert_bytes_arg (P := Tryd.prog) _ 62 5 Tryd.underlying62 Tryd.underlying5 g 0 1 1 [a] rfl ?_
  intro i hi
  obtain rfl : i = 0 := by omega
  rw [O.cells]; rfl
theorem conv_keep {W w' : World} {g : Nat} {a : Int} (O0 : Obj? W g #[.int .u8 a] 5) (hb : Below W.heap.size W w') : ∀ dst, Tryd.prog.underlying dst = some .string →
    (convert 62 dst (.slice (some ⟨g, 0, none⟩) 1 1)).run Tryd.prog w' = .ok (.string ⟨#[UInt8.ofNat a.toNat]⟩) w' := by
  have O := O0.below hb O0.lt
  refine run_convert_bytes_arg (P := Tryd.prog) _ 62 5 Tryd.underlying62 Tryd.underlying5 g 0 1 1 [a] rfl ?_
  intro i hi
  obtain rfl : i = 0 := by omega
  rw [O.cells]; rfl
theorem Obj?.drew {w : World} {b : Nat} {cs : Array Value} {t : TypeId} (h : Obj? w b cs t) : Obj? w.drew b cs t := h
theorem below_drew {w W : World} (h : Below w.heap.size w W) : Below w.heap.size w W.drew := h.trans ((below_grown (quiet_grown ⟨1, rfl⟩ none)).mono h.size)
theorem below_step {w W w' : World} (h : Below w.heap.size w W) (hb : Below W.heap.size W w') : Below w.heap.size w w' := h.trans (hb.mono h.size)
theorem rbig_two (n : Int) (h0 : 0 ≤ n) (h1 : n < 18446744073709551616) (w : World) :
    Calls Tryd.prog 45 #[.int .u64 n, .int .i64 2] w fun e w' => e = .returned (.string ⟨(putB n 2).toArray⟩) ∧ Below w.heap.size w w' := rbig_any n h0 h1 2 (by decide) w
set_option maxRecDepth 100000 in
set_option maxHeartbeats 1600000 in
theorem rsnbytes_any (kind rest : Int) (hr : rest ≤ 9223372036854775807) (w : World) : Calls Tryd.prog 18 #[.int .i64 kind, .int .i64 rest] w fun e w' => e = .returned (.tuple #[.string ⟨(snB kind rest).1.toArray⟩, .int .i64 (snB kind rest).2]) ∧ Below w.heap.size w w' := by
  cases hk : knownK kind with
  | false =>
    have e : snB kind rest = ([], 8) := by unfold snB; rw [if_pos hk]
    rw [e]
    have HK := Lib.hid hk
    clear hk e
    go_enter Tryd.func18, Tryd.ntmps18
    go_wp2_with fail
    refine (rknown_any kind _).mono ?_
    rintro r w' ⟨rfl, rfl⟩
    rw [HK.out]
    go_wp2
    go_ret2
    exact ⟨rfl, Below.refl _ _⟩
  | true =>
  have hkr : 0 ≤ kind ∧ kind ≤ 254 := by
    unfold knownK at hk
    split at hk
    · cases hk
    split at hk
    · omega
    · simp at hk; omega
  obtain ⟨hk0, hk1⟩ := hkr
  have HK := Lib.hid hk
  by_cases h1 : rest < 0
  · have e : snB kind rest = ([], 2) := by unfold snB; rw [if_neg (by simp [hk]), if_pos h1]
    rw [e]
    clear hk e
    go_enter Tryd.func18, Tryd.ntmps18
    go_wp2_with fail
    refine (rknown_any kind _).mono ?_
    rintro r w' ⟨rfl, rfl⟩
    rw [HK.out]
    go_wp2
    go_ret2
    exact ⟨rfl, Below.refl _ _⟩
  by_cases h2 : 65531 < rest
  · have e : snB kind rest = ([], 4) := by unfold snB; rw [if_neg (by simp [hk]), if_neg h1, if_pos h2]
    rw [e]
    clear hk e
    go_enter Tryd.func18, Tryd.ntmps18
    go_wp2_with fail
    refine (rknown_any kind _).mono ?_
    rintro r w' ⟨rfl, rfl⟩
    rw [HK.out]
    go_wp2
    go_ret2
    exact ⟨rfl, Below.refl _ _⟩
  have e : snB kind rest = (snS kind rest, 0) := by unfold snB; rw [if_neg (by simp [hk]), if_neg h1, if_neg h2]
  rw [e]
  by_cases h3 : rest ≤ 253
  · have e2 : snS kind rest = [UInt8.ofNat (rest + 2).toNat, UInt8.ofNat kind.toNat] := by unfold snS; rw [if_pos h3, putL_one _ (by omega) (by omega), putL_one _ hk0 (by omega)]; rfl
    have HE := Lib.hid e2
    have hcv := conv_two (rest + 2) kind w
    clear hk e e2
    go_enter Tryd.func18, Tryd.ntmps18
    go_wp2_with fail
    refine (rknown_any kind _).mono ?_
    rintro r w' ⟨rfl, rfl⟩
    rw [HK.out]
    go_wp2
    go_ret2
    exact ⟨by rw [HE.out]; rfl, below_al (Below.refl _ _) _⟩
  · obtain ⟨X, hX⟩ : ∃ X, X = putB (rest + 4) 2 := ⟨_, rfl⟩
    obtain ⟨Y, hY⟩ : ∃ Y, Y = [1] ++ X := ⟨_, rfl⟩
    obtain ⟨Z, hZ⟩ : ∃ Z, Z = Y ++ [UInt8.ofNat kind.toNat] := ⟨_, rfl⟩
    have e2 : snS kind rest = Z := by unfold snS; rw [if_neg h3, putL_one 1 (by omega) (by omega), putL_one _ hk0 (by omega), hZ, hY, hX]; rfl
    have hap1 : ByteArray.mk #[1] ++ ByteArray.mk X.toArray = ByteArray.mk Y.toArray := by rw [hY]; exact ByteArray.mk_append_mk [1] _
    have hap2 : ByteArray.mk Y.toArray ++ ByteArray.mk #[UInt8.ofNat kind.toNat] = ByteArray.mk Z.toArray := by rw [hZ]; exact ByteArray.mk_append_mk _ [UInt8.ofNat kind.toNat]
    have hl1 : X.length ≤ 2 := by rw [hX, length_putB]; exact Nat.le_refl _
    have hl2 : Y.length ≤ 3 := by rw [hY]; simp; omega
    have hs1 : ¬ 9223372036854775807 < 1 + X.length := by omega
    have hs2 : ¬ 9223372036854775807 < Y.length + 1 := by omega
    have e4 : IntKind.i64.wrap (rest + 4) = rest + 4 := i64_ok _ (by omega) (by omega)
    have u2 : IntKind.u64.wrap (rest + 4) = rest + 4 := wraps_u64 _ (by omega) (by omega)
    have hbig : ∀ w, Calls Tryd.prog 45 #[.int .u64 (rest + 4), .int .i64 2] w fun e w' => e = .returned (.string ⟨X.toArray⟩) ∧ Below w.heap.size w w' := by rw [hX]; exact rbig_two _ (by omega) (by omega)
    rw [e2]
    have HE := Lib.hid (And.intro hap1 hap2)
    have HBig := Lib.hid hbig
    have HX := Lib.hid (And.intro hX (And.intro hY (And.intro hZ e2)))
    have u3 : IntKind.u8.wrap kind = kind := by rw [IntKind.wrap_u8]; omega
    have HW := Lib.hid (And.intro e4 (And.intro u2 u3))
    have hcv := conv_one kind
    have Hcv := Lib.hid hcv
    clear hk e e2 hap1 hap2 hX hY hZ hbig e4 u2 u3 hcv
    go_enter Tryd.func18, Tryd.ntmps18
    go_wp2_with fail
    refine (rknown_any kind _).mono ?_
    rintro r w' ⟨rfl, rfl⟩
    rw [HK.out]
    go_wp2_with fail
    obtain ⟨e4, u2, u3⟩ := HW.out
    have hS : Below w.heap.size w w.drew := below_grown (quiet_grown ⟨1, rfl⟩ none)
    obtain ⟨hap1, hap2⟩ := HE.out
    have hcv := Hcv.out
    have hcv3 := conv_at (w' := (w.alloc (.cells #[.int .u8 kind] 5 (0, 0))).drew) (g := w.heap.size) (a := kind) (Obj?.new w _ _)
    go_region_with ((go_at_call 45; ((with_reducible refine (HBig.out _).mono ?_); (rintro e w' ⟨rfl, hb⟩; (try have hcv2 := conv_keep (g := w.heap.size) (a := kind) (Obj?.drew (Obj?.new w _ _)) hb)))))
    all_goals clear hcv hcv3 hap1 hap2 e4 u2 u3
    all_goals go_wp2
    all_goals go_ret2
    all_goals exact ⟨rfl, by first | exact below_al (below_step hS hb) _ | exact below_step (below_drew (below_al (Below.refl _ _) _)) hb⟩
end Go.Proofs.YtbacnaplpfmpnaaDoor
