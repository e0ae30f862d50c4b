/- header: the bytes of a header of MQTT. -/
import Derived.Test.YtlfgkdiehmoohaaGreatDoorHdE
import Derived.Test.YtlfgkdiehmoohaaGreatDoorTrD
namespace Go.Proofs.YtlfgkdiehmoohaaGreatDoor
open Go Go.RowKit
set_option linter.unusedVariables false
set_option linter.unusedSimpArgs false
theorem conv_newP (xs : List Int) (g : Nat) (w : World) (hg : g = w.heap.size) : ∀ dst, Tryz.prog.underlying dst = some .string →
    (convert 65 dst (.slice (some ⟨g, 0, none⟩) xs.length xs.length)).run Tryz.prog (w.alloc (.cells (xs.map (Value.int .u8)).toArray 5 (0, 0))) = .ok (.string (strOfNums xs)) (w.alloc (.cells (xs.map (Value.int .u8)).toArray 5 (0, 0))) := by
  subst hg
  refine run_convert_bytes_arg (P := Tryz.prog) _ 65 5 Tryz.underlying65 Tryz.underlying5 w.heap.size 0 xs.length xs.length xs rfl ?_
  intro i hi
  rw [(Obj?.new w _ 5).cells]
  simp [List.getElem?_eq_getElem hi, List.getD]
theorem conv_oneP (a : Int) (w : World) :
    (convert 65 9 (.slice (some ⟨w.heap.size, 0, none⟩) 1 1)).run Tryz.prog (w.alloc (.cells #[.int .u8 a] 5 (0, 0))) = .ok (.string ⟨#[UInt8.ofNat a.toNat]⟩) (w.alloc (.cells #[.int .u8 a] 5 (0, 0))) :=
  conv_newP [a] w.heap.size w rfl 9 Tryz.underlying9
theorem vbytes_step {m : Int} (h : 128 ≤ m) (h2 : m ≤ 268435455) : vbytes m = UInt8.ofNat (m % 128 + 128).toNat :: vbytes (m / 128) := by
  unfold vbytes
  rw [vbK_step h h2]
  rfl
theorem vbytes_small {m : Int} (h0 : 0 ≤ m) (h : m < 128) : vbytes m = [UInt8.ofNat m.toNat] := by
  unfold vbytes
  rw [vbK_small h0 h]
  rfl
set_option maxRecDepth 100000 in
set_option maxHeartbeats 3200000 in
theorem header_any (k l : Int) (hk : 1 ≤ k) (hk2 : k ≤ 14) (hl : 1 ≤ l) (hl2 : l ≤ 268435455) (w : World) : Calls Tryz.prog 9 #[.int .i64 k, .int .i64 l] w fun e w' => e = .returned (.string ⟨(hdA k (fixedF k) l).toArray⟩) ∧ Below w.heap.size w w' := by
  have hcase : k = 6 ∨ k = 8 ∨ k = 10 ∨ (k ≠ 6 ∧ k ≠ 8 ∧ k ≠ 10) := by omega
  have HA := Lib.hid (show hdA k (fixedF k) l = [UInt8.ofNat (16 * k + fixedF k).toNat] ++ vbytes l by
    unfold hdA
    rw [putL1 _ (by unfold fixedF; split <;> omega) (by unfold fixedF; split <;> omega)])
  have hap : ∀ (a : List UInt8) (b : UInt8), (ByteArray.mk a.toArray) ++ ByteArray.mk #[b] = ByteArray.mk (a ++ [b]).toArray := fun a b => ByteArray.mk_append_mk a [b]
  have hall : ∀ (f : Int), fixedF k = f → (f = 0 ∧ k ≠ 6 ∧ k ≠ 8 ∧ k ≠ 10) ∨ (f = 2 ∧ (k = 6 ∨ k = 8 ∨ k = 10)) := by intro f hf; unfold fixedF at hf; split at hf <;> omega
  clear hall
  rcases hcase with rfl | rfl | rfl | ⟨h6, h8, h10⟩
  · rw [show fixedF 6 = 2 by decide] at HA ⊢
    have hcv := conv_oneP 98 w
    go_enter Tryz.func9, Tryz.ntmps9
    go_wp2
    go_loopw [1, 6] (fun x o wr => ∃ (m : Int) (pre : List UInt8), 1 ≤ m ∧ m ≤ 268435455 ∧ x = .int .i64 m ∧ o = .string ⟨pre.toArray⟩ ∧ Hid (pre ++ vbytes m = hdA 6 2 l) ∧ pre.length + vsz m ≤ 5 ∧ Below w.heap.size w wr) (fun x _ _ => (intOf x).toNat)
    case atStart => exact ⟨l, [UInt8.ofNat (98 : Int).toNat], hl, hl2, rfl, rfl, Lib.hid HA.out.symm, by have := (vsz_pos (show 0 ≤ l by omega) hl2).2; simp; omega, below_al (Below.refl _ _) _⟩
    case round =>
      obtain ⟨m, pre, h1, h2, rfl, rfl, HF, hlen, hB⟩ := hrel
      have h0 : 0 ≤ m := by omega
      have hp := (vsz_pos h0 h2).1
      have hpl : pre.length ≤ 5 := by omega
      by_cases hm : 127 < m
      · have hst := Lib.hid (vbytes_step (show 128 ≤ m by omega) h2)
        have hsz := (vsz_step (show 128 ≤ m by omega) h2).1
        have HSz := Lib.hid (And.intro hsz (And.intro hlen (vsz_step (show 128 ≤ m by omega) h2).2.2))
        have hcv := conv_oneP (128 + m % 128) wr
        have hap2 := hap pre (UInt8.ofNat (128 + m % 128).toNat)
        clear hap hlen hsz hp
        go_wp2
        go_roundw
        case rel => exact ⟨m / 128, pre ++ [UInt8.ofNat (128 + m % 128).toNat], HSz.out.2.2.1, HSz.out.2.2.2, rfl, rfl, Lib.hid (by rw [← HF.out, hst.out, List.append_assoc, show (128 + m % 128 : Int) = m % 128 + 128 by omega]; rfl), by have := HSz.out.1; have := HSz.out.2.1; simp; omega, below_al hB _⟩
        case measure => simp [intOf]; omega
      · have HE := Lib.hid (show pre ++ [UInt8.ofNat m.toNat] = hdA 6 2 l by rw [← HF.out, vbytes_small h0 (by omega)])
        have hcv := conv_oneP m wr
        have hap2 := hap pre (UInt8.ofNat m.toNat)
        clear hap hlen hp HF
        go_wp2
        go_ret
        exact ⟨by rw [HE.out]; rfl, below_al hB _⟩
  · rw [show fixedF 8 = 2 by decide] at HA ⊢
    have hcv := conv_oneP 130 w
    go_enter Tryz.func9, Tryz.ntmps9
    go_wp2
    go_loopw [1, 6] (fun x o wr => ∃ (m : Int) (pre : List UInt8), 1 ≤ m ∧ m ≤ 268435455 ∧ x = .int .i64 m ∧ o = .string ⟨pre.toArray⟩ ∧ Hid (pre ++ vbytes m = hdA 8 2 l) ∧ pre.length + vsz m ≤ 5 ∧ Below w.heap.size w wr) (fun x _ _ => (intOf x).toNat)
    case atStart => exact ⟨l, [UInt8.ofNat (130 : Int).toNat], hl, hl2, rfl, rfl, Lib.hid HA.out.symm, by have := (vsz_pos (show 0 ≤ l by omega) hl2).2; simp; omega, below_al (Below.refl _ _) _⟩
    case round =>
      obtain ⟨m, pre, h1, h2, rfl, rfl, HF, hlen, hB⟩ := hrel
      have h0 : 0 ≤ m := by omega
      have hp := (vsz_pos h0 h2).1
      have hpl : pre.length ≤ 5 := by omega
      by_cases hm : 127 < m
      · have hst := Lib.hid (vbytes_step (show 128 ≤ m by omega) h2)
        have hsz := (vsz_step (show 128 ≤ m by omega) h2).1
        have HSz := Lib.hid (And.intro hsz (And.intro hlen (vsz_step (show 128 ≤ m by omega) h2).2.2))
        have hcv := conv_oneP (128 + m % 128) wr
        have hap2 := hap pre (UInt8.ofNat (128 + m % 128).toNat)
        clear hap hlen hsz hp
        go_wp2
        go_roundw
        case rel => exact ⟨m / 128, pre ++ [UInt8.ofNat (128 + m % 128).toNat], HSz.out.2.2.1, HSz.out.2.2.2, rfl, rfl, Lib.hid (by rw [← HF.out, hst.out, List.append_assoc, show (128 + m % 128 : Int) = m % 128 + 128 by omega]; rfl), by have := HSz.out.1; have := HSz.out.2.1; simp; omega, below_al hB _⟩
        case measure => simp [intOf]; omega
      · have HE := Lib.hid (show pre ++ [UInt8.ofNat m.toNat] = hdA 8 2 l by rw [← HF.out, vbytes_small h0 (by omega)])
        have hcv := conv_oneP m wr
        have hap2 := hap pre (UInt8.ofNat m.toNat)
        clear hap hlen hp HF
        go_wp2
        go_ret
        exact ⟨by rw [HE.out]; rfl, below_al hB _⟩
  · rw [show fixedF 10 = 2 by decide] at HA ⊢
    have hcv := conv_oneP 162 w
    go_enter Tryz.func9, Tryz.ntmps9
    go_wp2
    go_loopw [1, 6] (fun x o wr => ∃ (m : Int) (pre : List UInt8), 1 ≤ m ∧ m ≤ 268435455 ∧ x = .int .i64 m ∧ o = .string ⟨pre.toArray⟩ ∧ Hid (pre ++ vbytes m = hdA 10 2 l) ∧ pre.length + vsz m ≤ 5 ∧ Below w.heap.size w wr) (fun x _ _ => (intOf x).toNat)
    case atStart => exact ⟨l, [UInt8.ofNat (162 : Int).toNat], hl, hl2, rfl, rfl, Lib.hid HA.out.symm, by have := (vsz_pos (show 0 ≤ l by omega) hl2).2; simp; omega, below_al (Below.refl _ _) _⟩
    case round =>
      obtain ⟨m, pre, h1, h2, rfl, rfl, HF, hlen, hB⟩ := hrel
      have h0 : 0 ≤ m := by omega
      have hp := (vsz_pos h0 h2).1
      have hpl : pre.length ≤ 5 := by omega
      by_cases hm : 127 < m
      · have hst := Lib.hid (vbytes_step (show 128 ≤ m by omega) h2)
        have hsz := (vsz_step (show 128 ≤ m by omega) h2).1
        have HSz := Lib.hid (And.intro hsz (And.intro hlen (vsz_step (show 128 ≤ m by omega) h2).2.2))
        have hcv := conv_oneP (128 + m % 128) wr
        have hap2 := hap pre (UInt8.ofNat (128 + m % 128).toNat)
        clear hap hlen hsz hp
        go_wp2
        go_roundw
        case rel => exact ⟨m / 128, pre ++ [UInt8.ofNat (128 + m % 128).toNat], HSz.out.2.2.1, HSz.out.2.2.2, rfl, rfl, Lib.hid (by rw [← HF.out, hst.out, List.append_assoc, show (128 + m % 128 : Int) = m % 128 + 128 by omega]; rfl), by have := HSz.out.1; have := HSz.out.2.1; simp; omega, below_al hB _⟩
        case measure => simp [intOf]; omega
      · have HE := Lib.hid (show pre ++ [UInt8.ofNat m.toNat] = hdA 10 2 l by rw [← HF.out, vbytes_small h0 (by omega)])
        have hcv := conv_oneP m wr
        have hap2 := hap pre (UInt8.ofNat m.toNat)
        clear hap hlen hp HF
        go_wp2
        go_ret
        exact ⟨by rw [HE.out]; rfl, below_al hB _⟩
  · have hf : fixedF k = 0 := by unfold fixedF; rw [if_neg (by omega)]
    rw [hf] at HA ⊢
    have hcv := conv_oneP (16 * k) w
    have q6 : (k == 6) = false := by simpa using h6
    have q8 : (k == 8) = false := by simpa using h8
    have q10 : (k == 10) = false := by simpa using h10
    go_enter Tryz.func9, Tryz.ntmps9
    go_wp2
    go_loopw [1, 6] (fun x o wr => ∃ (m : Int) (pre : List UInt8), 1 ≤ m ∧ m ≤ 268435455 ∧ x = .int .i64 m ∧ o = .string ⟨pre.toArray⟩ ∧ Hid (pre ++ vbytes m = hdA k 0 l) ∧ pre.length + vsz m ≤ 5 ∧ Below w.heap.size w wr) (fun x _ _ => (intOf x).toNat)
    case atStart => exact ⟨l, [UInt8.ofNat (16 * k).toNat], hl, hl2, rfl, rfl, Lib.hid (by have h := HA.out; rw [Int.add_zero] at h; exact h.symm), by have := (vsz_pos (show 0 ≤ l by omega) hl2).2; simp; omega, below_al (Below.refl _ _) _⟩
    case round =>
      obtain ⟨m, pre, h1, h2, rfl, rfl, HF, hlen, hB⟩ := hrel
      have h0 : 0 ≤ m := by omega
      have hp := (vsz_pos h0 h2).1
      have hpl : pre.length ≤ 5 := by omega
      by_cases hm : 127 < m
      · have hst := Lib.hid (vbytes_step (show 128 ≤ m by omega) h2)
        have hsz := (vsz_step (show 128 ≤ m by omega) h2).1
        have HSz := Lib.hid (And.intro hsz (And.intro hlen (vsz_step (show 128 ≤ m by omega) h2).2.2))
        have hcv := conv_oneP (128 + m % 128) wr
        have hap2 := hap pre (UInt8.ofNat (128 + m % 128).toNat)
        clear hap hlen hsz hp
        go_wp2
        go_roundw
        case rel => exact ⟨m / 128, pre ++ [UInt8.ofNat (128 + m % 128).toNat], HSz.out.2.2.1, HSz.out.2.2.2, rfl, rfl, Lib.hid (by rw [← HF.out, hst.out, List.append_assoc, show (128 + m % 128 : Int) = m % 128 + 128 by omega]; rfl), by have := HSz.out.1; have := HSz.out.2.1; simp; omega, below_al hB _⟩
        case measure => simp [intOf]; omega
      · have HE := Lib.hid (show pre ++ [UInt8.ofNat m.toNat] = hdA k 0 l by rw [← HF.out, vbytes_small h0 (by omega)])
        have hcv := conv_oneP m wr
        have hap2 := hap pre (UInt8.ofNat m.toNat)
        clear hap hlen hp HF
        go_wp2
        go_ret
        exact ⟨by rw [HE.out]; rfl, below_al hB _⟩
end Go.Proofs.YtlfgkdiehmoohaaGreatDoor
