/- topic: strings.IndexAny and ContainsAny at "+#", whatever the text. -/
import Derived.Test.YtbacnaplpfmpnaaDoorTopY
import Derived.Test.YtbacnaplpfmpnaaDoorTopF
import Derived.Lib.OthersKept
namespace Go.Proofs.YtbacnaplpfmpnaaDoor
open Go.RowKit
set_option linter.unusedVariables false

theorem next_pt_at {P : Program} (w : World) (k : Nat) (t : List UInt8) (pos : Nat) (hk : w.heap[k]? = some (.stringIter ⟨t.toArray⟩ pos)) (hlt : pos < t.length) (m y : Nat) (hm : (if (pt (t.drop pos)).2 = 0 then (65533, 1) else pt (t.drop pos)) = (m, y)) (ty : TypeId) :
    (Instr.next (.pointer (some ⟨k, 0, none⟩)) true ty).run P w = .ok (.tuple #[.bool true, .int .i64 pos, .int .i32 (m : Int)]) (w.iterAt k ⟨t.toArray⟩ (pos + y)) := by
  have h := Lib.run_next_any_at (P := P) w k ⟨t.toArray⟩ pos ty hk hlt
  rw [decode_pt t pos hlt, hm] at h
  exact h
set_option maxRecDepth 100000 in
set_option maxHeartbeats 800000 in
theorem indexRune_fffd (w : World) :
    Calls Tryd.prog 100 #[.string ⟨#[43, 35]⟩, .int .i32 65533] w fun e w' => e = .returned (.int .i64 (-1)) ∧ Below w.heap.size w w' := by
  have n0 := fun ty => run_next_ascii (P := Tryd.prog) w ⟨#[43, 35]⟩ 0 ty (by decide) (by decide)
  have n1 := fun ty => run_next_ascii (P := Tryd.prog) w ⟨#[43, 35]⟩ 1 ty (by decide) (by decide)
  have n2 := fun ty => run_next_end (P := Tryd.prog) w ⟨#[43, 35]⟩ 2 ty (by decide)
  have hB : ∀ p, Below w.heap.size w (w.iter ⟨#[43, 35]⟩ p) := fun p => iter_below _ _ _
  go_enter Tryd.func100, Tryd.ntmps100
  go_wp2
  go_loopw [] (fun wr => ∃ pos, pos ≤ 2 ∧ wr = w.iter ⟨#[43, 35]⟩ pos) (fun wr => 2 - wr.iterPos w.heap.size)
  case atStart => exact ⟨0, by omega, rfl⟩
  case round =>
    obtain ⟨pos, hp, rfl⟩ := hrel
    rcases (by omega : pos = 0 ∨ pos = 1 ∨ pos = 2) with rfl | rfl | rfl
    · go_wp2
      go_roundw
      case rel => exact ⟨1, by omega, rfl⟩
      case measure => simp
    · go_wp2
      go_roundw
      case rel => exact ⟨2, by omega, rfl⟩
      case measure => simp
    · go_wp2
      go_ret
      exact ⟨rfl, hB _⟩
theorem anyRune (m : Nat) (h : m ≤ 1114111) (h2 : m < 55296 ∨ 57343 < m) (w : World) :
    Calls Tryd.prog 100 #[.string ⟨#[43, 35]⟩, .int .i32 (m : Int)] w fun e w' => e = .returned (.int .i64 (pmI m)) ∧ Below w.heap.size w w' := by
  by_cases h1 : m < 128
  · exact indexRune_ascii m (by omega) (by omega) w
  · have e : pmI m = -1 := pmI_else (by omega)
    rw [e]
    by_cases h3 : m = 65533
    · subst h3
      exact indexRune_fffd w
    · exact indexRune_high m (by omega) (by omega) (by unfold Lib.validRune; simp; omega) w

def AnyAt (t : List UInt8) (w : World) (e : Ending) (w' : World) : Prop := ∃ r : Int, e = .returned (.int .i64 r) ∧ decide (0 ≤ r) = hasWild t ∧ Below w.heap.size w w'
theorem wild_mono {t : List UInt8} {n : Nat} (h : hasWild (t.take n) = true) : hasWild t = true := by
  unfold hasWild at h ⊢
  rw [List.any_eq_true] at h ⊢
  obtain ⟨x, hx, hp⟩ := h
  exact ⟨x, List.mem_of_mem_take hx, hp⟩
theorem pmI_ge (m : Nat) (h : (m == 43 || m == 35) = true) : 0 ≤ pmI m := by
  unfold pmI
  simp at h
  rcases h with rfl | rfl <;> simp
theorem pmI_lt (m : Nat) (h : (m == 43 || m == 35) = false) : pmI m < 0 := by
  unfold pmI
  simp at h
  rw [if_neg (by omega), if_neg (by omega)]; decide

set_option maxRecDepth 100000 in
set_option maxHeartbeats 1600000 in
theorem indexAny_short (t : List UInt8) (h8 : t.length ≤ 8) (w : World) :
    Calls Tryd.prog 91 #[.string ⟨t.toArray⟩, .string ⟨#[43, 35]⟩] w (AnyAt t w) := by
  have h8z : decide ((8 : Int) < (t.length : Int)) = false := decide_eq_false (by omega)
  go_enter Tryd.func91, Tryd.ntmps91
  go_wp2_with fail
  refine (Go.Proofs.Tryd.strings_shouldUseASCIISet _ _).mono ?_
  rintro e w' ⟨rfl, hw⟩
  replace hw := hw.symm
  subst hw
  rw [h8z]
  go_wp2
  go_loopw [] (fun wr => ∃ pos, pos ≤ t.length ∧ wr.heap[w.heap.size]? = some (.stringIter ⟨t.toArray⟩ pos) ∧ Below w.heap.size w wr ∧ hasWild (t.take pos) = false) (fun wr => t.length - wr.iterPos w.heap.size)
  case atStart => exact ⟨0, Nat.zero_le _, by simp [World.iter_heap], iter_below _ _ _, rfl⟩
  case round =>
    obtain ⟨pos, hp, hk, hB, hno⟩ := hrel
    have HK := Lib.hid hk
    have HN := Lib.hid hno
    have hit : wr.iterPos w.heap.size = pos := by simp [World.iterPos, hk]
    have HI := Lib.hid hit
    clear hno hit
    by_cases hlt : pos < t.length
    · obtain ⟨m, y, hmy⟩ : ∃ m y, (if (pt (t.drop pos)).2 = 0 then (65533, 1) else pt (t.drop pos)) = (m, y) := ⟨_, _, rfl⟩
      have R := range_wild (t.drop pos) (by simp; omega) m y hmy
      have hnx := next_pt_at (P := Tryd.prog) wr w.heap.size t pos hk hlt m y hmy
      have HM := Lib.hid hmy
      obtain ⟨r1, r2, r3, r4, r5, r6⟩ := R
      have hle : pos + y ≤ t.length := by simp at r2; omega
      have hstep := wild_take_step t pos y
      rw [HN.out, Bool.false_or, r3] at hstep
      have HS := Lib.hid hstep
      clear hmy r3 r4 hstep hk
      have hk2 : (wr.iterAt w.heap.size ⟨t.toArray⟩ (pos + y)).heap[w.heap.size]? = some (.stringIter ⟨t.toArray⟩ (pos + y)) := Lib.iterAt_heap _ _ _ _ _ HK.out
      have hB2 := Lib.below_iterAt hB (Nat.le_refl _) ⟨t.toArray⟩ (pos + y)
      have hsz : w.heap.size < (wr.iterAt w.heap.size ⟨t.toArray⟩ (pos + y)).heap.size := (Array.getElem?_eq_some_iff.1 hk2).1
      obtain ⟨w2, hw2⟩ : ∃ w2, w2 = wr.iterAt w.heap.size ⟨t.toArray⟩ (pos + y) := ⟨_, rfl⟩
      rw [← hw2] at hnx hk2 hB2 hsz
      have HK2 := Lib.hid hk2
      clear hw2 hk2
      cases hc : (m == 43 || m == 35) with
      | true =>
        have hx := pmI_ge m hc
        have HC := Lib.hid hc
        clear hc
        obtain ⟨x, hxe⟩ : ∃ x, x = pmI (m : Int) := ⟨_, rfl⟩
        rw [← hxe] at hx
        have HX := Lib.hid hxe
        clear hxe
        go_wp2_with fail
        refine (anyRune m r5 r6 _).mono ?_
        rintro e w3 ⟨rfl, hb⟩
        rw [← HX.out]
        go_wp2
        go_ret
        exact ⟨(pos : Int), rfl, by rw [wild_mono (HS.out.trans HC.out)]; simp, hB2.trans (hb.mono hB2.size)⟩
      | false =>
        have hx := pmI_lt m hc
        have HC := Lib.hid hc
        clear hc
        obtain ⟨x, hxe⟩ : ∃ x, x = pmI (m : Int) := ⟨_, rfl⟩
        rw [← hxe] at hx
        have HX := Lib.hid hxe
        clear hxe
        go_wp2_with fail
        refine (anyRune m r5 r6 _).mono ?_
        rintro e w3 ⟨rfl, hb⟩
        rw [← HX.out]
        have hk3 : w3.heap[w.heap.size]? = some (.stringIter ⟨t.toArray⟩ (pos + y)) := by rw [hb.block _ hsz]; exact HK2.out
        have HK3 := Lib.hid hk3
        clear hk3 hnx
        go_wp2
        go_roundw
        case rel => exact ⟨pos + y, hle, HK3.out, hB2.trans (hb.mono hB2.size), HS.out.trans HC.out⟩
        case measure =>
          have e1 : w3.iterPos w.heap.size = pos + y := by simp [World.iterPos, HK3.out]
          have e2 := HI.out
          rw [e1, e2]; omega
    · have hnx := fun ty => Lib.run_next_end_at (P := Tryd.prog) wr w.heap.size ⟨t.toArray⟩ pos ty hk (show ¬ pos < (ByteArray.mk t.toArray).size from hlt)
      have hw : hasWild t = false := by have := HN.out; rwa [List.take_of_length_le (by omega)] at this
      have HW := Lib.hid hw
      clear hk hw
      go_wp2
      go_ret
      exact ⟨-1, rfl, by rw [HW.out]; rfl, hB⟩

theorem containsAny_any (t : List UInt8) (ht : t.length < 4294967281) (w : World) :
    Calls Tryd.prog 67 #[.string ⟨t.toArray⟩, .string ⟨#[43, 35]⟩] w fun e w' => e = .returned (.bool (hasWild t)) ∧ Below w.heap.size w w' := by
  have key : Calls Tryd.prog 91 #[.string ⟨t.toArray⟩, .string ⟨#[43, 35]⟩] w (AnyAt t w) := by
    by_cases h8 : t.length ≤ 8
    · exact indexAny_short t h8 w
    · have hac : ∀ (j : Nat) (b : UInt8), ([43, 35] : List UInt8)[j]? = some b → b.toNat < 128 := fun j b h => by
        match j, h with
        | 0, h => cases h; decide
        | 1, h => cases h; decide
        | j + 2, h => cases h
      have hz := zero_of_info (P := Tryd.prog) (t := 121) (show (Tryd.prog.info? 121).map (fun i => (i.zero, i.size)) = some (some (.agg (Array.replicate 256 (.bool false))), 256) by kernel_rfl)
      refine (Go.Proofs.Tryd.strings_IndexAny_long hz.1 ⟨t.toArray⟩ ⟨#[43, 35]⟩ w (by decide) (by show 8 < t.length; omega) ht (by decide) hac).mono ?_
      rintro e w' ⟨rfl, rfl⟩
      exact ⟨_, rfl, anyL_eq t, ((Below.refl _ _).alloc (Nat.le_refl _) _).alloc (by simp) _⟩
  go_enter Tryd.func67, Tryd.ntmps67
  go_wp2_with fail
  refine key.mono ?_
  rintro e w' ⟨r, rfl, hr, hb⟩
  have HR := Lib.hid hr
  clear hr
  go_wp2
  go_ret
  exact ⟨by rw [← HR.out]; rfl, hb⟩
end Go.Proofs.YtbacnaplpfmpnaaDoor
