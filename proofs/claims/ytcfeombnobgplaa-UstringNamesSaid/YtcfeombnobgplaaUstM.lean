/- UstringNames. -/
import Derived.Test.YtcfeombnobgplaaUstG
import Derived.Test.YtcfeombnobgplaaTimes
namespace Go.Proofs.Ytcfeombnobgplaa
open Go.RowKit
set_option linter.unusedVariables false

def odd9 : List (List UInt8) := [[0], [97, 0], [237, 160, 128], [244, 144, 128, 128], [224, 128, 128], [195], [128], [255], [97, 98, 226, 130]]
def odd9v : Array Value := #[.string ⟨#[0]⟩, .string ⟨#[97, 0]⟩, .string ⟨#[237, 160, 128]⟩, .string ⟨#[244, 144, 128, 128]⟩, .string ⟨#[224, 128, 128]⟩, .string ⟨#[195]⟩, .string ⟨#[128]⟩, .string ⟨#[255]⟩, .string ⟨#[97, 98, 226, 130]⟩]
theorem odd9_at (k : Nat) (h : k < 9) : ∃ l : List UInt8, odd9v[k]? = some (.string ⟨l.toArray⟩) ∧ vld l = false ∧ cnt l = 0 ∧ l.length ≤ 10 := by
  rcases (by omega : k = 0 ∨ k = 1 ∨ k = 2 ∨ k = 3 ∨ k = 4 ∨ k = 5 ∨ k = 6 ∨ k = 7 ∨ k = 8) with rfl | rfl | rfl | rfl | rfl | rfl | rfl | rfl | rfl
  · exact ⟨[0], rfl, by decide +kernel, by decide +kernel, by decide⟩
  · exact ⟨[97, 0], rfl, by decide +kernel, by decide +kernel, by decide⟩
  · exact ⟨[237, 160, 128], rfl, by decide +kernel, by decide +kernel, by decide⟩
  · exact ⟨[244, 144, 128, 128], rfl, by decide +kernel, by decide +kernel, by decide⟩
  · exact ⟨[224, 128, 128], rfl, by decide +kernel, by decide +kernel, by decide⟩
  · exact ⟨[195], rfl, by decide +kernel, by decide +kernel, by decide⟩
  · exact ⟨[128], rfl, by decide +kernel, by decide +kernel, by decide⟩
  · exact ⟨[255], rfl, by decide +kernel, by decide +kernel, by decide⟩
  · exact ⟨[97, 98, 226, 130], rfl, by decide +kernel, by decide +kernel, by decide⟩
theorem pt_letter (l : List UInt8) : pt (97 :: l) = (97, 1) := by
  have h : g (97 :: l) 0 = 97 := rfl
  rw [pt_one _ (by simp) (by rw [h]; decide), h]
theorem bd_letters (n : Nat) : bd (List.replicate n 97) = none := by
  induction n with
  | zero => rfl
  | succ n ih =>
    have e := pt_letter (List.replicate n 97)
    rw [List.replicate_succ, bd_on (by unfold off; rw [e]; rfl), e]
    show (bd (List.replicate n 97)).map _ = none
    rw [ih]; rfl
theorem long_of (n : Nat) (h : 65535 < n) : ∃ L : List UInt8, rep n [97] = L ∧ L.length ≤ n ∧ n ≤ L.length ∧ vld L = false ∧ badI L = -1 := by
  refine ⟨_, rfl, ?_, ?_, ?_, ?_⟩
  · rw [rep_one, List.length_replicate]; exact Nat.le_refl _
  · rw [rep_one, List.length_replicate]; exact Nat.le_refl _
  · rw [rep_one]; unfold vld; rw [List.length_replicate, show decide (n ≤ 65535) = false from decide_eq_false (by omega)]; rfl
  · rw [rep_one]; unfold badI; rw [bd_letters]
def R3 : List (Nat × Nat) := [(0, 97), (1, 8364), (4, 128512)]
theorem R3_at {w : World} {g : Nat} (h : Obj? w g #[.int .i64 0, .int .i32 97, .int .i64 1, .int .i32 8364, .int .i64 4, .int .i32 128512] 48) : RuneAt w (some ⟨g, 0, none⟩) R3 := by
  refine .inr ⟨g, rfl, fun k x hk => ?_⟩
  have hl : k < 3 := by
    rcases Nat.lt_or_ge k 3 with h1 | h1
    · exact h1
    · rw [List.getElem?_eq_none (by simpa [R3] using h1)] at hk; cases hk
  rcases (by omega : k = 0 ∨ k = 1 ∨ k = 2) with rfl | rfl | rfl
  · cases hk; exact ⟨h.cell 0 _ rfl, h.cell 1 _ rfl⟩
  · cases hk; exact ⟨h.cell 2 _ rfl, h.cell 3 _ rfl⟩
  · cases hk; exact ⟨h.cell 4 _ rfl, h.cell 5 _ rfl⟩

set_option maxRecDepth 100000 in
set_option maxHeartbeats 3200000 in
theorem ustringNames_walk (w : World) : Calls Try.prog 15 #[] w fun e w' => e = .returned (.bool true) ∧ Below w.heap.size w w' := by
  go_enter Try.func15, Try.ntmps15
  go_wp2_with fail
  refine (lives03 _).mono ?_
  rintro e w1 ⟨rfl, hB1⟩
  go_wp2_with fail
  have O := Obj?.new w1 odd9v 9
  have hBs := hB1.alloc hB1.size (.cells odd9v 9 (0, 0))
  go_loopw [2] (fun i wr => ∃ k : Nat, k ≤ 9 ∧ i = .int .i64 k ∧ Hid (Obj? wr w1.heap.size odd9v 9) ∧ Below w.heap.size w wr) (fun i _ => 9 - (intOf i).toNat)
  case atStart => exact ⟨0, Nat.zero_le _, rfl, O, hBs⟩
  case round =>
    obtain ⟨k, hk, rfl, ho, hB⟩ := hrel
    clear O hBs
    by_cases hlt : k < 9
    · obtain ⟨l, hl, hv, hc, hll⟩ := odd9_at k hlt
      have hcell := ho.out.cell k _ hl
      have HH := Lib.hid (And.intro hl (And.intro hv hc))
      clear hl hv hc
      go_wp2_with fail
      refine (valid_any l (by omega) _).mono ?_
      rintro e w2 ⟨rfl, hb⟩
      rw [HH.out.2.1]
      have hB2 := hB.trans (hb.mono hB.size)
      have ho2 := Lib.hid (ho.out.below hb ho.out.lt)
      clear hcell hb
      have hcell := ho2.out.cell k _ HH.out.1
      go_wp2_with fail
      refine (count_any l (by omega) _).mono ?_
      rintro e w3 ⟨rfl, hb⟩
      rw [HH.out.2.2]
      have hB3 := hB2.trans (hb.mono hB2.size)
      have ho3 := Lib.hid (ho2.out.below hb ho2.out.lt)
      clear hcell hb
      go_wp2
      go_roundw
      case rel => exact ⟨k + 1, by omega, by go_num, ho3, hB3⟩
      case measure => simp [intOf]; omega
    · obtain rfl : k = 9 := by omega
      clear hlt
      obtain ⟨L, hL, hL1, hL2, hL3, hL4⟩ := long_of 65536 (by decide)
      have HL := Lib.hid (And.intro hL (And.intro hL3 hL4))
      clear hL hL3 hL4
      have hx : (ByteArray.mk L.toArray).extract 1 L.length = ByteArray.mk L.tail.toArray := by rw [ByteArray.extract_mk]; simp [List.take_of_length_le]
      go_wp2_with fail
      refine (times_any [97] 65536 (by decide) (by decide) _).mono ?_
      rintro e w' ⟨rfl, rfl⟩
      rw [HL.out.1]
      go_wp2_with fail
      refine (text_any L (by omega) _).mono ?_
      rintro e w2 ⟨rfl, hb⟩
      rw [show textF L = ([], 6) by unfold textF; rw [HL.out.2.1]; rfl]
      have hB2 := hB.trans (hb.mono hB.size)
      clear hb
      go_wp2_with fail
      refine (binary_any L _).mono ?_
      rintro e w3 ⟨rfl, hb⟩
      rw [show binF L = ([], 2) by unfold binF; rw [if_neg (by omega)]]
      have hB3 := hB2.trans (hb.mono hB2.size)
      clear hb
      go_wp2_with fail
      refine (binary_any L.tail _).mono ?_
      rintro e w4 ⟨rfl, hb⟩
      rw [show binF L.tail = (frm L.tail, 0) by unfold binF; rw [if_pos (by simp; omega)]]
      have hB4 := hB3.trans (hb.mono hB3.size)
      clear hb hx
      go_wp2_with fail
      refine (rdT_any [0] (by decide) _).mono ?_
      rintro e w5 ⟨rfl, hb⟩
      rw [show rdT [0] = ([], 0, 3) by decide +kernel]
      have hB5 := hB4.trans (hb.mono hB4.size)
      clear hb
      go_wp2_with fail
      refine (rdT_any [0, 2, 97] (by decide) _).mono ?_
      rintro e w6 ⟨rfl, hb⟩
      rw [show rdT [0, 2, 97] = ([], 0, 3) by decide +kernel]
      have hB6 := hB5.trans (hb.mono hB5.size)
      clear hb
      go_wp2_with fail
      refine (rdT_any [0, 2, 192, 128, 122] (by decide) _).mono ?_
      rintro e w7 ⟨rfl, hb⟩
      rw [show rdT [0, 2, 192, 128, 122] = ([], 0, 6) by decide +kernel]
      have hB7 := hB6.trans (hb.mono hB6.size)
      clear hb
      go_wp2_with fail
      refine (rdT_any [0, 3, 226, 130, 172, 122] (by decide) _).mono ?_
      rintro e w8 ⟨rfl, hb⟩
      rw [show rdT [0, 3, 226, 130, 172, 122] = ([226, 130, 172], 5, 0) by decide +kernel]
      have hB8 := hB7.trans (hb.mono hB7.size)
      clear hb
      go_wp2_with fail
      refine (rdB_any [0, 2, 192, 128, 122] (by decide) _).mono ?_
      rintro e w9 ⟨rfl, hb⟩
      rw [show rdB [0, 2, 192, 128, 122] = ([192, 128], 4, 0) by decide +kernel]
      have hB9 := hB8.trans (hb.mono hB8.size)
      clear hb
      go_wp2_with fail
      refine (lawRunes_any [97, 226, 130, 172, 240, 159, 152, 128] (by decide) _).mono ?_
      rintro e w10 ⟨v, rfl, hown, hb⟩
      have hB10 := hB9.trans (hb.mono hB9.size)
      clear hb
      rw [show rn 0 [97, 226, 130, 172, 240, 159, 152, 128] = R3 by decide +kernel] at hown
      obtain ⟨a, cap, rfl⟩ := owns_shape (by decide) hown
      have hA := Lib.hid (RuneAt.of_own hown)
      clear hown
      go_wp2_with fail
      refine (bad_any L (by omega) _).mono ?_
      rintro e w11 ⟨rfl, hb⟩
      rw [HL.out.2.2]
      have hB11 := hB10.trans (hb.mono hB10.size)
      have hA1 := Lib.hid (hA.out.below hb)
      clear hb
      go_wp2_with fail
      refine (valid_any L (by omega) _).mono ?_
      rintro e w12 ⟨rfl, hb⟩
      rw [HL.out.2.1]
      have hB12 := hB11.trans (hb.mono hB11.size)
      have hA2 := Lib.hid (hA1.out.below hb)
      clear hb
      go_wp2_with fail
      refine (bad_any [97, 98, 255] (by decide) _).mono ?_
      rintro e w13 ⟨rfl, hb⟩
      rw [show badI [97, 98, 255] = 2 by decide +kernel]
      have hB13 := hB12.trans (hb.mono hB12.size)
      have hA3 := Lib.hid (hA2.out.below hb)
      clear hb
      go_wp2_with fail
      refine (count_any [97, 226, 130, 172] (by decide) _).mono ?_
      rintro e w14 ⟨rfl, hb⟩
      rw [show cnt [97, 226, 130, 172] = 2 by decide +kernel]
      have hB14 := hB13.trans (hb.mono hB13.size)
      have hA4 := Lib.hid (hA3.out.below hb)
      clear hb
      go_wp2_with fail
      refine (valid_any [] (by decide) _).mono ?_
      rintro e w15 ⟨rfl, hb⟩
      rw [show vld [] = true by decide +kernel]
      have hB15 := hB14.trans (hb.mono hB14.size)
      have hA5 := Lib.hid (hA4.out.below hb)
      clear hb
      go_wp2_with fail
      have hA6 := Lib.hid (hA5.out.below ((Below.refl _ w15).alloc (Nat.le_refl _) (.cells #[.int .i64 0, .int .i32 97, .int .i64 1, .int .i32 8364, .int .i64 4, .int .i32 128512] 48 (0, 0))))
      have hN := Lib.hid (R3_at (Obj?.new w15 #[.int .i64 0, .int .i32 97, .int .i64 1, .int .i32 8364, .int .i64 4, .int .i32 128512] 48))
      have hB16 := hB15.alloc hB15.size (.cells #[.int .i64 0, .int .i32 97, .int .i64 1, .int .i32 8364, .int .i64 4, .int .i32 128512] 48 (0, 0))
      refine (sameRune_yes a (some ⟨w15.heap.size, 0, none⟩) cap 3 R3 (by decide) _ hA6.out hN.out).mono ?_
      rintro e w17 ⟨rfl, m, rfl⟩
      go_wp2
      go_ret
      exact ⟨rfl, hB16.trans ((below_grown (quiet_grown ⟨m, rfl⟩ none)).mono hB16.size)⟩
end Go.Proofs.Ytcfeombnobgplaa
