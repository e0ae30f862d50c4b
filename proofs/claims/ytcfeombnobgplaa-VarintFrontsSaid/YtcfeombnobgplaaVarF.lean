/- VarintFronts: the walk. -/
import Derived.Test.YtcfeombnobgplaaVarB
namespace Go.Proofs.Ytcfeombnobgplaa
open Go.RowKit

/-- Behind j bytes of n: a reader that is neither, m still to come; or a whole one. -/
def FrontAt (w : World) (b : Nat) (n : Int) (j : Nat) : Prop :=
  (j < vsz n ∧ ∃ (a m : Int), Rdr w b ⟨a, j, false, false⟩ ∧ VOk ⟨a, j, false, false⟩ ∧ 0 ≤ m ∧ m ≤ 268435455 ∧ (vbytes n).drop j = vbytes m ∧ j + vsz m = vsz n ∧ (j = 0 ∨ m ≠ 0) ∧ a + m * 2 ^ (7 * j) = n) ∨
  (j = vsz n ∧ Rdr w b ⟨n, j, true, false⟩)

set_option maxRecDepth 100000 in
set_option maxHeartbeats 1600000 in
theorem varintFronts_walk (n m : Int) (w : World) :
    Calls Try.prog 9 #[.int .i64 n, .int .i64 m] w fun e w' => e = .returned (.bool true) ∧ Below w.heap.size w w' := by
  go_enter Try.func9, Try.ntmps9
  go_wp2_with fail
  refine (lives02 _).mono ?_
  rintro r w1 ⟨rfl, hB1⟩
  go_wp2_with fail
  refine (pick_any n 268435456 (by omega) (by omega) _).mono ?_
  rintro r w ⟨rfl, rfl⟩
  have hn0 : 0 ≤ n % 268435456 := by omega
  have hn1 : n % 268435456 ≤ 268435455 := by omega
  generalize n % 268435456 = x at hn0 hn1 ⊢
  go_wp2_with fail
  refine (pick_any m 268435456 (by omega) (by omega) _).mono ?_
  rintro r w ⟨rfl, rfl⟩
  have hm0 : 0 ≤ m % 268435456 := by omega
  have hm1 : m % 268435456 ≤ 268435455 := by omega
  generalize m % 268435456 = y at hm0 hm1 ⊢
  go_wp2_with fail
  refine (vbytes_any x hn0 hn1 _).mono ?_
  rintro r w2 ⟨rfl, hb⟩
  have hB2 := hB1.trans (hb.mono hB1.size)
  clear hb
  go_wp2_with fail
  refine (vbytes_any y hm0 hm1 _).mono ?_
  rintro r w3 ⟨rfl, hb⟩
  have hB3 := hB2.trans (hb.mono hB2.size)
  clear hb
  have hfr := fun h => vfront x y hn0 hn1 hm0 hm1 h
  have hlx := length_vbytes x
  have hly := length_vbytes y
  have hzx := vsz_pos hn0 hn1
  have hzy := vsz_pos hm0 hm1
  have hcx := fun j hj => vread_cut x hn0 hn1 j hj
  obtain ⟨A, hA⟩ : ∃ A, A = vbytes x := ⟨_, rfl⟩
  obtain ⟨B, hB⟩ : ∃ B, B = vbytes y := ⟨_, rfl⟩
  rw [← hA] at hfr hlx hcx ⊢
  rw [← hB] at hfr hly ⊢
  have HH := Lib.hid (And.intro hA (And.intro hB (And.intro hlx (And.intro hly (And.intro hcx hfr)))))
  have hAl : A.length ≤ 4 := by omega
  have hBl : B.length ≤ 4 := by omega
  have hA1 : 1 ≤ A.length := by omega
  have hAv : A.length ≤ vsz x ∧ vsz x ≤ A.length := by omega
  clear hA hB hlx hly hcx hfr hzx hzy
  have hcase : ((x != y) = false) ∨ ((x != y) = true ∧ ¬ A.length ≤ B.length) ∨ ((x != y) = true ∧ A.length ≤ B.length ∧ (A == B.take A.length) = false) := by
    by_cases h1 : x = y
    · exact .inl (by simp [h1])
    · by_cases h2 : A.length ≤ B.length
      · refine .inr (.inr ⟨by simp [h1], h2, ?_⟩)
        refine beq_eq_false_iff_ne.2 fun e => h1 (HH.out.2.2.2.2.2 e.symm)
      · exact .inr (.inl ⟨by simp [h1], h2⟩)
  have hex : (ByteArray.mk B.toArray).extract 0 A.length = ByteArray.mk (B.take A.length).toArray := by rw [ByteArray.extract_mk]; simp
  rcases hcase with hd | ⟨hd, h2⟩ | ⟨hd, h2, h3⟩
  all_goals
    go_wp2_with fail
    refine (vnew_any _).mono ?_
    rintro r w4 ⟨b, rfl, hb, R, hg⟩
    have hB4 := hB3.trans ((below_grown hg).mono hB3.size)
    have Lb : w.heap.size ≤ b := Nat.le_trans hB3.size hb
    clear hg hd hex
    try clear h2
    try clear h3
    go_wp2_with fail
    go_loopw [10] (fun i wr => ∃ j : Nat, j ≤ A.length ∧ i = .int .i64 j ∧ FrontAt wr b x j ∧ Below w.heap.size w wr) (fun i _ => A.length - (intOf i).toNat)
    case atStart => exact ⟨0, Nat.zero_le _, rfl, .inl ⟨by omega, 0, x, R, VSt.new_ok, hn0, hn1, rfl, by omega, .inl rfl, by simp⟩, hB4⟩
    case round =>
      clear R hB4
      obtain ⟨j, hj, rfl, hF, hB⟩ := hrel
      by_cases hlt : j < A.length
      · rcases hF with ⟨_, a, m, R, hok, m0, m1, hdr, hsz, hz, ham⟩ | ⟨h, _⟩
        · have hex2 : (ByteArray.mk A.toArray).extract 0 j = ByteArray.mk (A.take j).toArray := by rw [ByteArray.extract_mk]; simp
          have hc := HH.out.2.2.2.2.1 j (by omega)
          have hn := vnext m a j m0 m1 (by omega) hz A[j] (A.drop (j + 1)) (by rw [← hdr, ← HH.out.1, List.drop_eq_getElem_cons hlt])
          obtain ⟨n1, n2, n3, n4⟩ := hn
          have hc0 : (0 : Int) ≤ (A[j].toNat : Int) := by omega
          have hc1 : (A[j].toNat : Int) < 256 := by have := A[j].toNat_lt; omega
          have HN := Lib.hid (And.intro hdr (And.intro hsz (And.intro hz (And.intro ham (And.intro n3 n4)))))
          have hok2 := vpush_ok (c := (A[j].toNat : Int)) hok
          have HC := Lib.hid (And.intro hc (And.intro n1 n2))
          clear hdr hsz hz ham n3 n4 hc n1 n2
          go_wp2_with fail
          refine (vread_any (A.take j) (by simp; omega) _).mono ?_
          rintro r w5 ⟨rfl, hb5⟩
          rw [HC.out.1]
          have hB5 := hB.trans (hb5.mono hB.size)
          replace R := R.below hb5
          clear hb5
          go_wp2_with fail
          refine (vvalue_any R).mono ?_
          rintro r w6 ⟨rfl, rfl⟩
          go_wp2_with fail
          refine (vpush_any R hok _ hc0 hc1).mono ?_
          rintro r w6 ⟨rfl, R2, hg⟩
          rw [HC.out.2.1, HC.out.2.2]
          have hB6 := hB5.grown hg hB5.size (fun k e => by cases e; exact Lb)
          clear hg R hex2
          by_cases h1 : vsz m = 1
          · have e1 := HN.out.2.2.2.2.1 h1
            have e2 := HN.out.2.2.2.1
            have e3 := HN.out.2.1
            rw [e1, e2] at R2
            have hlast : j + 1 = A.length := by omega
            have hd1 : decide (vsz m = 1) = true := by simpa using h1
            have hd2 : ((j : Int) + 1 == (A.length : Int)) = true := by simp; omega
            have HL := Lib.hid hlast
            rw [hd1]
            clear e1 e2 e3 h1 hlast hd1
            go_wp2
            go_roundw
            case rel => exact ⟨j + 1, by omega, by go_num, .inr ⟨by have := HL.out; omega, by have := HL.out; rw [← this] at *; exact R2⟩, hB6⟩
            case measure => simp [intOf]; omega
          · have hz1 : 1 ≤ vsz m := (vsz_pos m0 m1).1
            obtain ⟨q1, q2, q3, a', q4, q5⟩ := HN.out.2.2.2.2.2 (by omega)
            have e3 := HN.out.2.1
            rw [q4] at R2 hok2
            have hd1 : decide (vsz m = 1) = false := by simpa using h1
            have hlast : j + 1 < A.length := by omega
            have hd2 : ((j : Int) + 1 == (A.length : Int)) = false := by simp; omega
            have hdr2 : (vbytes x).drop (j + 1) = vbytes (m / 128) := by
              rw [← q1, ← HH.out.1]
            have hfin : FrontAt w6 b x (j + 1) := .inl ⟨by omega, a', m / 128, R2, hok2, by omega, by omega, hdr2, by omega, .inr q3, by rw [q5]; exact HN.out.2.2.2.1⟩
            have HFin := Lib.hid hfin
            rw [hd1]
            clear q1 q2 q3 q4 q5 e3 h1 hd1 hdr2 hfin R2 hok2
            go_wp2
            go_roundw
            case rel => exact ⟨j + 1, by omega, by go_num, HFin.out, hB6⟩
            case measure => simp [intOf]; omega
        · omega
      · rcases hF with ⟨h, _⟩ | ⟨hje, R⟩
        · omega
        · have hjl : (j : Int) = (A.length : Int) := by omega
          have HJ := Lib.hid (And.intro hje hjl)
          clear hje hjl
          go_wp2_with fail
          refine (vvalue_any R).mono ?_
          rintro r w6 ⟨rfl, rfl⟩
          go_wp2_with fail
          refine (vsize_any R).mono ?_
          rintro r w6 ⟨rfl, rfl⟩
          have hd3 : ((j : Int) == (A.length : Int)) = true := by rw [HJ.out.2]; simp
          go_wp2
          go_ret
          exact ⟨rfl, hB⟩
end Go.Proofs.Ytcfeombnobgplaa
