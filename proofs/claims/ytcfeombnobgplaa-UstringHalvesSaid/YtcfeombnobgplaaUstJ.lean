/- UstringJoins: the walk. -/
import Derived.Test.YtcfeombnobgplaaUstX
namespace Go.Proofs.Ytcfeombnobgplaa
open Go.RowKit

theorem vld_of {l : List UInt8} (h : l.length ≤ 65535) : vld l = (bd l).isNone := by unfold vld; simp [h]
theorem join_yes (a b : List UInt8) (hl : a.length + b.length ≤ 65535) (ha : vld a = true) (hb : vld b = true) : vld (a ++ b) = true ∧ (cnt (a ++ b) : Int) = (cnt a : Int) + cnt b := by
  have h1 := (vld_bd ha).2
  have h2 := (vld_bd hb).2
  have h3 : vld (a ++ b) = true := by rw [vld_of (by simp; omega), bd_append a b h1, h2]; rfl
  refine ⟨h3, ?_⟩
  unfold cnt
  rw [h3, ha, hb, if_pos rfl, if_pos rfl, if_pos rfl, rn_append a b h1, List.length_append, rn_length b (0 + a.length) 0]
  simp
theorem join_no (a b : List UInt8) (hl : a.length + b.length ≤ 65535) (ha : vld a = true) (hb : vld b = false) : vld (a ++ b) = false ∧ badI (a ++ b) = (a.length : Int) + badI b ∧ 0 ≤ badI b ∧ badI b ≤ 65535 := by
  have h1 := (vld_bd ha).2
  rw [vld_of (by omega)] at hb
  cases h2 : bd b with
  | none => rw [h2] at hb; cases hb
  | some p =>
    have := bd_lt b p h2
    refine ⟨by rw [vld_of (by simp; omega), bd_append a b h1, h2]; rfl, ?_, by unfold badI; rw [h2]; simp, by unfold badI; rw [h2]; simp; omega⟩
    unfold badI
    rw [bd_append a b h1, h2]
    simp; omega
theorem app_mk (a b : List UInt8) : (ByteArray.mk a.toArray) ++ ByteArray.mk b.toArray = ByteArray.mk (a ++ b).toArray := ByteArray.mk_append_mk _ _

set_option maxRecDepth 100000 in
set_option maxHeartbeats 1600000 in
theorem ustringJoins_walk (a b : List UInt8) (hal : (a.length : Int) ≤ 9223372036854775807) (hbl : (b.length : Int) ≤ 9223372036854775807) (w : World) :
    Calls Try.prog 4 #[.string ⟨a.toArray⟩, .string ⟨b.toArray⟩] w fun e w' => e = .returned (.bool true) ∧ Below w.heap.size w w' := by
  by_cases h1 : 1000 < a.length
  · go_enter Try.func4, Try.ntmps4
    go_wp2_with fail
    refine (lives03 _).mono ?_
    rintro r w1 ⟨rfl, hB1⟩
    go_wp2
    go_ret
    exact ⟨rfl, hB1⟩
  by_cases h2 : 1000 < b.length
  · go_enter Try.func4, Try.ntmps4
    go_wp2_with fail
    refine (lives03 _).mono ?_
    rintro r w1 ⟨rfl, hB1⟩
    go_wp2
    go_ret
    exact ⟨rfl, hB1⟩
  have hab := app_mk a b
  have hba := app_mk b a
  have hsz : a.length + b.length ≤ 2000 := by omega
  cases hva : vld a with
  | true =>
    cases hvb : vld b with
    | true =>
      obtain ⟨j1, j2⟩ := join_yes a b (by omega) hva hvb
      go_enter Try.func4, Try.ntmps4
      go_wp2_with fail
      refine (lives03 _).mono ?_
      rintro r w1 ⟨rfl, hB1⟩
      go_wp2_with fail
      refine (valid_any a hal _).mono ?_
      rintro r w2 ⟨rfl, hb⟩
      have hB2 := hB1.trans (hb.mono hB1.size)
      clear hb
      rw [hva]
      go_wp2_with fail
      refine (valid_any b hbl _).mono ?_
      rintro r w3 ⟨rfl, hb⟩
      have hB3 := hB2.trans (hb.mono hB2.size)
      clear hb
      rw [hvb]
      go_wp2_with fail
      refine (valid_any (a ++ b) (by simp; omega) _).mono ?_
      rintro r w4 ⟨rfl, hb⟩
      have hB4 := hB3.trans (hb.mono hB3.size)
      clear hb
      rw [j1]
      go_wp2_with fail
      refine (count_any (a ++ b) (by simp; omega) _).mono ?_
      rintro r w5 ⟨rfl, hb⟩
      have hB5 := hB4.trans (hb.mono hB4.size)
      clear hb
      have c1 : cnt a ≤ 1000 := by have := rn_le a 0; unfold cnt; split <;> omega
      have c2 : cnt b ≤ 1000 := by have := rn_le b 0; unfold cnt; split <;> omega
      have HJ := Lib.hid (And.intro hva (And.intro hvb j1))
      clear hva hvb j1
      go_wp2_with fail
      refine (count_any a hal _).mono ?_
      rintro r w6 ⟨rfl, hb⟩
      have hB6 := hB5.trans (hb.mono hB5.size)
      clear hb
      go_wp2_with fail
      refine (count_any b hbl _).mono ?_
      rintro r w7 ⟨rfl, hb⟩
      have hB7 := hB6.trans (hb.mono hB6.size)
      clear hb
      go_wp2
      go_ret
      exact ⟨rfl, hB7⟩
    | false =>
      obtain ⟨j1, j2, j3, j4⟩ := join_no a b (by omega) hva hvb
      go_enter Try.func4, Try.ntmps4
      go_wp2_with fail
      refine (lives03 _).mono ?_
      rintro r w1 ⟨rfl, hB1⟩
      go_wp2_with fail
      refine (valid_any a hal _).mono ?_
      rintro r w2 ⟨rfl, hb⟩
      have hB2 := hB1.trans (hb.mono hB1.size)
      clear hb
      rw [hva]
      go_wp2_with fail
      refine (valid_any b hbl _).mono ?_
      rintro r w3 ⟨rfl, hb⟩
      have hB3 := hB2.trans (hb.mono hB2.size)
      clear hb
      rw [hvb]
      go_wp2_with fail
      refine (valid_any a hal _).mono ?_
      rintro r w4 ⟨rfl, hb⟩
      have hB4 := hB3.trans (hb.mono hB3.size)
      clear hb
      rw [hva]
      go_wp2_with fail
      refine (valid_any (a ++ b) (by simp; omega) _).mono ?_
      rintro r w5 ⟨rfl, hb⟩
      have hB5 := hB4.trans (hb.mono hB4.size)
      clear hb
      rw [j1]
      go_wp2_with fail
      refine (bad_any (a ++ b) (by simp; omega) _).mono ?_
      rintro r w6 ⟨rfl, hb⟩
      have hB6 := hB5.trans (hb.mono hB5.size)
      clear hb
      have HJ := Lib.hid (And.intro hva (And.intro hvb j1))
      clear hva hvb j1
      go_wp2_with fail
      refine (bad_any b hbl _).mono ?_
      rintro r w7 ⟨rfl, hb⟩
      have hB7 := hB6.trans (hb.mono hB6.size)
      clear hb
      go_wp2
      go_ret
      exact ⟨rfl, hB7⟩
  | false =>
    go_enter Try.func4, Try.ntmps4
    go_wp2_with fail
    refine (lives03 _).mono ?_
    rintro r w1 ⟨rfl, hB1⟩
    go_wp2_with fail
    refine (valid_any a hal _).mono ?_
    rintro r w2 ⟨rfl, hb⟩
    have hB2 := hB1.trans (hb.mono hB1.size)
    clear hb
    rw [hva]
    go_wp2_with fail
    refine (valid_any a hal _).mono ?_
    rintro r w3 ⟨rfl, hb⟩
    have hB3 := hB2.trans (hb.mono hB2.size)
    clear hb
    rw [hva]
    go_wp2_with fail
    refine (valid_any (b ++ a) (by simp; omega) _).mono ?_
    rintro r w4 ⟨rfl, hb⟩
    have hB4 := hB3.trans (hb.mono hB3.size)
    clear hb
    cases hvb : vld b with
    | true =>
      obtain ⟨j1, _, _, _⟩ := join_no b a (by omega) hvb hva
      rw [j1]
      have HJ := Lib.hid (And.intro hva (And.intro hvb j1))
      clear hva hvb j1
      go_wp2
      go_ret
      exact ⟨rfl, hB4⟩
    | false =>
      cases hv2 : vld (b ++ a) with
      | false =>
        have HJ := Lib.hid (And.intro hva (And.intro hvb hv2))
        clear hva hvb hv2
        go_wp2
        go_ret
        exact ⟨rfl, hB4⟩
      | true =>
        have HJ := Lib.hid (And.intro hva hv2)
        clear hva hv2
        go_wp2_with fail
        refine (valid_any b hbl _).mono ?_
        rintro r w5 ⟨rfl, hb⟩
        have hB5 := hB4.trans (hb.mono hB4.size)
        clear hb
        rw [hvb]
        have HJ2 := Lib.hid hvb
        clear hvb
        go_wp2
        go_ret
        exact ⟨rfl, hB5⟩
end Go.Proofs.Ytcfeombnobgplaa
