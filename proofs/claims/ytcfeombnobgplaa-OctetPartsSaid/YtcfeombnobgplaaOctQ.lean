/- OctetParts: the walk. -/
import Derived.Test.YtcfeombnobgplaaOctL
import Derived.Test.YtcfeombnobgplaaOctC
namespace Go.Proofs.Ytcfeombnobgplaa
open Go.RowKit

theorem takeI_add (t : List UInt8) (i : Nat) (e n : Int) (hi : i ≤ t.length) : takeI t i e n = i + (takeS t i e n).length := by
  unfold takeI takeS
  split
  · rename_i h; have := h.2; simp [hasB] at this; simp; omega
  · simp
theorem take_takeS (t : List UInt8) (i : Nat) (e n : Int) : t.take i ++ takeS t i e n = t.take (takeI t i e n) := by
  unfold takeI takeS
  split
  · rw [List.take_add]
  · simp

set_option maxRecDepth 100000 in
set_option maxHeartbeats 1600000 in
theorem octetParts_walk (t : List UInt8) (ht : (t.length : Int) ≤ 9223372036854775807) (a : Option Addr) (len cap : Nat) (zs : List Int) (w0 : World) (hz : Ints .i64 w0 a len zs) :
    Calls Try.prog 10 #[.string ⟨t.toArray⟩, .slice a len cap] w0 fun e w' => e = .returned (.bool true) ∧ Below w0.heap.size w0 w' := by
  obtain ⟨hlm, hzl, hz⟩ := hz
  unfold maxLen at hlm
  by_cases h200 : 200 < t.length
  · go_enter Try.func10, Try.ntmps10
    go_wp2_with fail
    refine (lives01 _).mono ?_
    rintro r w1 ⟨rfl, hB1⟩
    go_wp2
    go_ret
    exact ⟨rfl, hB1⟩
  by_cases h60 : 60 < len
  · go_enter Try.func10, Try.ntmps10
    go_wp2_with fail
    refine (lives01 _).mono ?_
    rintro r w1 ⟨rfl, hB1⟩
    go_wp2
    go_ret
    exact ⟨rfl, hB1⟩
  go_enter Try.func10, Try.ntmps10
  go_wp2_with fail
  refine (lives01 _).mono ?_
  rintro r w1 ⟨rfl, hB1⟩
  go_wp2_with fail
  refine (new_any t _).mono ?_
  rintro r w2 ⟨bc, rfl, hbc, Cc, hg⟩
  have hB2 := hB1.trans ((below_grown hg).mono hB1.size)
  have Lc : w0.heap.size ≤ bc := Nat.le_trans hB1.size hbc
  clear hg
  go_wp2_with fail
  go_loopw [6, 7] (fun all x wr => ∃ (j i : Nat) (e : Int), j ≤ len ∧ x = .int .i64 j ∧ i ≤ t.length ∧ (e = 0 ∨ e = 3) ∧ all = .string ⟨(t.take i).toArray⟩ ∧ Cur wr bc t i e ∧ Below w0.heap.size w0 wr) (fun _ x _ => len - (intOf x).toNat)
  case atStart => exact ⟨0, 0, 0, Nat.zero_le _, rfl, Nat.zero_le _, .inl rfl, rfl, Cc, hB2⟩
  case round =>
    obtain ⟨j, i, e, hj, rfl, hi, he, rfl, C, hB⟩ := hrel
    by_cases hlt : j < len
    · rcases hz with hz | ⟨b, off, rfl, hb, hz⟩
      · omega
      obtain ⟨hc0, hwf⟩ := hz j (by omega)
      generalize zs[j]'(by omega) = n at hc0 hwf
      have hc1 := (hB.cell (p := ⟨b, off + j, none⟩) hb).trans hc0
      have Hn := Lib.hid hwf
      have HE := Lib.hid he
      have HZ := Lib.hid hz
      clear hwf he hz
      go_wp2_with fail
      refine (err_any C).mono ?_
      rintro r w ⟨rfl, rfl⟩
      go_wp2_with fail
      refine (left_any C hi ht).mono ?_
      rintro r w3 ⟨rfl, hq⟩
      have hg := quiet_grown hq none
      replace C := C.kept hg (by simp)
      replace hB := hB.grown hg hB.size (by simp)
      replace hc1 := (hB.cell (p := ⟨b, off + j, none⟩) hb).trans hc0
      clear hg hq
      go_wp2_with fail
      refine (peek_any C n hi ht).mono ?_
      rintro r w4 ⟨rfl, hq⟩
      have hg := quiet_grown hq none
      replace C := C.kept hg (by simp)
      replace hB := hB.grown hg hB.size (by simp)
      replace hc1 := (hB.cell (p := ⟨b, off + j, none⟩) hb).trans hc0
      clear hg hq
      go_wp2_with fail
      refine (rest_any C hi ht).mono ?_
      rintro r w5 ⟨rfl, hq⟩
      have hg := quiet_grown hq none
      replace C := C.kept hg (by simp)
      replace hB := hB.grown hg hB.size (by simp)
      replace hc1 := (hB.cell (p := ⟨b, off + j, none⟩) hb).trans hc0
      clear hg hq
      go_wp2_with fail
      refine (take_any C n hi ht).mono ?_
      rintro r w6 ⟨rfl, K, hg⟩
      replace hB := hB.grown hg hB.size (fun j e => by cases e; exact Lc)
      replace hc1 := (hB.cell (p := ⟨b, off + j, none⟩) hb).trans hc0
      clear hg C
      have hap : (ByteArray.mk (t.take i).toArray) ++ ByteArray.mk (takeS t i e n).toArray = ByteArray.mk (t.take (takeI t i e n)).toArray := by rw [ByteArray.mk_append_mk, take_takeS]
      have hIle := takeI_le (e := e) (n := n) hi
      have hIadd := takeI_add t i e n hi
      have hsz : (t.take i).length + (takeS t i e n).length ≤ 200 := by simp; omega
      by_cases hfit : e = 0 ∧ hasB t i n = true
      · obtain ⟨rfl, hh⟩ := hfit
        have h2 := hh
        simp [hasB] at h2
        obtain ⟨m, rfl⟩ := Int.eq_ofNat_of_zero_le h2.1
        have hm : i + m ≤ t.length := by omega
        have eS : takeS t i 0 m = (t.drop i).take m := by simp [takeS, hh]
        have eI : takeI t i 0 m = i + m := by simp [takeI, hh]
        have eE : takeE t i 0 m = 0 := by simp [takeE, hh]
        have hx : (ByteArray.mk (t.drop i).toArray).extract 0 m = ByteArray.mk ((t.drop i).take m).toArray := by rw [ByteArray.extract_mk]; simp
        have hlA : ((t.drop i).take m).length = m := by simp; omega
        rw [eS] at hap hsz hIadd ⊢
        rw [eI, eE] at K
        rw [eI] at hap
        generalize (t.drop i).take m = A at hx hap hlA hsz ⊢
        have HH := Lib.hid (And.intro hh (And.intro eS (And.intro eI eE)))
        have HK := Lib.hid K
        have HI := Lib.hid hIadd
        clear hh eS eI eE h2 hIadd hIle
        go_wp2_with fail
        refine (err_any K).mono ?_
        rintro r w ⟨rfl, rfl⟩
        go_wp2_with fail
        refine (left_any K hm ht).mono ?_
        rintro r w7 ⟨rfl, hq⟩
        have hg := quiet_grown hq none
        have K2 := K.kept hg (by simp)
        replace hB := hB.grown hg hB.size (by simp)
        clear hg hq K
        have hsub : ((t.length - (i + m) : Nat) : Int) = ((t.length - i : Nat) : Int) - A.length := by omega
        have hlx : (A.length : Int) ≤ ((t.length - i : Nat) : Int) := by omega
        clear hx hap hlA
        go_wp2
        go_roundw
        case rel => exact ⟨j + 1, i + m, 0, by omega, by go_num, hm, .inl rfl, rfl, K2, hB⟩
        case measure => simp [intOf]; omega
      · have eS : takeS t i e n = [] := by simp only [takeS, if_neg hfit]
        have eI : takeI t i e n = i := by simp only [takeI, if_neg hfit]
        have eE : takeE t i e n = 3 := by
          rcases HE.out with h | h
          · subst h
            have : hasB t i n = false := by
              cases hh : hasB t i n with
              | false => rfl
              | true => exact absurd ⟨rfl, hh⟩ hfit
            simp [takeE, this]
          · subst h; simp [takeE]
        rw [eI, eE] at K
        rw [eS, eI] at hap
        rw [eS] at hsz
        rw [eS]
        have hap2 : (ByteArray.mk (t.take i).toArray) ++ ByteArray.mk #[] = ByteArray.mk (t.take i).toArray := hap
        have HH := Lib.hid (And.intro eS (And.intro eI eE))
        have Hfit := Lib.hid hfit
        clear eS eI eE hIadd hIle hfit hap
        by_cases h0 : e = 0
        · subst h0
          have hns : ¬ (0 ≤ n ∧ n ≤ ((t.length - i : Nat) : Int)) := by
            intro h
            refine Hfit.out ⟨rfl, ?_⟩
            simp [hasB]; omega
          by_cases hn0 : 0 ≤ n
          all_goals
            go_wp2_with fail
            refine (err_any K).mono ?_
            rintro r w ⟨rfl, rfl⟩
            go_wp2_with fail
            refine (left_any K hi ht).mono ?_
            rintro r w7 ⟨rfl, hq⟩
            have hg := quiet_grown hq none
            have K2 := K.kept hg (by simp)
            replace hB := hB.grown hg hB.size (by simp)
            clear hg hq K
            go_wp2_with fail
            refine (err_any K2).mono ?_
            rintro r w ⟨rfl, rfl⟩
            go_wp2
            go_roundw
            case rel => exact ⟨j + 1, i, 3, by omega, by go_num, hi, .inr rfl, rfl, K2, hB⟩
            case measure => simp [intOf]; omega
        · have h3 : e = 3 := by rcases HE.out with h | h
                                · exact absurd h h0
                                · exact h
          subst h3
          go_wp2_with fail
          refine (err_any K).mono ?_
          rintro r w ⟨rfl, rfl⟩
          go_wp2_with fail
          refine (left_any K hi ht).mono ?_
          rintro r w7 ⟨rfl, hq⟩
          have hg := quiet_grown hq none
          have K2 := K.kept hg (by simp)
          replace hB := hB.grown hg hB.size (by simp)
          clear hg hq K
          go_wp2
          go_roundw
          case rel => exact ⟨j + 1, i, 3, by omega, by go_num, hi, .inr rfl, rfl, K2, hB⟩
          case measure => simp [intOf]; omega
    · have HE := Lib.hid he
      have HZ := Lib.hid hz
      clear he hz
      have hap : (ByteArray.mk (t.take i).toArray) ++ ByteArray.mk (t.drop i).toArray = ByteArray.mk t.toArray := by rw [ByteArray.mk_append_mk, List.take_append_drop]
      have hsz : (t.take i).length + (t.drop i).length ≤ 200 := by simp; omega
      go_wp2_with fail
      refine (rest_any C hi ht).mono ?_
      rintro r w7 ⟨rfl, hq⟩
      have hg := quiet_grown hq none
      replace C := C.kept hg (by simp)
      replace hB := hB.grown hg hB.size (by simp)
      clear hg hq
      go_wp2_with fail
      refine (at_any C).mono ?_
      rintro r w ⟨rfl, rfl⟩
      have hl : ((t.take i).length : Int) = i := by simp; omega
      go_wp2
      go_ret
      exact ⟨ret_val (by simp), hB⟩
end Go.Proofs.Ytcfeombnobgplaa
