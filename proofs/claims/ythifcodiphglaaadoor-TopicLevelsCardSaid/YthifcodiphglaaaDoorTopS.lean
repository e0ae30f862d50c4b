/- TopicLevels. -/
import Derived.Test.YthifcodiphglaaaDoorTopP
import Derived.Test.YthifcodiphglaaaDoorUstV
namespace Go.Proofs.YthifcodiphglaaaDoor
open Go.RowKit
set_option linter.unusedVariables false

theorem slash_ne {l : List UInt8} (h : noSlash l = true) (q : Nat) (hq : q < l.length) : (((l[q]).toNat : Int) == 47) = false := by
  simp only [noSlash, Bool.not_eq_true', List.any_eq_false] at h
  have := h l[q] (List.getElem_mem hq)
  simp at this
  rw [beq_eq_false_iff_ne]
  intro e
  apply this
  have h2 : (l[q]).toNat = 47 := by omega
  exact UInt8.toNat_inj.1 (by rw [h2]; rfl)
def cnt47 (l : List UInt8) : Nat := (l.filter (· == 47)).length
theorem cnt47_snoc (l : List UInt8) (k : Nat) (h : k < l.length) : cnt47 (l.take (k + 1)) = cnt47 (l.take k) + if (((l[k]).toNat : Int) == 47) = true then 1 else 0 := by
  unfold cnt47
  rw [List.take_succ_eq_append_getElem h, List.filter_append, List.length_append]
  congr 1
  by_cases e : l[k] = 47
  · rw [if_pos (by rw [e]; rfl), e]; rfl
  · have e2 : (((l[k]).toNat : Int) == 47) = false := by
      rw [beq_eq_false_iff_ne]; intro h2
      apply e
      have h3 : (l[k]).toNat = 47 := by omega
      exact UInt8.toNat_inj.1 (by rw [h3]; rfl)
    rw [e2, if_neg (by simp), List.filter_cons_of_neg (by simpa using e)]; rfl
theorem cnt47_le (l : List UInt8) (k : Nat) : cnt47 (l.take k) ≤ k := by
  unfold cnt47; have := List.length_filter_le (· == 47) (l.take k); have := List.length_take_le k l; omega

set_option maxRecDepth 100000 in
theorem topicLevels_long (s : List UInt8) (h : 300 < s.length) (w : World) (hm : Mx w) :
    Calls Tryd.prog 5 #[.string ⟨s.toArray⟩] w fun e w' => e = .returned (.bool true) ∧ Below w.heap.size w w' := by
  go_enter Tryd.func5, Tryd.ntmps5
  go_wp2_with fail
  refine (lives04 _ hm).mono ?_
  rintro e w1 ⟨rfl, hb⟩
  go_wp2_with fail
  go_ret
  exact ⟨rfl, hb⟩

set_option maxRecDepth 100000 in
set_option maxHeartbeats 3200000 in
theorem topicLevels_walk (s : List UInt8) (w : World) (hm : Mx w) :
    Calls Tryd.prog 5 #[.string ⟨s.toArray⟩] w fun e w' => e = .returned (.bool true) ∧ Below w.heap.size w w' := by
  by_cases hs : s.length ≤ 300
  rotate_left
  · exact topicLevels_long s (by omega) w hm
  obtain ⟨n, hn⟩ : ∃ n, n = splitS s := ⟨_, rfl⟩
  obtain ⟨N, hN⟩ : ∃ N, N = n.length := ⟨_, rfl⟩
  have hNl : (N : Int) ≤ 301 := by have := len_split_le s; rw [hN, hn]; omega
  have hN1 : N = cnt47 s + 1 := by rw [hN, hn, length_split]; rfl
  have hj : joinS n = s := by rw [hn]; exact join_split s
  have LA := Lib.hid (fun W (hM : Mx W) => by have := levels_any s (by omega) W hM; rw [← hn, ← hN] at this; exact this)
  have HS := Lib.hid (And.intro hn (And.intro hN (And.intro hN1 hj)))
  clear hn hN hN1 hj
  go_enter Tryd.func5, Tryd.ntmps5
  have hB0 : Below w.heap.size w w := Below.refl _ _
  go_wp2_with fail
  refine (lives04 _ (hm.next hB0)).mono ?_
  rintro e w1 ⟨rfl, hb⟩
  have hB1 := hB0.trans (hb.mono hB0.size)
  clear hb
  have hd : decide (300 < (s.length : Int)) = false := by simp; omega
  go_wp2_with fail
  refine (LA.out _ (hm.next hB1)).mono ?_
  rintro e w2 ⟨rfl, rfl⟩
  have O := Obj?.new w1 (cellsS n) 9
  have hB2 := below_alT hB1 (.cells (cellsS n) 9 (0, 0))
  obtain ⟨w2, hw2⟩ : ∃ w2, w2 = w1.alloc (.cells (cellsS n) 9 (0, 0)) := ⟨_, rfl⟩
  rw [← hw2] at O hB2 ⊢
  have HO := Lib.hid O
  clear hw2 O hd
  go_wp2
  go_loop [4, 5] (fun c i => ∃ k : Nat, k ≤ s.length ∧ i = .int .i64 k ∧ c = .int .i64 (cnt47 (s.take k))) (fun _ i => s.length - (intOf i).toNat)
  case atStart => exact ⟨0, Nat.zero_le _, rfl, rfl⟩
  case round =>
    obtain ⟨k, hk, rfl, rfl⟩ := hrel
    have hcl := cnt47_le s k
    by_cases hlt : k < s.length
    · have hx : (ByteArray.mk s.toArray)[k]'hlt = s[k] := rfl
      have HC := Lib.hid (cnt47_snoc s k hlt)
      cases hq : (((s[k]).toNat : Int) == 47) with
      | true =>
        go_wp2
        go_round
        case rel => exact ⟨k + 1, by omega, by go_num, by rw [HC.out, hq]; go_num⟩
        case measure => simp [intOf]; omega
      | false =>
        go_wp2
        go_round
        case rel => exact ⟨k + 1, by omega, by go_num, by rw [HC.out, hq]; go_num⟩
        case measure => simp [intOf]; omega
    · obtain rfl : k = s.length := by omega
      clear hcl
      have hcs : cnt47 (s.take s.length) + 1 = N := by rw [List.take_length]; exact HS.out.2.2.1.symm
      obtain ⟨C, hC⟩ : ∃ C, C = cnt47 (s.take s.length) := ⟨_, rfl⟩
      rw [← hC] at hcs ⊢
      clear hC
      go_wp2
      go_loop [6] (fun i => ∃ k : Nat, k ≤ N ∧ i = .int .i64 k) (fun i => N - (intOf i).toNat)
      case atStart => exact ⟨0, Nat.zero_le _, rfl⟩
      case round =>
        obtain ⟨k, hk, rfl⟩ := hrel
        by_cases hltN : k < N
        · obtain ⟨x, hx⟩ : ∃ x, n[k]? = some x := ⟨_, List.getElem?_eq_getElem (by have := HS.out.2.1; omega)⟩
          have kc := HO.out.cell k _ (cellsS_at hx)
          have hno : noSlash x = true := noSlash_split s x (by rw [← HS.out.1]; exact List.mem_of_getElem? hx)
          have hxl : x.length ≤ s.length := mem_split_le (by rw [← HS.out.1]; exact List.mem_of_getElem? hx)
          have HN := Lib.hid hno
          clear hx hno
          go_wp2
          go_loop [7] (fun j => ∃ q : Nat, q ≤ x.length ∧ j = .int .i64 q) (fun j => x.length - (intOf j).toNat)
          case atStart => exact ⟨0, Nat.zero_le _, rfl⟩
          case round =>
            obtain ⟨q, hq, rfl⟩ := hrel
            by_cases hlq : q < x.length
            · have hx : (ByteArray.mk x.toArray)[q]'hlq = x[q] := rfl
              have hne := slash_ne HN.out q hlq
              go_wp2
              go_round
              case rel => exact ⟨q + 1, by omega, by go_num⟩
              case measure => simp [intOf]; omega
            · go_wp2
              go_round
              case rel => exact ⟨k + 1, by omega, by go_num⟩
              case measure => simp [intOf]; omega
        · have hne : ((N : Int) != (C : Int) + 1) = false := by simp; omega
          have hL : n.length = N := HS.out.2.1.symm
          have J := join_any n w1.heap.size 0 N (by omega) (by omega) (by rw [HS.out.2.2.2]; omega) w2 (Row.of_obj HO.out)
          rw [hL, HS.out.2.2.2] at J
          have HJ := Lib.hid J
          clear J hL
          have hMH := matches_hash s
          cases hq : nameB s with
          | true =>
            have hf := name_filter hq
            have hms := matches_self hq
            have hv : vld s = true := by have := (textB_parts (filterB_parts hf).1); unfold vld; rw [this.2.2]; simp; exact this.2.1
            have hne0 : ¬ s = [] := (textB_parts (filterB_parts hf).1).1
            have hemp : s.isEmpty = false := by cases s with | nil => exact absurd rfl hne0 | cons _ _ => rfl
            rw [hq, Bool.true_and] at hMH
            have HQ := Lib.hid (And.intro hq (And.intro hf (And.intro hms trivial)))
            have HV := Lib.hid hv
            cases hdl : dollarB s with
            | true =>
              rw [hdl] at hMH
              have HD := Lib.hid hdl
              have HM := Lib.hid (hMH.trans rfl)
              clear hMH hq hf hms hv hdl
              go_wp2_with fail
              refine HJ.out.mono ?_
              rintro e w3 ⟨rfl, hb⟩
              have hBj := hB2.trans (hb.mono hB2.size)
              clear hb
              have hC0 := hBj
              go_wp2_with fail
              refine (name_any s (by omega) _).mono ?_
              rintro e v1 ⟨rfl, hb⟩
              rw [HQ.out.1]
              have hC1 := hC0.trans (hb.mono hC0.size)
              clear hb
              go_wp2_with fail
              refine (filter_any s (by omega) _ (hm.next hC1)).mono ?_
              rintro e v2 ⟨rfl, hb⟩
              rw [HQ.out.2.1]
              have hC2 := hC1.trans (hb.mono hC1.size)
              clear hb
              go_wp2_with fail
              refine (matches_any s s (by omega) (by omega) _ (hm.next hC2)).mono ?_
              rintro e v3 ⟨rfl, hb⟩
              rw [HQ.out.2.2.1]
              have hC3 := hC2.trans (hb.mono hC2.size)
              clear hb
              go_wp2_with fail
              refine (rvalid_any s (by omega) _).mono ?_
              rintro e w' ⟨rfl, rfl⟩
              rw [HV.out]
              go_wp2_with fail
              refine (matches_any [35] s (by decide) (by omega) _ (hm.next hC3)).mono ?_
              rintro e v4 ⟨rfl, hb⟩
              rw [HM.out]
              have hC4 := hC3.trans (hb.mono hC3.size)
              clear hb
              go_wp2_with fail
              refine (dollar_any s _ (by omega)).mono ?_
              rintro e w' ⟨rfl, rfl⟩
              rw [HD.out]
              go_wp2
              go_ret
              exact ⟨rfl, hC4⟩
            | false =>
              rw [hdl] at hMH
              have HD := Lib.hid hdl
              have HM := Lib.hid (hMH.trans rfl)
              clear hMH hq hf hms hv hdl
              go_wp2_with fail
              refine HJ.out.mono ?_
              rintro e w3 ⟨rfl, hb⟩
              have hBj := hB2.trans (hb.mono hB2.size)
              clear hb
              have hC0 := hBj
              go_wp2_with fail
              refine (name_any s (by omega) _).mono ?_
              rintro e v1 ⟨rfl, hb⟩
              rw [HQ.out.1]
              have hC1 := hC0.trans (hb.mono hC0.size)
              clear hb
              go_wp2_with fail
              refine (filter_any s (by omega) _ (hm.next hC1)).mono ?_
              rintro e v2 ⟨rfl, hb⟩
              rw [HQ.out.2.1]
              have hC2 := hC1.trans (hb.mono hC1.size)
              clear hb
              go_wp2_with fail
              refine (matches_any s s (by omega) (by omega) _ (hm.next hC2)).mono ?_
              rintro e v3 ⟨rfl, hb⟩
              rw [HQ.out.2.2.1]
              have hC3 := hC2.trans (hb.mono hC2.size)
              clear hb
              go_wp2_with fail
              refine (rvalid_any s (by omega) _).mono ?_
              rintro e w' ⟨rfl, rfl⟩
              rw [HV.out]
              go_wp2_with fail
              refine (matches_any [35] s (by decide) (by omega) _ (hm.next hC3)).mono ?_
              rintro e v4 ⟨rfl, hb⟩
              rw [HM.out]
              have hC4 := hC3.trans (hb.mono hC3.size)
              clear hb
              go_wp2_with fail
              refine (dollar_any s _ (by omega)).mono ?_
              rintro e w' ⟨rfl, rfl⟩
              rw [HD.out]
              go_wp2
              go_ret
              exact ⟨rfl, hC4⟩
          | false =>
            rw [hq, Bool.false_and] at hMH
            have HM := Lib.hid hMH
            clear hMH
            cases hf : filterB s with
            | true =>
              have hv : vld s = true := by have := (textB_parts (filterB_parts hf).1); unfold vld; rw [this.2.2]; simp; exact this.2.1
              have hne0 : ¬ s = [] := (textB_parts (filterB_parts hf).1).1
              have hemp : s.isEmpty = false := by cases s with | nil => exact absurd rfl hne0 | cons _ _ => rfl
              have HQ := Lib.hid (And.intro hq (And.intro hf trivial))
              have HV := Lib.hid hv
              clear hq hf hv
              go_wp2_with fail
              refine HJ.out.mono ?_
              rintro e w3 ⟨rfl, hb⟩
              have hBj := hB2.trans (hb.mono hB2.size)
              clear hb
              have hC0 := hBj
              go_wp2_with fail
              refine (name_any s (by omega) _).mono ?_
              rintro e v1 ⟨rfl, hb⟩
              rw [HQ.out.1]
              have hC1 := hC0.trans (hb.mono hC0.size)
              clear hb
              go_wp2_with fail
              refine (filter_any s (by omega) _ (hm.next hC1)).mono ?_
              rintro e v2 ⟨rfl, hb⟩
              rw [HQ.out.2.1]
              have hC2 := hC1.trans (hb.mono hC1.size)
              clear hb
              go_wp2_with fail
              refine (rvalid_any s (by omega) _).mono ?_
              rintro e w' ⟨rfl, rfl⟩
              rw [HV.out]
              go_wp2_with fail
              refine (matches_any [35] s (by decide) (by omega) _ (hm.next hC2)).mono ?_
              rintro e v3 ⟨rfl, hb⟩
              rw [HM.out]
              have hC3 := hC2.trans (hb.mono hC2.size)
              clear hb
              go_wp2
              go_ret
              exact ⟨rfl, hC3⟩
            | false =>
              have HQ := Lib.hid (And.intro hq (And.intro hf trivial))
              clear hq hf
              go_wp2_with fail
              refine HJ.out.mono ?_
              rintro e w3 ⟨rfl, hb⟩
              have hBj := hB2.trans (hb.mono hB2.size)
              clear hb
              have hC0 := hBj
              go_wp2_with fail
              refine (name_any s (by omega) _).mono ?_
              rintro e v1 ⟨rfl, hb⟩
              rw [HQ.out.1]
              have hC1 := hC0.trans (hb.mono hC0.size)
              clear hb
              go_wp2_with fail
              refine (filter_any s (by omega) _ (hm.next hC1)).mono ?_
              rintro e v2 ⟨rfl, hb⟩
              rw [HQ.out.2.1]
              have hC2 := hC1.trans (hb.mono hC1.size)
              clear hb
              go_wp2_with fail
              refine (matches_any [35] s (by decide) (by omega) _ (hm.next hC2)).mono ?_
              rintro e v3 ⟨rfl, hb⟩
              rw [HM.out]
              have hC3 := hC2.trans (hb.mono hC2.size)
              clear hb
              go_wp2
              go_ret
              exact ⟨rfl, hC3⟩
end Go.Proofs.YthifcodiphglaaaDoor
