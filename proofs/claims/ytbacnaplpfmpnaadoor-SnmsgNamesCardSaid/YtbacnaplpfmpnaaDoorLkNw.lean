/- SnmsgNames, the walk. -/
import Derived.Test.YtbacnaplpfmpnaaDoorLkN
import Derived.Test.YtbacnaplpfmpnaaDoorLkC
import Derived.Great.Walk
import Derived.Deep.LoopGhost
import Derived.Deep.RegionWith
import Derived.Deep.RegionHeld3
import Derived.Deep.CutRange
namespace Go.Proofs.YtbacnaplpfmpnaaDoor
open Go.RowKit
set_option linter.unusedVariables false
set_option linter.unusedSimpArgs false
attribute [local go_sem ↓] load_Msg store_Msg

/-- Rows of one size, one behind the other. -/
def flatN (c : Nat → Array Value) : Nat → Array Value
  | 0 => #[]
  | n + 1 => flatN c n ++ c n
theorem flatN_size {c : Nat → Array Value} {z : Nat} (hc : ∀ k, (c k).size = z) : ∀ n, (flatN c n).size = n * z
  | 0 => by simp [flatN]
  | n + 1 => by rw [flatN, Array.size_append, flatN_size hc n, hc, Nat.succ_mul]
theorem flatN_at {c : Nat → Array Value} {z : Nat} (hc : ∀ k, (c k).size = z) : ∀ n k, k < n → ∃ p q, flatN c n = p ++ c k ++ q ∧ p.size = k * z
  | n + 1, k, hk => by
    by_cases h : k = n
    · subst h
      exact ⟨flatN c k, #[], by simp [flatN], flatN_size hc k⟩
    · obtain ⟨p, q, e, hp⟩ := flatN_at hc n k (by omega)
      exact ⟨p, q ++ c n, by rw [flatN, e]; simp [Array.append_assoc], hp⟩
theorem row_at {w : World} {b : Nat} {c : Nat → Array Value} {n : Nat} (h : Obj? w b (flatN c n) 25) (hc : ∀ k, (c k).size = 16) (k : Nat) (hk : k < n) : (rowSem 25 ⟨b, k * 16, none⟩).run Tryd.prog w = .ok (.agg (c k)) w := by
  obtain ⟨p, q, e, hp⟩ := flatN_at hc n k hk
  rw [e] at h
  refine rowSem_mid w b (k * 16) 25 (c k) _ (fun j v hv => ?_) Tryd.underlying25 rfl (by rw [infoMs, hc])
  have := Obj?.mid h j v hv
  rw [hp] at this; exact this
set_option maxRecDepth 100000 in
theorem built15 (A D : List UInt8) : Tryd.prog.builtSlice 25 15 [(0, .agg (wrongX A D 0).cs), (1, .agg (wrongX A D 1).cs), (2, .agg (wrongX A D 2).cs), (3, .agg (wrongX A D 3).cs), (4, .agg (wrongX A D 4).cs), (5, .agg (wrongX A D 5).cs), (6, .agg (wrongX A D 6).cs), (7, .agg (wrongX A D 7).cs), (8, .agg (wrongX A D 8).cs), (9, .agg (wrongX A D 9).cs), (10, .agg (wrongX A D 10).cs), (11, .agg (wrongX A D 11).cs), (12, .agg (wrongX A D 12).cs), (13, .agg (wrongX A D 13).cs), (14, .agg (wrongX A D 14).cs)] = some (flatN (fun k => (wrongX A D k).cs) 15) := by
  kernel_rfl
def wantA : Array Value := #[.int .i64 8, .int .i64 8, .int .i64 7, .int .i64 7, .int .i64 2, .int .i64 2, .int .i64 2, .int .i64 2, .int .i64 2, .int .i64 10, .int .i64 6, .int .i64 10, .int .i64 10, .int .i64 2, .int .i64 4]
theorem wantA_at (k : Nat) (h : k < 15) : wantA[k]? = some (.int .i64 (wantE k)) := by
  match k, h with
  | 0, _ => rfl | 1, _ => rfl | 2, _ => rfl | 3, _ => rfl | 4, _ => rfl | 5, _ => rfl | 6, _ => rfl | 7, _ => rfl | 8, _ => rfl | 9, _ => rfl | 10, _ => rfl | 11, _ => rfl | 12, _ => rfl | 13, _ => rfl | 14, _ => rfl
def badA : Array Value := #[.string ⟨#[2, 254]⟩, .string ⟨#[3, 23]⟩, .string ⟨#[2, 5]⟩, .string ⟨#[7, 4, 4, 2, 0, 1, 97]⟩, .string ⟨#[4, 18, 3, 0]⟩, .string ⟨#[3, 23, 0]⟩, .string ⟨#[7, 4, 4, 1, 0, 1, 97]⟩]
def toldA : Array Value := #[.int .i64 8, .int .i64 3, .int .i64 5, .int .i64 5, .int .i64 7, .int .i64 5, .int .i64 0]
theorem badA_at (k : Nat) (h : k < 7) : badA[k]? = some (.string ⟨(badT k).toArray⟩) ∧ toldA[k]? = some (.int .i64 (toldE k)) := by
  match k, h with
  | 0, _ => exact ⟨rfl, rfl⟩ | 1, _ => exact ⟨rfl, rfl⟩ | 2, _ => exact ⟨rfl, rfl⟩ | 3, _ => exact ⟨rfl, rfl⟩ | 4, _ => exact ⟨rfl, rfl⟩ | 5, _ => exact ⟨rfl, rfl⟩ | 6, _ => exact ⟨rfl, rfl⟩
theorem badT_len (k : Nat) : (badT k).length ≤ 7 := by unfold badT; split <;> decide
abbrev SNm (c : Nat → Array Value) (b b2 k : Nat) (e : Int) (w W : World) : Prop := Below w.heap.size w W ∧ Hid (Obj? W b (flatN c 15) 25 ∧ Obj? W b2 wantA 28) ∧ (rowSem 25 ⟨b, k * 16, none⟩).run Tryd.prog W = .ok (.agg (c k)) W ∧ W.cell? ⟨b2, k, none⟩ = some (.int .i64 e)
theorem sNm_mk {c : Nat → Array Value} {b b2 k : Nat} {w W : World} (hc : ∀ k, (c k).size = 16) (hk : k < 15) (hB : Below w.heap.size w W) (h : Obj? W b (flatN c 15) 25 ∧ Obj? W b2 wantA 28) : SNm c b b2 k (wantE k) w W :=
  ⟨hB, h, row_at h.1 hc k hk, h.2.cell _ _ (wantA_at k hk)⟩
theorem sNm_step {c : Nat → Array Value} {b b2 k : Nat} {w W W' : World} (hc : ∀ k, (c k).size = 16) (hk : k < 15) (hb : Below W.heap.size W W') (hB : Below w.heap.size w W) (h : Hid (Obj? W b (flatN c 15) 25 ∧ Obj? W b2 wantA 28)) : SNm c b b2 k (wantE k) w W' :=
  sNm_mk hc hk (hB.trans (hb.mono hB.size)) ⟨Obj?.below h.out.1 hb (Obj?.lt h.out.1), Obj?.below h.out.2 hb (Obj?.lt h.out.2)⟩
set_option maxRecDepth 100000 in
set_option maxHeartbeats 6400000 in
theorem snmsgNames_walk (w : World) (hm : Mx w) :
    Calls Tryd.prog 7 #[] w fun e w' => e = .returned (.bool true) ∧ Below w.heap.size w w' := by
  have HL := Lib.hid lives22
  have HM := Lib.hid hm
  obtain ⟨A, hA⟩ : ∃ A, A = rep 17 [97] := ⟨_, rfl⟩
  obtain ⟨D, hD⟩ : ∃ D, D = rep 65530 [97] := ⟨_, rfl⟩
  have lA : A.length = 17 := by rw [hA, rep_len]
  have lD : D.length = 65530 := by rw [hD, rep_len]
  have HT1 := Lib.hid (fun w => times_any [97] 17 (by decide) (by decide) w)
  have HT2 := Lib.hid (fun w => times_any [97] 65530 (by decide) (by decide) w)
  rw [← hA] at HT1
  rw [← hD] at HT2
  have HCk := Lib.hid (fun k => check_any (wrongX A D k) (wrongX_small lA lD k).1 (wrongX_small lA lD k).2)
  have HWA := Lib.hid (fun k => (show checkM (wrongX A D k) = wantE k by rw [hA, hD]; exact wrong_any k))
  clear hm hA hD
  go_enter Tryd.func7, Tryd.ntmps7
  refine wp_hide fun Q1 hQ1 => ?_
  have HQ1 := Lib.hid hQ1
  clear hQ1
  go_wp2_with fail
  refine (HL.out _ HM.out).mono ?_
  rintro r w1 ⟨rfl, hb⟩
  have HB1 := Lib.hid hb
  clear hb
  go_upto_region 3 with fail
  go_cut [1] from 24 to 45 (fun (v : Value) (wx : World) => v = .slice (some ⟨w1.heap.size, 0, none⟩) 15 15 ∧ wx = w1.alloc (.cells (flatN (fun k => (wrongX A D k).cs) 15) 25 (0, 0)))
  case first =>
    go_wp2_with fail
    refine (HT1.out _).mono ?_
    rintro r w' ⟨rfl, hw⟩
    subst hw
    go_wp2_with fail
    refine (HT2.out _).mono ?_
    rintro r w' ⟨rfl, hw⟩
    subst hw
    go_wp2_with (refine Great.wpList_buildSliceTo rfl 34 25 15 _ rfl w1.heap.size rfl (some 45) rfl Tryd.underlying34 (flatN (fun k => (wrongX A D k).cs) 15) ?hf ?_)
    case hf => kernel_rfl
    go_meet
    exact ⟨rfl, rfl⟩
  case rest =>
  obtain ⟨rfl, rfl⟩ := hcut
  obtain ⟨c, hc⟩ : ∃ c : Nat → Array Value, c = fun k => (wrongX A D k).cs := ⟨_, rfl⟩
  have hcs : ∀ k, (c k).size = 16 := fun k => by rw [hc]; unfold Ms.cs; rfl
  have hck : ∀ k, c k = (wrongX A D k).cs := fun k => by rw [hc]
  rw [← hc]
  have HCK := Lib.hid (And.intro hcs hck)
  clear hcs hck hc
  have hI0 : Below w.heap.size w ((w1.alloc (.cells (flatN c 15) 25 (0, 0))).alloc (.cells wantA 28 (0, 0))) ∧ Obj? ((w1.alloc (.cells (flatN c 15) 25 (0, 0))).alloc (.cells wantA 28 (0, 0))) w1.heap.size (flatN c 15) 25 ∧ Obj? ((w1.alloc (.cells (flatN c 15) 25 (0, 0))).alloc (.cells wantA 28 (0, 0))) (w1.heap.size + 1) wantA 28 := by
    refine ⟨below_al (below_al HB1.out _) _, (Obj?.new w1 _ _).alloc _, ?_⟩
    have := Obj?.new (w1.alloc (.cells (flatN c 15) 25 (0, 0))) wantA 28
    rw [World.size_alloc] at this
    exact this
  have HI0 := Lib.hid hI0
  clear hI0
  unfold wantA at HI0
  go_wp2
  go_loopg [3] 16 (fun g i wr => ∃ k : Nat, g + k = 16 ∧ k ≤ 15 ∧ i = .int .i64 k ∧ Hid (Below w.heap.size w wr ∧ Obj? wr w1.heap.size (flatN c 15) 25 ∧ Obj? wr (w1.heap.size + 1) wantA 28))
  case atStart => exact ⟨0, by omega, by omega, rfl, HI0⟩
  case round =>
    obtain ⟨k, hgk, hk15, rfl, HI⟩ := hrel
    have HGK := Lib.hid (And.intro hgk hk15)
    clear hgk
    by_cases hlt : k < 15
    · have d1 : decide ((k : Int) < 15) = true := decide_eq_true (by omega)
      have hki : (k : Int) < 15 := by omega
      have HCk' := Lib.hid (show CheckSaid (wrongX A D k) (wantE k) from by have := HCk.out k; rw [HWA.out k] at this; exact this)
      unfold CheckSaid at HCk'
      rw [← HCK.out.2 k] at HCk'
      obtain ⟨e, he⟩ : ∃ e, e = wantE k := ⟨_, rfl⟩
      have hS0 := sNm_mk (c := c) (b := w1.heap.size) (b2 := w1.heap.size + 1) HCK.out.1 hlt HI.out.1 HI.out.2
      have hstep : ∀ (W W' : World), Below W.heap.size W W' → Below w.heap.size w W → Hid (Obj? W w1.heap.size (flatN c 15) 25 ∧ Obj? W (w1.heap.size + 1) wantA 28) → SNm c w1.heap.size (w1.heap.size + 1) k e w W' := fun W W' hb hB h => by rw [he]; exact sNm_step HCK.out.1 hlt hb hB h
      rw [← he] at HCk' hS0
      have HST := Lib.hid hstep
      have hS1 : SNm c w1.heap.size (w1.heap.size + 1) k e w wr.drew := hstep _ _ (below_grown (quiet_grown ⟨1, rfl⟩ none)) hS0.1 hS0.2.1
      have HLT := Lib.hid hlt
      clear he hstep hlt HI
      go_wp2
      go_region_held3 (fun W => Below w.heap.size w W ∧ Hid (Obj? W w1.heap.size (flatN c 15) 25 ∧ Obj? W (w1.heap.size + 1) wantA 28) ∧ (rowSem 25 ⟨w1.heap.size, k * 16, none⟩).run Tryd.prog W = .ok (.agg (c k)) W ∧ W.cell? ⟨w1.heap.size + 1, k, none⟩ = some (.int .i64 e))
        ((first | assumption | exact HST.out _ _ (below_grown (quiet_grown ⟨1, rfl⟩ none)) (by assumption) (by assumption)))
        ((go_split_ands; first
          | (go_at_call 11; refine (HCk'.out _ (HM.out.below (by assumption) HM.out.1)).mono ?_; rintro e' w' ⟨rfl, hb⟩; have hS := HST.out _ _ hb (by assumption) (by assumption))))
      have HSF := Lib.hid (show Below w.heap.size w _ ∧ Obj? _ w1.heap.size (flatN c 15) 25 ∧ Obj? _ (w1.heap.size + 1) wantA 28 from ⟨hS.1, hS.2.1.out⟩)
      clear hS
      go_wp2
      go_roundg (gk - 1)
      case measure => have := HGK.out; omega
      case rel => exact ⟨k + 1, by have := HGK.out; omega, by have := HLT.out; omega, by go_num, HSF⟩
    · obtain rfl : k = 15 := by omega
      have HBr := Lib.hid HI.out.1
      clear HI HCK HI0 HCk HWA HT1 HT2 HGK
      go_wp2
      have hI1 : Below w.heap.size w ((wr.alloc (.cells badA 9 (0, 0))).alloc (.cells toldA 28 (0, 0))) ∧ Obj? ((wr.alloc (.cells badA 9 (0, 0))).alloc (.cells toldA 28 (0, 0))) wr.heap.size badA 9 ∧ Obj? ((wr.alloc (.cells badA 9 (0, 0))).alloc (.cells toldA 28 (0, 0))) (wr.heap.size + 1) toldA 28 := by
        refine ⟨below_al (below_al HBr.out _) _, (Obj?.new wr _ _).alloc _, ?_⟩
        have := Obj?.new (wr.alloc (.cells badA 9 (0, 0))) toldA 28
        rw [World.size_alloc] at this
        exact this
      have HI1 := Lib.hid hI1
      clear hI1
      unfold badA toldA at HI1
      obtain ⟨wo, hwo⟩ : ∃ wo, wo = wr := ⟨_, rfl⟩
      subst hwo
      go_loopg [6] 8 (fun g i wr2 => ∃ k : Nat, g + k = 8 ∧ k ≤ 7 ∧ i = .int .i64 k ∧ Hid (Below w.heap.size w wr2 ∧ Obj? wr2 wo.heap.size badA 9 ∧ Obj? wr2 (wo.heap.size + 1) toldA 28))
      case atStart => exact ⟨0, by omega, by omega, rfl, HI1⟩
      case round =>
        obtain ⟨k, hgk, hk7, rfl, HI⟩ := hrel
        have HGK := Lib.hid (And.intro hgk hk7)
        clear hgk
        by_cases hlt : k < 7
        · have d1 : decide ((k : Int) < 7) = true := decide_eq_true (by omega)
          have hki : (k : Int) < 7 := by omega
          have HRd := Lib.hid (msread_any (badT k) (by have := badT_len k; omega))
          have htold := bad_told k hlt
          have k1 := HI.out.2.1.cell _ _ (badA_at k hlt).1
          have k2 := HI.out.2.2.cell _ _ (badA_at k hlt).2
          unfold ReadIs at HRd
          rw [htold] at HRd
          obtain ⟨m', hm'⟩ : ∃ m', m' = (readM (badT k)).1 := ⟨_, rfl⟩
          obtain ⟨n', hn'⟩ : ∃ n', n' = (readM (badT k)).2.1 := ⟨_, rfl⟩
          obtain ⟨e, he⟩ : ∃ e, e = toldE k := ⟨_, rfl⟩
          obtain ⟨t, ht⟩ : ∃ t, t = badT k := ⟨_, rfl⟩
          rw [← hm', ← hn', ← he, ← ht] at HRd
          rw [← ht] at k1
          rw [← he] at k2
          have HLT := Lib.hid (And.intro hlt he)
          clear hm' hn' he ht htold hlt k2
          go_wp2_with fail
          refine (HRd.out _ (HM.out.below HI.out.1 HM.out.1)).mono ?_
          rintro r w8 ⟨rfl, hb⟩
          have hst := store_new w8 m'
          have HN := Lib.hid (show Below w.heap.size w (w8.alloc (.cells m'.cs 25 (0, 0))) ∧ Obj? (w8.alloc (.cells m'.cs 25 (0, 0))) wo.heap.size badA 9 ∧ Obj? (w8.alloc (.cells m'.cs 25 (0, 0))) (wo.heap.size + 1) toldA 28 from
            ⟨below_al (HI.out.1.trans (hb.mono HI.out.1.size)) _, (HI.out.2.1.below hb HI.out.2.1.lt).alloc _, (HI.out.2.2.below hb HI.out.2.2.lt).alloc _⟩)
          have k2 := HN.out.2.2.cell _ _ (badA_at k HLT.out.1).2
          rw [← HLT.out.2] at k2
          clear k1 hb
          go_wp2
          go_roundg (gk - 1)
          case measure => have := HGK.out; omega
          case rel => exact ⟨k + 1, by have := HGK.out; omega, by have := HLT.out.1; omega, by go_num, HN⟩
        · obtain rfl : k = 7 := by omega
          have HB := Lib.hid HI.out.1
          clear HI HI1 HGK hlt HBr
          have HS1 := Lib.hid (fun w => short_any [97, 98] (by decide) w)
          rw [show shortF [97, 98] = (24930, true) by decide +kernel] at HS1
          have HS2 := Lib.hid (fun w => short_any [97, 43] (by decide) w)
          rw [show shortF [97, 43] = (0, false) by decide +kernel] at HS2
          have HN1 := Lib.hid (fun w => nameof_any 24930 w)
          rw [show nameOfF 24930 = ([97, 98], true) by decide +kernel] at HN1
          have HN2 := Lib.hid (fun w => nameof_any 97 w)
          rw [show nameOfF 97 = ([], false) by decide +kernel] at HN2
          have HR := Lib.hid (msread_any [4, 24, 0, 5, 122, 122] (by decide))
          unfold ReadIs at HR
          rw [show readM [4, 24, 0, 5, 122, 122] = (⟨24, fl0, 0, 0, 5, true, 0, 0, 0, [], []⟩, 4, 0) by decide +kernel] at HR
          unfold fl0 at HR
          have HC := Lib.hid codes_any
          go_wp2_with fail
          refine (HS1.out _).mono ?_
          rintro r v1 ⟨rfl, hb⟩
          have HB1' := Lib.hid (HB.out.trans (hb.mono HB.out.size))
          clear hb
          go_wp2_with fail
          refine (HS2.out _).mono ?_
          rintro r v2 ⟨rfl, hb⟩
          have HB2' := Lib.hid (HB1'.out.trans (hb.mono HB1'.out.size))
          clear hb
          go_wp2_with fail
          refine (HN1.out _).mono ?_
          rintro r v3 ⟨rfl, hb⟩
          have HB3' := Lib.hid (HB2'.out.trans (hb.mono HB2'.out.size))
          clear hb
          go_wp2_with fail
          refine (HN2.out _).mono ?_
          rintro r v4 ⟨rfl, hb⟩
          have HB4' := Lib.hid (HB3'.out.trans (hb.mono HB3'.out.size))
          clear hb
          go_wp2_with fail
          refine (HR.out _ (HM.out.below HB4'.out HM.out.1)).mono ?_
          rintro r v5 ⟨rfl, hb⟩
          have hst := store_new v5 ⟨24, ⟨false, 0, false, false, false, 0⟩, 0, 0, 5, true, 0, 0, 0, [], []⟩
          have HX := Lib.hid (Obj?.new v5 (Ms.cs ⟨24, ⟨false, 0, false, false, false, 0⟩, 0, 0, 5, true, 0, 0, 0, [], []⟩) 25)
          have HB6' := Lib.hid (below_al (HB4'.out.trans (hb.mono HB4'.out.size)) (.cells (Ms.cs ⟨24, ⟨false, 0, false, false, false, 0⟩, 0, 0, 5, true, 0, 0, 0, [], []⟩) 25 (0, 0)))
          clear hb
          go_wp2_with fail
          refine (HC.out _).mono ?_
          rintro r v7 ⟨v, rfl, hown, hb⟩
          obtain ⟨g, cap, rfl⟩ := owns_succ (k := 26) hown
          have hcell := owns_ints hown rfl
          have c0 := hcell 0 (by decide)
          have c26 := hcell 26 (by decide)
          have HB7' := Lib.hid (HB6'.out.trans (hb.mono HB6'.out.size))
          have hld := load_msgA (A := Ms.cs ⟨24, ⟨false, 0, false, false, false, 0⟩, 0, 0, 5, true, 0, 0, 0, [], []⟩) rfl (HX.out.below hb HX.out.lt)
          clear hcell hown hb hst
          unfold Ms.cs at hld
          go_upto_region 24 with fail
          (try dsimp only [List.append])
          go_wp2_with fail
          refine HQ1.out _ _ _ ?_
          go_ret
          exact ⟨rfl, HB7'.out⟩
end Go.Proofs.YtbacnaplpfmpnaaDoor
