/- polyglotref22: Read. -/
import Derived.Test.YtbacnaplpfmpnaaGreatDoorRfU
import Derived.Test.YtbacnaplpfmpnaaGreatDoorRfN
import Derived.Deep.RegionWith
namespace Go.Proofs.YtbacnaplpfmpnaaGreatDoor
open Go Go.RowKit Go.Shelf
set_option linter.unusedVariables false
set_option linter.unusedSimpArgs false
attribute [local go_sem ↓] Go.wp_at_zero Go.wp_at_succ load_Msg store_Msg
attribute [local irreducible] rowSem rowStore

def QReadIs (t : List UInt8) (x : Ms × Int × Int) : Prop := ∀ w : World, Calls Tryz.prog 13 #[.string ⟨t.toArray⟩] w fun r w' => r = .returned (.tuple #[.agg x.1.cs, .int .i64 x.2.1, .int .i64 x.2.2]) ∧ Below w.heap.size w w'
set_option maxRecDepth 100000 in
set_option maxHeartbeats 3200000 in
theorem qread_err (t : List UInt8) (ht : (t.length : Int) ≤ 4611686018427380000) (he : (snR t).2.2.2 ≠ 0) : QReadIs t (ms0, 0, (snR t).2.2.2) := by
  intro w
  have H1 := Lib.hid (fun w => rsnread_any t ht w)
  obtain ⟨⟨k, h, l, e⟩, hs⟩ : ∃ x, x = snR t := ⟨_, rfl⟩
  rw [← hs] at H1 he ⊢
  have de : (e != 0) = true := by simpa using he
  clear hs he
  have O1 := Obj?.new w #[.int .i64 0, .bool false, .int .i64 0, .bool false, .bool false, .bool false, .int .i64 0, .int .i64 0, .int .i64 0, .int .i64 0, .bool false, .int .i64 0, .int .i64 0, .int .i64 0, .string ⟨#[]⟩, .string ⟨#[]⟩] 25
  have hst1 := store_zero O1 rfl
  have HO := Lib.hid (And.intro O1 (below_al (Below.refl _ w) (.cells #[.int .i64 0, .bool false, .int .i64 0, .bool false, .bool false, .bool false, .int .i64 0, .int .i64 0, .int .i64 0, .int .i64 0, .bool false, .int .i64 0, .int .i64 0, .int .i64 0, .string ⟨#[]⟩, .string ⟨#[]⟩] 25 (0, 0))))
  clear O1
  go_enter Tryz.func13, Tryz.ntmps13
  go_wp2_with fail
  refine (H1.out _).mono ?_
  rintro r w1 ⟨rfl, rfl⟩
  go_wp2
  (try simp only [Exit.inBlock, Exit.then])
  refine bodyPost_ret (results_row_tmp2 rfl _ _ _ _ _ _ rfl (HO.out.1.setRow _) Tryz.underlying25 rfl infoMs) rfl ?_
  exact ⟨rfl, below_row HO.out.2 (Nat.le_refl _) _⟩
set_option maxRecDepth 100000 in
set_option maxHeartbeats 3200000 in
theorem qread_enc (t : List UInt8) (ht : (t.length : Int) ≤ 4611686018427380000) (he : (snR t).2.2.2 = 0) (hk : (snR t).1 = 254) : QReadIs t (ms0, 0, 8) := by
  intro w
  have H1 := Lib.hid (fun w => rsnread_any t ht w)
  obtain ⟨⟨k, h, l, e⟩, hs⟩ : ∃ x, x = snR t := ⟨_, rfl⟩
  rw [← hs] at H1 he hk
  simp only at he hk
  subst he hk
  clear hs
  have O1 := Obj?.new w #[.int .i64 0, .bool false, .int .i64 0, .bool false, .bool false, .bool false, .int .i64 0, .int .i64 0, .int .i64 0, .int .i64 0, .bool false, .int .i64 0, .int .i64 0, .int .i64 0, .string ⟨#[]⟩, .string ⟨#[]⟩] 25
  have hst1 := store_zero O1 rfl
  have HO := Lib.hid (And.intro O1 (below_al (Below.refl _ w) (.cells #[.int .i64 0, .bool false, .int .i64 0, .bool false, .bool false, .bool false, .int .i64 0, .int .i64 0, .int .i64 0, .int .i64 0, .bool false, .int .i64 0, .int .i64 0, .int .i64 0, .string ⟨#[]⟩, .string ⟨#[]⟩] 25 (0, 0))))
  clear O1
  go_enter Tryz.func13, Tryz.ntmps13
  go_wp2_with fail
  refine (H1.out _).mono ?_
  rintro r w1 ⟨rfl, rfl⟩
  go_wp2
  (try simp only [Exit.inBlock, Exit.then])
  refine bodyPost_ret (results_row_tmp2 rfl _ _ _ _ _ _ rfl (HO.out.1.setRow _) Tryz.underlying25 rfl infoMs) rfl ?_
  exact ⟨rfl, below_row HO.out.2 (Nat.le_refl _) _⟩
set_option maxRecDepth 100000 in
set_option maxHeartbeats 3200000 in
theorem qread_short (t : List UInt8) (ht : (t.length : Int) ≤ 4611686018427380000) (he : (snR t).2.2.2 = 0) (hk : (snR t).1 ≠ 254) (hl : (t.length : Int) < (snR t).2.2.1) : QReadIs t (ms0, 0, 3) := by
  intro w
  have H1 := Lib.hid (fun w => rsnread_any t ht w)
  obtain ⟨⟨k, h, l, e⟩, hs⟩ : ∃ x, x = snR t := ⟨_, rfl⟩
  rw [← hs] at H1 he hk hl
  simp only at he hk hl
  subst he
  have dk : (k == 254) = false := by simpa using hk
  clear hs hk
  have O1 := Obj?.new w #[.int .i64 0, .bool false, .int .i64 0, .bool false, .bool false, .bool false, .int .i64 0, .int .i64 0, .int .i64 0, .int .i64 0, .bool false, .int .i64 0, .int .i64 0, .int .i64 0, .string ⟨#[]⟩, .string ⟨#[]⟩] 25
  have hst1 := store_zero O1 rfl
  have HO := Lib.hid (And.intro O1 (below_al (Below.refl _ w) (.cells #[.int .i64 0, .bool false, .int .i64 0, .bool false, .bool false, .bool false, .int .i64 0, .int .i64 0, .int .i64 0, .int .i64 0, .bool false, .int .i64 0, .int .i64 0, .int .i64 0, .string ⟨#[]⟩, .string ⟨#[]⟩] 25 (0, 0))))
  clear O1
  go_enter Tryz.func13, Tryz.ntmps13
  go_wp2_with fail
  refine (H1.out _).mono ?_
  rintro r w1 ⟨rfl, rfl⟩
  go_wp2
  (try simp only [Exit.inBlock, Exit.then])
  refine bodyPost_ret (results_row_tmp2 rfl _ _ _ _ _ _ rfl (HO.out.1.setRow _) Tryz.underlying25 rfl infoMs) rfl ?_
  exact ⟨rfl, below_row HO.out.2 (Nat.le_refl _) _⟩
/-- Where the loop stands. -/
def LoopAt (k : Int) (LR : Ms × List UInt8 × Int) (l : List Int) (j : Nat) (m : Ms) (x : List UInt8) (E : Int) : Prop :=
  ((E = 0 ∧ LR = loopR k (l.drop j) m x) ∨ (E ≠ 0 ∧ LR = (m, x, E))) ∧ x.length ≤ 65535 ∧ m.name.length ≤ 65535 ∧ m.data.length ≤ 65535
theorem readR_small {m : Ms} {p : Int} {b : List UInt8} (h1 : m.name.length ≤ 65535) (h2 : m.data.length ≤ 65535) (hb : b.length ≤ 65535) : (readR m p b).1.name.length ≤ 65535 ∧ (readR m p b).1.data.length ≤ 65535 := by
  unfold readR
  repeat' split
  all_goals exact ⟨by first | exact h1 | exact hb, by first | exact h2 | exact hb⟩
theorem LoopAt.step {k : Int} {LR : Ms × List UInt8 × Int} {l : List Int} {j : Nat} {m : Ms} {x : List UInt8} (h : LoopAt k LR l j m x 0) (hj : j < l.length) (hs : stopR k l[j] x = false) :
    LoopAt k LR l (j + 1) (readR m l[j] (x.take (wOf l[j] x))).1 (x.drop (wOf l[j] x)) (readR m l[j] (x.take (wOf l[j] x))).2 := by
  obtain ⟨h1, h2, h3, h4⟩ := h
  have h5 := readR_small (p := l[j]) (b := x.take (wOf l[j] x)) h3 h4 (by simp; omega)
  refine ⟨?_, by simp; omega, h5.1, h5.2⟩
  have e := (h1.resolve_right (fun h => h.1 rfl)).2
  rw [List.drop_eq_getElem_cons hj, loopR, if_neg (by rw [hs]; decide)] at e
  by_cases hz : (readR m l[j] (x.take (wOf l[j] x))).2 = 0
  · rw [if_neg (by rw [hz]; simp)] at e
    exact .inl ⟨hz, e⟩
  · rw [if_pos hz] at e
    exact .inr ⟨hz, e⟩
theorem LoopAt.stop {k : Int} {LR : Ms × List UInt8 × Int} {l : List Int} {j : Nat} {m : Ms} {x : List UInt8} (h : LoopAt k LR l j m x 0) (hj : j < l.length) (hs : stopR k l[j] x = true) : endR LR = 5 := by
  have e := (h.1.resolve_right (fun h => h.1 rfl)).2
  rw [List.drop_eq_getElem_cons hj, loopR, if_pos hs] at e
  rw [e]; rfl
theorem LoopAt.fin {k : Int} {LR : Ms × List UInt8 × Int} {l : List Int} {m : Ms} {x : List UInt8} {E : Int} (h : LoopAt k LR l l.length m x E) : LR = (m, x, E) := by
  rcases h.1 with ⟨h1, h2⟩ | ⟨h1, h2⟩
  · rw [List.drop_length] at h2; rw [h2, h1]; rfl
  · exact h2
theorem LoopAt.bad {k : Int} {LR : Ms × List UInt8 × Int} {l : List Int} {j : Nat} {m : Ms} {x : List UInt8} {E : Int} (h : LoopAt k LR l j m x E) (hE : E ≠ 0) : LR = (m, x, E) := (h.1.resolve_left (fun h => hE h.1)).2
/-- What is answered, of what the loop leaves. -/
def ansR (LR : Ms × List UInt8 × Int) (l : Int) : Ms × Int × Int := if endR LR = 0 then (LR.1, l, 0) else (ms0, 0, endR LR)
def runR (k : Int) (u : List UInt8) : Ms × List UInt8 × Int := if (layR k u).2.2 ≠ 0 then ((layR k u).1, u, (layR k u).2.2) else loopR k (layR k u).2.1 (layR k u).1 u
theorem kindR_run (k : Int) (u : List UInt8) : (kindR k u).2 = endR (runR k u) ∧ ((kindR k u).2 = 0 → (kindR k u).1 = (runR k u).1) := by
  unfold kindR runR
  by_cases h : (layR k u).2.2 ≠ 0
  · rw [if_pos h, if_pos h]
    refine ⟨?_, fun h0 => (h h0).elim⟩
    unfold endR; rw [if_pos h]
  · rw [if_neg h, if_neg h]
    exact ⟨rfl, fun _ => rfl⟩
theorem lay_small {k : Int} {u : List UInt8} : (layR k u).1.name.length ≤ 65535 ∧ (layR k u).1.data.length ≤ 65535 := by
  have h0 : (lay0 k u).name.length ≤ 65535 ∧ (lay0 k u).data.length ≤ 65535 := by
    unfold lay0; refine ⟨?_, by simp [Ms.bare]⟩
    simp only; split <;> simp
  unfold layR
  repeat' split
  all_goals exact h0
theorem lay_parts {k : Int} {u : List UInt8} : ∀ p ∈ (layR k u).2.1, p = 1 ∨ p = 2 ∨ p = 3 ∨ p = 4 ∨ p = 5 ∨ p = 6 ∨ p = 7 ∨ p = 8 ∨ p = 9 ∨ p = 10 := by
  unfold layR
  repeat' split
  all_goals first | exact fun p h => mem_parts h | (intro p h; simp at h)
set_option maxRecDepth 100000 in
set_option maxHeartbeats 6400000 in
theorem qread_go (t : List UInt8) (ht : (t.length : Int) ≤ 4611686018427380000) (k : Int) (h l : Nat) (hs : snR t = (k, (h : Int), (l : Int), 0)) (hk : kindM k = true) (hhl : h ≤ l) (hl65 : l ≤ 65535) (hlt : l ≤ t.length) : QReadIs t (ansR (runR k (bodyL t h l)) l) := by
  intro w
  have dk : (k == 254) = false := by
    have := kinds_of hk
    simp; omega
  have H1 := Lib.hid (fun w => rsnread_any t ht w)
  rw [hs] at H1
  have hex := extract_body t h l
  have hul : (bodyL t h l).length ≤ 65535 := by unfold bodyL; simp; omega
  obtain ⟨u, hu⟩ : ∃ u, u = bodyL t h l := ⟨_, rfl⟩
  rw [← hu] at hex hul ⊢
  clear hu hs
  have HL := Lib.hid (fun w => rlayout_any k hk u w)
  have HAT : Hid (LoopAt k (runR k u) (layR k u).2.1 0 (layR k u).1 u (layR k u).2.2) := by
    refine Lib.hid ⟨?_, hul, lay_small.1, lay_small.2⟩
    unfold runR
    by_cases h0 : (layR k u).2.2 ≠ 0
    · rw [if_pos h0]; exact .inr ⟨h0, rfl⟩
    · rw [if_neg h0]; exact .inl ⟨Decidable.not_not.1 h0, rfl⟩
  have HPP := Lib.hid (lay_parts (k := k) (u := u))
  obtain ⟨LR, hLR⟩ : ∃ LR, LR = runR k u := ⟨_, rfl⟩
  obtain ⟨⟨m0, L, E0⟩, hlay⟩ : ∃ x, x = layR k u := ⟨_, rfl⟩
  rw [← hlay] at HL HAT HPP
  rw [← hLR] at HAT ⊢
  simp only at HAT HPP
  unfold LaySaid Ms.cs at HL
  simp only at HL
  clear hLR hlay hul
  have HK := Lib.hid hk
  have O1 := Obj?.new w #[.int .i64 0, .bool false, .int .i64 0, .bool false, .bool false, .bool false, .int .i64 0, .int .i64 0, .int .i64 0, .int .i64 0, .bool false, .int .i64 0, .int .i64 0, .int .i64 0, .string ⟨#[]⟩, .string ⟨#[]⟩] 25
  have HO := Lib.hid (And.intro O1 (below_al (Below.refl _ w) (.cells #[.int .i64 0, .bool false, .int .i64 0, .bool false, .bool false, .bool false, .int .i64 0, .int .i64 0, .int .i64 0, .int .i64 0, .bool false, .int .i64 0, .int .i64 0, .int .i64 0, .string ⟨#[]⟩, .string ⟨#[]⟩] 25 (0, 0))))
  clear O1 hk
  have d1 : ¬ (t.length : Int) < l := by omega
  have d2 : (h : Int) ≤ l := by omega
  have d3 : (l : Int) ≤ t.length := by omega
  go_enter Tryz.func13, Tryz.ntmps13
  refine wp_hide fun Q1 hQ1 => ?_
  have HQ1 := Lib.hid hQ1
  clear hQ1
  go_wp2_with fail
  refine (H1.out _).mono ?_
  rintro r w1 ⟨rfl, rfl⟩
  go_wp2_with fail
  refine (HL.out _).mono ?_
  rintro r w2 ⟨v, rfl, hI, hb⟩
  have hst := store_new w2 m0
  have HI := Lib.hid hI
  have HO2 := Lib.hid (And.intro (HO.out.1.below hb HO.out.1.lt) (HO.out.2.trans (hb.mono HO.out.2.size)))
  obtain ⟨a, cap, rfl, hln, -⟩ := hI
  obtain ⟨n, hN⟩ : ∃ n, n = L.length := ⟨_, rfl⟩
  rw [← hN] at HI hln ⊢
  have HN := Lib.hid hN
  have HNW := Lib.hid (Obj?.new w2 m0.cs 25)
  have HB2 := Lib.hid (below_al (Below.refl _ w2) (.cells m0.cs 25 (0, 0)))
  unfold Ms.cs at hst HNW HB2
  clear hb hN hex
  go_wp2
  go_loopw [8, 9, 12, 13] (fun e x i _ wr => ∃ (j : Nat) (m : Ms) (X : List UInt8) (E : Int), j ≤ n ∧ i = .int .i64 j ∧ x = .string ⟨X.toArray⟩ ∧ e = .int .i64 E ∧ Hid (LoopAt k LR L j m X E ∧ Obj? wr w2.heap.size m.cs 25 ∧ Below w2.heap.size w2 wr)) (fun _ _ i _ _ => n - (intOf i).toNat)
  case atStart => exact ⟨0, m0, u, E0, Nat.zero_le _, rfl, rfl, rfl, Lib.hid ⟨HAT.out, HNW.out, HB2.out⟩⟩
  case round =>
    obtain ⟨j, m, X, E, hj, rfl, rfl, rfl, HV⟩ := hrel
    clear hst
    have hX : X.length ≤ 65535 := HV.out.1.2.1
    by_cases hlt : j < n
    · by_cases hE : E = 0
      · subst hE
        have hjl : j < L.length := by rw [← HN.out]; exact hlt
        obtain ⟨b, off, rfl, hbl, kc⟩ := intat_cell (HI.out.below HV.out.2.2) j hjl
        have hpp := HPP.out L[j] (List.getElem_mem hjl)
        have HST := Lib.hid (HV.out.1.step hjl)
        have HSP := Lib.hid (HV.out.1.stop hjl)
        obtain ⟨p, hp⟩ : ∃ p, p = L[j] := ⟨_, rfl⟩
        rw [← hp] at kc hpp HST HSP
        clear hp
        have dj : decide ((j : Int) < n) = true := decide_eq_true (by omega)
        have hji : (j : Int) < n := by omega
        have OB := HV.out.2.1
        have hldm := load_msg (m := m) OB
        have hldm2 := load_msg (m := m) (show Obj? wr.drew w2.heap.size m.cs 25 from OB)
        by_cases hw : 0 < widthR p
        · have h9 : p ≠ 9 := by rintro rfl; revert hw; decide
          have d9 : (p == 9) = false := by simpa using h9
          obtain ⟨W, hW⟩ : ∃ W : Nat, (W : Int) = widthR p := ⟨(widthR p).toNat, by omega⟩
          have hWo : wOf p X = W := by unfold wOf; rw [if_neg (by omega), ← hW]; rfl
          have hW2 : W ≤ 2 := by unfold widthR at hW; split at hW; omega; split at hW <;> omega
          have hW1 : 1 ≤ W := by omega
          have HWI := Lib.hid (rwidth_any p)
          rw [← hW] at HWI
          have dW : ¬ (W : Int) < 0 := by omega
          by_cases hS : X.length < W
          · have hsp := HSP.out (by unfold stopR; rw [hWo]; simp [hS])
            have HA := Lib.hid (show ansR LR l = (ms0, 0, 5) by unfold ansR; rw [hsp]; rfl)
            have OR := HO2.out.1.below HV.out.2.2 HO2.out.1.lt
            have hst := store_zero OR rfl
            have HF := Lib.hid (And.intro (OR.setRow #[.int .i64 0, .bool false, .int .i64 0, .bool false, .bool false, .bool false, .int .i64 0, .int .i64 0, .int .i64 0, .int .i64 0, .bool false, .int .i64 0, .int .i64 0, .int .i64 0, .string ⟨#[]⟩, .string ⟨#[]⟩]) (below_row (HO2.out.2.trans (HV.out.2.2.mono HO2.out.2.size)) (Nat.le_refl _) #[.int .i64 0, .bool false, .int .i64 0, .bool false, .bool false, .bool false, .int .i64 0, .int .i64 0, .int .i64 0, .int .i64 0, .bool false, .int .i64 0, .int .i64 0, .int .i64 0, .string ⟨#[]⟩, .string ⟨#[]⟩]))
            have dS : (X.length : Int) < W := by omega
            clear OR OB hW hWo hsp h9 hw hpp hldm2
            go_wp2_with fail
            refine (HWI.out _).mono ?_
            rintro r w3 ⟨rfl, rfl⟩
            go_wp2
            refine HQ1.out _ _ _ ?_
            (try simp only [Exit.inBlock, Exit.then])
            refine bodyPost_ret (results_row_tmp2 rfl _ _ _ _ _ _ rfl HF.out.1 Tryz.underlying25 rfl infoMs) rfl ?_
            exact ⟨by rw [HA.out]; rfl, HF.out.2⟩
          · have hns : stopR k p X = false := by unfold stopR; rw [hWo, decide_eq_false hS, decide_eq_false h9]; rfl
            have hstep := HST.out hns
            rw [hWo] at hstep
            have HRd := Lib.hid (fun w => rread_any m p hpp (X.take W) (fun _ => by simp; omega) w)
            obtain ⟨⟨m1, E1⟩, hR⟩ : ∃ x, x = readR m p (X.take W) := ⟨_, rfl⟩
            rw [← hR] at hstep HRd
            unfold PartRead at HRd
            simp only at HRd hstep
            have HN2 := Lib.hid hstep
            have hcut : (ByteArray.mk X.toArray).extract 0 W = ByteArray.mk (X.take W).toArray := by rw [ByteArray.extract_mk]; simp
            have hcut2 : (ByteArray.mk X.toArray).extract W X.length = ByteArray.mk (X.drop W).toArray := by
              rw [ByteArray.extract_mk]; simp; exact List.take_of_length_le (by simp)
            have dS : ¬ (X.length : Int) < W := by omega
            have dS2 : (W : Int) ≤ X.length := by omega
            have HOB := Lib.hid OB
            clear OB hW hWo hns h9 hw hpp hR hstep hS hldm
            go_wp2_with fail
            refine (HWI.out _).mono ?_
            rintro r w3 ⟨rfl, rfl⟩
            unfold Ms.cs at HRd
            go_upto_region 18 with fail
            go_region_with ((go_at_call 56; ((with_reducible refine (HRd.out _).mono ?_); (rintro r w4 ⟨rfl, hb⟩; have OB4 := (show Obj? wr.drew w2.heap.size m.cs 25 from HOB.out).below hb (show Obj? wr.drew w2.heap.size m.cs 25 from HOB.out).lt; have hst := store_msg m1 OB4 rfl; have HOK := Lib.hid (And.intro (OB4.setRow m1.cs) (below_row ((show Below w2.heap.size w2 wr.drew from below_drewM HV.out.2.2).trans (hb.mono (show Below w2.heap.size w2 wr.drew from below_drewM HV.out.2.2).size)) (Nat.le_refl _) m1.cs)); clear OB4 hb; unfold Ms.cs at hst))))
            all_goals
              unfold Ms.cs at HOK
              go_wp2
              go_roundw
              case rel => exact ⟨j + 1, m1, X.drop W, E1, by omega, by go_num, rfl, rfl, Lib.hid ⟨HN2.out, HOK.out.1, HOK.out.2⟩⟩
              case measure => simp [intOf]; omega
        · have hp9 : p = 9 ∨ p = 10 := by
            rcases hpp with h | h | h | h | h | h | h | h | h | h
            all_goals first | exact .inl h | exact .inr h | (subst h; exact (hw (by decide)).elim)
          have hwm : widthR p = -1 := by rcases hp9 with rfl | rfl <;> rfl
          have hWo : wOf p X = X.length := by unfold wOf; rw [hwm]; rfl
          have HWI := Lib.hid (rwidth_any p)
          rw [hwm] at HWI
          by_cases hS : p = 9 ∧ X = [] ∧ willB k = true
          · obtain ⟨rfl, rfl, hwk⟩ := hS
            have hsp := HSP.out (by unfold stopR; rw [hwk]; rfl)
            have HA := Lib.hid (show ansR LR l = (ms0, 0, 5) by unfold ansR; rw [hsp]; rfl)
            have OR := HO2.out.1.below HV.out.2.2 HO2.out.1.lt
            have hst := store_zero OR rfl
            have HF := Lib.hid (And.intro (OR.setRow #[.int .i64 0, .bool false, .int .i64 0, .bool false, .bool false, .bool false, .int .i64 0, .int .i64 0, .int .i64 0, .int .i64 0, .bool false, .int .i64 0, .int .i64 0, .int .i64 0, .string ⟨#[]⟩, .string ⟨#[]⟩]) (below_row (HO2.out.2.trans (HV.out.2.2.mono HO2.out.2.size)) (Nat.le_refl _) #[.int .i64 0, .bool false, .int .i64 0, .bool false, .bool false, .bool false, .int .i64 0, .int .i64 0, .int .i64 0, .int .i64 0, .bool false, .int .i64 0, .int .i64 0, .int .i64 0, .string ⟨#[]⟩, .string ⟨#[]⟩]))
            have hk7 : k = 7 ∨ k = 26 := by unfold willB at hwk; simpa using hwk
            clear OR OB hWo hsp hw hwm hp9 hpp hldm2 hwk
            rcases hk7 with rfl | rfl
            all_goals
              go_wp2_with fail
              refine (HWI.out _).mono ?_
              rintro r w3 ⟨rfl, rfl⟩
              go_wp2
              refine HQ1.out _ _ _ ?_
              (try simp only [Exit.inBlock, Exit.then])
              refine bodyPost_ret (results_row_tmp2 rfl _ _ _ _ _ _ rfl HF.out.1 Tryz.underlying25 rfl infoMs) rfl ?_
              exact ⟨by rw [HA.out]; rfl, HF.out.2⟩
          · have hns : stopR k p X = false := by
              unfold stopR
              rw [hWo, decide_eq_false (Nat.lt_irrefl _), Bool.false_or]
              by_cases h1 : p = 9
              · by_cases h2 : X = []
                · cases h3 : willB k with
                  | true => exact (hS ⟨h1, h2, h3⟩).elim
                  | false => simp
                · cases X with
                  | nil => exact (h2 rfl).elim
                  | cons _ _ => simp
              · rw [decide_eq_false h1]; rfl
            have hstep := HST.out hns
            rw [hWo, List.take_length, List.drop_length] at hstep
            have HRd := Lib.hid (fun w => rread_any m p hpp X (fun h => (hw h).elim) w)
            obtain ⟨⟨m1, E1⟩, hR⟩ : ∃ x, x = readR m p X := ⟨_, rfl⟩
            rw [← hR] at hstep HRd
            unfold PartRead at HRd
            simp only at HRd hstep
            have HN2 := Lib.hid hstep
            have hcut : (ByteArray.mk X.toArray).extract 0 X.length = ByteArray.mk X.toArray := by rw [ByteArray.extract_mk]; simp
            have hcut2 : (ByteArray.mk X.toArray).extract X.length X.length = ByteArray.mk #[] := by rw [ByteArray.extract_mk]; simp
            have HOB := Lib.hid OB
            have hway : p = 10 ∨ (p = 9 ∧ X ≠ []) ∨ (p = 9 ∧ X = [] ∧ k ≠ 7 ∧ k ≠ 26) := by
              rcases hp9 with h | h
              · by_cases h2 : X = []
                · refine .inr (.inr ⟨h, h2, ?_⟩)
                  constructor <;> (rintro rfl; exact hS ⟨h, h2, rfl⟩)
                · exact .inr (.inl ⟨h, h2⟩)
              · exact .inl h
            clear OB hWo hns hw hwm hp9 hpp hR hstep hS hldm
            unfold Ms.cs at HRd
            rcases hway with rfl | ⟨rfl, hx⟩ | ⟨rfl, rfl, h7, h26⟩
            case' inr.inl => have d4 : X.isEmpty = false := (by cases X with | nil => exact (hx rfl).elim | cons _ _ => rfl); have d5 : (X == []) = false := (by simpa using hx); clear hx
            case' inr.inr => have d4 : (k == 7) = false := (by simpa using h7); have d5 : (k == 26) = false := (by simpa using h26); have hemp : (ByteArray.mk ([] : List UInt8).toArray) = ByteArray.empty := rfl; rw [hemp] at HRd; clear h7 h26 hemp
            all_goals
              go_wp2_with fail
              refine (HWI.out _).mono ?_
              rintro r w3 ⟨rfl, rfl⟩
              go_upto_region 18 with fail
              go_region_with ((go_at_call 56; ((with_reducible refine (HRd.out _).mono ?_); (rintro r w4 ⟨rfl, hb⟩; have OB4 := (show Obj? wr.drew w2.heap.size m.cs 25 from HOB.out).below hb (show Obj? wr.drew w2.heap.size m.cs 25 from HOB.out).lt; have hst := store_msg m1 OB4 rfl; have HOK := Lib.hid (And.intro (OB4.setRow m1.cs) (below_row ((show Below w2.heap.size w2 wr.drew from below_drewM HV.out.2.2).trans (hb.mono (show Below w2.heap.size w2 wr.drew from below_drewM HV.out.2.2).size)) (Nat.le_refl _) m1.cs)); clear OB4 hb; unfold Ms.cs at hst))))
              all_goals
                unfold Ms.cs at HOK
                go_wp2
                go_roundw
                case rel => exact ⟨j + 1, m1, [], E1, by omega, by go_num, rfl, rfl, Lib.hid ⟨HN2.out, HOK.out.1, HOK.out.2⟩⟩
                case measure => simp [intOf]; omega
      · have HBD := Lib.hid (HV.out.1.bad hE)
        have HE := Lib.hid (show endR LR = E by rw [HBD.out]; unfold endR; rw [if_pos hE])
        have HA := Lib.hid (show ansR LR l = (ms0, 0, E) by unfold ansR; rw [HE.out, if_neg hE])
        have dE : (E == 0) = false := by simpa using hE
        have dE2 : (E != 0) = true := by simpa using hE
        have dj : decide ((j : Int) < n) = true := decide_eq_true (by omega)
        have hji : (j : Int) < n := by omega
        have OR := HO2.out.1.below HV.out.2.2 HO2.out.1.lt
        have hst := store_zero OR rfl
        have HF := Lib.hid (And.intro (OR.setRow #[.int .i64 0, .bool false, .int .i64 0, .bool false, .bool false, .bool false, .int .i64 0, .int .i64 0, .int .i64 0, .int .i64 0, .bool false, .int .i64 0, .int .i64 0, .int .i64 0, .string ⟨#[]⟩, .string ⟨#[]⟩]) (below_row (HO2.out.2.trans (HV.out.2.2.mono HO2.out.2.size)) (Nat.le_refl _) #[.int .i64 0, .bool false, .int .i64 0, .bool false, .bool false, .bool false, .int .i64 0, .int .i64 0, .int .i64 0, .int .i64 0, .bool false, .int .i64 0, .int .i64 0, .int .i64 0, .string ⟨#[]⟩, .string ⟨#[]⟩]))
        clear OR hE
        go_wp2
        refine HQ1.out _ _ _ ?_
        (try simp only [Exit.inBlock, Exit.then])
        refine bodyPost_ret (results_row_tmp2 rfl _ _ _ _ _ _ rfl HF.out.1 Tryz.underlying25 rfl infoMs) rfl ?_
        exact ⟨by rw [HA.out]; rfl, HF.out.2⟩
    · obtain rfl : j = n := by omega
      have hfin := (by have := HV.out.1; rw [HN.out] at this; exact this.fin : LR = (m, X, E))
      have OR := HO2.out.1.below HV.out.2.2 HO2.out.1.lt
      have hnj : ¬ ((j : Int) < j) := by omega
      by_cases hE : E = 0
      · subst hE
        by_cases hx : X = []
        · subst hx
          have HE := Lib.hid (show endR LR = checkM m by rw [hfin]; rfl)
          have HC := Lib.hid (fun w => rcheck_any m (by have := HV.out.1.2.2.1; omega) (by have := HV.out.1.2.2.2; omega) w)
          have hldm := load_msg (m := m) HV.out.2.1
          have HFN := Lib.hid hfin
          have HRs := Lib.hid OR
          clear OR hfin
          unfold Ms.cs at HC
          by_cases hc : checkM m = 0
          · have HA := Lib.hid (show ansR LR l = (m, (l : Int), 0) by unfold ansR; rw [HE.out, if_pos hc, HFN.out])
            rw [hc] at HC
            clear hc
            go_wp2_with fail
            refine (HC.out _).mono ?_
            rintro r w3 ⟨rfl, hb⟩
            have OB3 := HV.out.2.1.below hb HV.out.2.1.lt
            have OR3 := HRs.out.below hb HRs.out.lt
            have hldm3 := load_msg (m := m) OB3
            have hst := store_msg m OR3 rfl
            have HF := Lib.hid (And.intro (OR3.setRow m.cs) (below_row ((HO2.out.2.trans (HV.out.2.2.mono HO2.out.2.size)).trans (hb.mono (HO2.out.2.trans (HV.out.2.2.mono HO2.out.2.size)).size)) (Nat.le_refl _) m.cs))
            clear OB3 OR3 hb hldm
            unfold Ms.cs at hst HF
            go_wp2
            refine HQ1.out _ _ _ ?_
            (try simp only [Exit.inBlock, Exit.then])
            refine bodyPost_ret (results_row_tmp2 rfl _ _ _ _ _ _ rfl HF.out.1 Tryz.underlying25 rfl infoMs) rfl ?_
            exact ⟨by rw [HA.out]; rfl, HF.out.2⟩
          · have HA := Lib.hid (show ansR LR l = (ms0, 0, checkM m) by unfold ansR; rw [HE.out, if_neg hc])
            obtain ⟨c, hcc⟩ : ∃ c, c = checkM m := ⟨_, rfl⟩
            rw [← hcc] at HC HA hc
            have dc : (c == 0) = false := by simpa using hc
            have dc2 : (c != 0) = true := by simpa using hc
            clear hc hcc HE
            go_wp2_with fail
            refine (HC.out _).mono ?_
            rintro r w3 ⟨rfl, hb⟩
            have OR3 := HRs.out.below hb HRs.out.lt
            have hst := store_zero OR3 rfl
            have HF := Lib.hid (And.intro (OR3.setRow #[.int .i64 0, .bool false, .int .i64 0, .bool false, .bool false, .bool false, .int .i64 0, .int .i64 0, .int .i64 0, .int .i64 0, .bool false, .int .i64 0, .int .i64 0, .int .i64 0, .string ⟨#[]⟩, .string ⟨#[]⟩]) (below_row ((HO2.out.2.trans (HV.out.2.2.mono HO2.out.2.size)).trans (hb.mono (HO2.out.2.trans (HV.out.2.2.mono HO2.out.2.size)).size)) (Nat.le_refl _) #[.int .i64 0, .bool false, .int .i64 0, .bool false, .bool false, .bool false, .int .i64 0, .int .i64 0, .int .i64 0, .int .i64 0, .bool false, .int .i64 0, .int .i64 0, .int .i64 0, .string ⟨#[]⟩, .string ⟨#[]⟩]))
            clear OR3 hb hldm
            go_wp2
            refine HQ1.out _ _ _ ?_
            (try simp only [Exit.inBlock, Exit.then])
            refine bodyPost_ret (results_row_tmp2 rfl _ _ _ _ _ _ rfl HF.out.1 Tryz.underlying25 rfl infoMs) rfl ?_
            exact ⟨by rw [HA.out]; rfl, HF.out.2⟩
        · have HE := Lib.hid (show endR LR = 5 by
            rw [hfin]; unfold endR; simp only
            rw [if_neg (by simp), if_pos (by cases X with | nil => exact (hx rfl).elim | cons _ _ => rfl)])
          have HA := Lib.hid (show ansR LR l = (ms0, 0, 5) by unfold ansR; rw [HE.out]; rfl)
          have d4 : X.isEmpty = false := by cases X with | nil => exact (hx rfl).elim | cons _ _ => rfl
          have d5 : (X == []) = false := by simpa using hx
          have hst := store_zero OR rfl
          have HF := Lib.hid (And.intro (OR.setRow #[.int .i64 0, .bool false, .int .i64 0, .bool false, .bool false, .bool false, .int .i64 0, .int .i64 0, .int .i64 0, .int .i64 0, .bool false, .int .i64 0, .int .i64 0, .int .i64 0, .string ⟨#[]⟩, .string ⟨#[]⟩]) (below_row (HO2.out.2.trans (HV.out.2.2.mono HO2.out.2.size)) (Nat.le_refl _) #[.int .i64 0, .bool false, .int .i64 0, .bool false, .bool false, .bool false, .int .i64 0, .int .i64 0, .int .i64 0, .int .i64 0, .bool false, .int .i64 0, .int .i64 0, .int .i64 0, .string ⟨#[]⟩, .string ⟨#[]⟩]))
          clear OR hx hfin
          go_wp2
          refine HQ1.out _ _ _ ?_
          (try simp only [Exit.inBlock, Exit.then])
          refine bodyPost_ret (results_row_tmp2 rfl _ _ _ _ _ _ rfl HF.out.1 Tryz.underlying25 rfl infoMs) rfl ?_
          exact ⟨by rw [HA.out]; rfl, HF.out.2⟩
      · have HE := Lib.hid (show endR LR = E by rw [hfin]; unfold endR; rw [if_pos hE])
        have HA := Lib.hid (show ansR LR l = (ms0, 0, E) by unfold ansR; rw [HE.out, if_neg hE])
        have dE : (E == 0) = false := by simpa using hE
        have dE2 : (E != 0) = true := by simpa using hE
        have hst := store_zero OR rfl
        have HF := Lib.hid (And.intro (OR.setRow #[.int .i64 0, .bool false, .int .i64 0, .bool false, .bool false, .bool false, .int .i64 0, .int .i64 0, .int .i64 0, .int .i64 0, .bool false, .int .i64 0, .int .i64 0, .int .i64 0, .string ⟨#[]⟩, .string ⟨#[]⟩]) (below_row (HO2.out.2.trans (HV.out.2.2.mono HO2.out.2.size)) (Nat.le_refl _) #[.int .i64 0, .bool false, .int .i64 0, .bool false, .bool false, .bool false, .int .i64 0, .int .i64 0, .int .i64 0, .int .i64 0, .bool false, .int .i64 0, .int .i64 0, .int .i64 0, .string ⟨#[]⟩, .string ⟨#[]⟩]))
        clear OR hE hfin
        go_wp2
        refine HQ1.out _ _ _ ?_
        (try simp only [Exit.inBlock, Exit.then])
        refine bodyPost_ret (results_row_tmp2 rfl _ _ _ _ _ _ rfl HF.out.1 Tryz.underlying25 rfl infoMs) rfl ?_
        exact ⟨by rw [HA.out]; rfl, HF.out.2⟩
theorem qread_any (t : List UInt8) (ht : (t.length : Int) ≤ 4611686018427380000) : QReadIs t (readM t) := by
  have hkm : (snR t).2.2.2 = 0 → (snR t).1 ≠ 254 → kindM (snR t).1 = true := fun h0 h1 => by
    rcases snR_cases t with he | ⟨k, h, l, hs, hkn, -⟩
    · exact (he h0).elim
    · rw [hs] at h1 ⊢
      simp only at h1 ⊢
      rw [← msgB_kindM]
      unfold msgB
      rw [hkn]
      simpa using h1
  rw [← readQ_eq hkm]
  unfold readQ
  by_cases h1 : (snR t).2.2.2 ≠ 0
  · rw [if_pos h1]; exact qread_err t ht h1
  rw [if_neg h1]
  have h1' := Decidable.not_not.1 h1
  by_cases h2 : (snR t).1 = 254
  · rw [if_pos h2]; exact qread_enc t ht h1' h2
  rw [if_neg h2]
  by_cases h3 : (t.length : Int) < (snR t).2.2.1
  · rw [if_pos h3]; exact qread_short t ht h1' h2 h3
  rw [if_neg h3]
  have hk := hkm h1' h2
  rcases snR_cases t with he | ⟨k, h, l, hs, hkn, hhl, hl65, hht, hx⟩
  · exact (he h1').elim
  rw [hs] at hk h3 ⊢
  simp only at hk h3 ⊢
  have hg := qread_go t ht k h l hs hk hhl hl65 (by omega)
  obtain ⟨a, b⟩ := kindR_run k (bodyL t h l)
  have e : (if (kindR k (bodyL t ((h : Int)).toNat ((l : Int)).toNat)).2 = 0 then ((kindR k (bodyL t ((h : Int)).toNat ((l : Int)).toNat)).1, (l : Int), (0 : Int)) else (ms0, 0, (kindR k (bodyL t ((h : Int)).toNat ((l : Int)).toNat)).2)) = ansR (runR k (bodyL t h l)) l := by
    simp only [Int.toNat_natCast]
    unfold ansR
    rw [a]
    by_cases h0 : endR (runR k (bodyL t h l)) = 0
    · rw [if_pos h0, if_pos h0, b (by rw [a]; exact h0)]
    · rw [if_neg h0, if_neg h0]
  rw [e]
  exact hg
end Go.Proofs.YtbacnaplpfmpnaaGreatDoor
