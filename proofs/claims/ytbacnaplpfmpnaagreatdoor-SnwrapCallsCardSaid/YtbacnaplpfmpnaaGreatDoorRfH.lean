/- polyglotref04: Levels, Filter. polyglotref04: Filter. -/
import Derived.Test.YtbacnaplpfmpnaaGreatDoorRefT
import Derived.Test.YtbacnaplpfmpnaaGreatDoorLkC
import Derived.Deep.LoopGhost
import Derived.Deep.MidRow
namespace Go.Proofs.YtbacnaplpfmpnaaGreatDoor
open Go Go.RowKit
set_option linter.unusedVariables false
set_option linter.unusedSimpArgs false

theorem infoStr' : (Tryz.prog.info? 9).map (fun i => (i.zero, i.size, i.bytes)) = some (some (.string ByteArray.empty), 1, 16) := by kernel_rfl
def segsV (l : List (List UInt8)) : List Value := l.map fun s => Value.string ⟨s.toArray⟩
/-- Levels found so far: up to from; none ends between from and k. -/
def LevInv (t : List UInt8) (done : List (List UInt8)) (f k : Nat) : Prop := f ≤ k ∧ splitS t = done ++ splitS (t.drop f) ∧ noSlash ((t.take k).drop f) = true ∧ done.length ≤ f
theorem lev_go {t : List UInt8} {done : List (List UInt8)} {f k : Nat} (h : LevInv t done f k) (hk : k < t.length) (hc : t[k] ≠ 47) : LevInv t done f (k + 1) := by
  refine ⟨by have := h.1; omega, h.2.1, ?_, h.2.2.2⟩
  have e : (t.take (k + 1)).drop f = (t.take k).drop f ++ [t[k]] := by
    rw [List.take_succ_eq_append_getElem hk, List.drop_append_of_le_length (by rw [List.length_take]; have := h.1; omega)]
  rw [e]
  have h3 := h.2.2.1
  unfold noSlash at h3 ⊢
  rw [List.any_append]
  simp only [Bool.not_eq_true'] at h3 ⊢
  rw [h3]
  simp [hc]
theorem lev_cut {t : List UInt8} {done : List (List UInt8)} {f k : Nat} (h : LevInv t done f k) (hk : k < t.length) (hc : t[k] = 47) : LevInv t (done ++ [(t.take k).drop f]) (k + 1) (k + 1) := by
  obtain ⟨h1, h2, h3, h4⟩ := h
  have e : t.drop f = (t.take k).drop f ++ 47 :: t.drop (k + 1) := by
    have : t = t.take k ++ t[k] :: t.drop (k + 1) := by
      rw [← List.drop_eq_getElem_cons hk]; exact (List.take_append_drop k t).symm
    conv => lhs; rw [this]
    rw [List.drop_append_of_le_length (by rw [List.length_take]; omega), hc]
  refine ⟨Nat.le_refl _, ?_, ?_, by simp; omega⟩
  · rw [h2, e, splitS_app _ h3]
    simp
  · have : (t.take (k + 1)).drop (k + 1) = [] := by rw [List.drop_eq_nil_iff]; simp; omega
    rw [this]; rfl
theorem lev_end {t : List UInt8} {done : List (List UInt8)} {f : Nat} (h : LevInv t done f t.length) : splitS t = done ++ [t.drop f] := by
  obtain ⟨h1, h2, h3, h4⟩ := h
  rw [List.take_length] at h3
  rw [h2, splitS_one _ h3]
theorem own_block {w : World} {b : Nat} {ty : TypeId} {w1 : Nat} {v : Value} {n : Nat} {l : List Value} (h : w.ownsRow b ty w1 v n l) : ∀ j, v.ownBlock = some j → b ≤ j := by
  intro j ej
  rcases h.2 with ⟨e0, _⟩ | ⟨g, cap, cur, e0, hb, _⟩
  · rw [e0] at ej; simp [Value.ownBlock] at ej
  · rw [e0] at ej; have : g = j := by simpa [Value.ownBlock] using ej
    omega
set_option maxRecDepth 100000 in
set_option maxHeartbeats 1600000 in
theorem rlevels_any (t : List UInt8) (ht : t.length ≤ 1000000) (w : World) :
    Calls Tryz.prog 130 #[.string ⟨t.toArray⟩] w fun e w' => ∃ v, e = .returned v ∧ w'.ownsRow w.heap.size 9 1 v (splitS t).length (segsV (splitS t)) ∧ Below w.heap.size w w' := by
  obtain ⟨i0, hi, hz0, hz1, hz2⟩ := info_parts infoStr'
  obtain ⟨n, hN⟩ : ∃ n, n = t.length := ⟨_, rfl⟩
  have HN := Lib.hid hN
  have hn : n ≤ 1000000 := by omega
  clear ht
  go_enter Tryz.func130, Tryz.ntmps130
  go_wp2
  go_loopg [3, 4, 5] (n + 1) (fun g v fr i wr => ∃ (k f : Nat) (done : List (List UInt8)) (x : Value), g + k = n + 1 ∧ k ≤ n ∧ f ≤ k ∧ i = .int .i64 k ∧ fr = .int .i64 f ∧ v = x ∧ Hid (LevInv t done f k ∧ wr.ownsRow w.heap.size 9 1 x done.length (segsV done) ∧ Below w.heap.size w wr))
  case atStart => exact ⟨0, 0, [], _, by omega, by omega, by omega, rfl, rfl, rfl, Lib.hid ⟨⟨by omega, rfl, rfl, by simp⟩, World.ownsRow_nil _ _ _ _, Below.refl _ _⟩⟩
  case round =>
    obtain ⟨k, f, done, v, hgk, hkn, hfk, rfl, rfl, rfl, HI⟩ := hrel
    have HGK := Lib.hid hgk
    have hown := HI.out.2.1
    have hdl := HI.out.1.2.2.2
    have hob := own_block hown
    clear hgk
    by_cases hlt : k < n
    · have hk : k < t.length := by rw [← HN.out]; exact hlt
      have hx : (ByteArray.mk t.toArray)[k]'(by show k < t.toArray.size; simpa using hk) = t[k] := rfl
      have hcu : (t[k].toNat : Int) < 256 := by have := t[k].toNat_lt; omega
      have hkl : (k : Int) < t.length := by omega
      have hlN : (t.length : Int) = n := by rw [HN.out]
      by_cases hc : t[k] = 47
      · have d1 : ((t[k].toNat : Int) == 47) = true := by rw [hc]; rfl
        have hsl : (ByteArray.mk t.toArray).extract f k = ByteArray.mk ((t.take k).drop f).toArray := by rw [ByteArray.extract_mk]; simp [List.drop_take]
        have HS := Lib.hid (lev_cut HI.out.1 hk hc)
        obtain ⟨seg, hseg⟩ : ∃ seg, seg = (t.take k).drop f := ⟨_, rfl⟩
        rw [← hseg] at hsl HS
        have hc1 : ∀ (j : Nat) (u : Value), [Value.string ⟨seg.toArray⟩][j]? = some u → (wr.alloc (.cells #[.string ⟨seg.toArray⟩] 9 (0, 0))).cell? ((⟨wr.heap.size, 0, none⟩ : Addr).add j) = some u := fun j u hj => by
          rw [Addr.add_mid, Nat.zero_add]
          exact (Obj?.new wr _ _).cell j u (by simpa using hj)
        have HC1 := Lib.hid hc1
        have hB := HI.out.2.2
        clear hc1 hc hseg hlN
        go_wp2_with (at_builtin; refine wpList_append_own _ rfl _ _ 67 rfl w.heap.size 9 i0 (.string ByteArray.empty) 1 16 Tryz.underlying67 hi hz0 hz1 hz2 rfl (by decide) _ _ _ rfl (hown.alloc _) ⟨wr.heap.size, 0, none⟩ 1 1 [.string ⟨seg.toArray⟩] rfl rfl HC1.out (by simp [Value.oneCell']) (by unfold maxLen; omega) (by omega) (by have := hB.size; simp; omega) ?_; intro v' w1 hown' hgrow _)
        have HOW := Lib.hid (show w1.ownsRow w.heap.size 9 1 v' (done ++ [seg]).length (segsV (done ++ [seg])) from by
          rw [List.length_append, List.length_singleton]; unfold segsV at hown' ⊢; rw [List.map_append]; exact hown')
        have HBW := Lib.hid (show Below w.heap.size w w1 from (below_al hB (.cells #[.string ⟨seg.toArray⟩] 9 (0, 0))).grown hgrow (by have := hB.size; rw [World.size_alloc]; omega) (fun j ej => hob j ej))
        clear hown' hgrow
        go_wp2
        go_roundg (gk - 1)
        case measure => have := HGK.out; omega
        case rel => exact ⟨k + 1, k + 1, done ++ [seg], _, by have := HGK.out; omega, by omega, by omega, by go_num, by go_num, rfl, Lib.hid ⟨HS.out, HOW.out, HBW.out⟩⟩
      · have d1 : ((t[k].toNat : Int) == 47) = false := by
          apply beq_eq_false_iff_ne.2
          intro h
          apply hc
          apply UInt8.toNat_inj.1
          have : t[k].toNat = 47 := by omega
          rw [this]; rfl
        have HS := Lib.hid (lev_go HI.out.1 hk hc)
        clear hc hlN
        go_wp2
        go_roundg (gk - 1)
        case measure => have := HGK.out; omega
        case rel => exact ⟨k + 1, f, done, _, by have := HGK.out; omega, by omega, by omega, by go_num, rfl, rfl, Lib.hid ⟨HS.out, HI.out.2⟩⟩
    · obtain rfl : k = n := by omega
      have HE := Lib.hid (lev_end (by have := HI.out.1; rw [HN.out] at this; exact this))
      have hsl : (ByteArray.mk t.toArray).extract f t.length = ByteArray.mk (t.drop f).toArray := by
        rw [ByteArray.extract_mk]; simp
        exact List.take_of_length_le (by simp)
      obtain ⟨seg, hseg⟩ : ∃ seg, seg = t.drop f := ⟨_, rfl⟩
      rw [← hseg] at hsl HE
      have hfl : (f : Int) ≤ t.length := by rw [← HN.out]; omega
      have hc1 : ∀ (j : Nat) (u : Value), [Value.string ⟨seg.toArray⟩][j]? = some u → (wr.alloc (.cells #[.string ⟨seg.toArray⟩] 9 (0, 0))).cell? ((⟨wr.heap.size, 0, none⟩ : Addr).add j) = some u := fun j u hj => by
        rw [Addr.add_mid, Nat.zero_add]
        exact (Obj?.new wr _ _).cell j u (by simpa using hj)
      have HC1 := Lib.hid hc1
      have hB := HI.out.2.2
      clear hc1 hseg
      go_wp2_with (at_builtin; refine wpList_append_own _ rfl _ _ 67 rfl w.heap.size 9 i0 (.string ByteArray.empty) 1 16 Tryz.underlying67 hi hz0 hz1 hz2 rfl (by decide) _ _ _ rfl (hown.alloc _) ⟨wr.heap.size, 0, none⟩ 1 1 [.string ⟨seg.toArray⟩] rfl rfl HC1.out (by simp [Value.oneCell']) (by unfold maxLen; omega) (by omega) (by have := hB.size; simp; omega) ?_; intro v' w1 hown' hgrow _)
      have hOW : w1.ownsRow w.heap.size 9 1 v' (splitS t).length (segsV (splitS t)) := by
        rw [HE.out, List.length_append, List.length_singleton]; unfold segsV at hown' ⊢; rw [List.map_append]; exact hown'
      have hBW : Below w.heap.size w w1 := (below_al hB (.cells #[.string ⟨seg.toArray⟩] 9 (0, 0))).grown hgrow (by have := hB.size; rw [World.size_alloc]; omega) (fun j ej => hob j ej)
      go_ret
      exact ⟨_, rfl, hOW, hBW⟩
end Go.Proofs.YtbacnaplpfmpnaaGreatDoor
namespace Go.Proofs.YtbacnaplpfmpnaaGreatDoor
open Go Go.RowKit
set_option linter.unusedVariables false
set_option linter.unusedSimpArgs false

theorem row_own {w : World} {base k : Nat} {v : Value} {l : List (List UInt8)} (h : w.ownsRow base 9 1 v k (segsV l)) (hk : 0 < k) :
    ∃ g cap, v = .slice (some ⟨g, 0, none⟩) k cap ∧ Row w g 0 l ∧ l.length = k ∧ k ≤ cap := by
  have hl : l.length = k := by have := h.1; simpa [segsV] using this
  rcases h.2 with ⟨_, h0⟩ | ⟨g, cap, cur, rfl, hb, hg, hc, _⟩
  · omega
  · refine ⟨g, cap, rfl, ⟨(Array.getElem?_eq_some_iff.1 hg).1, fun j s hj => ?_⟩, hl, hc⟩
    have hjl := (List.getElem?_eq_some_iff.1 hj).1
    have := h.cellAt j (by omega)
    rw [Nat.zero_add, this]
    simp [hj, segsV]
/-- A level that the reference refuses; more: another level follows. -/
def badLev (s : List UInt8) (more : Bool) : Bool := (hasC 43 s && !(s == [43])) || (hasC 35 s && (!(s == [35]) || more))
theorem levels_ref (s : List UInt8) (r : List (List UInt8)) : levelsB (s :: r) = (!badLev s (!r.isEmpty) && levelsB r) := by
  show (!(s == [35] && !r.isEmpty) && !(!wildB s && hasWild s) && levelsB r) = _
  by_cases h1 : s = [43]
  · subst h1
    have e1 : hasC 43 [43] = true := rfl
    have e2 : hasC 35 [43] = false := rfl
    have e3 : (([43] : List UInt8) == [35]) = false := rfl
    have e4 : wildB [43] = true := rfl
    unfold badLev
    rw [e1, e2, e3, e4]
    cases r.isEmpty <;> simp
  · by_cases h2 : s = [35]
    · subst h2
      have e1 : hasC 43 [35] = false := rfl
      have e2 : hasC 35 [35] = true := rfl
      have e4 : wildB [35] = true := rfl
      unfold badLev
      rw [e1, e2, e4]
      cases r.isEmpty <;> simp
    · have h1' : (s == [43]) = false := by simpa using h1
      have h2' : (s == [35]) = false := by simpa using h2
      unfold badLev wildB
      rw [h1', h2', ← hasC_wild]
      cases hasC 43 s <;> cases hasC 35 s <;> cases r.isEmpty <;> simp
theorem drop_empty {l : List (List UInt8)} {k : Nat} (h : k < l.length) : (!(l.drop (k + 1)).isEmpty) = decide ((k : Int) + 1 < (l.length : Int)) := by
  rw [Bool.eq_iff_iff]; simp; omega
set_option maxRecDepth 100000 in
set_option maxHeartbeats 1600000 in
theorem rfilter_any (t : List UInt8) (ht : t.length ≤ 1000000) (w : World) :
    Calls Tryz.prog 106 #[.string ⟨t.toArray⟩] w fun e w' => e = .returned (.bool (filterB t)) ∧ Below w.heap.size w w' := by
  have HV := Lib.hid (fun w => rvalid_any t (by omega) w)
  by_cases htx : textB t = true
  rotate_left
  · have hf : filterB t = false := by unfold filterB; rw [Bool.eq_false_iff.2 htx]; rfl
    rw [hf]
    by_cases he : t = []
    · subst he
      clear htx hf HV
      go_enter Tryz.func106, Tryz.ntmps106
      go_wp2
      go_ret
      exact ⟨rfl, Below.refl _ _⟩
    · have hv : vld t = false := by
        have : textB t = false := Bool.eq_false_iff.2 htx
        unfold textB at this
        cases t with
        | nil => exact absurd rfl he
        | cons a r => simpa using this
      have hne : (t == []) = false := by simpa using he
      rw [hv] at HV
      clear htx hf he hv
      go_enter Tryz.func106, Tryz.ntmps106
      go_wp2_with fail
      refine (HV.out _).mono ?_
      rintro e w1 ⟨rfl, hw1⟩
      subst hw1
      go_wp2
      go_ret
      exact ⟨rfl, Below.refl _ _⟩
  · have hf : filterB t = levelsB (splitS t) := by unfold filterB; rw [htx]; rfl
    have hne : (t == []) = false := by
      unfold textB at htx
      cases t with
      | nil => simp at htx
      | cons a r => rfl
    have hv : vld t = true := by unfold textB at htx; simp at htx; exact htx.2
    rw [hf]
    rw [hv] at HV
    clear hf htx hv
    obtain ⟨LS, hLS⟩ : ∃ LS, LS = splitS t := ⟨_, rfl⟩
    have HLV := Lib.hid (rlevels_any t ht)
    have HSL := Lib.hid (show ∀ s ∈ LS, s.length ≤ 1000000 from fun s hs => by rw [hLS] at hs; have := mem_split_le hs; omega)
    have hn0 : 0 < LS.length := by rw [hLS]; exact List.length_pos_iff.2 (splitS_ne t)
    have hn1 : LS.length ≤ 1000001 := by rw [hLS]; have := len_split_le t; omega
    rw [← hLS] at HLV ⊢
    clear hLS
    obtain ⟨N, hN⟩ : ∃ N, N = LS.length := ⟨_, rfl⟩
    rw [← hN] at HLV hn0 hn1
    have HN := Lib.hid hN
    clear hN
    go_enter Tryz.func106, Tryz.ntmps106
    go_wp2_with fail
    refine (HV.out _).mono ?_
    rintro e w1 ⟨rfl, hw1⟩
    subst hw1
    go_wp2_with fail
    refine (HLV.out _).mono ?_
    rintro e w2 ⟨v, rfl, hown, hB⟩
    obtain ⟨g, cap, rfl, hrow, hlN, hcap⟩ := row_own hown hn0
    have HR := Lib.hid hrow.2
    have HB := Lib.hid hB
    clear hown hrow hB HV HLV
    go_wp2
    go_loop [4] (fun i => ∃ k : Nat, k ≤ N ∧ i = .int .i64 k ∧ Hid (levelsB LS = levelsB (LS.drop k))) (fun i => N - (intOf i).toNat)
    case atStart => exact ⟨0, Nat.zero_le _, rfl, Lib.hid rfl⟩
    case round =>
      obtain ⟨k, hk, rfl, hlv⟩ := hrel
      by_cases hlt : k < N
      · have hkl : k < LS.length := by omega
        obtain ⟨s, hse⟩ : ∃ s, LS[k]? = some s := ⟨_, List.getElem?_eq_getElem hkl⟩
        have hsl := HSL.out s (List.mem_of_getElem? hse)
        have hdrop : LS.drop k = s :: LS.drop (k + 1) := by
          rw [List.drop_eq_getElem_cons hkl]
          rw [List.getElem?_eq_getElem hkl] at hse
          rw [Option.some.inj hse]
        have hc : w2.cell? ⟨g, k, none⟩ = some (.string ⟨s.toArray⟩) := by have := HR.out k s hse; rwa [Nat.zero_add] at this
        have hl2 := hlv.out
        rw [hdrop, levels_ref, drop_empty hkl, hlN] at hl2
        have HP := Lib.hid (fun w => rhas_any s (by omega) 43 (by decide) w)
        have HH := Lib.hid (fun w => rhas_any s (by omega) 35 (by decide) w)
        obtain ⟨more, hmore⟩ : ∃ more, decide ((k : Int) + 1 < N) = more := ⟨_, rfl⟩
        obtain ⟨p, hp⟩ : ∃ p, hasC 43 s = p := ⟨_, rfl⟩
        obtain ⟨h, hh⟩ : ∃ h, hasC 35 s = h := ⟨_, rfl⟩
        obtain ⟨e4, he4⟩ : ∃ e4, (s == [43]) = e4 := ⟨_, rfl⟩
        obtain ⟨e3, he3⟩ : ∃ e3, (s == [35]) = e3 := ⟨_, rfl⟩
        unfold badLev at hl2
        rw [hmore, hp, hh, he4, he3] at hl2
        rw [hp] at HP
        rw [hh] at HH
        clear hp hh hse hdrop hsl
        cases p
        · skip
          cases h
          · skip
            have HT := Lib.hid (show levelsB LS = levelsB (LS.drop (k + 1)) by rw [hl2]; simp)
            clear hl2
            go_wp2_with fail
            refine (HP.out _).mono ?_
            rintro e wx ⟨rfl, hwx⟩
            subst hwx
            go_wp2_with fail
            refine (HH.out _).mono ?_
            rintro e wx ⟨rfl, hwx⟩
            subst hwx
            go_wp2
            go_round
            case rel => exact ⟨k + 1, by omega, by go_num, HT⟩
            case measure => simp [intOf]; omega
          cases e3
          · skip
            have HT := Lib.hid (show levelsB LS = false by rw [hl2]; simp)
            clear hl2
            go_wp2_with fail
            refine (HP.out _).mono ?_
            rintro e wx ⟨rfl, hwx⟩
            subst hwx
            go_wp2_with fail
            refine (HH.out _).mono ?_
            rintro e wx ⟨rfl, hwx⟩
            subst hwx
            go_wp2
            go_ret
            exact ⟨by rw [HT.out]; rfl, HB.out⟩
          cases more
          · skip
            have HT := Lib.hid (show levelsB LS = levelsB (LS.drop (k + 1)) by rw [hl2]; simp)
            clear hl2
            go_wp2_with fail
            refine (HP.out _).mono ?_
            rintro e wx ⟨rfl, hwx⟩
            subst hwx
            go_wp2_with fail
            refine (HH.out _).mono ?_
            rintro e wx ⟨rfl, hwx⟩
            subst hwx
            go_wp2
            go_round
            case rel => exact ⟨k + 1, by omega, by go_num, HT⟩
            case measure => simp [intOf]; omega
          have HT := Lib.hid (show levelsB LS = false by rw [hl2]; simp)
          clear hl2
          go_wp2_with fail
          refine (HP.out _).mono ?_
          rintro e wx ⟨rfl, hwx⟩
          subst hwx
          go_wp2_with fail
          refine (HH.out _).mono ?_
          rintro e wx ⟨rfl, hwx⟩
          subst hwx
          go_wp2
          go_ret
          exact ⟨by rw [HT.out]; rfl, HB.out⟩
        cases e4
        · skip
          have HT := Lib.hid (show levelsB LS = false by rw [hl2]; simp)
          clear hl2
          go_wp2_with fail
          refine (HP.out _).mono ?_
          rintro e wx ⟨rfl, hwx⟩
          subst hwx
          go_wp2
          go_ret
          exact ⟨by rw [HT.out]; rfl, HB.out⟩
        cases h
        · skip
          have HT := Lib.hid (show levelsB LS = levelsB (LS.drop (k + 1)) by rw [hl2]; simp)
          clear hl2
          go_wp2_with fail
          refine (HP.out _).mono ?_
          rintro e wx ⟨rfl, hwx⟩
          subst hwx
          go_wp2_with fail
          refine (HH.out _).mono ?_
          rintro e wx ⟨rfl, hwx⟩
          subst hwx
          go_wp2
          go_round
          case rel => exact ⟨k + 1, by omega, by go_num, HT⟩
          case measure => simp [intOf]; omega
        cases e3
        · skip
          have HT := Lib.hid (show levelsB LS = false by rw [hl2]; simp)
          clear hl2
          go_wp2_with fail
          refine (HP.out _).mono ?_
          rintro e wx ⟨rfl, hwx⟩
          subst hwx
          go_wp2_with fail
          refine (HH.out _).mono ?_
          rintro e wx ⟨rfl, hwx⟩
          subst hwx
          go_wp2
          go_ret
          exact ⟨by rw [HT.out]; rfl, HB.out⟩
        cases more
        · skip
          have HT := Lib.hid (show levelsB LS = levelsB (LS.drop (k + 1)) by rw [hl2]; simp)
          clear hl2
          go_wp2_with fail
          refine (HP.out _).mono ?_
          rintro e wx ⟨rfl, hwx⟩
          subst hwx
          go_wp2_with fail
          refine (HH.out _).mono ?_
          rintro e wx ⟨rfl, hwx⟩
          subst hwx
          go_wp2
          go_round
          case rel => exact ⟨k + 1, by omega, by go_num, HT⟩
          case measure => simp [intOf]; omega
        have HT := Lib.hid (show levelsB LS = false by rw [hl2]; simp)
        clear hl2
        go_wp2_with fail
        refine (HP.out _).mono ?_
        rintro e wx ⟨rfl, hwx⟩
        subst hwx
        go_wp2_with fail
        refine (HH.out _).mono ?_
        rintro e wx ⟨rfl, hwx⟩
        subst hwx
        go_wp2
        go_ret
        exact ⟨by rw [HT.out]; rfl, HB.out⟩
      · obtain rfl : k = N := by omega
        have he : levelsB LS = true := by rw [hlv.out, List.drop_of_length_le (by omega)]; rfl
        have HE := Lib.hid he
        clear he
        go_wp2
        go_ret
        exact ⟨by rw [HE.out]; rfl, HB.out⟩
end Go.Proofs.YtbacnaplpfmpnaaGreatDoor
