/- topic: the walks over levels: levels, Levels, Filter, Name, match, covers, Matches. -/
import Derived.Test.YtbacnaplpfmpnaaDoorTopZ
namespace Go.Proofs.YtbacnaplpfmpnaaDoor
open Go.RowKit
set_option linter.unusedVariables false

/-- A row of texts, cell by cell. -/
def Row (w : World) (b o : Nat) (l : List (List UInt8)) : Prop := b < w.heap.size ∧ ∀ (j : Nat) (s : List UInt8), l[j]? = some s → w.cell? ⟨b, o + j, none⟩ = some (.string ⟨s.toArray⟩)
theorem Row.head {w : World} {b o : Nat} {s : List UInt8} {l : List (List UInt8)} (h : Row w b o (s :: l)) : w.cell? ⟨b, o, none⟩ = some (.string ⟨s.toArray⟩) := h.2 0 s rfl
theorem Row.below {B : Nat} {w w' : World} {b o : Nat} {l : List (List UInt8)} (h : Row w b o l) (hb : Below B w w') (hlt : b < B) : Row w' b o l :=
  ⟨Nat.lt_of_lt_of_le h.1 hb.size, fun j s hj => (hb.cell (p := ⟨b, o + j, none⟩) hlt).trans (h.2 j s hj)⟩
theorem Row.tail {w : World} {b o : Nat} {s : List UInt8} {l : List (List UInt8)} (h : Row w b o (s :: l)) : Row w b (o + 1) l :=
  ⟨h.1, fun j x hj => by have := h.2 (j + 1) x (by simpa using hj); rwa [Nat.add_assoc, Nat.add_comm 1 j]⟩
theorem Row.drewN {w : World} {b o : Nat} {l : List (List UInt8)} (h : Row w b o l) (n : Nat) : Row (w.drewN n) b o l := h
def cellsS (l : List (List UInt8)) : Array Value := (l.map fun s => Value.string ⟨s.toArray⟩).toArray
theorem Row.of_obj {w : World} {b : Nat} {l : List (List UInt8)} {t : TypeId} (h : Obj? w b (cellsS l) t) : Row w b 0 l :=
  ⟨h.lt, fun j s hj => by rw [Nat.zero_add]; exact h.cell j _ (by simp [cellsS, hj])⟩

theorem levelsB_cons (s : List UInt8) (r : List (List UInt8)) : levelsB (s :: r) = (!(s == [35] && !r.isEmpty) && !(!wildB s && hasWild s) && levelsB r) := rfl

set_option maxRecDepth 100000 in
set_option maxHeartbeats 1600000 in
theorem levelsfn_any (b o c : Nat) (l : List (List UInt8)) (hl : l.length ≤ 4294967281) (hs : ∀ s ∈ l, s.length < 4294967281) (w : World) (hr : Row w b o l) :
    Calls Tryd.prog 89 #[.slice (some ⟨b, o, none⟩) l.length c] w fun e w' => e = .returned (.bool (levelsB l)) ∧ Below w.heap.size w w' := by
  obtain ⟨N, hN⟩ : ∃ N, N = l.length := ⟨_, rfl⟩
  rw [← hN] at hl ⊢
  have HN := Lib.hid hN
  have HR := Lib.hid hr
  have hblt := hr.1
  clear hN hr
  go_enter Tryd.func89, Tryd.ntmps89
  go_wp2
  go_loopw [8] (fun i wr => ∃ k, k ≤ N ∧ i = .int .i64 k ∧ Below w.heap.size w wr ∧ levelsB l = levelsB (l.drop k)) (fun i _ => N - (intOf i).toNat)
  case atStart => exact ⟨0, Nat.zero_le _, rfl, Below.refl _ _, rfl⟩
  case round =>
    obtain ⟨k, hk, rfl, hB, hlv⟩ := hrel
    by_cases hlt : k < N
    · have hkl : k < l.length := by have := HN.out; omega
      obtain ⟨s, hse⟩ : ∃ s, l[k]? = some s := ⟨_, List.getElem?_eq_getElem hkl⟩
      have hsl := hs s (List.mem_of_getElem? hse)
      have hdrop : l.drop k = s :: l.drop (k + 1) := by
        rw [List.drop_eq_getElem_cons hkl]
        rw [List.getElem?_eq_getElem hkl] at hse
        rw [Option.some.inj hse]
      rw [hdrop, levelsB_cons] at hlv
      have hemp : (l.drop (k + 1)).isEmpty = decide (k + 1 = N) := by
        rw [Bool.eq_iff_iff]; simp; have := HN.out; omega
      rw [hemp] at hlv
      have hc : wr.cell? ⟨b, o + k, none⟩ = some (.string ⟨s.toArray⟩) := (hB.cell (p := ⟨b, o + k, none⟩) hblt).trans (HR.out.2 k s hse)
      have HL := Lib.hid hlv
      clear hlv hse hdrop hemp
      by_cases h35 : s = [35]
      · subst h35
        by_cases hlast : k + 1 = N
        · have hd : ((k : Int) + 1 == (N : Int)) = true := by simp; omega
          have HT := Lib.hid (show levelsB l = levelsB (l.drop (k + 1)) by have := HL.out; rw [this]; simp [hlast, wildB])
          clear hlast
          go_wp2_with fail
          refine (wild_any [35] _).mono ?_
          rintro e w' ⟨rfl, rfl⟩
          rw [show wildB [35] = true from rfl]
          go_wp2
          go_roundw
          case rel => exact ⟨k + 1, by omega, by go_num, hB, HT.out⟩
          case measure => simp [intOf]; omega
        · have hd : ((k : Int) + 1 == (N : Int)) = false := by simp; omega
          have HT := Lib.hid (show levelsB l = false by have := HL.out; rw [this]; simp [hlast])
          clear hlast
          go_wp2
          go_ret
          exact ⟨by rw [HT.out]; rfl, hB⟩
      · have h35' : (s == [35]) = false := by simpa using h35
        cases hwd : wildB s with
        | true =>
          have HT := Lib.hid (show levelsB l = levelsB (l.drop (k + 1)) by have := HL.out; rw [this]; simp [h35', hwd])
          have HW := Lib.hid hwd
          clear hwd h35
          go_wp2_with fail
          refine (wild_any s _).mono ?_
          rintro e w' ⟨rfl, rfl⟩
          rw [HW.out]
          go_wp2
          go_roundw
          case rel => exact ⟨k + 1, by omega, by go_num, hB, HT.out⟩
          case measure => simp [intOf]; omega
        | false =>
          cases hhw : hasWild s with
          | true =>
            have HT := Lib.hid (show levelsB l = false by have := HL.out; rw [this]; simp [hwd, hhw])
            have HW := Lib.hid (And.intro hwd hhw)
            clear hwd h35 hhw
            go_wp2_with fail
            refine (wild_any s _).mono ?_
            rintro e w' ⟨rfl, rfl⟩
            rw [HW.out.1]
            go_wp2_with fail
            refine (containsAny_any s hsl _).mono ?_
            rintro e w2 ⟨rfl, hb⟩
            rw [HW.out.2]
            go_wp2
            go_ret
            exact ⟨by rw [HT.out]; rfl, hB.trans (hb.mono hB.size)⟩
          | false =>
            have HT := Lib.hid (show levelsB l = levelsB (l.drop (k + 1)) by have := HL.out; rw [this]; simp [h35', hwd, hhw])
            have HW := Lib.hid (And.intro hwd hhw)
            clear hwd h35 hhw
            go_wp2_with fail
            refine (wild_any s _).mono ?_
            rintro e w' ⟨rfl, rfl⟩
            rw [HW.out.1]
            go_wp2_with fail
            refine (containsAny_any s hsl _).mono ?_
            rintro e w2 ⟨rfl, hb⟩
            rw [HW.out.2]
            clear hc
            go_wp2
            go_roundw
            case rel => exact ⟨k + 1, by omega, by go_num, hB.trans (hb.mono hB.size), HT.out⟩
            case measure => simp [intOf]; omega
    · have HT := Lib.hid (show levelsB l = true by rw [hlv, List.drop_of_length_le (by have := HN.out; omega)]; rfl)
      clear hlv
      go_wp2
      go_ret
      exact ⟨by rw [HT.out]; rfl, hB⟩
end Go.Proofs.YtbacnaplpfmpnaaDoor
