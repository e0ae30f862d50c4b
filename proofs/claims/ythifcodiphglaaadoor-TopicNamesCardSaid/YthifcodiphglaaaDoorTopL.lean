/- polyglotkit.Pick, Own. -/
import Derived.Test.YthifcodiphglaaaDoorTopP
namespace Go.Proofs.YthifcodiphglaaaDoor
open Go.RowKit
set_option linter.unusedVariables false

set_option maxHeartbeats 400000 in
/-- polyglotkit.Pick. -/
theorem pick_any (n m : Int) (hm : 1 ≤ m) (hm2 : m ≤ 4611686018427387904) (w : World) :
    Calls Tryd.prog 18 #[.int .i64 n, .int .i64 m] w fun e w' => e = .returned (.int .i64 (n % m)) ∧ w = w' := by
  have h0 := Int.tmod_lt_of_pos n (show 0 < m by omega)
  have h1 : -m < n.tmod m := by have := Int.lt_tmod_of_pos n (show 0 < m by omega); omega
  by_cases h : n.tmod m < 0
  · have e : n.tmod m + m = n % m := by
      rw [Int.tmod_eq_emod] at h ⊢
      split at h
      · have := Int.emod_nonneg n (show m ≠ 0 by omega); omega
      · rw [if_neg ‹_›]; have : (m.natAbs : Int) = m := by omega
        omega
    have E := Lib.hid e; clear e
    go_enter Tryd.func18, Tryd.ntmps18
    go_wp2
    go_ret
    exact ⟨congrArg (fun x => Ending.returned (Value.int .i64 x)) E.out, rfl⟩
  · have e : n.tmod m = n % m := by
      rw [Int.tmod_eq_emod] at h ⊢
      split at h
      · rename_i hh; rw [if_pos hh]; simp
      · rename_i hh; rw [if_neg hh]
        have h2 := Int.emod_lt_of_pos n (show 0 < m by omega)
        omega
    have E := Lib.hid e; clear e
    go_enter Tryd.func18, Tryd.ntmps18
    go_wp2
    go_ret
    exact ⟨congrArg (fun x => Ending.returned (Value.int .i64 x)) E.out, rfl⟩


set_option maxRecDepth 100000 in
set_option maxHeartbeats 800000 in
theorem own_any (l : List (List UInt8)) (b o c n : Nat) (hn : n = l.length) (hl : n ≤ 1000) (w : World) (hr : Row w b o l) :
    Calls Tryd.prog 19 #[.slice (some ⟨b, o, none⟩) n c] w fun e w' => ∃ g cap, e = .returned (.slice (some ⟨g, 0, none⟩) n cap) ∧ w'.ownsRow w.heap.size 9 1 (.slice (some ⟨g, 0, none⟩) n cap) n (l.map fun s => Value.string ⟨s.toArray⟩) ∧ Below w.heap.size w w' := by
  have hcl : (l.map fun s => Value.string ⟨s.toArray⟩).length = n * 1 := by simp [hn]
  have hce : ∀ (j : Nat) u, (l.map fun s => Value.string ⟨s.toArray⟩)[j]? = some u → (w.alloc (.cells #[] 9 (0, 0))).cell? ((⟨b, o, none⟩ : Addr).add j) = some u := by
    intro j u hj
    rw [List.getElem?_map] at hj
    cases hq : l[j]? with
    | none => rw [hq] at hj; cases hj
    | some s =>
      rw [hq] at hj; cases hj
      have hc := ((below_al1 (w := w) (o := .cells #[] 9 (0, 0))).cell (p := ⟨b, o + j, none⟩) hr.1).trans (hr.2 j s hq)
      have e : (⟨b, o, none⟩ : Addr).add j = ⟨b, o + j, none⟩ := by unfold Addr.add; split <;> simp_all
      rw [e]; exact hc
  have h1c : ∀ u ∈ (l.map fun s => Value.string ⟨s.toArray⟩), u.oneCell' = true := by
    intro u hu
    obtain ⟨x, _, rfl⟩ := List.mem_map.1 hu
    rfl
  have own0 : (w.alloc (.cells #[] 9 (0, 0))).ownsRow w.heap.size 9 1 (.slice (some ⟨w.heap.size, 0, none⟩) 0 0) 0 [] :=
    ⟨rfl, .inr ⟨w.heap.size, 0, #[], rfl, Nat.le_refl _, Obj?.new w #[] 9, Nat.le_refl _, by unfold maxLen; omega, rfl, rfl⟩⟩
  obtain ⟨i0, hi, hz0, hz1, hz2⟩ := info_parts infoStr
  have HC := Lib.hid (And.intro hcl (And.intro hce (And.intro h1c own0)))
  clear hcl hce h1c own0 hr hn
  go_enter Tryd.func19, Tryd.ntmps19
  go_wp2_with (at_builtin; refine wpList_append_own _ rfl _ _ 28 rfl w.heap.size 9 i0 (.string ByteArray.empty) 1 16 Tryd.underlying28 hi hz0 hz1 hz2 rfl (by decide) _ 0 [] rfl HC.out.2.2.2 ⟨b, o, none⟩ n c (l.map fun s => Value.string ⟨s.toArray⟩) rfl HC.out.1 HC.out.2.1 HC.out.2.2.1 (by unfold maxLen; omega) (by omega) (by simp) ?_; intro v1 w1 hown1 hgrow1 hnil)
  have hB : Below w.heap.size w w1 := (below_al1 (w := w) (o := .cells #[] 9 (0, 0))).grown hgrow1 (by simp) (fun k e => by cases e; exact Nat.le_refl _)
  rw [List.nil_append, Nat.zero_add] at hown1
  have hv : ∃ g cap, v1 = .slice (some ⟨g, 0, none⟩) n cap := by
    rcases hown1.2 with ⟨h1, h2⟩ | ⟨g, cap, cur, h1, _⟩
    · exact absurd (hnil.1 h1).1 (by intro h; cases h)
    · exact ⟨g, cap, h1⟩
  obtain ⟨g, cap, rfl⟩ := hv
  have HF := Lib.hid (And.intro hown1 hB)
  clear hown1 hgrow1 hB hnil hi hz0 hz1 hz2
  go_wp2
  go_ret
  exact ⟨g, cap, rfl, HF.out.1, HF.out.2⟩
end Go.Proofs.YthifcodiphglaaaDoor
