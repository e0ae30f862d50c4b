/- topic: Shared. -/
import Derived.Test.YthifcodiphglaaaDoorTopM
namespace Go.Proofs.YthifcodiphglaaaDoor
open Go.RowKit
set_option linter.unusedVariables false

theorem cut_le (t : List UInt8) : (Lib.cut t [47]).1.length ≤ t.length ∧ (Lib.cut t [47]).2.1.length ≤ t.length := by
  rcases cut_slash t with ⟨g, f, e, h, _⟩ | ⟨e, _⟩
  · rw [e, h]; simp; omega
  · rw [e]; simp
theorem trim_le (t p : List UInt8) : (Lib.trimPrefix t p).length ≤ t.length := by
  unfold Lib.trimPrefix
  split <;> simp

/-- The outcome of topic.Shared. -/
def sharedE (s : List UInt8) : Ending := .returned (.tuple #[.string ⟨(sharedF s).1.toArray⟩, .string ⟨(sharedF s).2.1.toArray⟩, .bool (sharedF s).2.2])

set_option maxRecDepth 100000 in
set_option maxHeartbeats 800000 in
theorem shared_any (s : List UInt8) (hs : s.length < 4294967281) (w : World) (hm : Mx w) :
    Calls Tryd.prog 13 #[.string ⟨s.toArray⟩] w fun e w' => e = sharedE s ∧ Below w.heap.size w w' := by
  obtain ⟨r, hr⟩ : ∃ r, r = Lib.trimPrefix s shareP := ⟨_, rfl⟩
  have hrl : r.length ≤ s.length := by rw [hr]; exact trim_le _ _
  have hgl := cut_le r
  obtain ⟨g, f, k, hc⟩ : ∃ g f k, Lib.cut r [47] = (g, f, k) := ⟨_, _, _, rfl⟩
  rw [hc] at hgl
  obtain ⟨hg, hf⟩ := hgl
  simp only at hg hf
  have hF : sharedF s = if Lib.hasPrefix s shareP && (k && (vld s && (nameB g && filterB f))) then (g, f, true) else ([], [], false) := by
    unfold sharedF; rw [← hr, hc]
  have HC := Lib.hid hc
  have HR := Lib.hid hr
  clear hc hr
  cases h1 : Lib.hasPrefix s shareP with
  | false =>
    have H := Lib.hid (And.intro h1 (show sharedE s = .returned (.tuple #[.string ⟨#[]⟩, .string ⟨#[]⟩, .bool false]) by unfold sharedE; rw [hF, h1]; rfl))
    rw [H.out.2]
    clear h1 hF
    go_enter Tryd.func13, Tryd.ntmps13
    go_wp2_with fail
    refine (cutPrefix_any s shareP _ (by omega) (by decide)).mono ?_
    rintro e w1 ⟨rfl, rfl⟩
    rw [H.out.1, ← HR.out]
    go_wp2_with fail
    refine (cut_any r _ (by omega) hm).mono ?_
    rintro e w2 ⟨rfl, q, rfl⟩
    rw [HC.out]
    go_wp2
    go_ret3
    exact ⟨rfl, below_drewNT (Below.refl _ _) _⟩
  | true =>
  cases h2 : k with
  | false =>
    subst h2
    have H := Lib.hid (And.intro h1 (show sharedE s = .returned (.tuple #[.string ⟨#[]⟩, .string ⟨#[]⟩, .bool false]) by unfold sharedE; rw [hF, h1]; rfl))
    rw [H.out.2]
    clear h1 hF
    go_enter Tryd.func13, Tryd.ntmps13
    go_wp2_with fail
    refine (cutPrefix_any s shareP _ (by omega) (by decide)).mono ?_
    rintro e w1 ⟨rfl, rfl⟩
    rw [H.out.1, ← HR.out]
    go_wp2_with fail
    refine (cut_any r _ (by omega) hm).mono ?_
    rintro e w2 ⟨rfl, q, rfl⟩
    rw [HC.out]
    go_wp2
    go_ret3
    exact ⟨rfl, below_drewNT (Below.refl _ _) _⟩
  | true =>
  subst h2
  cases h3 : vld s with
  | false =>
    have H := Lib.hid (And.intro h1 (And.intro h3 (show sharedE s = .returned (.tuple #[.string ⟨#[]⟩, .string ⟨#[]⟩, .bool false]) by unfold sharedE; rw [hF, h1, h3]; rfl)))
    rw [H.out.2.2]
    clear h1 h3 hF
    go_enter Tryd.func13, Tryd.ntmps13
    go_wp2_with fail
    refine (cutPrefix_any s shareP _ (by omega) (by decide)).mono ?_
    rintro e w1 ⟨rfl, rfl⟩
    rw [H.out.1, ← HR.out]
    go_wp2_with fail
    refine (cut_any r _ (by omega) hm).mono ?_
    rintro e w2 ⟨rfl, q, rfl⟩
    rw [HC.out]
    have hB := below_drewNT (Below.refl w.heap.size w) q
    go_wp2_with fail
    refine (valid_any s (by omega) _).mono ?_
    rintro e w3 ⟨rfl, hb⟩
    rw [H.out.2.1]
    have hB2 := hB.trans (hb.mono hB.size)
    go_wp2
    go_ret3
    exact ⟨rfl, hB2⟩
  | true =>
  cases h4 : nameB g with
  | false =>
    have H := Lib.hid (And.intro h1 (And.intro h3 (And.intro h4 (show sharedE s = .returned (.tuple #[.string ⟨#[]⟩, .string ⟨#[]⟩, .bool false]) by unfold sharedE; rw [hF, h1, h3, h4]; rfl))))
    rw [H.out.2.2.2]
    clear h1 h3 h4 hF
    go_enter Tryd.func13, Tryd.ntmps13
    go_wp2_with fail
    refine (cutPrefix_any s shareP _ (by omega) (by decide)).mono ?_
    rintro e w1 ⟨rfl, rfl⟩
    rw [H.out.1, ← HR.out]
    go_wp2_with fail
    refine (cut_any r _ (by omega) hm).mono ?_
    rintro e w2 ⟨rfl, q, rfl⟩
    rw [HC.out]
    have hB := below_drewNT (Below.refl w.heap.size w) q
    go_wp2_with fail
    refine (valid_any s (by omega) _).mono ?_
    rintro e w3 ⟨rfl, hb⟩
    rw [H.out.2.1]
    have hB2 := hB.trans (hb.mono hB.size)
    go_wp2_with fail
    refine (name_any g (by omega) _).mono ?_
    rintro e w4 ⟨rfl, hb3⟩
    rw [H.out.2.2.1]
    have hB3 := hB2.trans (hb3.mono hB2.size)
    go_wp2
    go_ret3
    exact ⟨rfl, hB3⟩
  | true =>
    cases h5 : filterB f with
    | false =>
      have H := Lib.hid (And.intro h1 (And.intro h3 (And.intro h4 (And.intro h5 (show sharedE s = .returned (.tuple #[.string ⟨#[]⟩, .string ⟨#[]⟩, .bool false]) by unfold sharedE; rw [hF, h1, h3, h4, h5]; rfl)))))
      rw [H.out.2.2.2.2]
      clear h1 h3 h4 h5 hF
      go_enter Tryd.func13, Tryd.ntmps13
      go_wp2_with fail
      refine (cutPrefix_any s shareP _ (by omega) (by decide)).mono ?_
      rintro e w1 ⟨rfl, rfl⟩
      rw [H.out.1, ← HR.out]
      go_wp2_with fail
      refine (cut_any r _ (by omega) hm).mono ?_
      rintro e w2 ⟨rfl, q, rfl⟩
      rw [HC.out]
      have hB := below_drewNT (Below.refl w.heap.size w) q
      go_wp2_with fail
      refine (valid_any s (by omega) _).mono ?_
      rintro e w3 ⟨rfl, hb⟩
      rw [H.out.2.1]
      have hB2 := hB.trans (hb.mono hB.size)
      go_wp2_with fail
      refine (name_any g (by omega) _).mono ?_
      rintro e w4 ⟨rfl, hb3⟩
      rw [H.out.2.2.1]
      have hB3 := hB2.trans (hb3.mono hB2.size)
      go_wp2_with fail
      refine (filter_any f (by omega) _ (hm.next hB3)).mono ?_
      rintro e w5 ⟨rfl, hb4⟩
      rw [H.out.2.2.2.1]
      have hB4 := hB3.trans (hb4.mono hB3.size)
      go_wp2
      go_ret3
      exact ⟨rfl, hB4⟩
    | true =>
      have H := Lib.hid (And.intro h1 (And.intro h3 (And.intro h4 (And.intro h5 (show sharedE s = .returned (.tuple #[.string ⟨g.toArray⟩, .string ⟨f.toArray⟩, .bool true]) by unfold sharedE; rw [hF, h1, h3, h4, h5]; rfl)))))
      rw [H.out.2.2.2.2]
      clear h1 h3 h4 h5 hF
      go_enter Tryd.func13, Tryd.ntmps13
      go_wp2_with fail
      refine (cutPrefix_any s shareP _ (by omega) (by decide)).mono ?_
      rintro e w1 ⟨rfl, rfl⟩
      rw [H.out.1, ← HR.out]
      go_wp2_with fail
      refine (cut_any r _ (by omega) hm).mono ?_
      rintro e w2 ⟨rfl, q, rfl⟩
      rw [HC.out]
      have hB := below_drewNT (Below.refl w.heap.size w) q
      go_wp2_with fail
      refine (valid_any s (by omega) _).mono ?_
      rintro e w3 ⟨rfl, hb⟩
      rw [H.out.2.1]
      have hB2 := hB.trans (hb.mono hB.size)
      go_wp2_with fail
      refine (name_any g (by omega) _).mono ?_
      rintro e w4 ⟨rfl, hb3⟩
      rw [H.out.2.2.1]
      have hB3 := hB2.trans (hb3.mono hB2.size)
      go_wp2_with fail
      refine (filter_any f (by omega) _ (hm.next hB3)).mono ?_
      rintro e w5 ⟨rfl, hb4⟩
      rw [H.out.2.2.2.1]
      have hB4 := hB3.trans (hb4.mono hB3.size)
      go_wp2
      go_ret3
      exact ⟨rfl, hB4⟩
end Go.Proofs.YthifcodiphglaaaDoor
