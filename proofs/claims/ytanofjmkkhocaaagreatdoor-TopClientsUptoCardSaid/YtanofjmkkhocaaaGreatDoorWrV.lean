/- polyglotref23: Hops, Same, Unwrap, Wrap; polyglotkit.SameDatagram. -/
import Derived.Test.YtanofjmkkhocaaaGreatDoorWrP
import Derived.Deep.RegionHeld3
import Derived.Deep.LoopGhost
import Derived.BigQuiet
set_option linter.unusedVariables false
set_option linter.unusedSimpArgs false
set_option maxRecDepth 100000
set_option maxHeartbeats 1600000
namespace Go.Proofs.YtanofjmkkhocaaaGreatDoor
open Go Go.RowKit Go.Shelf
attribute [local go_sem ↓] load_Msg store_Msg load_Dg store_Dg
attribute [local irreducible] rowSem rowStore
theorem rhops_any {va vb : Value} {ha hb : List Hp} {w : World} (hA : HopsAt w va ha) (hB : HopsAt w vb hb) :
  Calls Tryz.prog 49 #[va, vb] w fun e w' => e = .returned (.bool (decide (ha = hb))) ∧ Below w.heap.size w w' := by
 have HA := Lib.hid hA
 have HB := Lib.hid hB
 obtain ⟨a, cap, rfl, -, la, -⟩ := hA
 obtain ⟨b, cap', rfl, -, lb, -⟩ := hB
 obtain ⟨n, hN⟩ : ∃ n, n = ha.length := ⟨_, rfl⟩
 obtain ⟨n', hN'⟩ : ∃ n', n' = hb.length := ⟨_, rfl⟩
 rw [← hN] at la HA
 rw [← hN'] at lb HB
 rw [← hN, ← hN']
 by_cases hne : n = n'
 rotate_left
 ·have e : decide (ha = hb) = false := decide_eq_false (fun h => hne (by rw [hN, hN', h]))
  have d1 : ((n : Int) == n') = false := by apply beq_eq_false_iff_ne.2; omega
  have d2 : ((n : Int) != n') = true := by simp; omega
  rw [e]
  clear e hN hN' hne
  go_enter Tryz.func49, Tryz.ntmps49
  go_wp2
  go_ret
  exact ⟨rfl, Below.refl _ _⟩
 ·subst hne
  have HN := Lib.hid (And.intro hN hN')
  clear hN hN' lb
  go_enter Tryz.func49, Tryz.ntmps49
  go_wp2
  go_loopg [5] (n + 1) (fun g i wr => ∃ k : Nat, g + k = n + 1 ∧ k ≤ n ∧ i = .int .i64 k ∧ Hid (ha.take k = hb.take k ∧ Below w.heap.size w wr))
  case atStart => exact ⟨0, by omega, by omega, rfl, Lib.hid ⟨rfl, Below.refl _ _⟩⟩
  case round =>
   obtain ⟨k, hgk, hkn, rfl, HI⟩ := hrel
   have HGK := Lib.hid (And.intro hgk hkn)
   clear hgk
   by_cases hlt : k < n
   ·have hka : k < ha.length := by rw [← HN.out.1]; exact hlt
    have hkb : k < hb.length := by rw [← HN.out.2]; exact hlt
    obtain ⟨b1, o1, rfl, l1, c0, c1⟩ := hopat_cell HA.out k hka
    obtain ⟨b2, o2, rfl, l2, c2, c3⟩ := hopat_cell HB.out k hkb
    have k0 := (HI.out.2.cell (p := ⟨b1, o1 + k * 2, none⟩) l1).trans c0
    have k1 := (HI.out.2.cell (p := ⟨b1, o1 + k * 2 + 1, none⟩) l1).trans c1
    have k2 := (HI.out.2.cell (p := ⟨b2, o2 + k * 2, none⟩) l2).trans c2
    have k3 := (HI.out.2.cell (p := ⟨b2, o2 + k * 2 + 1, none⟩) l2).trans c3
    clear c0 c1 c2 c3
    have hst : ha[k] = hb[k] → ha.take (k + 1) = hb.take (k + 1) := fun e => by
     rw [List.take_succ_eq_append_getElem hka, List.take_succ_eq_append_getElem hkb, HI.out.1, e]
    have hno : ha[k] ≠ hb[k] → decide (ha = hb) = false := fun e => decide_eq_false (fun h => e (by subst h; rfl))
    rw [ne_eq, hop_ext] at hno
    rw [hop_ext] at hst
    obtain ⟨r1, hr1⟩ : ∃ r, r = ha[k].rad := ⟨_, rfl⟩
    obtain ⟨r2, hr2⟩ : ∃ r, r = hb[k].rad := ⟨_, rfl⟩
    obtain ⟨t1, ht1⟩ : ∃ r, r = ha[k].node := ⟨_, rfl⟩
    obtain ⟨t2, ht2⟩ : ∃ r, r = hb[k].node := ⟨_, rfl⟩
    rw [← hr1] at k0
    rw [← ht1] at k1
    rw [← hr2] at k2
    rw [← ht2] at k3
    rw [← hr1, ← hr2, ← ht1, ← ht2] at hst hno
    clear hr1 hr2 ht1 ht2 hka hkb
    have d1 : decide ((k : Int) < n) = true := decide_eq_true (by omega)
    have hki : (k : Int) < n := by omega
    by_cases hrr : r1 = r2
    ·by_cases htt : t1 = t2
     ·have HS := Lib.hid (hst ⟨hrr, htt⟩)
      subst hrr htt
      clear hst hno hlt
      go_wp2
      go_quiet (fail)
      go_wp2
      go_roundg (gk - 1)
      case measure => have := HGK.out; omega
      case rel => exact ⟨k + 1, by have := HGK.out; omega, by omega, by go_num, Lib.hid ⟨HS.out, HI.out.2.trans (below_drewN (Below.refl _ _) _)⟩⟩
     ·have HS := Lib.hid (hno (fun h => htt h.2))
      have d2 : (t1 == t2) = false := by simpa using htt
      subst hrr
      clear hst hno hlt htt
      go_wp2
      go_quiet (fail)
      go_wp2
      rw [HS.out]
      go_ret
      exact ⟨rfl, below_drewN HI.out.2 _⟩
    ·have HS := Lib.hid (hno (fun h => hrr h.1))
     have d2 : (r1 == r2) = false := by simpa using hrr
     clear hst hno hlt hrr
     go_wp2
     go_quiet (fail)
     go_wp2
     rw [HS.out]
     go_ret
     exact ⟨rfl, below_drewN HI.out.2 _⟩
   ·obtain rfl : k = n := by omega
    have HS := Lib.hid (show decide (ha = hb) = true from decide_eq_true (by have := HI.out.1; rwa [HN.out.1, List.take_length, ← HN.out.1, HN.out.2, List.take_length] at this))
    go_wp2
    rw [HS.out]
    go_ret
    exact ⟨rfl, HI.out.2⟩
end Go.Proofs.YtanofjmkkhocaaaGreatDoor
