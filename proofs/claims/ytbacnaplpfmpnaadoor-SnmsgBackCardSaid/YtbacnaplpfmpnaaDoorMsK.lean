/- snmsg: through. -/
import Derived.Test.YtbacnaplpfmpnaaDoorMsB
import Derived.Test.YtbacnaplpfmpnaaDoorMsJ
import Derived.Shelf.Abstract
namespace Go.Proofs.YtbacnaplpfmpnaaDoor
open Go.RowKit
set_option linter.unusedVariables false

theorem Kp.mono {B B' c d : Nat} {a b : World} (h : Kp B c d a b) (hB : B' ≤ B) : Kp B' c d a b :=
  ⟨h.os, h.tape, h.output, h.size, fun i hi h1 h2 => h.block i (Nat.lt_of_lt_of_le hi hB) h1 h2⟩
theorem ptsV_cell {cb k : Nat} {ps : List Pt} (hk : k < ps.length) : (ptsV cb ps)[k]? = some (Pt.val cb ps[k]) := by
  simp [ptsV, hk]
theorem foldl_take {α β : Type} (f : β → α → β) (s : β) (l : List α) (k : Nat) (hk : k < l.length) : (l.take (k + 1)).foldl f s = f ((l.take k).foldl f s) l[k] := by
  rw [List.take_succ_eq_append_getElem hk, List.foldl_append]; rfl
theorem ite_len {c : Prop} [Decidable c] {a b : List Pt} (ha : a.length ≤ 4) (hb : b.length ≤ 4) : (if c then a else b).length ≤ 4 := by split <;> assumption
theorem layout_len (k : Int) : (layoutF k).length ≤ 4 := by
  unfold layoutF
  repeat' (refine ite_len ?_ ?_)
  all_goals decide

theorem pt_enters (p : Pt) : Enters Tryd.prog p.fn := by
  cases p
  · exact enters_of Tryd.func75 (by kernel_rfl) rfl
  · exact enters_of Tryd.func77 (by kernel_rfl) rfl
  · exact enters_of Tryd.func81 (by kernel_rfl) rfl
  · exact enters_of Tryd.func76 (by kernel_rfl) rfl
  · exact enters_of Tryd.func84 (by kernel_rfl) rfl
  · exact enters_of Tryd.func85 (by kernel_rfl) rfl
  · exact enters_of Tryd.func78 (by kernel_rfl) rfl
  · exact enters_of Tryd.func83 (by kernel_rfl) rfl
  · exact enters_of Tryd.func79 (by kernel_rfl) rfl
  · exact enters_of Tryd.func80 (by kernel_rfl) rfl
  · exact enters_of Tryd.func82 (by kernel_rfl) rfl
  · exact enters_of Tryd.func86 (by kernel_rfl) rfl
  · exact enters_of Tryd.func87 (by kernel_rfl) rfl

set_option maxRecDepth 100000 in
set_option maxHeartbeats 3200000 in
theorem through_gen {σ : Type} (step : Pt → σ → σ) (w : World) (cb d : Nat) (kd : Int) (hk : kindM kd = true) (hc : w.cell? ⟨cb, 2, none⟩ = some (.int .i64 kd)) (hcb : cb < w.heap.size) (hd : d < w.heap.size) (s0 : σ)
    (Inv : Nat → Nat → World → σ → Prop) (h0 : ∀ w', Below w.heap.size w w' → Inv w'.heap.size 0 w' s0)
    (hd0 : ∀ B k w' s q, Inv B k w' s → Inv B k (w'.drewN q) s)
    (hs : ∀ B p k w' s, k < 4 → w.heap.size ≤ B → B ≤ w'.heap.size → Inv B k w' s → Calls Tryd.prog (Pt.fn p) #[.pointer (some ⟨cb, 0, none⟩)] w' fun r w'' => r = .returned (.tuple #[]) ∧ Inv B (k + 1) w'' (step p s) ∧ Kp B cb d w' w'') :
    Calls Tryd.prog 33 #[.pointer (some ⟨cb, 0, none⟩)] w fun r w' => r = .returned (.tuple #[]) ∧ (∃ B k, w.heap.size ≤ B ∧ k ≤ 4 ∧ Inv B k w' ((layoutF kd).foldl (fun s p => step p s) s0)) ∧ Kp w.heap.size cb d w w' := by
  obtain ⟨ps, hps⟩ : ∃ ps, ps = layoutF kd := ⟨_, rfl⟩
  have hlen : ps.length ≤ 4 := by rw [hps]; exact layout_len kd
  have H := Lib.hid (layout_all hk w cb hc)
  rw [← hps] at H ⊢
  clear hps hk hc
  go_enter Tryd.func33, Tryd.ntmps33
  go_wp2_with fail
  refine H.out.mono ?_
  rintro r w1 ⟨v, rfl, hp, hb⟩
  have HI := Lib.hid (h0 w1 hb)
  have hB1 := hb.size
  have HB := Lib.hid hb
  clear H h0
  rcases hp with ⟨rfl, rfl⟩ | ⟨g, hg, rfl, hrow⟩
  · go_wp2
    go_loopw [7] (fun i wr => i = .int .i64 0 ∧ wr = w1) (fun i _ => 0)
    case atStart => exact ⟨rfl, rfl⟩
    case round =>
      obtain ⟨rfl, rfl⟩ := hrel
      go_wp2
      go_end0
      exact ⟨rfl, ⟨wr.heap.size, 0, hB1, by omega, HI.out⟩, Kp.of_below HB.out (Nat.le_refl _)⟩
  · have HR := Lib.hid hrow
    have hgl := hrow.lt
    obtain ⟨n, hn⟩ : ∃ n, n = ps.length := ⟨_, rfl⟩
    rw [← hn]
    go_wp2
    go_loopw [7] (fun i wr => ∃ k : Nat, k ≤ n ∧ i = .int .i64 k ∧ Inv w1.heap.size k wr ((ps.take k).foldl (fun s p => step p s) s0) ∧ Obj? wr g (ptsV cb ps) 1 ∧ Kp w1.heap.size cb d w1 wr) (fun i _ => n - (intOf i).toNat)
    case atStart => exact ⟨0, Nat.zero_le _, rfl, HI.out, HR.out, Kp.refl _ _ _ _⟩
    case round =>
      obtain ⟨k, hk, rfl, hi, ho, hkp⟩ := hrel
      by_cases hlt : k < n
      · have hlt2 : k < ps.length := hn ▸ hlt
        have hcell := ho.cell k _ (ptsV_cell hlt2)
        unfold Pt.val at hcell
        have hfr := ho.frozen k
        have hent := pt_enters ps[k]
        unfold Enters at hent
        have HS := Lib.hid (hs w1.heap.size ps[k] k wr _ (by omega) hB1 hkp.size hi)
        rw [← foldl_take (fun s p => step p s) s0 ps k hlt2] at HS
        have HO := Lib.hid (And.intro ho hkp)
        have d1 : decide (k < n) = true := by simpa using hlt
        clear hi ho hkp
        go_wp2_with (go_at_fn (ps[k].fn); refine HS.out.mono ?_; rintro r w3 ⟨rfl, hi3, hk3⟩; have HQ := Lib.hid (And.intro hi3 hk3); clear hi3 hk3)
        go_roundw
        case rel => exact ⟨k + 1, by omega, by go_num, HQ.out.1, HQ.out.2.obj HO.out.1 hgl (by omega) (by omega), HO.out.2.trans HQ.out.2⟩
        case measure => simp [intOf]; omega
      · obtain rfl : k = n := by omega
        have d1 : decide (k < k) = false := by simp
        have HO := Lib.hid (And.intro hi hkp)
        clear hi ho hkp
        go_wp2
        go_end0
        have e : ps.take k = ps := by rw [hn]; exact List.take_length
        have h1 := HO.out.1
        rw [e] at h1
        exact ⟨rfl, ⟨w1.heap.size, k, hB1, by omega, h1⟩, (Kp.of_below HB.out (Nat.le_refl _)).trans (HO.out.2.mono hB1)⟩
end Go.Proofs.YtbacnaplpfmpnaaDoor
