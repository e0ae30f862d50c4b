/- The heap of free ids: the methods, up, down, Push, Pop. The heap of free ids: down. -/
import Derived.Test.YtanofjmkkhocaaaGreatDoorTcD
import Derived.Lib.SliceRun
import Derived.Deep.LoopGhost
import Derived.BigQuiet
import Derived.IntWalk
set_option linter.unusedVariables false
set_option linter.unusedSimpArgs false
set_option maxRecDepth 100000
set_option maxHeartbeats 3200000
namespace Go.Proofs.YtanofjmkkhocaaaGreatDoor
open Go Go.RowKit Go.MapKept
open Go.ChangeMaps (setBlock)
theorem intsV_len (l : List Int) : (intsV l).length = l.length := by simp [intsV]
theorem intsV_at (l : List Int) (i : Nat) (h : i < l.length) : (intsV l)[i]? = some (.int .i64 (l.getD i 0)) := by
 simp [intsV, h]
theorem intsV_set (l : List Int) (i : Nat) (x : Int) : (intsV l).set i (.int .i64 x) = intsV (l.set i x) := by simp [intsV, List.map_set]
theorem intsV_take (l : List Int) (i : Nat) : (intsV l).take i = intsV (l.take i) := by simp [intsV]
theorem intsV_app (l m : List Int) : intsV l ++ intsV m = intsV (l ++ m) := by simp [intsV]
abbrev RowI (w : World) (g n cap : Nat) (l : List Int) : Prop := w.ownsRow 0 3 1 (.slice (some ⟨g, 0, none⟩) n cap) n (intsV l)
theorem RowI.len {w : World} {g n cap : Nat} {l : List Int} (h : RowI w g n cap l) : l.length = n := by
 have := h.1
 rw [intsV_len] at this
 omega
theorem RowI.cell {w : World} {g n cap : Nat} {l : List Int} (h : RowI w g n cap l) (i : Nat) (hi : i < n) : w.cell? ⟨g, i, none⟩ = some (.int .i64 (l.getD i 0)) := by
 rw [h.cellAt i (by omega), intsV_at l i (by rw [h.len]; exact hi)]
theorem RowI.cap {w : World} {g n cap : Nat} {l : List Int} (h : RowI w g n cap l) : n ≤ cap ∧ cap ≤ maxLen := by
 rcases h.2 with ⟨h', _⟩ | ⟨g', cap', cur, h', _, _, h1, h2, _⟩
 ·simp at h'
 ·simp only [Value.slice.injEq, Option.some.injEq, Addr.mk.injEq, and_true, true_and] at h'
  obtain ⟨rfl, rfl⟩ := h'
  exact ⟨h1, h2⟩
theorem RowI.stored1 {w : World} {g n cap : Nat} {l : List Int} (h : RowI w g n cap l) (i : Nat) (x : Int) : RowI (w.setCell ⟨g, i, none⟩ (.int .i64 x)) g n cap (l.set i x) ∧ w.grownBy (w.setCell ⟨g, i, none⟩ (.int .i64 x)) (some g) := by
 have := h.stored i (.int .i64 x)
 rw [intsV_set] at this
 exact this
theorem RowI.stored2 {w : World} {g n cap : Nat} {l : List Int} (h : RowI w g n cap l) (i j : Nat) (x y : Int) : RowI ((w.setCell ⟨g, i, none⟩ (.int .i64 x)).setCell ⟨g, j, none⟩ (.int .i64 y)).drew g n cap ((l.set i x).set j y) ∧ w.grownBy ((w.setCell ⟨g, i, none⟩ (.int .i64 x)).setCell ⟨g, j, none⟩ (.int .i64 y)).drew (some g) := by
 have h1 := h.stored1 i x
 have h2 := h1.1.stored1 j y
 exact ⟨h2.1, grown_drew (grown_trans h1.2 h2.2)⟩
theorem flen_any (v : Value) (a : Option Addr) (n c : Nat) (hv : v = .slice a n c) (w : World) : Calls Tryz.prog 454 #[v] w fun e w' => e = .returned (.int .i64 n) ∧ w' = w := by
 subst hv
 go_enter Tryz.func454, Tryz.ntmps454
 go_wp2
 go_ret
 exact ⟨rfl, rfl⟩
theorem fless_any {w : World} {g n cap : Nat} {l : List Int} (h : RowI w g n cap l) (i j : Nat) (hi : i < n) (hj : j < n) :
  Calls Tryz.prog 455 #[.slice (some ⟨g, 0, none⟩) n cap, .int .i64 i, .int .i64 j] w fun e w' => e = .returned (.bool (decide (l.getD i 0 < l.getD j 0))) ∧ ∃ q, w' = w.drewN q := by
 have c1 := h.cell i hi
 have c2 := h.cell j hj
 obtain ⟨x, hx⟩ : ∃ x, x = l.getD i 0 := ⟨_, rfl⟩
 obtain ⟨y, hy⟩ : ∃ y, y = l.getD j 0 := ⟨_, rfl⟩
 rw [← hx] at c1
 rw [← hy] at c2
 rw [← hx, ← hy]
 have i1 : (i : Int) < n := by omega
 have i2 : (j : Int) < n := by omega
 have i3 : (0 : Int) ≤ i := by omega
 have i4 : (0 : Int) ≤ j := by omega
 clear h hx hy
 go_enter Tryz.func455, Tryz.ntmps455
 go_wp2_with fail
 go_quiet (fail)
 all_goals
  go_wp2
  go_ret
  exact ⟨rfl, _, rfl⟩
theorem fswap_any {w : World} {g n cap : Nat} {l : List Int} (h : RowI w g n cap l) (i j : Nat) (hi : i < n) (hj : j < n) :
  Calls Tryz.prog 456 #[.slice (some ⟨g, 0, none⟩) n cap, .int .i64 i, .int .i64 j] w fun e w' => e = .returned (.tuple #[]) ∧ RowI w' g n cap (swL l i j) ∧ w.grownBy w' (some g) := by
 have HR := Lib.hid h
 have c1 := h.cell i hi
 have c2 := h.cell j hj
 obtain ⟨x, hx⟩ : ∃ x, x = l.getD i 0 := ⟨_, rfl⟩
 obtain ⟨y, hy⟩ : ∃ y, y = l.getD j 0 := ⟨_, rfl⟩
 rw [← hx] at c1
 rw [← hy] at c2
 have f1 := h.frozenAt i
 have f2 := h.frozenAt j
 have i1 : (i : Int) < n := by omega
 have i2 : (j : Int) < n := by omega
 have i3 : (0 : Int) ≤ i := by omega
 have i4 : (0 : Int) ≤ j := by omega
 unfold swL
 rw [← hx, ← hy]
 have HS := Lib.hid (h.stored2 i j y x)
 have h3 := (h.stored1 i y).1
 have c3 := h3.cell j hj
 have f3 := h3.frozenAt j
 generalize (l.set i y).getD j 0 = z at c3
 clear h hx hy h3
 go_enter Tryz.func456, Tryz.ntmps456
 go_region
 all_goals
  go_wp2
  go_end0
  exact ⟨rfl, HS.out⟩
abbrev hpV (cb : Nat) : Value := .iface 162 (.pointer (some ⟨cb, 2, none⟩))
theorem ClAt.swap {w w' : World} {O : Nat → Own} {n : List UInt8} {cb ib ab g k cap : Nat} {C : Cl} {l : List Int} (h : ClAt w O n cb ib ab (.slice (some ⟨g, 0, none⟩) k cap) C) (hl : l.length = C.back.length) (hg : w.grownBy w' (some g)) (hr : RowI w' g k cap l) :
  ClAt w' O n cb ib ab (.slice (some ⟨g, 0, none⟩) k cap) { C with back := l } ∧ Kq (fun b => O b = some (some n)) w w' := by
 have hK : Kq (fun b => b = g) w w' := .of_grown hg (fun k e => by cases e; exact .inl rfl)
 obtain ⟨n1, n2, n3⟩ := h.row_ne (k := g) rfl
 have hk : k = C.back.length := by
  rcases h.back.2 with ⟨h', _⟩ | ⟨g', cap', cur, h', _⟩
  ·simp at h'
  ·simp at h'; exact h'.2.1
 subst hk
 exact ⟨⟨h.cl.kp hK (fun e => n1 e.symm), hK.at h.ids (fun e => n2 e.symm), hK.at h.all (fun e => n3 e.symm), by simp only; rw [hl]; exact hr, ⟨h.wf.ids, h.wf.born, h.wf.old, h.wf.least, h.wf.most⟩, h.ne, h.oc, h.oi, h.oa, h.ob⟩, hK.mono (fun i _ e => by subst e; exact h.ob i rfl)⟩
theorem ClAt.drewN {w : World} {O : Nat → Own} {n : List UInt8} {cb ib ab : Nat} {v : Value} {C : Cl} (h : ClAt w O n cb ib ab v C) (q : Nat) : ClAt (w.drewN q) O n cb ib ab v C := ⟨h.cl, h.ids, h.all, h.back, h.wf, h.ne, h.oc, h.oi, h.oa, h.ob⟩
theorem recv_free {W : World} (a : Addr) (m : String) : (receiverAt 162 (.val (.pointer (some a))) false (some m)).run Tryz.prog W = (loadVar 109 a).run Tryz.prog W := by kernel_rfl
theorem meth_less0 {W : World} (a : Addr) : (method 603 162 (.pointer (some a)) "Less").run Tryz.prog W = ((do let r ← receiverAt 162 (.val (.pointer (some a))) false (some (("Less".splitOn ".").getLastD "Less")); pure (455, r) : Sem (FuncId × Value))).run Tryz.prog W := by kernel_rfl
theorem meth_less {W : World} {cb : Nat} {v : Value} (k2 : W.cell? ⟨cb, 2, none⟩ = some v) : (method 603 162 (.pointer (some ⟨cb, 2, none⟩)) "Less").run Tryz.prog W = .ok (455, v) W := by
 rw [meth_less0, Sem.run_bind, recv_free]
 go_simp
theorem meth_len0 {W : World} (a : Addr) : (method 603 162 (.pointer (some a)) "Len").run Tryz.prog W = ((do let r ← receiverAt 162 (.val (.pointer (some a))) false (some (("Len".splitOn ".").getLastD "Len")); pure (454, r) : Sem (FuncId × Value))).run Tryz.prog W := by kernel_rfl
theorem meth_len {W : World} {cb : Nat} {v : Value} (k2 : W.cell? ⟨cb, 2, none⟩ = some v) : (method 603 162 (.pointer (some ⟨cb, 2, none⟩)) "Len").run Tryz.prog W = .ok (454, v) W := by
 rw [meth_len0, Sem.run_bind, recv_free]
 go_simp
theorem meth_swap0 {W : World} (a : Addr) : (method 603 162 (.pointer (some a)) "Swap").run Tryz.prog W = ((do let r ← receiverAt 162 (.val (.pointer (some a))) false (some (("Swap".splitOn ".").getLastD "Swap")); pure (456, r) : Sem (FuncId × Value))).run Tryz.prog W := by kernel_rfl
theorem meth_swap {W : World} {cb : Nat} {v : Value} (k2 : W.cell? ⟨cb, 2, none⟩ = some v) : (method 603 162 (.pointer (some ⟨cb, 2, none⟩)) "Swap").run Tryz.prog W = .ok (456, v) W := by
 rw [meth_swap0, Sem.run_bind, recv_free]
 go_simp
theorem meth_pop (W : World) (a : Addr) : (method 603 162 (.pointer (some a)) "Pop").run Tryz.prog W = .ok (457, .pointer (some a)) W := by kernel_rfl
theorem meth_push (W : World) (a : Addr) : (method 603 162 (.pointer (some a)) "Push").run Tryz.prog W = .ok (458, .pointer (some a)) W := by kernel_rfl
theorem upL_step {f : Nat} {l : List Int} {j : Nat} (hj : (j - 1) / 2 ≠ j) (h : l.getD j 0 < l.getD ((j - 1) / 2) 0) : upL (f + 1) l j = upL f (swL l ((j - 1) / 2) j) ((j - 1) / 2) := by
 rw [upL, if_neg hj, if_pos h]
theorem upL_top {f : Nat} {l : List Int} {j : Nat} (hj : (j - 1) / 2 = j) : upL f l j = l := by
 cases f with
 | zero => rfl
 | succ f => rw [upL, if_pos hj]
theorem upL_stop {f : Nat} {l : List Int} {j : Nat} (h : ¬ l.getD j 0 < l.getD ((j - 1) / 2) 0) : upL f l j = l := by
 cases f with
 | zero => rfl
 | succ f =>
  rw [upL, if_neg h]
  simp
theorem half_int (j : Nat) (h : (j : Int) ≤ 9223372036854775807) : wrap64 ((wrap64 ((j : Int) - 1)).tdiv 2) = (((j - 1) / 2 : Nat) : Int) := by
 have e1 : wrap64 ((j : Int) - 1) = (j : Int) - 1 := by unfold wrap64; omega
 rw [e1]
 cases j with
 | zero =>
  have e0 : (((0 : Nat) : Int) - 1).tdiv 2 = 0 := by decide
  rw [e0]
  unfold wrap64
  omega
 | succ j =>
  have e2 : ((j + 1 : Nat) : Int) - 1 = (j : Int) := by omega
  rw [e2, Int.tdiv_eq_ediv_of_nonneg (by omega)]
  rw [show (j + 1 - 1) / 2 = j / 2 by rfl]
  have e3 : wrap64 ((j : Int) / 2) = (j : Int) / 2 := by unfold wrap64; omega
  rw [e3]; omega
theorem up_any {w : World} {O : Nat → Own} {n : List UInt8} {cb ib ab g k cap : Nat} {C : Cl} (h : ClAt w O n cb ib ab (.slice (some ⟨g, 0, none⟩) k cap) C) (f j : Nat) (hj : j < C.back.length) (hf : j < f) :
  Calls Tryz.prog 453 #[hpV cb, .int .i64 j] w fun e w' => e = .returned (.tuple #[]) ∧ ClAt w' O n cb ib ab (.slice (some ⟨g, 0, none⟩) k cap) { C with back := upL f C.back j } ∧ Kq (fun b => O b = some (some n)) w w' := by
 have hk : k = C.back.length ∧ k ≤ 9223372036854775807 := by
  have h1 := RowI.cap (w := w) (g := g) (n := C.back.length) (cap := cap) (l := C.back) (by
   have := h.back
   rcases this.2 with ⟨h', _⟩ | ⟨g', cap', cur, h', _⟩
   ·simp at h'
   ·simp at h'
    rw [h'.2.1] at this
    exact this)
  have h2 := h.back
  rcases h2.2 with ⟨h', _⟩ | ⟨g', cap', cur, h', _⟩
  ·simp at h'
  ·simp at h'
   refine ⟨h'.2.1, ?_⟩
   have := h1.1
   have := h1.2
   simp [maxLen] at this
   omega
 obtain ⟨rfl, hk2⟩ := hk
 have HC := Lib.hid h
 have HN := Lib.hid hk2
 clear h hk2
 go_enter Tryz.func453, Tryz.ntmps453
 refine wp_hide fun Q1 hQ1 => ?_
 have HQ1 := Lib.hid hQ1
 clear hQ1
 go_wp2_with fail
 go_loopg [1] (j + 1) (fun gk i wr => ∃ (j' f' : Nat) (l' : List Int), i = .int .i64 j' ∧ Hid (j' < gk ∧ j' < f' ∧ j' < C.back.length ∧ l'.length = C.back.length ∧ upL f C.back j = upL f' l' j' ∧ ClAt wr O n cb ib ab (.slice (some ⟨g, 0, none⟩) C.back.length cap) { C with back := l' } ∧ Kq (fun b => O b = some (some n)) w wr))
 case atStart => exact ⟨j, f, C.back, rfl, Lib.hid ⟨by omega, hf, hj, rfl, rfl, HC.out, Kq.refl _ _⟩⟩
 case round =>
  obtain ⟨j', f', l', rfl, HR⟩ := hrel
  have k2 := HR.out.2.2.2.2.2.1.cl.cell 2 (.slice (some ⟨g, 0, none⟩) C.back.length cap) rfl
  have hrow : RowI wr g C.back.length cap l' := by have := HR.out.2.2.2.2.2.1.back; simp only at this; rw [HR.out.2.2.2.1] at this; exact this
  have HRow := Lib.hid hrow
  have hml := meth_less k2
  have hms := meth_swap k2
  have hh := half_int j' (by have := HR.out.2.2.1; have := HN.out; omega)
  obtain ⟨i, hi⟩ : ∃ i, i = (j' - 1) / 2 := ⟨_, rfl⟩
  have HI := Lib.hid (show i ≤ j' by omega)
  have Hi := Lib.hid hi
  rw [← hi] at hh
  clear hrow k2
  by_cases htop : i = j'
  ·have d1 : ((i : Int) == j') = true := by simp [htop]
   have HT := Lib.hid (show (j' - 1) / 2 = j' by rw [← hi, htop])
   clear htop hi
   go_wp2_with fail
   refine HQ1.out _ _ _ ?_
   go_end0
   refine ⟨rfl, ?_, HR.out.2.2.2.2.2.2⟩
   rw [HR.out.2.2.2.2.1, upL_top HT.out]
   exact HR.out.2.2.2.2.2.1
  ·have d1 : ((i : Int) == j') = false := by simp; omega
   have HL := Lib.hid (fless_any HRow.out j' i HR.out.2.2.1 (by have := HR.out.2.2.1; omega))
   have HT := Lib.hid (show (j' - 1) / 2 ≠ j' by rw [← hi]; exact htop)
   clear htop hi
   by_cases hlt : l'.getD j' 0 < l'.getD i 0
   ·rw [decide_eq_true hlt] at HL
    have HLt := Lib.hid hlt
    clear hlt
    go_wp2_with fail
    refine HL.out.mono ?_
    rintro e w1 ⟨rfl, q, rfl⟩
    have HSw := Lib.hid (fswap_any (w := wr.drewN q) HRow.out i j' (by have := HR.out.2.2.1; have := HI.out; omega) HR.out.2.2.1)
    have hms2 : (method 603 162 (.pointer (some ⟨cb, 2, none⟩)) "Swap").run Tryz.prog (wr.drewN q) = .ok (456, (.slice (some ⟨g, 0, none⟩) C.back.length cap)) (wr.drewN q) := meth_swap (HR.out.2.2.2.2.2.1.cl.cell 2 (.slice (some ⟨g, 0, none⟩) C.back.length cap) rfl)
    go_wp2_with fail
    refine HSw.out.mono ?_
    rintro e w2 ⟨rfl, hr2, hg2⟩
    have HZ := Lib.hid (ClAt.swap (w := wr.drewN q) (C := { C with back := l' }) (ClAt.drewN HR.out.2.2.2.2.2.1 q) (swL_len l' i j') hg2 hr2)
    clear hr2 hg2
    go_wp2_with fail
    go_roundg (gk - 1)
    case measure => have := HR.out.1; omega
    case rel =>
     refine ⟨i, f' - 1, swL l' i j', rfl, Lib.hid ⟨?_, ?_, ?_, ?_, ?_, HZ.out.1, (HR.out.2.2.2.2.2.2.drewN q).trans HZ.out.2⟩⟩
     ·have := HR.out.1; have := HI.out; have := HT.out; have := Hi.out; omega
     ·have := HR.out.2.1; have := HI.out; have := HT.out; have := Hi.out; omega
     ·have := HR.out.2.2.1; have := HI.out; omega
     ·rw [swL_len]; exact HR.out.2.2.2.1
     ·obtain ⟨f2, rfl⟩ : ∃ f2, f' = f2 + 1 := ⟨f' - 1, by have := HR.out.2.1; omega⟩
      have hlt2 := HLt.out
      rw [Hi.out] at hlt2 ⊢
      rw [HR.out.2.2.2.2.1, upL_step HT.out hlt2]
      rfl
   ·rw [decide_eq_false hlt] at HL
    have HLt := Lib.hid hlt
    clear hlt
    go_wp2_with fail
    refine HL.out.mono ?_
    rintro e w1 ⟨rfl, q, rfl⟩
    go_wp2_with fail
    refine HQ1.out _ _ _ ?_
    go_end0
    refine ⟨rfl, ?_, HR.out.2.2.2.2.2.2.drewN _⟩
    rw [HR.out.2.2.2.2.1, upL_stop (by rw [← Hi.out]; exact Int.not_lt.2 HLt.out)]
    exact ClAt.drewN HR.out.2.2.2.2.2.1 q
end Go.Proofs.YtanofjmkkhocaaaGreatDoor
namespace Go.Proofs.YtanofjmkkhocaaaGreatDoor
open Go Go.RowKit Go.MapKept
theorem dnL_step {f : Nat} {l : List Int} {i n : Nat} (hn : 2 * i + 1 < n) (h : l.getD (kidL l i n) 0 < l.getD i 0) : dnL (f + 1) l i n = dnL f (swL l i (kidL l i n)) (kidL l i n) n := by
 rw [dnL, if_neg (by omega), if_pos h]
theorem dnL_stop {f : Nat} {l : List Int} {i n : Nat} (h : ¬ l.getD (kidL l i n) 0 < l.getD i 0) : dnL f l i n = l := by
 cases f with
 | zero => rfl
 | succ f =>
  rw [dnL, if_neg h]
  simp
theorem dnL_end {f : Nat} {l : List Int} {i n : Nat} (h : n ≤ 2 * i + 1) : dnL f l i n = l := by
 cases f with
 | zero => rfl
 | succ f => rw [dnL, if_pos h]
theorem ClAt.k_eq {w : World} {O : Nat → Own} {n : List UInt8} {cb ib ab g k cap : Nat} {C : Cl} (h : ClAt w O n cb ib ab (.slice (some ⟨g, 0, none⟩) k cap) C) : k = C.back.length := by
 rcases h.back.2 with ⟨h', _⟩ | ⟨g', cap', cur, h', _⟩
 ·simp at h'
 ·simp at h'; exact h'.2.1
theorem down_any {w : World} {O : Nat → Own} {n : List UInt8} {cb ib ab g k cap : Nat} {C : Cl} (h : ClAt w O n cb ib ab (.slice (some ⟨g, 0, none⟩) k cap) C) (hw : C.back.length ≤ 1000000000) (f N : Nat) (hN : N ≤ C.back.length) (hf : N < f) :
  Calls Tryz.prog 86 #[hpV cb, .int .i64 0, .int .i64 N] w fun e w' => (∃ b, e = .returned (.bool b)) ∧ ClAt w' O n cb ib ab (.slice (some ⟨g, 0, none⟩) k cap) { C with back := dnL f C.back 0 N } ∧ Kq (fun b => O b = some (some n)) w w' := by
 obtain rfl := h.k_eq
 have HC := Lib.hid h
 have HN := Lib.hid hN
 have HW := Lib.hid hw
 clear h hw hN
 go_enter Tryz.func86, Tryz.ntmps86
 refine wp_hide fun Q1 hQ1 => ?_
 have HQ1 := Lib.hid hQ1
 clear hQ1
 go_wp2_with fail
 go_loopg [7] (N + 1) (fun gk x wr => ∃ (i f' : Nat) (l' : List Int), x = .int .i64 i ∧ i ≤ 1000000000 ∧ Hid (N < gk + i ∧ N < f' + i ∧ l'.length = C.back.length ∧ dnL f C.back 0 N = dnL f' l' i N ∧ ClAt wr O n cb ib ab (.slice (some ⟨g, 0, none⟩) C.back.length cap) { C with back := l' } ∧ Kq (fun b => O b = some (some n)) w wr))
 case atStart => exact ⟨0, f, C.back, rfl, by omega, Lib.hid ⟨by omega, by omega, rfl, rfl, HC.out, Kq.refl _ _⟩⟩
 case round =>
  obtain ⟨i, f', l', rfl, hbig, HR⟩ := hrel
  have k2 := HR.out.2.2.2.2.1.cl.cell 2 (.slice (some ⟨g, 0, none⟩) C.back.length cap) rfl
  have hrow : RowI wr g C.back.length cap l' := by have := HR.out.2.2.2.2.1.back; simp only at this; rw [HR.out.2.2.1] at this; exact this
  have HRow := Lib.hid hrow
  have hml := meth_less k2
  clear hrow k2
  by_cases hend : N ≤ 2 * i + 1
  ··have e1 : wrap64 (wrap64 (2 * (i : Int)) + 1) = 2 * (i : Int) + 1 := by unfold wrap64; omega
    have hge : (N : Int) ≤ 2 * (i : Int) + 1 := by omega
    have HE := Lib.hid hend
    clear hend hbig
    go_wp2_with fail
    refine HQ1.out _ _ _ ?_
    go_ret
    refine ⟨⟨_, rfl⟩, ?_, HR.out.2.2.2.2.2⟩
    rw [HR.out.2.2.2.1, dnL_end HE.out]
    exact HR.out.2.2.2.2.1
  ·have HG := Lib.hid (show 2 * i + 1 < N ∧ i ≤ 1000000000 by omega)
   have e1 : wrap64 (wrap64 (2 * (i : Int)) + 1) = 2 * (i : Int) + 1 := by have := HG.out.2; unfold wrap64; omega
   have e2 : wrap64 (2 * (i : Int) + 1 + 1) = 2 * (i : Int) + 2 := by have := HG.out.2; unfold wrap64; omega
   have hlt1 : ¬ (N : Int) ≤ 2 * (i : Int) + 1 := by have := HG.out.1; omega
   have hlt0 : ¬ 2 * (i : Int) + 1 < 0 := by omega
   clear hend hbig
   by_cases h2 : 2 * i + 2 < N
   ·have h2i : 2 * (i : Int) + 2 < N := by omega
    have HL := Lib.hid (fless_any HRow.out (2 * i + 2) (2 * i + 1) (by have := HN.out; omega) (by have := HN.out; omega))
    rw [show ((2 * i + 2 : Nat) : Int) = 2 * (i : Int) + 2 by omega, show ((2 * i + 1 : Nat) : Int) = 2 * (i : Int) + 1 by omega] at HL
    by_cases hk : l'.getD (2 * i + 2) 0 < l'.getD (2 * i + 1) 0
    ·rw [decide_eq_true hk] at HL
     have HJ := Lib.hid (show 2 * i + 2 < C.back.length ∧ kidL l' i N = 2 * i + 2 from ⟨by have := HN.out; omega, by unfold kidL; rw [if_pos ⟨h2, hk⟩]⟩)
     clear hk h2
     go_wp2_with fail
     refine HL.out.mono ?_
     rintro e w1 ⟨rfl, q, hq⟩
     have HA := Lib.hid (show ClAt w1 O n cb ib ab (.slice (some ⟨g, 0, none⟩) C.back.length cap) { C with back := l' } ∧ Kq (fun b => O b = some (some n)) w w1 from by rw [hq]; exact ⟨ClAt.drewN HR.out.2.2.2.2.1 q, HR.out.2.2.2.2.2.drewN q⟩)
     clear hq
     have hml2 := meth_less (HA.out.1.cl.cell 2 (.slice (some ⟨g, 0, none⟩) C.back.length cap) rfl)
     have hRw : RowI w1 g C.back.length cap l' := by have := HA.out.1.back; simp only at this; rw [HR.out.2.2.1] at this; exact this
     have HL2 := Lib.hid (fless_any hRw (2 * i + 2) i HJ.out.1 (by have := HG.out.1; have := HN.out; omega))
     clear hRw
     by_cases hlt : l'.getD (2 * i + 2) 0 < l'.getD i 0
     ·rw [decide_eq_true hlt] at HL2
      have HLt := Lib.hid hlt
      clear hlt
      go_wp2_with fail
      refine HL2.out.mono ?_
      rintro e w2 ⟨rfl, q2, hq2⟩
      have HA2 := Lib.hid (show ClAt w2 O n cb ib ab (.slice (some ⟨g, 0, none⟩) C.back.length cap) { C with back := l' } ∧ Kq (fun b => O b = some (some n)) w w2 from by rw [hq2]; exact ⟨ClAt.drewN HA.out.1 q2, HA.out.2.drewN q2⟩)
      clear hq2
      have hRw : RowI w2 g C.back.length cap l' := by have := HA2.out.1.back; simp only at this; rw [HR.out.2.2.1] at this; exact this
      have HSw := Lib.hid (fswap_any hRw i (2 * i + 2) (by have := HG.out.1; have := HN.out; omega) HJ.out.1)
      have hms2 := meth_swap (HA2.out.1.cl.cell 2 (.slice (some ⟨g, 0, none⟩) C.back.length cap) rfl)
      clear hRw
      go_wp2_with fail
      refine HSw.out.mono ?_
      rintro e w3 ⟨rfl, hr2, hg2⟩
      have HZ := Lib.hid (ClAt.swap HA2.out.1 (swL_len l' i (2 * i + 2)) hg2 hr2)
      clear hr2 hg2
      go_wp2_with fail
      go_roundg (gk - 1)
      case measure => have := HG.out.1; have := HR.out.1; omega
      case rel =>
       refine ⟨2 * i + 2, f' - 1, swL l' i (2 * i + 2), by go_num, by have := HJ.out.1; have := HW.out; omega, Lib.hid ⟨?_, ?_, ?_, ?_, HZ.out.1, HA2.out.2.then (HZ.out.2) (fun _ _ e => e)⟩⟩
       ·have := HR.out.1; have := HG.out.1; omega
       ·have := HR.out.2.1; have := HG.out.1; omega
       ·rw [swL_len]; exact HR.out.2.2.1
       ·obtain ⟨f2, rfl⟩ : ∃ f2, f' = f2 + 1 := ⟨f' - 1, by have := HR.out.2.1; have := HG.out.1; omega⟩
        rw [HR.out.2.2.2.1, dnL_step HG.out.1 (by rw [HJ.out.2]; exact HLt.out), HJ.out.2]
        rfl
     ·rw [decide_eq_false hlt] at HL2
      have HLt := Lib.hid hlt
      clear hlt
      go_wp2_with fail
      refine HL2.out.mono ?_
      rintro e w2 ⟨rfl, q2, hq2⟩
      have HA2 := Lib.hid (show ClAt w2 O n cb ib ab (.slice (some ⟨g, 0, none⟩) C.back.length cap) { C with back := l' } ∧ Kq (fun b => O b = some (some n)) w w2 from by rw [hq2]; exact ⟨ClAt.drewN HA.out.1 q2, HA.out.2.drewN q2⟩)
      clear hq2
      go_wp2_with fail
      refine HQ1.out _ _ _ ?_
      go_ret
      refine ⟨⟨_, rfl⟩, ?_, HA2.out.2⟩
      rw [HR.out.2.2.2.1, dnL_stop (by rw [HJ.out.2]; exact Int.not_lt.2 HLt.out)]
      exact HA2.out.1
    ·rw [decide_eq_false hk] at HL
     have HJ := Lib.hid (show 2 * i + 1 < C.back.length ∧ kidL l' i N = 2 * i + 1 from ⟨by have := HN.out; omega, by unfold kidL; rw [if_neg (fun e => hk e.2)]⟩)
     clear hk h2
     go_wp2_with fail
     refine HL.out.mono ?_
     rintro e w1 ⟨rfl, q, hq⟩
     have HA := Lib.hid (show ClAt w1 O n cb ib ab (.slice (some ⟨g, 0, none⟩) C.back.length cap) { C with back := l' } ∧ Kq (fun b => O b = some (some n)) w w1 from by rw [hq]; exact ⟨ClAt.drewN HR.out.2.2.2.2.1 q, HR.out.2.2.2.2.2.drewN q⟩)
     clear hq
     have hml2 := meth_less (HA.out.1.cl.cell 2 (.slice (some ⟨g, 0, none⟩) C.back.length cap) rfl)
     have hRw : RowI w1 g C.back.length cap l' := by have := HA.out.1.back; simp only at this; rw [HR.out.2.2.1] at this; exact this
     have HL2 := Lib.hid (fless_any hRw (2 * i + 1) i HJ.out.1 (by have := HG.out.1; have := HN.out; omega))
     clear hRw
     by_cases hlt : l'.getD (2 * i + 1) 0 < l'.getD i 0
     ·rw [decide_eq_true hlt] at HL2
      have HLt := Lib.hid hlt
      clear hlt
      go_wp2_with fail
      refine HL2.out.mono ?_
      rintro e w2 ⟨rfl, q2, hq2⟩
      have HA2 := Lib.hid (show ClAt w2 O n cb ib ab (.slice (some ⟨g, 0, none⟩) C.back.length cap) { C with back := l' } ∧ Kq (fun b => O b = some (some n)) w w2 from by rw [hq2]; exact ⟨ClAt.drewN HA.out.1 q2, HA.out.2.drewN q2⟩)
      clear hq2
      have hRw : RowI w2 g C.back.length cap l' := by have := HA2.out.1.back; simp only at this; rw [HR.out.2.2.1] at this; exact this
      have HSw := Lib.hid (fswap_any hRw i (2 * i + 1) (by have := HG.out.1; have := HN.out; omega) HJ.out.1)
      have hms2 := meth_swap (HA2.out.1.cl.cell 2 (.slice (some ⟨g, 0, none⟩) C.back.length cap) rfl)
      clear hRw
      go_wp2_with fail
      refine HSw.out.mono ?_
      rintro e w3 ⟨rfl, hr2, hg2⟩
      have HZ := Lib.hid (ClAt.swap HA2.out.1 (swL_len l' i (2 * i + 1)) hg2 hr2)
      clear hr2 hg2
      go_wp2_with fail
      go_roundg (gk - 1)
      case measure => have := HG.out.1; have := HR.out.1; omega
      case rel =>
       refine ⟨2 * i + 1, f' - 1, swL l' i (2 * i + 1), by go_num, by have := HJ.out.1; have := HW.out; omega, Lib.hid ⟨?_, ?_, ?_, ?_, HZ.out.1, HA2.out.2.then (HZ.out.2) (fun _ _ e => e)⟩⟩
       ·have := HR.out.1; have := HG.out.1; omega
       ·have := HR.out.2.1; have := HG.out.1; omega
       ·rw [swL_len]; exact HR.out.2.2.1
       ·obtain ⟨f2, rfl⟩ : ∃ f2, f' = f2 + 1 := ⟨f' - 1, by have := HR.out.2.1; have := HG.out.1; omega⟩
        rw [HR.out.2.2.2.1, dnL_step HG.out.1 (by rw [HJ.out.2]; exact HLt.out), HJ.out.2]
        rfl
     ·rw [decide_eq_false hlt] at HL2
      have HLt := Lib.hid hlt
      clear hlt
      go_wp2_with fail
      refine HL2.out.mono ?_
      rintro e w2 ⟨rfl, q2, hq2⟩
      have HA2 := Lib.hid (show ClAt w2 O n cb ib ab (.slice (some ⟨g, 0, none⟩) C.back.length cap) { C with back := l' } ∧ Kq (fun b => O b = some (some n)) w w2 from by rw [hq2]; exact ⟨ClAt.drewN HA.out.1 q2, HA.out.2.drewN q2⟩)
      clear hq2
      go_wp2_with fail
      refine HQ1.out _ _ _ ?_
      go_ret
      refine ⟨⟨_, rfl⟩, ?_, HA2.out.2⟩
      rw [HR.out.2.2.2.1, dnL_stop (by rw [HJ.out.2]; exact Int.not_lt.2 HLt.out)]
      exact HA2.out.1
   ·have h2i : ¬ 2 * (i : Int) + 2 < N := by omega
    have HJ := Lib.hid (show 2 * i + 1 < C.back.length ∧ kidL l' i N = 2 * i + 1 from ⟨by have := HG.out.1; have := HN.out; omega, by unfold kidL; rw [if_neg (fun e => h2 e.1)]⟩)
    clear h2
    have HA := Lib.hid (show ClAt wr O n cb ib ab (.slice (some ⟨g, 0, none⟩) C.back.length cap) { C with back := l' } ∧ Kq (fun b => O b = some (some n)) w wr from ⟨HR.out.2.2.2.2.1, HR.out.2.2.2.2.2⟩)
    have hml2 := meth_less (HA.out.1.cl.cell 2 (.slice (some ⟨g, 0, none⟩) C.back.length cap) rfl)
    have hRw : RowI wr g C.back.length cap l' := by have := HA.out.1.back; simp only at this; rw [HR.out.2.2.1] at this; exact this
    have HL2 := Lib.hid (fless_any hRw (2 * i + 1) i HJ.out.1 (by have := HG.out.1; have := HN.out; omega))
    clear hRw
    by_cases hlt : l'.getD (2 * i + 1) 0 < l'.getD i 0
    ·rw [decide_eq_true hlt] at HL2
     have HLt := Lib.hid hlt
     clear hlt
     go_wp2_with fail
     refine HL2.out.mono ?_
     rintro e w2 ⟨rfl, q2, hq2⟩
     have HA2 := Lib.hid (show ClAt w2 O n cb ib ab (.slice (some ⟨g, 0, none⟩) C.back.length cap) { C with back := l' } ∧ Kq (fun b => O b = some (some n)) w w2 from by rw [hq2]; exact ⟨ClAt.drewN HA.out.1 q2, HA.out.2.drewN q2⟩)
     clear hq2
     have hRw : RowI w2 g C.back.length cap l' := by have := HA2.out.1.back; simp only at this; rw [HR.out.2.2.1] at this; exact this
     have HSw := Lib.hid (fswap_any hRw i (2 * i + 1) (by have := HG.out.1; have := HN.out; omega) HJ.out.1)
     have hms2 := meth_swap (HA2.out.1.cl.cell 2 (.slice (some ⟨g, 0, none⟩) C.back.length cap) rfl)
     clear hRw
     go_wp2_with fail
     refine HSw.out.mono ?_
     rintro e w3 ⟨rfl, hr2, hg2⟩
     have HZ := Lib.hid (ClAt.swap HA2.out.1 (swL_len l' i (2 * i + 1)) hg2 hr2)
     clear hr2 hg2
     go_wp2_with fail
     go_roundg (gk - 1)
     case measure => have := HG.out.1; have := HR.out.1; omega
     case rel =>
      refine ⟨2 * i + 1, f' - 1, swL l' i (2 * i + 1), by go_num, by have := HJ.out.1; have := HW.out; omega, Lib.hid ⟨?_, ?_, ?_, ?_, HZ.out.1, HA2.out.2.then (HZ.out.2) (fun _ _ e => e)⟩⟩
      ·have := HR.out.1; have := HG.out.1; omega
      ·have := HR.out.2.1; have := HG.out.1; omega
      ·rw [swL_len]; exact HR.out.2.2.1
      ·obtain ⟨f2, rfl⟩ : ∃ f2, f' = f2 + 1 := ⟨f' - 1, by have := HR.out.2.1; have := HG.out.1; omega⟩
       rw [HR.out.2.2.2.1, dnL_step HG.out.1 (by rw [HJ.out.2]; exact HLt.out), HJ.out.2]
       rfl
    ·rw [decide_eq_false hlt] at HL2
     have HLt := Lib.hid hlt
     clear hlt
     go_wp2_with fail
     refine HL2.out.mono ?_
     rintro e w2 ⟨rfl, q2, hq2⟩
     have HA2 := Lib.hid (show ClAt w2 O n cb ib ab (.slice (some ⟨g, 0, none⟩) C.back.length cap) { C with back := l' } ∧ Kq (fun b => O b = some (some n)) w w2 from by rw [hq2]; exact ⟨ClAt.drewN HA.out.1 q2, HA.out.2.drewN q2⟩)
     clear hq2
     go_wp2_with fail
     refine HQ1.out _ _ _ ?_
     go_ret
     refine ⟨⟨_, rfl⟩, ?_, HA2.out.2⟩
     rw [HR.out.2.2.2.1, dnL_stop (by rw [HJ.out.2]; exact Int.not_lt.2 HLt.out)]
     exact HA2.out.1
end Go.Proofs.YtanofjmkkhocaaaGreatDoor
