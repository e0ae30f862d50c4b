/- HeadCalls. -/
import Derived.Test.YtjkmfdkhfjhegaaHeE
import Derived.Test.YtjkmfdkhfjhegaaHeF
import Derived.Test.YtjkmfdkhfjhegaaHeG
import Derived.Test.YtjkmfdkhfjhegaaHdT
import Derived.Test.YtjkmfdkhfjhegaaHdN
namespace Go.Proofs.Ytjkmfdkhfjhegaa
open Go Go.RowKit
set_option linter.unusedVariables false
set_option linter.unusedSimpArgs false
theorem load_Hd (a : Addr) : loadVar 26 a = rowSem 26 a := rfl
theorem store_Hd (a : Addr) (v : Value) : storeVar 26 a v = rowStore 26 a v := rfl
attribute [local go_sem ↓] load_Pk store_Pk load_Hd store_Hd
attribute [local irreducible] rowSem rowStore

def hdC (a b c : Int) : Array Value := #[.int .i64 a, .int .i64 b, .int .i64 c]
theorem load_hd {w : World} {b : Nat} {x y z : Int} (h : Obj? w b (hdC x y z) 26) : (rowSem 26 ⟨b, 0, none⟩).run Try.prog w = .ok (.agg (hdC x y z)) w :=
  rowSem_run w b 26 26 _ _ h Try.underlying26 rfl infoHd
theorem store_newhd (w : World) (x y z : Int) : (rowStore 26 ⟨w.heap.size, 0, none⟩ (.agg (hdC x y z))).run Try.prog (w.alloc (.cells #[.int .i64 0, .int .i64 0, .int .i64 0] 26 (0, 0))) = .ok () (w.alloc (.cells (hdC x y z) 26 (0, 0))) := by
  have h := rowStore_run (P := Try.prog) _ w.heap.size 26 26 _ (hdC x y z) (Obj?.new w #[.int .i64 0, .int .i64 0, .int .i64 0] 26) infoHd rfl (by simp [hdC, Value.oneCell'])
  rw [World.setRow_alloc_new] at h
  exact h
theorem eql_hd (x y z : Int) (w : World) : (binOp .eql 26 (.agg (hdC x y z)) (.agg (hdC x y z))).run Try.prog w = .ok (.bool true) w := by
  unfold hdC
  go_simp
/-- The arguments, boxed. -/
structure HcAt (w : World) (k f l : Int) (p q : Pk) (pw pc pf pp qw qc qf qp : Value) (W : World) : Prop where
  h : Obj? W w.heap.size (hdC k f l) 26
  op : Obj? W (w.heap.size + 1) (pkCs p pw pc pf pp) 35
  oq : Obj? W (w.heap.size + 1 + 1) (pkCs q qw qc qf qp) 35
  ap : PkAt W p pw pc pf pp
  aq : PkAt W q qw qc qf qp
  bel : Below w.heap.size w W
theorem HcAt.below {w : World} {k f l : Int} {p q : Pk} {pw pc pf pp qw qc qf qp : Value} {A B : World} (h : HcAt w k f l p q pw pc pf pp qw qc qf qp A) (hb : Below A.heap.size A B) : HcAt w k f l p q pw pc pf pp qw qc qf qp B :=
  ⟨h.h.below hb h.h.lt, h.op.below hb h.op.lt, h.oq.below hb h.oq.lt, h.ap.below hb, h.aq.below hb, below_thenh h.bel hb⟩
theorem hc_world (k f l : Int) {p q : Pk} {pw pc pf pp qw qc qf qp : Value} {w : World} (hP : PkAt w p pw pc pf pp) (hQ : PkAt w q qw qc qf qp) :
    ∃ W0, ((w.alloc (.cells #[.int .i64 k, .int .i64 f, .int .i64 l] 26 (0, 0))).alloc (.cells (pkCs p pw pc pf pp) 35 (0, 0))).alloc (.cells (pkCs q qw qc qf qp) 35 (0, 0)) = W0 ∧ HcAt w k f l p q pw pc pf pp qw qc qf qp W0 := by
  have hb := below_al (below_al (below_al (Below.refl _ w) (.cells #[.int .i64 k, .int .i64 f, .int .i64 l] 26 (0, 0))) (.cells (pkCs p pw pc pf pp) 35 (0, 0))) (.cells (pkCs q qw qc qf qp) 35 (0, 0))
  refine ⟨_, rfl, ((Obj?.new w _ _).alloc _).alloc _, ?_, ?_, hP.below hb, hQ.below hb, hb⟩
  · have := (Obj?.new (w.alloc (.cells #[.int .i64 k, .int .i64 f, .int .i64 l] 26 (0, 0))) (pkCs p pw pc pf pp) 35).alloc (.cells (pkCs q qw qc qf qp) 35 (0, 0))
    rw [World.size_alloc] at this
    exact this
  · have := Obj?.new ((w.alloc (.cells #[.int .i64 k, .int .i64 f, .int .i64 l] 26 (0, 0))).alloc (.cells (pkCs p pw pc pf pp) 35 (0, 0))) (pkCs q qw qc qf qp) 35
    rw [World.size_alloc, World.size_alloc] at this
    exact this
/-- What the orders of the last region keep. -/
abbrev SHc (w : World) (k f l : Int) (p q : Pk) (pw pc pf pp qw qc qf qp : Value) (b19 b22 : Nat) (r1 r2 r3 : Int) (W : World) : Prop :=
  Hid (HcAt w k f l p q pw pc pf pp qw qc qf qp W ∧ Obj? W b19 (hdC r1 r2 r3) 26 ∧ Obj? W b22 (hdC r1 r2 r3) 26) ∧ (rowSem 26 ⟨w.heap.size, 0, none⟩).run Try.prog W = .ok (.agg (hdC k f l)) W ∧ (rowSem 35 ⟨w.heap.size + 1, 0, none⟩).run Try.prog W = .ok (.agg (pkCs p pw pc pf pp)) W ∧ (rowSem 35 ⟨w.heap.size + 1 + 1, 0, none⟩).run Try.prog W = .ok (.agg (pkCs q qw qc qf qp)) W ∧
    (rowSem 26 ⟨b19, 0, none⟩).run Try.prog W = .ok (.agg (hdC r1 r2 r3)) W ∧ (rowSem 26 ⟨b22, 0, none⟩).run Try.prog W = .ok (.agg (hdC r1 r2 r3)) W ∧ (∀ j, W.cell? ⟨w.heap.size, j, none⟩ = (#[.int .i64 k, .int .i64 f, .int .i64 l] : Array Value)[j]?)
theorem sHc_mk {w : World} {k f l : Int} {p q : Pk} {pw pc pf pp qw qc qf qp : Value} {b19 b22 : Nat} {r1 r2 r3 : Int} {W : World} (h : HcAt w k f l p q pw pc pf pp qw qc qf qp W) (h1 : Obj? W b19 (hdC r1 r2 r3) 26) (h2 : Obj? W b22 (hdC r1 r2 r3) 26) : SHc w k f l p q pw pc pf pp qw qc qf qp b19 b22 r1 r2 r3 W :=
  ⟨Lib.hid ⟨h, h1, h2⟩, load_hd h.h, load_pk h.op, load_pk h.oq, load_hd h1, load_hd h2, h.h.cells⟩
set_option maxRecDepth 100000 in
set_option maxHeartbeats 6400000 in
theorem headCalls_walk (v k f l : Int) {p q : Pk} {pw pc pf pp qw qc qf qp : Value} (s : List UInt8) {w : World} (hP : PkAt w p pw pc pf pp) (hQ : PkAt w q qw qc qf qp) :
    Calls Try.prog 4 #[.int .i64 v, .agg #[.int .i64 k, .int .i64 f, .int .i64 l], .agg (pkCs p pw pc pf pp), .agg (pkCs q qw qc qf qp), .string ⟨s.toArray⟩] w fun e w' => e = .returned (.bool true) ∧ Below w.heap.size w w' := by
  obtain ⟨W0, hW0, hA⟩ := hc_world k f l hP hQ
  have HA0 := Lib.hid hA
  have HLv := Lib.hid lives07
  have HLp := Lib.hid (fun W (h : HcAt w k f l p q pw pc pf pp qw qc qf qp W) => lightpacket_any h.ap)
  have HLq := Lib.hid (fun W (h : HcAt w k f l p q pw pc pf pp qw qc qf qp W) => lightpacket_any h.aq)
  obtain ⟨⟨fa, fe⟩, hF⟩ : ∃ T, T = flagsF v p.s.ki p.s.du p.s.re p.s.q := ⟨_, rfl⟩
  have HF1 := Lib.hid (fun W => (show Calls Try.prog 7 #[.int .i64 v, .agg (pkCs p pw pc pf pp)] W (fun e w' => e = .returned (.tuple #[.int .i64 fa, .int .i64 fe]) ∧ Below W.heap.size W w') by
    have := flags_any v p.s.ki p.s.du p.s.re p.s.q (.int .i64 p.s.id) (.string ⟨p.s.top.toArray⟩) (.string ⟨p.s.pay.toArray⟩) (.bool p.s.cl) (.int .i64 p.s.al) (.string ⟨p.s.cli.toArray⟩) (.bool p.s.hu) (.string ⟨p.s.us.toArray⟩) (.bool p.s.hp) (.string ⟨p.s.pw.toArray⟩) (.bool p.s.hw) (.string ⟨p.w.top.toArray⟩) (.string ⟨p.w.pay.toArray⟩) (.int .i64 p.w.q) (.bool p.w.re) pw (.bool p.s.se) (.int .i64 p.s.co) pc pf pp W
    rw [← hF] at this
    exact this))
  have HF2 := Lib.hid (fun W => (show Calls Try.prog 13 #[.int .i64 v, .agg (pkCs p pw pc pf pp)] W (fun e w' => e = .returned (.tuple #[.int .i64 fa, .int .i64 fe]) ∧ Below W.heap.size W w') by
    have := rhflags_any v p.s.ki p.s.du p.s.re p.s.q (.int .i64 p.s.id) (.string ⟨p.s.top.toArray⟩) (.string ⟨p.s.pay.toArray⟩) (.bool p.s.cl) (.int .i64 p.s.al) (.string ⟨p.s.cli.toArray⟩) (.bool p.s.hu) (.string ⟨p.s.us.toArray⟩) (.bool p.s.hp) (.string ⟨p.s.pw.toArray⟩) (.bool p.s.hw) (.string ⟨p.w.top.toArray⟩) (.string ⟨p.w.pay.toArray⟩) (.int .i64 p.w.q) (.bool p.w.re) pw (.bool p.s.se) (.int .i64 p.s.co) pc pf pp W
    rw [← hF] at this
    exact this))
  obtain ⟨⟨ba, be⟩, hBt⟩ : ∃ T, T = bytesF v k f l := ⟨_, rfl⟩
  have HB1 := Lib.hid (fun W => (show Calls Try.prog 14 #[.int .i64 v, .agg (hdC k f l)] W (fun e w' => e = .returned (.tuple #[.string ⟨ba.toArray⟩, .int .i64 be]) ∧ Below W.heap.size W w') by
    have := hdbytes_any v k f l W
    rw [← hBt] at this
    exact this))
  have HB2 := Lib.hid (fun W => (show Calls Try.prog 15 #[.int .i64 v, .agg (hdC k f l)] W (fun e w' => e = .returned (.tuple #[.string ⟨ba.toArray⟩, .int .i64 be]) ∧ Below W.heap.size W w') by
    have := rhdbytes_any v k f l W
    rw [← hBt] at this
    exact this))
  obtain ⟨ck, hck⟩ : ∃ c, c = checkF v k f l := ⟨_, rfl⟩
  have HC1 := Lib.hid (fun W => (show Calls Try.prog 6 #[.int .i64 v, .agg (hdC k f l)] W (fun e w' => e = .returned (.int .i64 ck) ∧ Below W.heap.size W w') by rw [hck]; exact check_any v k f l W))
  have HC2 := Lib.hid (fun W => (show Calls Try.prog 17 #[.int .i64 v, .agg (hdC k f l)] W (fun e w' => e = .returned (.int .i64 ck) ∧ Below W.heap.size W w') by rw [hck]; exact rcheck_any v k f l W))
  obtain ⟨bs, hbs⟩ : ∃ b, b = decide (p = q) := ⟨_, rfl⟩
  have HS1 := Lib.hid (fun W (h : HcAt w k f l p q pw pc pf pp qw qc qf qp W) => hsame_any h.ap h.aq)
  have HS2 := Lib.hid (fun W (h : HcAt w k f l p q pw pc pf pp qw qc qf qp W) => rsame_any h.ap h.aq)
  rw [← hbs] at HS1 HS2
  have HN1 := Lib.hid (fun W => hdname_any k W)
  have HN2 := Lib.hid (fun W => rhdname_any k W)
  obtain ⟨nm, hnm⟩ : ∃ n, n = nameFn k := ⟨_, rfl⟩
  rw [← hnm] at HN1 HN2
  clear hA hF hBt hck hbs hnm hP hQ
  go_enter Try.func4, Try.ntmps4
  refine wp_hide fun Q1 hQ1 => ?_
  have HQ1 := Lib.hid hQ1
  clear hQ1
  go_upto_region 1 with fail
  (try rw [hW0])
  clear hW0
  go_wp2_with fail
  refine (HLv.out _).mono ?_
  rintro r w1 ⟨rfl, hb⟩
  have HA1 := Lib.hid (HA0.out.below hb)
  clear hb HA0 HLv
  have hl := load_pk HA1.out.op
  go_wp2_with fail
  refine (HLp.out _ HA1.out).mono ?_
  rintro r w2 ⟨⟨B1, rfl, h1⟩, hb⟩
  have HA2 := Lib.hid (HA1.out.below hb)
  clear hb hl HA1 HLp
  cases B1 with
  | false =>
    go_wp2
    refine HQ1.out _ _ _ ?_
    go_ret
    exact ⟨rfl, HA2.out.bel⟩
  | true =>
  have HSp := Lib.hid (h1 rfl)
  clear h1
  have hl := load_pk HA2.out.oq
  go_wp2_with fail
  refine (HLq.out _ HA2.out).mono ?_
  rintro r w3 ⟨⟨B2, rfl, h2⟩, hb⟩
  have HA3 := Lib.hid (HA2.out.below hb)
  clear hb hl HA2 HLq h2
  cases B2 with
  | false =>
    go_wp2
    refine HQ1.out _ _ _ ?_
    go_ret
    exact ⟨rfl, HA3.out.bel⟩
  | true =>
  by_cases hs : 60 < s.length
  · have d1 : (60 : Int) < s.length := by omega
    clear hs
    go_wp2
    refine HQ1.out _ _ _ ?_
    go_ret
    exact ⟨rfl, HA3.out.bel⟩
  have d1 : ¬ (60 : Int) < s.length := by omega
  obtain ⟨⟨r1, r2, r3, r4, r5⟩, hR⟩ : ∃ T, T = rdH v s := ⟨_, rfl⟩
  have HR1 := Lib.hid (fun W => hdread_any v s (by omega) W)
  have HR2 := Lib.hid (fun W => rhdread_any v s (by omega) W)
  rw [← hR] at HR1 HR2
  clear hs hR
  have hl := load_pk HA3.out.op
  go_wp2_with fail
  refine (HF1.out _).mono ?_
  rintro r w4 ⟨rfl, hb⟩
  have HA4 := Lib.hid (HA3.out.below hb)
  clear hb hl HA3 HF1
  have hl := load_pk HA4.out.op
  go_wp2_with fail
  refine (HF2.out _).mono ?_
  rintro r w5 ⟨rfl, hb⟩
  have HA5 := Lib.hid (HA4.out.below hb)
  clear hb hl HA4 HF2
  have hl := load_hd HA5.out.h
  go_wp2_with fail
  refine (HB1.out _).mono ?_
  rintro r w6 ⟨rfl, hb⟩
  have HA6 := Lib.hid (HA5.out.below hb)
  clear hb hl HA5 HB1
  have hl := load_hd HA6.out.h
  go_wp2_with fail
  refine (HB2.out _).mono ?_
  rintro r w7 ⟨rfl, hb⟩
  have HA7 := Lib.hid (HA6.out.below hb)
  clear hb hl HA6 HB2
  go_wp2_with fail
  refine (HR1.out _).mono ?_
  rintro r w8 ⟨rfl, hb⟩
  have hst := store_newhd w8 r1 r2 r3
  have HA8 := Lib.hid (And.intro (HA7.out.below (below_al hb (.cells (hdC r1 r2 r3) 26 (0, 0)))) (Obj?.new w8 (hdC r1 r2 r3) 26))
  unfold hdC at hst
  clear hb HA7 HR1
  go_upto_region 10 with fail
  (try dsimp only [List.append])
  obtain ⟨W8, hW8⟩ : ∃ W8, W8 = w8.alloc (.cells (hdC r1 r2 r3) 26 (0, 0)) := ⟨_, rfl⟩
  rw [← hW8] at HA8
  unfold hdC at hW8
  rw [← hW8]
  clear hW8 hst
  obtain ⟨b19, hb19⟩ : ∃ b, b = w8.heap.size := ⟨_, rfl⟩
  rw [← hb19] at HA8
  rw [← hb19]
  clear hb19
  go_wp2_with fail
  refine (HR2.out _).mono ?_
  rintro r w9 ⟨rfl, hb⟩
  have hst := store_newhd w9 r1 r2 r3
  unfold hdC at hst
  have hbb := below_al hb (.cells (hdC r1 r2 r3) 26 (0, 0))
  have HA9 := Lib.hid (And.intro (HA8.out.1.below hbb) (And.intro (HA8.out.2.below hbb HA8.out.2.lt) (Obj?.new w9 (hdC r1 r2 r3) 26)))
  clear hb hbb HA8 HR2
  go_upto_region 11 with fail
  (try dsimp only [List.append])
  obtain ⟨W9, hW9⟩ : ∃ W9, W9 = w9.alloc (.cells (hdC r1 r2 r3) 26 (0, 0)) := ⟨_, rfl⟩
  rw [← hW9] at HA9
  unfold hdC at hW9
  rw [← hW9]
  clear hW9 hst
  obtain ⟨b22, hb22⟩ : ∃ b, b = w9.heap.size := ⟨_, rfl⟩
  rw [← hb22] at HA9
  rw [← hb22]
  clear hb22
  have qh := fun W => eql_hd r1 r2 r3 W
  have q1 : (ba == ba) = true := by simp
  have q2 : (nm == nm) = true := by simp
  have q3 : (bs == bs) = true := by simp
  have hc1 := HC1.out
  have hc2 := HC2.out
  have HSF := Lib.hid (show ∀ W W', Hid (HcAt w k f l p q pw pc pf pp qw qc qf qp W ∧ Obj? W b19 (hdC r1 r2 r3) 26 ∧ Obj? W b22 (hdC r1 r2 r3) 26) → Below W.heap.size W W' → SHc w k f l p q pw pc pf pp qw qc qf qp b19 b22 r1 r2 r3 W' from fun W W' h hb => sHc_mk (h.out.1.below hb) (h.out.2.1.below hb h.out.2.1.lt) (h.out.2.2.below hb h.out.2.2.lt))
  have HS1' := Lib.hid (fun W (h : Hid (HcAt w k f l p q pw pc pf pp qw qc qf qp W ∧ Obj? W b19 (hdC r1 r2 r3) 26 ∧ Obj? W b22 (hdC r1 r2 r3) 26)) => HS1.out W h.out.1)
  have HS2' := Lib.hid (fun W (h : Hid (HcAt w k f l p q pw pc pf pp qw qc qf qp W ∧ Obj? W b19 (hdC r1 r2 r3) 26 ∧ Obj? W b22 (hdC r1 r2 r3) 26)) => HS2.out W h.out.1)
  have HCp := Lib.hid (fun W (h : Hid (HcAt w k f l p q pw pc pf pp qw qc qf qp W ∧ Obj? W b19 (hdC r1 r2 r3) 26 ∧ Obj? W b22 (hdC r1 r2 r3) 26)) => copy_any h.out.1.ap HSp.out)
  have HSk := Lib.hid (fun W (h : Hid (HcAt w k f l p q pw pc pf pp qw qc qf qp W ∧ Obj? W b19 (hdC r1 r2 r3) 26 ∧ Obj? W b22 (hdC r1 r2 r3) 26)) (vw vc vf vp : Value) (h2 : Hid (PkAt W p vw vc vf vp)) => ksamepk_eq h2.out h.out.1.ap)
  have hS0 := sHc_mk HA9.out.1 HA9.out.2.1 HA9.out.2.2
  have hS1 := HSF.out W9 W9.drew HA9 (below_grown (quiet_grown ⟨1, rfl⟩ none))
  clear HS1 HS2
  go_region_held3 (fun W => Hid (HcAt w k f l p q pw pc pf pp qw qc qf qp W ∧ Obj? W b19 (hdC r1 r2 r3) 26 ∧ Obj? W b22 (hdC r1 r2 r3) 26) ∧ (rowSem 26 ⟨w.heap.size, 0, none⟩).run Try.prog W = .ok (.agg (hdC k f l)) W ∧ (rowSem 35 ⟨w.heap.size + 1, 0, none⟩).run Try.prog W = .ok (.agg (pkCs p pw pc pf pp)) W ∧ (rowSem 35 ⟨w.heap.size + 1 + 1, 0, none⟩).run Try.prog W = .ok (.agg (pkCs q qw qc qf qp)) W ∧
    (rowSem 26 ⟨b19, 0, none⟩).run Try.prog W = .ok (.agg (hdC r1 r2 r3)) W ∧ (rowSem 26 ⟨b22, 0, none⟩).run Try.prog W = .ok (.agg (hdC r1 r2 r3)) W ∧ (∀ j, W.cell? ⟨w.heap.size, j, none⟩ = (#[.int .i64 k, .int .i64 f, .int .i64 l] : Array Value)[j]?))
    ((first | assumption | exact HSF.out _ _ (by assumption) (below_grown (quiet_grown ⟨1, rfl⟩ none))))
    ((go_split_ands; first
      | (go_at_call 6; ((with_reducible refine (HC1.out _).mono ?_); (rintro e w' ⟨rfl, hb⟩; have hS := HSF.out _ _ (by assumption) hb)))
      | (go_at_call 17; ((with_reducible refine (HC2.out _).mono ?_); (rintro e w' ⟨rfl, hb⟩; have hS := HSF.out _ _ (by assumption) hb)))
      | (go_at_call 10; ((with_reducible refine (HS1'.out _ (by assumption)).mono ?_); (rintro e w' ⟨rfl, hb⟩; have hS := HSF.out _ _ (by assumption) hb)))
      | (go_at_call 18; ((with_reducible refine (HS2'.out _ (by assumption)).mono ?_); (rintro e w' ⟨rfl, hb⟩; have hS := HSF.out _ _ (by assumption) hb)))
      | (go_at_call 9; ((with_reducible refine (HCp.out _ (by assumption)).mono ?_); (rintro e w' ⟨vw, vc, vf, vp, rfl, -, hPk, hb⟩; have HPk := Lib.hid hPk; clear hPk; have hS := HSF.out _ _ (by assumption) hb)))
      | (go_at_call 19; ((with_reducible refine (HSk.out _ (by assumption) _ _ _ _ (by assumption)).mono ?_); (rintro e w' ⟨rfl, hb⟩; have hS := HSF.out _ _ (by assumption) hb)))
      | (go_at_call 11; ((with_reducible refine (HN1.out _).mono ?_); (rintro e w' ⟨rfl, hb⟩; have hS := HSF.out _ _ (by assumption) hb)))
      | (go_at_call 20; ((with_reducible refine (HN2.out _).mono ?_); (rintro e w' ⟨rfl, hb⟩; have hS := HSF.out _ _ (by assumption) hb)))))
  all_goals
    go_wp2_with fail
    refine HQ1.out _ _ _ ?_
    go_ret
    exact ⟨rfl, by first | exact hS.1.out.1.bel⟩
end Go.Proofs.Ytjkmfdkhfjhegaa
