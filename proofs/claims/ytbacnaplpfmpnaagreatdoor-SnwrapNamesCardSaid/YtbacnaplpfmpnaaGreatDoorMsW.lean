/- snmsg: Read. -/
import Derived.Test.YtbacnaplpfmpnaaGreatDoorMsT
namespace Go.Proofs.YtbacnaplpfmpnaaGreatDoor
open Go.RowKit
set_option linter.unusedVariables false
set_option linter.unusedSimpArgs false
theorem store_Msg (a : Addr) (v : Value) : storeVar 25 a v = rowStore 25 a v := rfl
attribute [local go_sem ↓] Go.wp_at_zero Go.wp_at_succ load_Msg store_Msg

theorem results_cell_tmp2 {fn : Func} {p u v : Tmp} {ty : TypeId} (h : fn.results = #[.cell p ty, .tmp u, .tmp v]) (tmps : Array Value) (P : Program) (w : World) :
    (results fn tmps).run P w = ((asAddr (tmps.getD p undef)).run P w).andThen fun a w₁ => ((loadVar ty a).run P w₁).andThen fun r w₂ => .ok (.tuple #[r, tmps.getD u undef, tmps.getD v undef]) w₂ := by
  simp only [results, h]
  simp [Sem.run_bind, Result.andThen]
theorem results_row_tmp2 {P : Program} {fn : Func} {p u v : Tmp} {ty : TypeId} (h : fn.results = #[.cell p ty, .tmp u, .tmp v]) (tmps : Array Value) (w : World) (g : Nat) (t : TypeId) (cs : Array Value) (d : TypeDesc)
    (hp : tmps.getD p undef = .pointer (some ⟨g, 0, none⟩)) (hg : Obj? w g cs t)
    (hu : P.underlying ty = some d) (hd : (match d with | .struct _ | .array _ _ => true | _ => false) = true) (hi : (P.info? ty).map (·.size) = some cs.size) :
    (results fn tmps).run P w = .ok (.tuple #[.agg cs, tmps.getD u undef, tmps.getD v undef]) w := by
  rw [results_cell_tmp2 h, hp]
  simp [asAddr, Result.andThen, run_loadVar_row w g t ty cs (0, 0) d hg hu hd hi]
def ReadIs (t : List UInt8) (m : Ms) (n e : Int) : Prop := ∀ w : World, Mx w → Calls Tryz.prog 12 #[.string ⟨t.toArray⟩] w fun r w' => r = .returned (.tuple #[.agg m.cs, .int .i64 n, .int .i64 e]) ∧ Below w.heap.size w w'
theorem store_zero {w : World} {b : Nat} {old : Array Value} (h : Obj? w b old 25) (hs : old.size = 16) : (rowStore 25 ⟨b, 0, none⟩ (.agg #[.int .i64 0, .bool false, .int .i64 0, .bool false, .bool false, .bool false, .int .i64 0, .int .i64 0, .int .i64 0, .int .i64 0, .bool false, .int .i64 0, .int .i64 0, .int .i64 0, .string ⟨#[]⟩, .string ⟨#[]⟩])).run Tryz.prog w = .ok () (w.setRow b #[.int .i64 0, .bool false, .int .i64 0, .bool false, .bool false, .bool false, .int .i64 0, .int .i64 0, .int .i64 0, .int .i64 0, .bool false, .int .i64 0, .int .i64 0, .int .i64 0, .string ⟨#[]⟩, .string ⟨#[]⟩]) :=
  rowStore_run w b 25 25 old _ h infoMs (by rw [hs]; rfl) (by simp [Value.oneCell'])
theorem store_msg {w : World} {b : Nat} {old : Array Value} (m : Ms) (h : Obj? w b old 25) (hs : old.size = 16) : (rowStore 25 ⟨b, 0, none⟩ (.agg m.cs)).run Tryz.prog w = .ok () (w.setRow b m.cs) :=
  rowStore_run w b 25 25 old _ h infoMs (by rw [hs]; rfl) (by simp [Ms.cs, Value.oneCell'])
theorem rdC_mid (cu : Nat) (X : Ms) : rdC cu X = #[.pointer (some ⟨cu, 0, none⟩), .int .i64 0] ++ X.cs ++ #[.slice none 0 0, .bool false] := by simp [rdC, cdC, Ms.cs]
theorem load_read {w : World} {b cu : Nat} {X : Ms} (h : Obj? w b (rdC cu X) 76) : (rowSem 25 ⟨b, 2, none⟩).run Tryz.prog w = .ok (.agg X.cs) w := by
  rw [rdC_mid] at h
  exact rowSem_mid w b 2 25 X.cs _ (fun j v hv => Obj?.mid h j v hv) Tryz.underlying25 rfl infoMs
theorem below_drewN {A : Nat} {a b : World} (h : Below A a b) (q : Nat) : Below A a (b.drewN q) := ⟨h.os, h.tape, h.output, h.size, h.block⟩
theorem store_Cd (a : Addr) (v : Value) : storeVar 76 a v = rowStore 76 a v := rfl
attribute [local go_sem ↓] store_Cd
theorem store_codec (w : World) (b : Nat) (k : Int) : (rowStore 76 ⟨w.heap.size, 0, none⟩ (.agg #[.pointer (some ⟨b, 0, none⟩), .int .i64 0, .int .i64 k, .bool false, .int .i64 0, .bool false, .bool false, .bool false, .int .i64 0, .int .i64 0, .int .i64 0, .int .i64 0, .bool false, .int .i64 0, .int .i64 0, .int .i64 0, .string ⟨#[]⟩, .string ⟨#[]⟩, .slice none 0 0, .bool false])).run Tryz.prog (w.alloc (.cells #[.pointer none, .int .i64 0, .int .i64 0, .bool false, .int .i64 0, .bool false, .bool false, .bool false, .int .i64 0, .int .i64 0, .int .i64 0, .int .i64 0, .bool false, .int .i64 0, .int .i64 0, .int .i64 0, .string ⟨#[]⟩, .string ⟨#[]⟩, .slice none 0 0, .bool false] 76 (0, 0))) = .ok () (w.alloc (.cells #[.pointer (some ⟨b, 0, none⟩), .int .i64 0, .int .i64 k, .bool false, .int .i64 0, .bool false, .bool false, .bool false, .int .i64 0, .int .i64 0, .int .i64 0, .int .i64 0, .bool false, .int .i64 0, .int .i64 0, .int .i64 0, .string ⟨#[]⟩, .string ⟨#[]⟩, .slice none 0 0, .bool false] 76 (0, 0))) := by
  have h := rowStore_run (P := Tryz.prog) (w.alloc (.cells #[.pointer none, .int .i64 0, .int .i64 0, .bool false, .int .i64 0, .bool false, .bool false, .bool false, .int .i64 0, .int .i64 0, .int .i64 0, .int .i64 0, .bool false, .int .i64 0, .int .i64 0, .int .i64 0, .string ⟨#[]⟩, .string ⟨#[]⟩, .slice none 0 0, .bool false] 76 (0, 0))) w.heap.size 76 76 _ #[.pointer (some ⟨b, 0, none⟩), .int .i64 0, .int .i64 k, .bool false, .int .i64 0, .bool false, .bool false, .bool false, .int .i64 0, .int .i64 0, .int .i64 0, .int .i64 0, .bool false, .int .i64 0, .int .i64 0, .int .i64 0, .string ⟨#[]⟩, .string ⟨#[]⟩, .slice none 0 0, .bool false] (Obj?.new w _ _) infoCd rfl (by simp [Value.oneCell'])
  rw [World.setRow_alloc_new] at h
  exact h
theorem invr_start {w : World} {b : Nat} {u : List UInt8} (h : Cur w b u 0 0) (k : Int) : InvR (w.alloc (.cells (rdC b (Ms.bare k fl0)) 76 (0, 0))) w.heap.size b u (rd0 k) :=
  ⟨Obj?.new w _ _, Obj?.alloc h _, Nat.zero_le _⟩

set_option maxRecDepth 100000 in
set_option maxHeartbeats 3200000 in
theorem msread_err (t : List UInt8) (ht : (t.length : Int) ≤ 4611686018427380000) (e : Int) (hs : snR t = (0, 0, 0, e)) (he : e ≠ 0) : ReadIs t ms0 0 e := by
  have de : (e != 0) = true := by simpa using he
  intro w hmx
  have hO0 := Obj?.new w #[.int .i64 0, .bool false, .int .i64 0, .bool false, .bool false, .bool false, .int .i64 0, .int .i64 0, .int .i64 0, .int .i64 0, .bool false, .int .i64 0, .int .i64 0, .int .i64 0, .string ⟨#[]⟩, .string ⟨#[]⟩] 25
  have hB0 := below_al (Below.refl _ w) (.cells #[.int .i64 0, .bool false, .int .i64 0, .bool false, .bool false, .bool false, .int .i64 0, .int .i64 0, .int .i64 0, .int .i64 0, .bool false, .int .i64 0, .int .i64 0, .int .i64 0, .string ⟨#[]⟩, .string ⟨#[]⟩] 25 (0, 0))
  have HM := Lib.hid hmx
  have H1 := Lib.hid (fun w => snread_any t (by omega) w)
  rw [hs] at H1
  have HO := Lib.hid hO0
  have HB := Lib.hid hB0
  clear hO0 hB0 hmx
  go_enter Tryz.func12, Tryz.ntmps12
  go_wp2_with fail
  refine (H1.out _).mono ?_
  rintro r w1 ⟨rfl, hb⟩
  have O1 := HO.out.below hb HO.out.lt
  have HB1 := Lib.hid (HB.out.trans (hb.mono HB.out.size))
  have hst1 := store_zero O1 rfl
  have HO1 := Lib.hid O1
  have hsz1 : w.heap.size < w1.heap.size := O1.lt
  clear hb O1
  go_wp2
  (try simp only [Exit.inBlock, Exit.then])
  refine bodyPost_ret (results_row_tmp2 rfl _ _ _ _ _ _ rfl (HO1.out.setRow _) Tryz.underlying25 rfl infoMs) rfl ?_
  exact ⟨rfl, below_row HB1.out (Nat.le_refl _) _⟩

set_option maxRecDepth 100000 in
set_option maxHeartbeats 3200000 in
theorem msread_enc (t : List UInt8) (ht : (t.length : Int) ≤ 4611686018427380000) (h l : Int) (hs : snR t = (254, h, l, 0)) : ReadIs t ms0 0 8 := by
  intro w hmx
  have hO0 := Obj?.new w #[.int .i64 0, .bool false, .int .i64 0, .bool false, .bool false, .bool false, .int .i64 0, .int .i64 0, .int .i64 0, .int .i64 0, .bool false, .int .i64 0, .int .i64 0, .int .i64 0, .string ⟨#[]⟩, .string ⟨#[]⟩] 25
  have hB0 := below_al (Below.refl _ w) (.cells #[.int .i64 0, .bool false, .int .i64 0, .bool false, .bool false, .bool false, .int .i64 0, .int .i64 0, .int .i64 0, .int .i64 0, .bool false, .int .i64 0, .int .i64 0, .int .i64 0, .string ⟨#[]⟩, .string ⟨#[]⟩] 25 (0, 0))
  have HM := Lib.hid hmx
  have H1 := Lib.hid (fun w => snread_any t (by omega) w)
  rw [hs] at H1
  have HO := Lib.hid hO0
  have HB := Lib.hid hB0
  clear hO0 hB0 hmx
  go_enter Tryz.func12, Tryz.ntmps12
  go_wp2_with fail
  refine (H1.out _).mono ?_
  rintro r w1 ⟨rfl, hb⟩
  have O1 := HO.out.below hb HO.out.lt
  have HB1 := Lib.hid (HB.out.trans (hb.mono HB.out.size))
  have hst1 := store_zero O1 rfl
  have HO1 := Lib.hid O1
  have hsz1 : w.heap.size < w1.heap.size := O1.lt
  clear hb O1
  go_wp2
  (try simp only [Exit.inBlock, Exit.then])
  refine bodyPost_ret (results_row_tmp2 rfl _ _ _ _ _ _ rfl (HO1.out.setRow _) Tryz.underlying25 rfl infoMs) rfl ?_
  exact ⟨rfl, below_row HB1.out (Nat.le_refl _) _⟩

set_option maxRecDepth 100000 in
set_option maxHeartbeats 3200000 in
theorem msread_short (t : List UInt8) (ht : (t.length : Int) ≤ 4611686018427380000) (k : Int) (h l : Nat) (hs : snR t = (k, (h : Int), (l : Int), 0)) (hk : k ≠ 254) (hl : t.length < l) : ReadIs t ms0 0 3 := by
  have dk : (k == 254) = false := by simpa using hk
  have dl : decide ((t.length : Int) < l) = true := by simp; omega
  intro w hmx
  have hO0 := Obj?.new w #[.int .i64 0, .bool false, .int .i64 0, .bool false, .bool false, .bool false, .int .i64 0, .int .i64 0, .int .i64 0, .int .i64 0, .bool false, .int .i64 0, .int .i64 0, .int .i64 0, .string ⟨#[]⟩, .string ⟨#[]⟩] 25
  have hB0 := below_al (Below.refl _ w) (.cells #[.int .i64 0, .bool false, .int .i64 0, .bool false, .bool false, .bool false, .int .i64 0, .int .i64 0, .int .i64 0, .int .i64 0, .bool false, .int .i64 0, .int .i64 0, .int .i64 0, .string ⟨#[]⟩, .string ⟨#[]⟩] 25 (0, 0))
  have HM := Lib.hid hmx
  have H1 := Lib.hid (fun w => snread_any t (by omega) w)
  rw [hs] at H1
  have HO := Lib.hid hO0
  have HB := Lib.hid hB0
  clear hO0 hB0 hmx
  go_enter Tryz.func12, Tryz.ntmps12
  go_wp2_with fail
  refine (H1.out _).mono ?_
  rintro r w1 ⟨rfl, hb⟩
  have O1 := HO.out.below hb HO.out.lt
  have HB1 := Lib.hid (HB.out.trans (hb.mono HB.out.size))
  have hst1 := store_zero O1 rfl
  have HO1 := Lib.hid O1
  have hsz1 : w.heap.size < w1.heap.size := O1.lt
  clear hb O1
  go_wp2
  (try simp only [Exit.inBlock, Exit.then])
  refine bodyPost_ret (results_row_tmp2 rfl _ _ _ _ _ _ rfl (HO1.out.setRow _) Tryz.underlying25 rfl infoMs) rfl ?_
  exact ⟨rfl, below_row HB1.out (Nat.le_refl _) _⟩

set_option maxRecDepth 100000 in
set_option maxHeartbeats 3200000 in
theorem msread_left (t : List UInt8) (ht : (t.length : Int) ≤ 4611686018427380000) (k : Int) (h l : Nat) (hs : snR t = (k, (h : Int), (l : Int), 0)) (hk : kindM k = true) (hhl : h ≤ l) (hl65 : l ≤ 65535) (hlt : l ≤ t.length) (X : Rd) (hX : X = readAll k (bodyL t h l) (rd0 k)) (he : X.e = 0) (hi : X.i < (bodyL t h l).length) : ReadIs t ms0 0 5 := by
  obtain ⟨xm, xi, xe⟩ := X
  simp only at he hi
  subst he
  have dk : (k == 254) = false := by
    have := kinds_of hk
    simp; omega
  have dl : decide ((t.length : Int) < l) = false := by simp; omega
  have hex := extract_body t h l
  have hul : (bodyL t h l).length = l - h := by unfold bodyL; simp; omega
  obtain ⟨u, hu⟩ : ∃ u, u = bodyL t h l := ⟨_, rfl⟩
  rw [← hu] at hex hul hX
  have HU := Lib.hid (And.intro hu hul)
  clear hu
  intro w hmx
  have hO0 := Obj?.new w #[.int .i64 0, .bool false, .int .i64 0, .bool false, .bool false, .bool false, .int .i64 0, .int .i64 0, .int .i64 0, .int .i64 0, .bool false, .int .i64 0, .int .i64 0, .int .i64 0, .string ⟨#[]⟩, .string ⟨#[]⟩] 25
  have hB0 := below_al (Below.refl _ w) (.cells #[.int .i64 0, .bool false, .int .i64 0, .bool false, .bool false, .bool false, .int .i64 0, .int .i64 0, .int .i64 0, .int .i64 0, .bool false, .int .i64 0, .int .i64 0, .int .i64 0, .string ⟨#[]⟩, .string ⟨#[]⟩] 25 (0, 0))
  have HM := Lib.hid hmx
  have H1 := Lib.hid (fun w => snread_any t (by omega) w)
  rw [hs] at H1
  have HO := Lib.hid hO0
  have HB := Lib.hid hB0
  clear hO0 hB0 hmx
  go_enter Tryz.func12, Tryz.ntmps12
  go_wp2_with fail
  refine (H1.out _).mono ?_
  rintro r w1 ⟨rfl, hb⟩
  have O1 := HO.out.below hb HO.out.lt
  have HB1 := Lib.hid (HB.out.trans (hb.mono HB.out.size))
  have hst1 := store_zero O1 rfl
  have HO1 := Lib.hid O1
  have hsz1 : w.heap.size < w1.heap.size := O1.lt
  clear hb O1
  clear hst1
  go_wp2_with fail
  refine (new_any u _).mono ?_
  rintro r w2 ⟨b, rfl, hb2, hcur, hg⟩
  have hbl : b < w2.heap.size := Obj?.lt hcur
  have O2 := HO1.out.kept hg (by simp)
  have HB2 := Lib.hid (HB1.out.grown hg HB1.out.size (fun j e => by cases e))
  have hst2 := store_codec w2 b k
  have HI := Lib.hid (invr_start hcur k)
  have HO2 := Lib.hid (O2.alloc (.cells (rdC b (Ms.bare k fl0)) 76 (0, 0)))
  have HB3 := Lib.hid (HB2.out.alloc HB2.out.size (.cells (rdC b (Ms.bare k fl0)) 76 (0, 0)))
  have hs3 := size_alloc1 w2 (.cells (rdC b (Ms.bare k fl0)) 76 (0, 0))
  have hs2 : w.heap.size < w2.heap.size := O2.lt
  clear hcur hg O2 HB2 HO1 HB1 
  unfold rdC cdC Ms.bare fl0 at HI HO2 HB3 hs3
  dsimp only at HI HO2 HB3 hs3
  go_wp2_with fail
  refine (through_read (s := rd0 k) hk HI.out (by omega) (by omega)).mono ?_
  rintro r w4 ⟨rfl, hi, hkp⟩
  have hi4 := hi
  rw [show readAll (rd0 k).m.ty u (rd0 k) = _ from hX.symm] at hi4
  have hp4 : w4.cell? ⟨w2.heap.size, 0, none⟩ = some (.pointer (some ⟨b, 0, none⟩)) := hi4.cells 0
  have hil : xi ≤ u.length := hi4.2.2
  rw [hs3] at hkp
  have HO4 := Lib.hid (hkp.obj HO2.out (by omega) (by omega) (by omega))
  have HB4 := Lib.hid (HB3.out.trans (hkp.to_below (A := w.heap.size) (by omega) (by omega) (by omega)))
  have HI4 := Lib.hid hi4
  have HX := Lib.hid hX
  clear hi hi4 hkp HI HO2 HB3 hst2 hX hs3
  go_wp2_with fail
  refine (err_any HI4.out.2.1).mono ?_
  rintro r w5 ⟨rfl, hw5⟩
  subst hw5
  have hlf : 0 < u.length - xi := by have h1 := hi; rw [HU.out.1]; omega
  go_wp2_with fail
  refine (left_any HI4.out.2.1 hil (by omega)).mono ?_
  rintro r w6 ⟨rfl, q, rfl⟩
  have hp6 : (w4.drewN q).cell? ⟨w2.heap.size, 0, none⟩ = some (.pointer (some ⟨b, 0, none⟩)) := hp4
  go_wp2_with fail
  refine (fail_any (w := w4.drewN q) HI4.out.2.1 5).mono ?_
  rintro r w7 ⟨rfl, hc7, hg7⟩
  have hp7 : w7.cell? ⟨w2.heap.size, 0, none⟩ = some (.pointer (some ⟨b, 0, none⟩)) := Obj?.cell ((show Obj? (w4.drewN q) _ _ _ from HI4.out.1).kept hg7 (by simp; omega)) 0 _ rfl
  have O7 := Obj?.kept (show Obj? (w4.drewN q) _ _ _ from HO4.out) hg7 (by simp; omega)
  have hst7 := store_zero O7 rfl
  have HB7 := Lib.hid ((below_drewN HB4.out q).grown hg7 HB4.out.size (fun j e => by cases e; omega))
  have HO7 := Lib.hid O7
  have HC7 := Lib.hid (show Cur w7 b u xi 5 from hc7)
  clear hc7 hg7 O7
  go_wp2_with fail
  refine (err_any HC7.out).mono ?_
  rintro r w8 ⟨rfl, hw8⟩
  subst hw8
  go_wp2
  (try simp only [Exit.inBlock, Exit.then])
  refine bodyPost_ret (results_row_tmp2 rfl _ _ _ _ _ _ rfl (HO7.out.setRow _) Tryz.underlying25 rfl infoMs) rfl ?_
  exact ⟨rfl, below_row HB7.out (Nat.le_refl _) _⟩

set_option maxRecDepth 100000 in
set_option maxHeartbeats 3200000 in
theorem msread_bad3 (t : List UInt8) (ht : (t.length : Int) ≤ 4611686018427380000) (k : Int) (h l : Nat) (hs : snR t = (k, (h : Int), (l : Int), 0)) (hk : kindM k = true) (hhl : h ≤ l) (hl65 : l ≤ 65535) (hlt : l ≤ t.length) (X : Rd) (hX : X = readAll k (bodyL t h l) (rd0 k)) (he : X.e = 3) : ReadIs t ms0 0 5 := by
  obtain ⟨xm, xi, xe⟩ := X
  simp only at he
  subst he
  have dk : (k == 254) = false := by
    have := kinds_of hk
    simp; omega
  have dl : decide ((t.length : Int) < l) = false := by simp; omega
  have hex := extract_body t h l
  have hul : (bodyL t h l).length = l - h := by unfold bodyL; simp; omega
  obtain ⟨u, hu⟩ : ∃ u, u = bodyL t h l := ⟨_, rfl⟩
  rw [← hu] at hex hul hX
  have HU := Lib.hid (And.intro hu hul)
  clear hu
  intro w hmx
  have hO0 := Obj?.new w #[.int .i64 0, .bool false, .int .i64 0, .bool false, .bool false, .bool false, .int .i64 0, .int .i64 0, .int .i64 0, .int .i64 0, .bool false, .int .i64 0, .int .i64 0, .int .i64 0, .string ⟨#[]⟩, .string ⟨#[]⟩] 25
  have hB0 := below_al (Below.refl _ w) (.cells #[.int .i64 0, .bool false, .int .i64 0, .bool false, .bool false, .bool false, .int .i64 0, .int .i64 0, .int .i64 0, .int .i64 0, .bool false, .int .i64 0, .int .i64 0, .int .i64 0, .string ⟨#[]⟩, .string ⟨#[]⟩] 25 (0, 0))
  have HM := Lib.hid hmx
  have H1 := Lib.hid (fun w => snread_any t (by omega) w)
  rw [hs] at H1
  have HO := Lib.hid hO0
  have HB := Lib.hid hB0
  clear hO0 hB0 hmx
  go_enter Tryz.func12, Tryz.ntmps12
  go_wp2_with fail
  refine (H1.out _).mono ?_
  rintro r w1 ⟨rfl, hb⟩
  have O1 := HO.out.below hb HO.out.lt
  have HB1 := Lib.hid (HB.out.trans (hb.mono HB.out.size))
  have hst1 := store_zero O1 rfl
  have HO1 := Lib.hid O1
  have hsz1 : w.heap.size < w1.heap.size := O1.lt
  clear hb O1
  clear hst1
  go_wp2_with fail
  refine (new_any u _).mono ?_
  rintro r w2 ⟨b, rfl, hb2, hcur, hg⟩
  have hbl : b < w2.heap.size := Obj?.lt hcur
  have O2 := HO1.out.kept hg (by simp)
  have HB2 := Lib.hid (HB1.out.grown hg HB1.out.size (fun j e => by cases e))
  have hst2 := store_codec w2 b k
  have HI := Lib.hid (invr_start hcur k)
  have HO2 := Lib.hid (O2.alloc (.cells (rdC b (Ms.bare k fl0)) 76 (0, 0)))
  have HB3 := Lib.hid (HB2.out.alloc HB2.out.size (.cells (rdC b (Ms.bare k fl0)) 76 (0, 0)))
  have hs3 := size_alloc1 w2 (.cells (rdC b (Ms.bare k fl0)) 76 (0, 0))
  have hs2 : w.heap.size < w2.heap.size := O2.lt
  clear hcur hg O2 HB2 HO1 HB1 
  unfold rdC cdC Ms.bare fl0 at HI HO2 HB3 hs3
  dsimp only at HI HO2 HB3 hs3
  go_wp2_with fail
  refine (through_read (s := rd0 k) hk HI.out (by omega) (by omega)).mono ?_
  rintro r w4 ⟨rfl, hi, hkp⟩
  have hi4 := hi
  rw [show readAll (rd0 k).m.ty u (rd0 k) = _ from hX.symm] at hi4
  have hp4 : w4.cell? ⟨w2.heap.size, 0, none⟩ = some (.pointer (some ⟨b, 0, none⟩)) := hi4.cells 0
  have hil : xi ≤ u.length := hi4.2.2
  rw [hs3] at hkp
  have HO4 := Lib.hid (hkp.obj HO2.out (by omega) (by omega) (by omega))
  have HB4 := Lib.hid (HB3.out.trans (hkp.to_below (A := w.heap.size) (by omega) (by omega) (by omega)))
  have HI4 := Lib.hid hi4
  have HX := Lib.hid hX
  clear hi hi4 hkp HI HO2 HB3 hst2 hX hs3
  go_wp2_with fail
  refine (err_any HI4.out.2.1).mono ?_
  rintro r w5 ⟨rfl, hw5⟩
  subst hw5
  have hst4 := store_zero HO4.out rfl
  go_wp2_with fail
  refine (err_any HI4.out.2.1).mono ?_
  rintro r w8 ⟨rfl, hw8⟩
  subst hw8
  go_wp2
  (try simp only [Exit.inBlock, Exit.then])
  refine bodyPost_ret (results_row_tmp2 rfl _ _ _ _ _ _ rfl (HO4.out.setRow _) Tryz.underlying25 rfl infoMs) rfl ?_
  exact ⟨rfl, below_row HB4.out (Nat.le_refl _) _⟩

set_option maxRecDepth 100000 in
set_option maxHeartbeats 3200000 in
theorem msread_bade (t : List UInt8) (ht : (t.length : Int) ≤ 4611686018427380000) (k : Int) (h l : Nat) (hs : snR t = (k, (h : Int), (l : Int), 0)) (hk : kindM k = true) (hhl : h ≤ l) (hl65 : l ≤ 65535) (hlt : l ≤ t.length) (X : Rd) (hX : X = readAll k (bodyL t h l) (rd0 k)) (he : X.e ≠ 0) (he3 : X.e ≠ 3) : ReadIs t ms0 0 X.e := by
  obtain ⟨xm, xi, xe⟩ := X
  simp only at he he3
  have d1 : (xe == 0) = false := by simpa using he
  have d2 : (xe == 3) = false := by simpa using he3
  have d3 : (xe != 0) = true := by simpa using he
  have dk : (k == 254) = false := by
    have := kinds_of hk
    simp; omega
  have dl : decide ((t.length : Int) < l) = false := by simp; omega
  have hex := extract_body t h l
  have hul : (bodyL t h l).length = l - h := by unfold bodyL; simp; omega
  obtain ⟨u, hu⟩ : ∃ u, u = bodyL t h l := ⟨_, rfl⟩
  rw [← hu] at hex hul hX
  have HU := Lib.hid (And.intro hu hul)
  clear hu
  intro w hmx
  have hO0 := Obj?.new w #[.int .i64 0, .bool false, .int .i64 0, .bool false, .bool false, .bool false, .int .i64 0, .int .i64 0, .int .i64 0, .int .i64 0, .bool false, .int .i64 0, .int .i64 0, .int .i64 0, .string ⟨#[]⟩, .string ⟨#[]⟩] 25
  have hB0 := below_al (Below.refl _ w) (.cells #[.int .i64 0, .bool false, .int .i64 0, .bool false, .bool false, .bool false, .int .i64 0, .int .i64 0, .int .i64 0, .int .i64 0, .bool false, .int .i64 0, .int .i64 0, .int .i64 0, .string ⟨#[]⟩, .string ⟨#[]⟩] 25 (0, 0))
  have HM := Lib.hid hmx
  have H1 := Lib.hid (fun w => snread_any t (by omega) w)
  rw [hs] at H1
  have HO := Lib.hid hO0
  have HB := Lib.hid hB0
  clear hO0 hB0 hmx
  go_enter Tryz.func12, Tryz.ntmps12
  go_wp2_with fail
  refine (H1.out _).mono ?_
  rintro r w1 ⟨rfl, hb⟩
  have O1 := HO.out.below hb HO.out.lt
  have HB1 := Lib.hid (HB.out.trans (hb.mono HB.out.size))
  have hst1 := store_zero O1 rfl
  have HO1 := Lib.hid O1
  have hsz1 : w.heap.size < w1.heap.size := O1.lt
  clear hb O1
  clear hst1
  go_wp2_with fail
  refine (new_any u _).mono ?_
  rintro r w2 ⟨b, rfl, hb2, hcur, hg⟩
  have hbl : b < w2.heap.size := Obj?.lt hcur
  have O2 := HO1.out.kept hg (by simp)
  have HB2 := Lib.hid (HB1.out.grown hg HB1.out.size (fun j e => by cases e))
  have hst2 := store_codec w2 b k
  have HI := Lib.hid (invr_start hcur k)
  have HO2 := Lib.hid (O2.alloc (.cells (rdC b (Ms.bare k fl0)) 76 (0, 0)))
  have HB3 := Lib.hid (HB2.out.alloc HB2.out.size (.cells (rdC b (Ms.bare k fl0)) 76 (0, 0)))
  have hs3 := size_alloc1 w2 (.cells (rdC b (Ms.bare k fl0)) 76 (0, 0))
  have hs2 : w.heap.size < w2.heap.size := O2.lt
  clear hcur hg O2 HB2 HO1 HB1 
  unfold rdC cdC Ms.bare fl0 at HI HO2 HB3 hs3
  dsimp only at HI HO2 HB3 hs3
  go_wp2_with fail
  refine (through_read (s := rd0 k) hk HI.out (by omega) (by omega)).mono ?_
  rintro r w4 ⟨rfl, hi, hkp⟩
  have hi4 := hi
  rw [show readAll (rd0 k).m.ty u (rd0 k) = _ from hX.symm] at hi4
  have hp4 : w4.cell? ⟨w2.heap.size, 0, none⟩ = some (.pointer (some ⟨b, 0, none⟩)) := hi4.cells 0
  have hil : xi ≤ u.length := hi4.2.2
  rw [hs3] at hkp
  have HO4 := Lib.hid (hkp.obj HO2.out (by omega) (by omega) (by omega))
  have HB4 := Lib.hid (HB3.out.trans (hkp.to_below (A := w.heap.size) (by omega) (by omega) (by omega)))
  have HI4 := Lib.hid hi4
  have HX := Lib.hid hX
  clear hi hi4 hkp HI HO2 HB3 hst2 hX hs3
  go_wp2_with fail
  refine (err_any HI4.out.2.1).mono ?_
  rintro r w5 ⟨rfl, hw5⟩
  subst hw5
  have hst4 := store_zero HO4.out rfl
  go_wp2_with fail
  refine (err_any HI4.out.2.1).mono ?_
  rintro r w8 ⟨rfl, hw8⟩
  subst hw8
  go_wp2
  (try simp only [Exit.inBlock, Exit.then])
  refine bodyPost_ret (results_row_tmp2 rfl _ _ _ _ _ _ rfl (HO4.out.setRow _) Tryz.underlying25 rfl infoMs) rfl ?_
  exact ⟨rfl, below_row HB4.out (Nat.le_refl _) _⟩

set_option maxRecDepth 100000 in
set_option maxHeartbeats 3200000 in
theorem msread_chk (t : List UInt8) (ht : (t.length : Int) ≤ 4611686018427380000) (k : Int) (h l : Nat) (hs : snR t = (k, (h : Int), (l : Int), 0)) (hk : kindM k = true) (hhl : h ≤ l) (hl65 : l ≤ 65535) (hlt : l ≤ t.length) (X : Rd) (hX : X = readAll k (bodyL t h l) (rd0 k)) (he : X.e = 0) (hi : X.i = (bodyL t h l).length) (hc : checkM X.m ≠ 0) : ReadIs t ms0 0 (checkM X.m) := by
  obtain ⟨xm, xi, xe⟩ := X
  simp only at he hi hc ⊢
  subst he
  obtain ⟨c, hcc⟩ : ∃ c, c = checkM xm := ⟨_, rfl⟩
  have d1 : (c != 0) = true := by rw [hcc]; simpa using hc
  rw [← hcc]
  clear hc
  have dk : (k == 254) = false := by
    have := kinds_of hk
    simp; omega
  have dl : decide ((t.length : Int) < l) = false := by simp; omega
  have hex := extract_body t h l
  have hul : (bodyL t h l).length = l - h := by unfold bodyL; simp; omega
  obtain ⟨u, hu⟩ : ∃ u, u = bodyL t h l := ⟨_, rfl⟩
  rw [← hu] at hex hul hX
  have HU := Lib.hid (And.intro hu hul)
  clear hu
  intro w hmx
  have hO0 := Obj?.new w #[.int .i64 0, .bool false, .int .i64 0, .bool false, .bool false, .bool false, .int .i64 0, .int .i64 0, .int .i64 0, .int .i64 0, .bool false, .int .i64 0, .int .i64 0, .int .i64 0, .string ⟨#[]⟩, .string ⟨#[]⟩] 25
  have hB0 := below_al (Below.refl _ w) (.cells #[.int .i64 0, .bool false, .int .i64 0, .bool false, .bool false, .bool false, .int .i64 0, .int .i64 0, .int .i64 0, .int .i64 0, .bool false, .int .i64 0, .int .i64 0, .int .i64 0, .string ⟨#[]⟩, .string ⟨#[]⟩] 25 (0, 0))
  have HM := Lib.hid hmx
  have H1 := Lib.hid (fun w => snread_any t (by omega) w)
  rw [hs] at H1
  have HO := Lib.hid hO0
  have HB := Lib.hid hB0
  clear hO0 hB0 hmx
  go_enter Tryz.func12, Tryz.ntmps12
  go_wp2_with fail
  refine (H1.out _).mono ?_
  rintro r w1 ⟨rfl, hb⟩
  have O1 := HO.out.below hb HO.out.lt
  have HB1 := Lib.hid (HB.out.trans (hb.mono HB.out.size))
  have hst1 := store_zero O1 rfl
  have HO1 := Lib.hid O1
  have hsz1 : w.heap.size < w1.heap.size := O1.lt
  clear hb O1
  clear hst1
  go_wp2_with fail
  refine (new_any u _).mono ?_
  rintro r w2 ⟨b, rfl, hb2, hcur, hg⟩
  have hbl : b < w2.heap.size := Obj?.lt hcur
  have O2 := HO1.out.kept hg (by simp)
  have HB2 := Lib.hid (HB1.out.grown hg HB1.out.size (fun j e => by cases e))
  have hst2 := store_codec w2 b k
  have HI := Lib.hid (invr_start hcur k)
  have HO2 := Lib.hid (O2.alloc (.cells (rdC b (Ms.bare k fl0)) 76 (0, 0)))
  have HB3 := Lib.hid (HB2.out.alloc HB2.out.size (.cells (rdC b (Ms.bare k fl0)) 76 (0, 0)))
  have hs3 := size_alloc1 w2 (.cells (rdC b (Ms.bare k fl0)) 76 (0, 0))
  have hs2 : w.heap.size < w2.heap.size := O2.lt
  clear hcur hg O2 HB2 HO1 HB1 
  unfold rdC cdC Ms.bare fl0 at HI HO2 HB3 hs3
  dsimp only at HI HO2 HB3 hs3
  go_wp2_with fail
  refine (through_read (s := rd0 k) hk HI.out (by omega) (by omega)).mono ?_
  rintro r w4 ⟨rfl, hi, hkp⟩
  have hi4 := hi
  rw [show readAll (rd0 k).m.ty u (rd0 k) = _ from hX.symm] at hi4
  have hp4 : w4.cell? ⟨w2.heap.size, 0, none⟩ = some (.pointer (some ⟨b, 0, none⟩)) := hi4.cells 0
  have hil : xi ≤ u.length := hi4.2.2
  rw [hs3] at hkp
  have HO4 := Lib.hid (hkp.obj HO2.out (by omega) (by omega) (by omega))
  have HB4 := Lib.hid (HB3.out.trans (hkp.to_below (A := w.heap.size) (by omega) (by omega) (by omega)))
  have HI4 := Lib.hid hi4
  have HX := Lib.hid hX
  clear hi hi4 hkp HI HO2 HB3 hst2 hX hs3
  go_wp2_with fail
  refine (err_any HI4.out.2.1).mono ?_
  rintro r w5 ⟨rfl, hw5⟩
  subst hw5
  have hlf : u.length - xi = 0 := by have h1 := hi; rw [HU.out.1]; omega
  go_wp2_with fail
  refine (left_any HI4.out.2.1 hil (by omega)).mono ?_
  rintro r w6 ⟨rfl, q, rfl⟩
  have hp6 : (w4.drewN q).cell? ⟨w2.heap.size, 0, none⟩ = some (.pointer (some ⟨b, 0, none⟩)) := hp4
  go_wp2_with fail
  refine (err_any (w := w4.drewN q) HI4.out.2.1).mono ?_
  rintro r w8 ⟨rfl, hw8⟩
  subst hw8
  have HK := Lib.hid (readAll_keeps k u (rd0 k) (Nat.zero_le _) (Nat.zero_le _))
  rw [← HX.out] at HK
  have HCk := Lib.hid (check_any xm (by have := HK.out.2.1; simp only at this; omega) (by have := HK.out.2.2; simp only at this; omega) (w4.drewN q) (show Mx w4 from HM.out.below HB4.out HM.out.1))
  have hlk := load_read (w := w4.drewN q) (X := xm) HI4.out.1
  unfold Ms.cs at HCk hlk
  rw [← hcc] at HCk
  clear hcc
  go_wp2_with fail
  refine HCk.out.mono ?_
  rintro r w9 ⟨rfl, hb9⟩
  have O9 := Obj?.below (show Obj? (w4.drewN q) _ _ _ from HO4.out) hb9 (Obj?.lt HO4.out)
  have HB9 := Lib.hid ((below_drewN HB4.out q).trans (hb9.mono HB4.out.size))
  have hst9 := store_zero O9 rfl
  have HO9 := Lib.hid O9
  clear hb9 O9
  go_wp2
  (try simp only [Exit.inBlock, Exit.then])
  refine bodyPost_ret (results_row_tmp2 rfl _ _ _ _ _ _ rfl (HO9.out.setRow _) Tryz.underlying25 rfl infoMs) rfl ?_
  exact ⟨rfl, below_row HB9.out (Nat.le_refl _) _⟩

set_option maxRecDepth 100000 in
set_option maxHeartbeats 3200000 in
theorem msread_ok (t : List UInt8) (ht : (t.length : Int) ≤ 4611686018427380000) (k : Int) (h l : Nat) (hs : snR t = (k, (h : Int), (l : Int), 0)) (hk : kindM k = true) (hhl : h ≤ l) (hl65 : l ≤ 65535) (hlt : l ≤ t.length) (X : Rd) (hX : X = readAll k (bodyL t h l) (rd0 k)) (he : X.e = 0) (hi : X.i = (bodyL t h l).length) (hc : checkM X.m = 0) : ReadIs t X.m l 0 := by
  obtain ⟨xm, xi, xe⟩ := X
  simp only at he hi hc ⊢
  subst he
  have dk : (k == 254) = false := by
    have := kinds_of hk
    simp; omega
  have dl : decide ((t.length : Int) < l) = false := by simp; omega
  have hex := extract_body t h l
  have hul : (bodyL t h l).length = l - h := by unfold bodyL; simp; omega
  obtain ⟨u, hu⟩ : ∃ u, u = bodyL t h l := ⟨_, rfl⟩
  rw [← hu] at hex hul hX
  have HU := Lib.hid (And.intro hu hul)
  clear hu
  intro w hmx
  have hO0 := Obj?.new w #[.int .i64 0, .bool false, .int .i64 0, .bool false, .bool false, .bool false, .int .i64 0, .int .i64 0, .int .i64 0, .int .i64 0, .bool false, .int .i64 0, .int .i64 0, .int .i64 0, .string ⟨#[]⟩, .string ⟨#[]⟩] 25
  have hB0 := below_al (Below.refl _ w) (.cells #[.int .i64 0, .bool false, .int .i64 0, .bool false, .bool false, .bool false, .int .i64 0, .int .i64 0, .int .i64 0, .int .i64 0, .bool false, .int .i64 0, .int .i64 0, .int .i64 0, .string ⟨#[]⟩, .string ⟨#[]⟩] 25 (0, 0))
  have HM := Lib.hid hmx
  have H1 := Lib.hid (fun w => snread_any t (by omega) w)
  rw [hs] at H1
  have HO := Lib.hid hO0
  have HB := Lib.hid hB0
  clear hO0 hB0 hmx
  go_enter Tryz.func12, Tryz.ntmps12
  go_wp2_with fail
  refine (H1.out _).mono ?_
  rintro r w1 ⟨rfl, hb⟩
  have O1 := HO.out.below hb HO.out.lt
  have HB1 := Lib.hid (HB.out.trans (hb.mono HB.out.size))
  have hst1 := store_zero O1 rfl
  have HO1 := Lib.hid O1
  have hsz1 : w.heap.size < w1.heap.size := O1.lt
  clear hb O1
  clear hst1
  go_wp2_with fail
  refine (new_any u _).mono ?_
  rintro r w2 ⟨b, rfl, hb2, hcur, hg⟩
  have hbl : b < w2.heap.size := Obj?.lt hcur
  have O2 := HO1.out.kept hg (by simp)
  have HB2 := Lib.hid (HB1.out.grown hg HB1.out.size (fun j e => by cases e))
  have hst2 := store_codec w2 b k
  have HI := Lib.hid (invr_start hcur k)
  have HO2 := Lib.hid (O2.alloc (.cells (rdC b (Ms.bare k fl0)) 76 (0, 0)))
  have HB3 := Lib.hid (HB2.out.alloc HB2.out.size (.cells (rdC b (Ms.bare k fl0)) 76 (0, 0)))
  have hs3 := size_alloc1 w2 (.cells (rdC b (Ms.bare k fl0)) 76 (0, 0))
  have hs2 : w.heap.size < w2.heap.size := O2.lt
  clear hcur hg O2 HB2 HO1 HB1 
  unfold rdC cdC Ms.bare fl0 at HI HO2 HB3 hs3
  dsimp only at HI HO2 HB3 hs3
  go_wp2_with fail
  refine (through_read (s := rd0 k) hk HI.out (by omega) (by omega)).mono ?_
  rintro r w4 ⟨rfl, hi, hkp⟩
  have hi4 := hi
  rw [show readAll (rd0 k).m.ty u (rd0 k) = _ from hX.symm] at hi4
  have hp4 : w4.cell? ⟨w2.heap.size, 0, none⟩ = some (.pointer (some ⟨b, 0, none⟩)) := hi4.cells 0
  have hil : xi ≤ u.length := hi4.2.2
  rw [hs3] at hkp
  have HO4 := Lib.hid (hkp.obj HO2.out (by omega) (by omega) (by omega))
  have HB4 := Lib.hid (HB3.out.trans (hkp.to_below (A := w.heap.size) (by omega) (by omega) (by omega)))
  have HI4 := Lib.hid hi4
  have HX := Lib.hid hX
  clear hi hi4 hkp HI HO2 HB3 hst2 hX hs3
  go_wp2_with fail
  refine (err_any HI4.out.2.1).mono ?_
  rintro r w5 ⟨rfl, hw5⟩
  subst hw5
  have hlf : u.length - xi = 0 := by have h1 := hi; rw [HU.out.1]; omega
  go_wp2_with fail
  refine (left_any HI4.out.2.1 hil (by omega)).mono ?_
  rintro r w6 ⟨rfl, q, rfl⟩
  have hp6 : (w4.drewN q).cell? ⟨w2.heap.size, 0, none⟩ = some (.pointer (some ⟨b, 0, none⟩)) := hp4
  go_wp2_with fail
  refine (err_any (w := w4.drewN q) HI4.out.2.1).mono ?_
  rintro r w8 ⟨rfl, hw8⟩
  subst hw8
  have HK := Lib.hid (readAll_keeps k u (rd0 k) (Nat.zero_le _) (Nat.zero_le _))
  rw [← HX.out] at HK
  have HCk := Lib.hid (check_any xm (by have := HK.out.2.1; simp only at this; omega) (by have := HK.out.2.2; simp only at this; omega) (w4.drewN q) (show Mx w4 from HM.out.below HB4.out HM.out.1))
  have hlk := load_read (w := w4.drewN q) (X := xm) HI4.out.1
  unfold Ms.cs at HCk hlk
  rw [hc] at HCk
  clear hc
  go_wp2_with fail
  refine HCk.out.mono ?_
  rintro r w9 ⟨rfl, hb9⟩
  have O9 := Obj?.below (show Obj? (w4.drewN q) _ _ _ from HO4.out) hb9 (Obj?.lt HO4.out)
  have C9 := Obj?.below (show Obj? (w4.drewN q) _ _ _ from HI4.out.1) hb9 (Obj?.lt HI4.out.1)
  have HB9 := Lib.hid ((below_drewN HB4.out q).trans (hb9.mono HB4.out.size))
  have hst9 := store_msg xm O9 rfl
  have hlk9 := load_read (X := xm) C9
  have HO9 := Lib.hid O9
  clear hb9 O9 C9
  unfold Ms.cs at hst9 hlk9
  go_wp2
  (try simp only [Exit.inBlock, Exit.then])
  refine bodyPost_ret (results_row_tmp2 rfl _ _ _ _ _ _ rfl (HO9.out.setRow _) Tryz.underlying25 rfl infoMs) rfl ?_
  exact ⟨rfl, below_row HB9.out (Nat.le_refl _) _⟩
end Go.Proofs.YtbacnaplpfmpnaaGreatDoor
