/- SnmsgUnused. SnmsgUnused: a valid message. -/
import Derived.Test.YtbacnaplpfmpnaaDoorLkC
import Derived.Test.YtbacnaplpfmpnaaDoorSnP
import Derived.Great.Walk
import Derived.Deep.LoopGhost
namespace Go.Proofs.YtbacnaplpfmpnaaDoor
open Go.RowKit
set_option linter.unusedVariables false
set_option linter.unusedSimpArgs false
attribute [local go_sem ↓] load_Msg store_Msg

def bentM (m : Ms) (k : Nat) : Ms :=
  match k with
  | 0 => { m with gw := m.gw + 1 }
  | 1 => { m with rad := m.rad + 1 }
  | 2 => { m with code := m.code + 1 }
  | 3 => { m with time := m.time + 1 }
  | 4 => { m with data := m.data ++ [120] }
  | _ => { m with timed := !m.timed }
theorem bent_ne (m : Ms) (k : Nat) : bentM m k ≠ m := by
  intro h
  match k with
  | 0 => have := congrArg Ms.gw h; simp [bentM] at this; omega
  | 1 => have := congrArg Ms.rad h; simp [bentM] at this; omega
  | 2 => have := congrArg Ms.code h; simp [bentM] at this; omega
  | 3 => have := congrArg Ms.time h; simp [bentM] at this; omega
  | 4 => have := congrArg Ms.data h; simp [bentM] at this
  | k + 5 => have := congrArg Ms.timed h; simp [bentM] at this
theorem bytes_inj {m m' : Ms} (h : checkM m = 0) (h' : checkM m' = 0) (hb : (bytesM m).1 = (bytesM m').1) : m = m' := by
  have h1 := readM_bytes h []
  have h2 := readM_bytes h' []
  rw [hb, h2] at h1
  exact (Prod.mk.inj h1).1.symm
theorem bent_bytes {m : Ms} (h : checkM m = 0) (k : Nat) : (bytesM (bentM m k)).2 ≠ 0 ∨ (bytesM (bentM m k)).1 ≠ (bytesM m).1 := by
  by_cases h2 : checkM (bentM m k) = 0
  · exact .inr fun hb => bent_ne m k (bytes_inj h2 h hb)
  · left; rw [bytesM_e]; exact h2
theorem bent_small (m : Ms) (hn : m.name.length ≤ 70000) (hd : m.data.length ≤ 70000) (k : Nat) : ((bentM m k).name.length : Int) ≤ 100000 ∧ ((bentM m k).data.length : Int) ≤ 100000 := by
  match k with
  | 0 => exact ⟨by simp only [bentM]; omega, by simp only [bentM]; omega⟩
  | 1 => exact ⟨by simp only [bentM]; omega, by simp only [bentM]; omega⟩
  | 2 => exact ⟨by simp only [bentM]; omega, by simp only [bentM]; omega⟩
  | 3 => exact ⟨by simp only [bentM]; omega, by simp only [bentM]; omega⟩
  | 4 => exact ⟨by simp only [bentM]; omega, by simp only [bentM, List.length_append, List.length_singleton]; omega⟩
  | k + 5 => exact ⟨by simp only [bentM]; omega, by simp only [bentM]; omega⟩
theorem bent_data {m : Ms} (h : checkM m = 0) : (m.ty == 9 || m.ty == 28 || m.ty == 12) = true ∨ checkM (bentM m 4) ≠ 0 := by
  by_cases hu : m.ty = 9 ∨ m.ty = 28 ∨ m.ty = 12
  · left; rcases hu with h1 | h1 | h1 <;> rw [h1] <;> rfl
  · right
    intro h2
    have hf := ((check_iff _).1 h2).fits
    simp only [fitsM, Bool.and_eq_true] at hf
    have h3 := hf.1.2
    have e : useData (bentM m 4) = false := by unfold useData bentM; exact decide_eq_false hu
    rw [e] at h3
    simp [bentM] at h3
set_option maxHeartbeats 1600000 in
theorem restL_len {m : Ms} (hg : MsGood m) : m.name.length + m.data.length ≤ (restL m).length ∧ (restL m).length ≤ m.name.length + m.data.length + 6 := by
  have l1 := fun x => length_putL x 1
  have l2 := fun x => length_putL x 2
  have hf := hg.fits
  have hk := hg.kind
  clear hg
  obtain ⟨ty, ⟨dup, q, retain, will, clean, typ⟩, gw, rad, time, timed, tid, mid, code, name, data⟩ := m
  simp only at hk
  rcases kinds_of hk with h | h | h | h | h | h | h | h | h | h | h | h | h | h | h | h | h | h | h | h | h | h | h | h | h | h | h <;> subst h <;> clear hk <;>
    by_cases hN : name = [] <;> by_cases hT : typ = 0 <;> cases timed <;>
    simp [fitsM, fitB, useGw, useRad, useCode, useTime, useTid, useMid, useName, useData, hN, hT] at hf <;>
    simp [restL, layoutF, writeP, l1, l2, hN, hT, hf] <;> omega
/-! The walk. -/
def six (a b c d e f : Ms) : Array Value := a.cs ++ b.cs ++ c.cs ++ d.cs ++ e.cs ++ f.cs
set_option maxRecDepth 100000 in
theorem built6 (m : Ms) : Tryd.prog.builtSlice 25 6 [(0, .agg m.cs), (1, .agg m.cs), (2, .agg m.cs), (3, .agg m.cs), (4, .agg m.cs), (5, .agg m.cs)] = some (six m m m m m m) := by
  obtain ⟨ty, ⟨dup, q, retain, will, clean, typ⟩, gw, rad, time, timed, tid, mid, code, name, data⟩ := m
  kernel_rfl
set_option maxRecDepth 100000 in
theorem six_bent (m : Ms) : ((((((six m m m m m m).setIfInBounds 7 (.int .i64 (m.gw + 1))).setIfInBounds 24 (.int .i64 (m.rad + 1))).setIfInBounds 45 (.int .i64 (m.code + 1))).setIfInBounds 57 (.int .i64 (m.time + 1))).setIfInBounds 79 (.string ⟨(m.data ++ [120]).toArray⟩)).setIfInBounds 90 (.bool !m.timed) =
    six (bentM m 0) (bentM m 1) (bentM m 2) (bentM m 3) (bentM m 4) (bentM m 5) := by
  obtain ⟨ty, ⟨dup, q, retain, will, clean, typ⟩, gw, rad, time, timed, tid, mid, code, name, data⟩ := m
  kernel_rfl
set_option maxRecDepth 100000 in
theorem six_cells (m : Ms) : (six m m m m m m)[7]? = some (.int .i64 m.gw) ∧ (six m m m m m m)[24]? = some (.int .i64 m.rad) ∧ (six m m m m m m)[45]? = some (.int .i64 m.code) ∧ (six m m m m m m)[57]? = some (.int .i64 m.time) ∧ (six m m m m m m)[79]? = some (.string ⟨m.data.toArray⟩) ∧ (six m m m m m m)[90]? = some (.bool m.timed) := by
  obtain ⟨ty, ⟨dup, q, retain, will, clean, typ⟩, gw, rad, time, timed, tid, mid, code, name, data⟩ := m
  exact ⟨by kernel_rfl, by kernel_rfl, by kernel_rfl, by kernel_rfl, by kernel_rfl, by kernel_rfl⟩
theorem six_obj {w : World} {b : Nat} {m : Ms} (h : Obj? w b (six m m m m m m) 25) : (w.cell? ⟨b, 7, none⟩ = some (.int .i64 m.gw) ∧ w.cell? ⟨b, 24, none⟩ = some (.int .i64 m.rad) ∧ w.cell? ⟨b, 45, none⟩ = some (.int .i64 m.code) ∧ w.cell? ⟨b, 57, none⟩ = some (.int .i64 m.time) ∧ w.cell? ⟨b, 79, none⟩ = some (.string ⟨m.data.toArray⟩) ∧ w.cell? ⟨b, 90, none⟩ = some (.bool m.timed)) ∧
    Obj? ((((((w.setCell ⟨b, 7, none⟩ (.int .i64 (m.gw + 1))).setCell ⟨b, 24, none⟩ (.int .i64 (m.rad + 1))).setCell ⟨b, 45, none⟩ (.int .i64 (m.code + 1))).setCell ⟨b, 57, none⟩ (.int .i64 (m.time + 1))).setCell ⟨b, 79, none⟩ (.string ⟨(m.data ++ [120]).toArray⟩)).setCell ⟨b, 90, none⟩ (.bool !m.timed)) b
      (six (bentM m 0) (bentM m 1) (bentM m 2) (bentM m 3) (bentM m 4) (bentM m 5)) 25 := by
  obtain ⟨a, b', c, d, e, f⟩ := six_cells m
  refine ⟨⟨h.cell _ _ a, h.cell _ _ b', h.cell _ _ c, h.cell _ _ d, h.cell _ _ e, h.cell _ _ f⟩, ?_⟩
  rw [← six_bent]
  exact (((((h.set 7 _).set 24 _).set 45 _).set 57 _).set 79 _).set 90 _
theorem six_rest {w W : World} {b : Nat} {cs : Array Value} (h : Obj? W w.heap.size cs 25) (hl : Below w.heap.size w W) (hb : w.heap.size < b) (v0 v1 v2 v3 v4 v5 : Value) :
    Obj? ((((((W.setCell ⟨b, 7, none⟩ v0).setCell ⟨b, 24, none⟩ v1).setCell ⟨b, 45, none⟩ v2).setCell ⟨b, 57, none⟩ v3).setCell ⟨b, 79, none⟩ v4).setCell ⟨b, 90, none⟩ v5) w.heap.size cs 25 ∧
    Below w.heap.size w ((((((W.setCell ⟨b, 7, none⟩ v0).setCell ⟨b, 24, none⟩ v1).setCell ⟨b, 45, none⟩ v2).setCell ⟨b, 57, none⟩ v3).setCell ⟨b, 79, none⟩ v4).setCell ⟨b, 90, none⟩ v5) := by
  have o : ∀ {W : World} (j : Nat) (v : Value), Obj? W w.heap.size cs 25 → Obj? (W.setCell ⟨b, j, none⟩ v) w.heap.size cs 25 := fun j v h => h.kept (grown_set (World.grownBy.refl _ _) (p := ⟨b, j, none⟩) rfl v) (by simp; omega)
  have l : ∀ {W : World} (j : Nat) (v : Value), Below w.heap.size w W → Below w.heap.size w (W.setCell ⟨b, j, none⟩ v) := fun j v h => h.setCell (Nat.le_of_lt hb) v
  exact ⟨o _ _ (o _ _ (o _ _ (o _ _ (o _ _ (o _ _ h))))), l _ _ (l _ _ (l _ _ (l _ _ (l _ _ (l _ _ hl)))))⟩
theorem str_ne {C B : List UInt8} (h : C ≠ B) (w : World) : (binOp .eql 9 (.string ⟨C.toArray⟩) (.string ⟨B.toArray⟩)).run Tryd.prog w = .ok (.bool false) w := by
  go_simp
theorem arr_at {w : World} {b : Nat} {c p q A : Array Value} (h : Obj? w b A 25) (k : Nat) (hA : A = p ++ c ++ q) (hp : p.size = k * 16) (hc : c.size = 16) : (rowSem 25 ⟨b, k * 16, none⟩).run Tryd.prog w = .ok (.agg c) w := by
  subst hA
  refine rowSem_mid w b (k * 16) 25 c _ (fun j v hv => ?_) Tryd.underlying25 rfl (by rw [infoMs, hc])
  have := Obj?.mid h j v hv
  rw [hp] at this; exact this
theorem arr_six {w : World} {b : Nat} {c : Nat → Array Value} (h : Obj? w b (c 0 ++ c 1 ++ c 2 ++ c 3 ++ c 4 ++ c 5) 25) (hc : ∀ k, (c k).size = 16) (k : Nat) (hk : k < 6) : (rowSem 25 ⟨b, k * 16, none⟩).run Tryd.prog w = .ok (.agg (c k)) w := by
  have e := hc
  match k, hk with
  | 0, _ => exact arr_at h 0 (p := #[]) (q := c 1 ++ c 2 ++ c 3 ++ c 4 ++ c 5) (by simp) (by simp) (hc 0)
  | 1, _ => exact arr_at h 1 (p := c 0) (q := c 2 ++ c 3 ++ c 4 ++ c 5) (by simp) (by simp [e]) (hc 1)
  | 2, _ => exact arr_at h 2 (p := c 0 ++ c 1) (q := c 3 ++ c 4 ++ c 5) (by simp) (by simp [e]) (hc 2)
  | 3, _ => exact arr_at h 3 (p := c 0 ++ c 1 ++ c 2) (q := c 4 ++ c 5) (by simp) (by simp [e]) (hc 3)
  | 4, _ => exact arr_at h 4 (p := c 0 ++ c 1 ++ c 2 ++ c 3) (q := c 5) (by simp) (by simp [e]) (hc 4)
  | 5, _ => exact arr_at h 5 (p := c 0 ++ c 1 ++ c 2 ++ c 3 ++ c 4) (q := #[]) (by simp) (by simp [e]) (hc 5)
theorem cs_size (m : Ms) : m.cs.size = 16 := by unfold Ms.cs; rfl
theorem six_at {w : World} {b : Nat} {m : Ms} (h : Obj? w b (six (bentM m 0) (bentM m 1) (bentM m 2) (bentM m 3) (bentM m 4) (bentM m 5)) 25) (k : Nat) (hk : k < 6) : (rowSem 25 ⟨b, k * 16, none⟩).run Tryd.prog w = .ok (.agg (bentM m k).cs) w := by
  unfold six at h
  exact arr_six (c := fun k => (bentM m k).cs) h (fun k => cs_size _) k hk
set_option maxRecDepth 100000 in
set_option maxHeartbeats 6400000 in
theorem snmsgUnused_heavy (m : Ms) (h : lightM m = false) (w : World) (hm : Mx w) :
    Calls Tryd.prog 3 #[.agg m.cs] w fun e w' => e = .returned (.bool true) ∧ Below w.heap.size w w' := by
  have O0 := Obj?.new w m.cs 25
  have hB0 := below_al (Below.refl _ w) (.cells m.cs 25 (0, 0))
  have HM := Lib.hid (hm.below hB0 hm.1)
  have HMW := Lib.hid hm
  have HB0 := Lib.hid hB0
  have HO0 := Lib.hid O0
  have HL := Lib.hid lives22
  have HG := Lib.hid (fun w => lightmsg_any m w)
  clear hm hB0 O0
  rw [h] at HG
  unfold Ms.cs at HO0 HB0 HM HG ⊢
  go_enter Tryd.func3, Tryd.ntmps3
  go_wp2_with fail
  refine (HL.out _ HM.out).mono ?_
  rintro r w1 ⟨rfl, hb⟩
  have O1 := HO0.out.below hb HO0.out.lt
  have HB1 := Lib.hid (HB0.out.trans (hb.mono HB0.out.size))
  have HO1 := Lib.hid O1
  have hld1 := load_msg (m := m) O1
  clear hb O1
  go_wp2_with fail
  refine (HG.out _).mono ?_
  rintro r w2 ⟨rfl, hb⟩
  clear hld1
  have O2 := HO1.out.below hb HO1.out.lt
  have HB2 := Lib.hid (HB1.out.trans (hb.mono HB1.out.size))
  have HO2 := Lib.hid O2
  have hld2 := load_msg (m := m) O2
  clear hb O2
  go_wp2
  go_ret
  exact ⟨rfl, HB2.out⟩
set_option maxRecDepth 100000 in
set_option maxHeartbeats 6400000 in
theorem snmsgUnused_no (m : Ms) (h : lightM m = true) (hc : checkM m ≠ 0) (w : World) (hm : Mx w) :
    Calls Tryd.prog 3 #[.agg m.cs] w fun e w' => e = .returned (.bool true) ∧ Below w.heap.size w w' := by
  have O0 := Obj?.new w m.cs 25
  have hB0 := below_al (Below.refl _ w) (.cells m.cs 25 (0, 0))
  have HM := Lib.hid (hm.below hB0 hm.1)
  have HMW := Lib.hid hm
  have HB0 := Lib.hid hB0
  have HO0 := Lib.hid O0
  have HL := Lib.hid lives22
  have HG := Lib.hid (fun w => lightmsg_any m w)
  clear hm hB0 O0
  have hnd := light_len h
  rw [h] at HG
  have HCk := Lib.hid (check_any m (by omega) (by omega))
  unfold CheckSaid at HCk
  obtain ⟨c, hcc⟩ : ∃ c, c = checkM m := ⟨_, rfl⟩
  have dc : (c != 0) = true := by rw [hcc]; simpa using hc
  rw [← hcc] at HCk
  clear hcc hc h hnd
  unfold Ms.cs at HCk
  unfold Ms.cs at HO0 HB0 HM HG ⊢
  go_enter Tryd.func3, Tryd.ntmps3
  go_wp2_with fail
  refine (HL.out _ HM.out).mono ?_
  rintro r w1 ⟨rfl, hb⟩
  have O1 := HO0.out.below hb HO0.out.lt
  have HB1 := Lib.hid (HB0.out.trans (hb.mono HB0.out.size))
  have HO1 := Lib.hid O1
  have hld1 := load_msg (m := m) O1
  clear hb O1
  go_wp2_with fail
  refine (HG.out _).mono ?_
  rintro r w2 ⟨rfl, hb⟩
  clear hld1
  have O2 := HO1.out.below hb HO1.out.lt
  have HB2 := Lib.hid (HB1.out.trans (hb.mono HB1.out.size))
  have HO2 := Lib.hid O2
  have hld2 := load_msg (m := m) O2
  clear hb O2
  go_wp2_with fail
  refine (HCk.out _ (HMW.out.below HB2.out HMW.out.1)).mono ?_
  rintro r w3 ⟨rfl, hb⟩
  clear hld2
  have O3 := HO2.out.below hb HO2.out.lt
  have HB3 := Lib.hid (HB2.out.trans (hb.mono HB2.out.size))
  have HO3 := Lib.hid O3
  have hld3 := load_msg (m := m) O3
  clear hb O3
  go_wp2
  go_ret
  exact ⟨rfl, HB3.out⟩
end Go.Proofs.YtbacnaplpfmpnaaDoor
namespace Go.Proofs.YtbacnaplpfmpnaaDoor
open Go.RowKit
set_option linter.unusedVariables false
set_option linter.unusedSimpArgs false
attribute [local go_sem ↓] load_Msg store_Msg
attribute [local irreducible] rowSem rowStore

set_option maxRecDepth 100000 in
set_option maxHeartbeats 6400000 in
theorem snmsgUnused_go (m : Ms) (h : lightM m = true) (hc : checkM m = 0) (w : World) (hm : Mx w) :
    Calls Tryd.prog 3 #[.agg m.cs] w fun e w' => e = .returned (.bool true) ∧ Below w.heap.size w w' := by
  have O0 := Obj?.new w m.cs 25
  have hB0 := below_al (Below.refl _ w) (.cells m.cs 25 (0, 0))
  have HM := Lib.hid (hm.below hB0 hm.1)
  have HMW := Lib.hid hm
  have HB0 := Lib.hid hB0
  have HO0 := Lib.hid O0
  have HL := Lib.hid lives22
  have HG := Lib.hid (fun w => lightmsg_any m w)
  clear hm hB0 O0
  have hnd := light_len h
  rw [h] at HG
  have HCk := Lib.hid (check_any m (by omega) (by omega))
  unfold CheckSaid at HCk
  rw [hc] at HCk
  have HBy := Lib.hid (fun w hm => msbytes_any m (by omega) (by omega) w hm)
  have hg := (check_iff m).1 hc
  obtain ⟨z1, z2, z3, z4⟩ := snB_zero hg.head
  obtain ⟨B, hB⟩ : ∃ B, B = (bytesM m).1 := ⟨_, rfl⟩
  have hBe : bytesM m = (B, 0) := by rw [hB, bytesM_ok hc]
  rw [hBe] at HBy
  have hBs : B = snS m.ty (restL m).length ++ restL m := by rw [hB, bytesM_ok hc]
  obtain ⟨hd, hhd⟩ : ∃ hd, hd = (snS m.ty (restL m).length).length := ⟨_, rfl⟩
  have hbl : B.length = hd + (restL m).length := by rw [hBs, List.length_append, hhd]
  have hsR : snR B = (m.ty, (hd : Int), (B.length : Int), 0) := by
    have := snR_snS m.ty (restL m).length z1 z2 z3 (restL m)
    rw [← hBs, ← hhd] at this
    rw [this, hbl]
    push_cast
    rw [Int.add_comm]
  have hrl := restL_len hg
  have hhd4 : hd ≤ 4 := by rw [hhd]; exact snS_len_le _ _
  have HRd := Lib.hid (fun w => by have := rsnread_any B (by omega) w; rw [hsR] at this; exact this)
  have hr := rng_of hg.fits (may_flok hg.may)
  unfold Rng at hr
  obtain ⟨r1, r2, r3, r4, r5, r6, -⟩ := hr
  have hwa : IntKind.i64.wrap (m.gw + 1) = m.gw + 1 := by rw [IntKind.wrap_i64]; omega
  have hwb : IntKind.i64.wrap (m.rad + 1) = m.rad + 1 := by rw [IntKind.wrap_i64]; omega
  have hwc : IntKind.i64.wrap (m.code + 1) = m.code + 1 := by rw [IntKind.wrap_i64]; omega
  have hwd : IntKind.i64.wrap (m.time + 1) = m.time + 1 := by rw [IntKind.wrap_i64]; omega
  have hx : ByteArray.mk m.data.toArray ++ ByteArray.mk #[120] = ByteArray.mk (m.data ++ [120]).toArray := ByteArray.mk_append_mk _ _
  have HP := Lib.hid (And.intro hc (And.intro hB (And.intro hBe hg)))
  have HW := Lib.hid (And.intro r1 (And.intro r2 (And.intro r3 r6)))
  obtain ⟨R, hR⟩ : ∃ R, R = (restL m).length := ⟨_, rfl⟩
  rw [← hR] at hbl hrl z2 z3
  have hBl : B.length ≤ 65535 := by omega
  obtain ⟨nl, hnl⟩ : ∃ nl, nl = m.name.length := ⟨_, rfl⟩
  obtain ⟨dl, hdl⟩ : ∃ dl, dl = m.data.length := ⟨_, rfl⟩
  have hn1 : (B.length : Int) - hd - m.name.length - m.data.length = ((R - nl - dl : Nat) : Int) := by omega
  have hn2 : R - nl - dl ≤ 6 := by omega
  clear h hc hg z1 z4 hB hBe hBs hhd hsR r1 r2 r3 r4 r5 r6 z2 z3
  unfold Ms.cs at HCk HBy
  unfold Ms.cs at HO0 HB0 HM HG ⊢
  go_enter Tryd.func3, Tryd.ntmps3
  go_wp2_with fail
  refine (HL.out _ HM.out).mono ?_
  rintro r w1 ⟨rfl, hb⟩
  have O1 := HO0.out.below hb HO0.out.lt
  have HB1 := Lib.hid (HB0.out.trans (hb.mono HB0.out.size))
  have HO1 := Lib.hid O1
  have hld1 := load_msg (m := m) O1
  clear hb O1
  go_wp2_with fail
  refine (HG.out _).mono ?_
  rintro r w2 ⟨rfl, hb⟩
  clear hld1
  have O2 := HO1.out.below hb HO1.out.lt
  have HB2 := Lib.hid (HB1.out.trans (hb.mono HB1.out.size))
  have HO2 := Lib.hid O2
  have hld2 := load_msg (m := m) O2
  clear hb O2
  go_wp2_with fail
  refine (HCk.out _ (HMW.out.below HB2.out HMW.out.1)).mono ?_
  rintro r w3 ⟨rfl, hb⟩
  clear hld2
  have O3 := HO2.out.below hb HO2.out.lt
  have HB3 := Lib.hid (HB2.out.trans (hb.mono HB2.out.size))
  have HO3 := Lib.hid O3
  have hld3 := load_msg (m := m) O3
  clear hb O3
  go_wp2_with fail
  refine (HBy.out _ (HMW.out.below HB3.out HMW.out.1)).mono ?_
  rintro r w4' ⟨rfl, hb⟩
  clear hld3
  have O4 := HO3.out.below hb HO3.out.lt
  have HB4 := Lib.hid (HB3.out.trans (hb.mono HB3.out.size))
  have HO4 := Lib.hid O4
  have hld4 := load_msg (m := m) O4
  clear hb O4
  go_wp2_with fail
  refine (HRd.out _).mono ?_
  rintro r w5 ⟨rfl, hw5⟩
  subst hw5
  have hk4 := HO4.out.cells
  go_upto_region 12 with fail
  go_step
  refine wpList_load_row rfl 25 _ rfl _ rfl 25 _ _ _ (HO4.out : _ = _) Tryd.underlying25 rfl infoMs ?_
  refine wpList_load_row rfl 25 _ rfl _ rfl 25 _ _ _ (HO4.out : _ = _) Tryd.underlying25 rfl infoMs ?_
  refine wpList_load_row rfl 25 _ rfl _ rfl 25 _ _ _ (HO4.out : _ = _) Tryd.underlying25 rfl infoMs ?_
  refine wpList_load_row rfl 25 _ rfl _ rfl 25 _ _ _ (HO4.out : _ = _) Tryd.underlying25 rfl infoMs ?_
  refine wpList_load_row rfl 25 _ rfl _ rfl 25 _ _ _ (HO4.out : _ = _) Tryd.underlying25 rfl infoMs ?_
  refine wpList_load_row rfl 25 _ rfl _ rfl 25 _ _ _ (HO4.out : _ = _) Tryd.underlying25 rfl infoMs ?_
  refine Great.wpList_buildSliceTo rfl 34 25 6 _ rfl w4'.heap.size rfl (some 73) rfl Tryd.underlying34 (six m m m m m m) (Eq.trans (congrArg (Tryd.prog.builtSlice 25 6) (a₂ := [(0, .agg m.cs), (1, .agg m.cs), (2, .agg m.cs), (3, .agg m.cs), (4, .agg m.cs), (5, .agg m.cs)]) (by kernel_rfl)) (built6 m)) ?_
  obtain ⟨W0, hW0⟩ : ∃ W0, W0 = w4'.alloc (.cells (six m m m m m m) 25 (0, 0)) := ⟨_, rfl⟩
  rw [← hW0]
  obtain ⟨b, hb⟩ : ∃ b, b = w4'.heap.size := ⟨_, rfl⟩
  rw [← hb]
  have hbw : w.heap.size < b := by rw [hb]; exact HO4.out.lt
  have hBB : Obj? W0 b (six m m m m m m) 25 := by rw [hW0, hb]; exact Obj?.new _ _ _
  have hOO : Obj? W0 w.heap.size m.cs 25 := by rw [hW0]; exact HO4.out.alloc _
  have hLL : Below w.heap.size w W0 := by rw [hW0]; exact HB4.out.alloc HB4.out.size _
  have k0 := hOO.cells
  have f0 := fun j => hBB.frozen j
  obtain ⟨⟨c7, c24, c45, c57, c79, c90⟩, hbent⟩ := six_obj hBB
  have HBent := Lib.hid hbent
  clear hbent
  have HOL := Lib.hid (And.intro hOO (And.intro hLL (And.intro hbw hb)))
  clear hW0 hb hBB hOO hLL hk4 hld4 hbw
  unfold Ms.cs at k0
  have HX := Lib.hid hx
  go_wp2
  generalize (Value.agg #[.int .i64 m.ty, .bool m.fl.dup, .int .i64 m.fl.q, .bool m.fl.retain, .bool m.fl.will, .bool m.fl.clean, .int .i64 m.fl.typ, .int .i64 m.gw, .int .i64 m.rad, .int .i64 m.time, .bool m.timed, .int .i64 m.tid, .int .i64 m.mid, .int .i64 m.code, .string ⟨m.name.toArray⟩, .string ⟨m.data.toArray⟩]) = AG
  go_loopg [11] 6 (fun g i wr => ∃ k : Nat, g + k = 6 ∧ i = .int .i64 k ∧ Hid (Obj? wr b (six (bentM m 0) (bentM m 1) (bentM m 2) (bentM m 3) (bentM m 4) (bentM m 5)) 25 ∧ Obj? wr w.heap.size m.cs 25 ∧ Below w.heap.size w wr))
  case atStart => exact ⟨0, by omega, rfl, Lib.hid ⟨HBent.out, six_rest HOL.out.1 HOL.out.2.1 HOL.out.2.2.1 _ _ _ _ _ _⟩⟩
  case round =>
    rename_i K0 hK0 J1 K1 hJ1 hK1
    have HK0 := Lib.hid hK0
    have HJ1 := Lib.hid hJ1
    have HK1 := Lib.hid hK1
    clear hJ1 hK1 hK0
    refine wp_hide_then fun Q1 hQ1 => ?_
    have HQ1 := Lib.hid hQ1
    clear hQ1
    clear HBent HOL HX HB0 HB1 HB2 HB3 HB4 HO0 HO1 HO2 HO3 HO4 HG HL HBy HCk HRd HM
    clear c7 c24 c45 c57 c79 c90 k0 f0 hn1 hx hwa hwb hwc hwd
    obtain ⟨k, hgk, rfl, HI⟩ := hrel
    have HGK := Lib.hid hgk
    have hk : k ≤ 6 := by omega
    clear hgk
    have HMr := Lib.hid (HMW.out.below HI.out.2.2 HMW.out.1)
    by_cases hlt : k < 6
    · have hld := six_at HI.out.1 k hlt
      have hsm := bent_small m (by omega) (by omega) k
      have HBk := Lib.hid (msbytes_any (bentM m k) hsm.1 hsm.2 wr HMr.out)
      have hne := bent_bytes HP.out.1 k
      rw [← HP.out.2.1] at hne
      obtain ⟨C, hC⟩ : ∃ C, C = (bytesM (bentM m k)).1 := ⟨_, rfl⟩
      obtain ⟨e, he⟩ : ∃ e, e = (bytesM (bentM m k)).2 := ⟨_, rfl⟩
      rw [← hC, ← he] at HBk hne
      have d1 : decide ((k : Int) < 6) = true := decide_eq_true (by omega)
      have hki : (k : Int) < 6 := by omega
      have HKL := Lib.hid hlt
      clear hC he hsm hrl hbl hBl hn2 hnl hdl hR hhd4 hlt hk hnd
      go_wp2_with fail
      refine HBk.out.mono ?_
      rintro r w8 ⟨rfl, hb8⟩
      have HJ := Lib.hid (And.intro (HI.out.1.below hb8 HI.out.1.lt) (And.intro (HI.out.2.1.below hb8 HI.out.2.1.lt) (HI.out.2.2.trans (hb8.mono HI.out.2.2.size))))
      clear hb8 hld
      by_cases hz : e = 0
      · subst hz
        have hcmp : (C == B) = false := beq_eq_false_iff_ne.2 (hne.resolve_left (fun q => q rfl))
        clear hne
        go_wp2
        refine HK1.out _ _ (Handed.intro (gk - 1) ?measure (HJ1.out _ _ _ ?_))
        rotate_left
        (repeat apply Exists.intro)
        refine ⟨?rel, rfl⟩
        case measure => have := HKL.out; have := HGK.out; omega
        case rel => exact ⟨k + 1, by have := HKL.out; have := HGK.out; omega, by go_num, HJ⟩
      · have d2 : (e == 0) = false := by simpa using hz
        clear hne hz
        go_wp2
        refine HK1.out _ _ (Handed.intro (gk - 1) ?measure (HJ1.out _ _ _ ?_))
        rotate_left
        (repeat apply Exists.intro)
        refine ⟨?rel, rfl⟩
        case measure => have := HKL.out; have := HGK.out; omega
        case rel => exact ⟨k + 1, by have := HKL.out; have := HGK.out; omega, by go_num, HJ⟩
    · obtain rfl : k = 6 := by omega
      go_wp2_with fail
      refine HQ1.out _ _ _ ?_
      refine HK0.out _ _ ?_
      refine wp_hide fun Q2 hQ2 => ?_
      have HQ2 := Lib.hid hQ2
      clear hQ2
      clear HK0 HQ1 HK1 HJ1
      have hld : (rowSem 25 ⟨b, 64, none⟩).run Tryd.prog wr = .ok (.agg (bentM m 4).cs) wr := six_at HI.out.1 4 (by omega)
      have hsm := bent_small m (by omega) (by omega) 4
      have hk := HI.out.2.1.cells
      unfold Ms.cs at hk
      have HC4 := Lib.hid (check_any (bentM m 4) hsm.1 hsm.2 wr HMr.out)
      have hor := bent_data HP.out.1
      obtain ⟨c, hc⟩ : ∃ c, c = checkM (bentM m 4) := ⟨_, rfl⟩
      rw [← hc] at HC4 hor
      clear hc hsm
      obtain ⟨ty, hty⟩ : ∃ ty, ty = m.ty := ⟨_, rfl⟩
      have hk0 : wr.cell? ⟨w.heap.size, 0, none⟩ = some (.int .i64 ty) := by rw [hty]; exact hk 0
      rw [← hty] at hor
      clear hk hty
      by_cases h9 : ty = 9
      · have d9 : (ty == 9) = true := by simpa using h9
        clear hor h9
        by_cases hz : c = 0
        · subst hz
          go_wp2_with fail
          refine HC4.out.mono ?_
          rintro r w8 ⟨rfl, hb8⟩
          have HJ := Lib.hid (HI.out.2.2.trans (hb8.mono HI.out.2.2.size))
          clear hb8
          go_wp2
          refine HQ2.out _ _ _ ?_
          go_ret
          exact ⟨rfl, HJ.out⟩
        · have d0 : (c != 0) = true := by simpa using hz
          go_wp2_with fail
          refine HC4.out.mono ?_
          rintro r w8 ⟨rfl, hb8⟩
          have HJ := Lib.hid (HI.out.2.2.trans (hb8.mono HI.out.2.2.size))
          clear hb8 hz
          go_wp2
          refine HQ2.out _ _ _ ?_
          go_ret
          exact ⟨rfl, HJ.out⟩
      have d9 : (ty == 9) = false := by simpa using h9
      rw [d9, Bool.false_or] at hor
      by_cases h28 : ty = 28
      · have d28 : (ty == 28) = true := by simpa using h28
        clear hor h28 h9
        by_cases hz : c = 0
        · subst hz
          go_wp2_with fail
          refine HC4.out.mono ?_
          rintro r w8 ⟨rfl, hb8⟩
          have HJ := Lib.hid (HI.out.2.2.trans (hb8.mono HI.out.2.2.size))
          clear hb8
          go_wp2
          refine HQ2.out _ _ _ ?_
          go_ret
          exact ⟨rfl, HJ.out⟩
        · have d0 : (c != 0) = true := by simpa using hz
          go_wp2_with fail
          refine HC4.out.mono ?_
          rintro r w8 ⟨rfl, hb8⟩
          have HJ := Lib.hid (HI.out.2.2.trans (hb8.mono HI.out.2.2.size))
          clear hb8 hz
          go_wp2
          refine HQ2.out _ _ _ ?_
          go_ret
          exact ⟨rfl, HJ.out⟩
      have d28 : (ty == 28) = false := by simpa using h28
      rw [d28, Bool.false_or] at hor
      by_cases hz : c = 0
      · have d12 : (ty == 12) = true := hor.resolve_right (fun q => q hz)
        subst hz
        clear hor h28 h9
        go_wp2_with fail
        refine HC4.out.mono ?_
        rintro r w8 ⟨rfl, hb8⟩
        have HJ := Lib.hid (HI.out.2.2.trans (hb8.mono HI.out.2.2.size))
        clear hb8
        go_wp2
        refine HQ2.out _ _ _ ?_
        go_ret
        exact ⟨rfl, HJ.out⟩
      · have d0 : (c != 0) = true := by simpa using hz
        clear hor h28 h9
        cases d12 : (ty == 12)
        all_goals
          go_wp2_with fail
          refine HC4.out.mono ?_
          rintro r w8 ⟨rfl, hb8⟩
          have HJ := Lib.hid (HI.out.2.2.trans (hb8.mono HI.out.2.2.size))
          clear hb8
          go_wp2
          refine HQ2.out _ _ _ ?_
          go_ret
          exact ⟨rfl, HJ.out⟩
theorem snmsgUnused_walk (m : Ms)  (w : World) (hm : Mx w) :
    Calls Tryd.prog 3 #[.agg m.cs] w fun e w' => e = .returned (.bool true) ∧ Below w.heap.size w w' := by
  cases h : lightM m with
  | false => exact snmsgUnused_heavy m h w hm
  | true =>
    by_cases hc : checkM m = 0
    · exact snmsgUnused_go m h hc w hm
    · exact snmsgUnused_no m h hc w hm
end Go.Proofs.YtbacnaplpfmpnaaDoor
