/- SnwrapHops. -/
import Derived.Test.YtbacnaplpfmpnaaGreatDoorWrP
import Derived.Test.YtbacnaplpfmpnaaGreatDoorRfN
import Derived.Test.YtbacnaplpfmpnaaGreatDoorSnK
import Derived.Deep.RegionHeld3
import Derived.Deep.CutRange
import Derived.Deep.LoopGhost
namespace Go.Proofs.YtbacnaplpfmpnaaGreatDoor
open Go Go.RowKit Go.Shelf
set_option linter.unusedVariables false
set_option linter.unusedSimpArgs false
attribute [local go_sem ↓] load_Msg store_Msg load_Dg store_Dg
attribute [local irreducible] rowSem rowStore

/-- A hop put around what is there, if it may. -/
def putHop (ds : List Hp) (h : Hp) : List Hp := if hopOk h = true ∧ ds.length < 4 then h :: ds else ds
def wrapAll (hs : List Hp) : List Hp := hs.foldl putHop []
theorem wrapAll_succ {hs : List Hp} {k : Nat} (hk : k < hs.length) : wrapAll (hs.take (k + 1)) = putHop (wrapAll (hs.take k)) hs[k] := by
  unfold wrapAll; rw [List.take_succ_eq_append_getElem hk, List.foldl_append]; rfl
theorem putHop_ok {ds : List Hp} {h : Hp} (h1 : ds.all hopOk = true ∧ ds.length ≤ 4) : (putHop ds h).all hopOk = true ∧ (putHop ds h).length ≤ 4 := by
  unfold putHop
  by_cases h2 : hopOk h = true ∧ ds.length < 4
  · rw [if_pos h2]; simp only [List.all_cons, h2.1, h1.1, List.length_cons]; exact ⟨rfl, h2.2⟩
  · rw [if_neg h2]; exact h1
theorem wrapAll_ok (hs : List Hp) : (wrapAll hs).all hopOk = true ∧ (wrapAll hs).length ≤ 4 := by
  have : ∀ (l : List Hp) (ds : List Hp), (ds.all hopOk = true ∧ ds.length ≤ 4) → (l.foldl putHop ds).all hopOk = true ∧ (l.foldl putHop ds).length ≤ 4 := by
    intro l
    induction l with
    | nil => exact fun ds h => h
    | cons x l ih => exact fun ds h => ih _ (putHop_ok h)
  exact this hs [] ⟨rfl, by simp⟩
set_option maxHeartbeats 1600000 in
theorem restL_less {m : Ms} (hg : MsGood m) : (restL m).length ≤ m.name.length + m.data.length + 6 ∧ (m.name = [] ∨ m.data = []) := by
  have l1 := fun x => length_putL x 1
  have l2 := fun x => length_putL x 2
  have hf := hg.fits
  have hk := hg.kind
  clear hg
  obtain ⟨ty, ⟨dup, q, retain, will, clean, typ⟩, gw, rad, time, timed, tid, mid, code, name, data⟩ := m
  simp only at hk
  rcases kinds_of hk with h | h | h | h | h | h | h | h | h | h | h | h | h | h | h | h | h | h | h | h | h | h | h | h | h | h | h <;> subst h <;> clear hk <;>
    by_cases hN : name = [] <;> by_cases hT : typ = 0 <;> cases timed <;>
    simp [fitsM, fitB, useGw, useRad, useCode, useTime, useTid, useMid, useName, useData, hN, hT] at hf <;>
    simp [restL, layoutF, writeP, l1, l2, hN, hT, hf] <;> omega
theorem bytesM_less {m : Ms} (hc : checkM m = 0) (hn : m.name.length ≤ 2000) (hd : m.data.length ≤ 2000) : (bytesM m).1.length ≤ 2010 := by
  have hg := (check_iff m).1 hc
  obtain ⟨h1, h2⟩ := restL_less hg
  have h3 := snS_len_le m.ty (restL m).length
  have e : bytesM m = (snS m.ty (restL m).length ++ restL m, 0) := by unfold bytesM; rw [if_pos hc]
  rw [e]
  simp only [List.length_append]
  rcases h2 with h2 | h2 <;> rw [h2] at h1 <;> simp at h1 <;> omega
/-- The datagram at the end. -/
theorem wrapB_all (hs : List Hp) (m : Ms) (hn : m.name.length ≤ 2000) (hd : m.data.length ≤ 2000) : wrapB (wrapAll hs) m 4096 6 = if (bytesM m).2 = 0 then (hopsL (wrapAll hs) ++ (bytesM m).1, 0) else ([], (bytesM m).2) := by
  obtain ⟨h1, h2⟩ := wrapAll_ok hs
  by_cases he : (bytesM m).2 = 0
  · rw [if_pos he]
    rw [bytesM_e] at he
    have hl := bytesM_less he hn hd
    have hh := hopsL_take_len h1
    exact wrapB_of (by decide) h2 h1 he (by rw [List.length_append]; omega)
  · rw [if_neg he]
    unfold wrapB
    rw [if_neg (by decide), if_neg (by omega), if_neg (by rw [h1]; decide), if_pos he]
/-- What Wrap answers. -/
def wrapT (x : Hp) (ds : List Hp) (m : Ms) : List Hp × Ms × Int := if hopOk x = false then ([], ms0, 2) else if 4 ≤ ds.length then ([], ms0, 12) else (x :: ds, m, 0)
theorem wrap_tri (x : Hp) {v : Value} {ds : List Hp} {m : Ms} {w : World} (hn : (x.node.length : Int) ≤ 9223372036854775807) (hH : HopsAt w v ds) :
    Calls Tryz.prog 25 #[.agg #[.int .i64 x.rad, .string ⟨x.node.toArray⟩], .agg (dgCs v m)] w (WrapSaid w (wrapT x ds m).1 (wrapT x ds m).2.1 (wrapT x ds m).2.2) := by
  have h := wrap_said x (m := m) hn hH
  unfold wrapT
  by_cases h1 : hopOk x = false
  · rw [if_pos h1] at h ⊢; exact h
  · rw [if_neg h1] at h ⊢
    by_cases h2 : 4 ≤ ds.length
    · rw [if_pos h2] at h ⊢; exact h
    · rw [if_neg h2] at h ⊢; exact h
/-- Where the wrapped datagram lies. -/
def GotW (wr : World) (b10 : Nat) (vx : Value) (H1 : List Hp) (M1 : Ms) (wx : World) : Prop :=
  Obj? wx b10 (dgCs vx M1) 45 ∧ wr.heap.size ≤ b10 ∧ HopsAt wx vx H1 ∧ wx.ownsRow wr.heap.size 49 2 vx H1.length (hopCells H1) ∧ Below wr.heap.size wr wx
theorem gotW_after {wr w7 : World} {vx : Value} {H1 : List Hp} {M1 : Ms} (hH : HopsAt w7 vx H1) (hr : w7.ownsRow wr.drew.heap.size 49 2 vx H1.length (hopCells H1)) (hb : Below wr.drew.heap.size wr.drew w7) :
    GotW wr w7.heap.size vx H1 M1 (w7.alloc (.cells (dgCs vx M1) 45 (0, 0))) :=
  ⟨Obj?.new _ _ _, hb.size, hH.below (below_al (Below.refl _ _) _), hr.alloc _, below_al (below_step (below_grown (quiet_grown ⟨1, rfl⟩ none)) hb) _⟩
theorem gotW_before {wr w7 : World} {vx : Value} {H1 : List Hp} {M1 : Ms} (hH : HopsAt w7 vx H1)
    (hr : w7.ownsRow ((wr.alloc (.cells #[.slice none 0 0, .int .i64 0, .bool false, .int .i64 0, .bool false, .bool false, .bool false, .int .i64 0, .int .i64 0, .int .i64 0, .int .i64 0, .bool false, .int .i64 0, .int .i64 0, .int .i64 0, .string ⟨#[]⟩, .string ⟨#[]⟩] 45 (0, 0))).drew).heap.size 49 2 vx H1.length (hopCells H1)) (hb : Below ((wr.alloc (.cells #[.slice none 0 0, .int .i64 0, .bool false, .int .i64 0, .bool false, .bool false, .bool false, .int .i64 0, .int .i64 0, .int .i64 0, .int .i64 0, .bool false, .int .i64 0, .int .i64 0, .int .i64 0, .string ⟨#[]⟩, .string ⟨#[]⟩] 45 (0, 0))).drew).heap.size ((wr.alloc (.cells #[.slice none 0 0, .int .i64 0, .bool false, .int .i64 0, .bool false, .bool false, .bool false, .int .i64 0, .int .i64 0, .int .i64 0, .int .i64 0, .bool false, .int .i64 0, .int .i64 0, .int .i64 0, .string ⟨#[]⟩, .string ⟨#[]⟩] 45 (0, 0))).drew) w7) :
    GotW wr wr.heap.size vx H1 M1 (w7.setRow wr.heap.size (dgCs vx M1)) := by
  have hsz : ((wr.alloc (.cells #[.slice none 0 0, .int .i64 0, .bool false, .int .i64 0, .bool false, .bool false, .bool false, .int .i64 0, .int .i64 0, .int .i64 0, .int .i64 0, .bool false, .int .i64 0, .int .i64 0, .int .i64 0, .string ⟨#[]⟩, .string ⟨#[]⟩] 45 (0, 0))).drew).heap.size = wr.heap.size + 1 := by show (wr.alloc _).heap.size = _; rw [World.size_alloc]
  have hrow := row_far hr (setRow_grown w7 wr.heap.size (dgCs vx M1)) (fun j e => by obtain rfl := Option.some.inj e; omega)
  have hb0 : Below wr.heap.size wr w7 := new_below hb
  exact ⟨(new_kept hb).setRow _, Nat.le_refl _, hopsat_of_row hrow hH.small.1 hH.small.2, row_mono hrow (by omega), below_row hb0 (Nat.le_refl _) _⟩
theorem neq_msg (m : Ms) (w : World) : (binOp .neq 25 (.agg m.cs) (.agg m.cs)).run Tryz.prog w = .ok (.bool false) w := by
  unfold Ms.cs
  go_simp
theorem neq_hop (x : Hp) (w : World) : (binOp .neq 49 (.agg #[.int .i64 x.rad, .string ⟨x.node.toArray⟩]) (.agg #[.int .i64 x.rad, .string ⟨x.node.toArray⟩])).run Tryz.prog w = .ok (.bool false) w := by
  go_simp
/-- What the orders of the comparison keep. -/
abbrev SHp (W9 : World) (x : Hp) (m : Ms) (v2 v' : Value) (b13 bd b10 bm b o : Nat) (W : World) : Prop :=
  Below W9.heap.size W9 W ∧ (∀ j, W.cell? ⟨b13, j, none⟩ = (#[.int .i64 x.rad, .string ⟨x.node.toArray⟩] : Array Value)[j]?) ∧ W.cell? ⟨b, o, none⟩ = some (.int .i64 x.rad) ∧ W.cell? ⟨b, o + 1, none⟩ = some (.string ⟨x.node.toArray⟩) ∧
    (rowSem 45 ⟨b13 + 1, 0, none⟩).run Tryz.prog W = .ok (.agg (dgCs v2 m)) W ∧ (rowSem 45 ⟨bd, 0, none⟩).run Tryz.prog W = .ok (.agg (dgCs v' m)) W ∧ (rowSem 25 ⟨b10, 1, none⟩).run Tryz.prog W = .ok (.agg m.cs) W ∧ (rowSem 25 ⟨bm, 0, none⟩).run Tryz.prog W = .ok (.agg m.cs) W
theorem hop_bytes {x : Hp} {S : List UInt8} (h : ∃ a r : UInt8, hopL x = a :: 254 :: r :: x.node ∧ (a.toNat : Int) = 3 + x.node.length ∧ (r.toNat : Int) = x.rad) :
    ByteArray.mk #[UInt8.ofNat x.node.length + 3, 254, UInt8.ofNat x.rad.toNat] ++ ByteArray.mk x.node.toArray = ByteArray.mk (hopL x).toArray ∧ ByteArray.mk (hopL x).toArray ++ ByteArray.mk S.toArray = ByteArray.mk (hopL x ++ S).toArray := by
  obtain ⟨a, r, e, h1, h2⟩ := h
  have hr := a.toNat_lt
  have e1 : UInt8.ofNat x.node.length + 3 = a := by
    apply UInt8.toNat_inj.1
    rw [UInt8.toNat_add, UInt8.toNat_ofNat']
    show (x.node.length % 256 + 3) % 256 = a.toNat
    omega
  have e2 : UInt8.ofNat x.rad.toNat = r := by
    rw [show x.rad.toNat = r.toNat by omega]; simp
  refine ⟨?_, ByteArray.mk_append_mk _ _⟩
  rw [e1, e2, e]
  exact ByteArray.mk_append_mk _ _
/-- What the loop keeps: the message, the datagram. -/
def HopsInW (w : World) (a : Option Addr) (n cap : Nat) (hs : List Hp) (m : Ms) (bd : Nat) (ds : List Hp) (W : World) : Prop :=
  ∃ v, Obj? W bd (dgCs v m) 45 ∧ HopsAt W v ds ∧ W.ownsRow (bd + 1) 49 2 v ds.length (hopCells ds) ∧ Obj? W w.heap.size m.cs 25 ∧ Below w.heap.size w W ∧ HopsAt W (.slice a n cap) hs ∧ w.heap.size < bd
theorem row_below {A B : World} {n1 : Nat} {e : TypeId} {sz : Nat} {v : Value} {k : Nat} {xs : List Value} (h : A.ownsRow n1 e sz v k xs) (hb : Below A.heap.size A B) : B.ownsRow n1 e sz v k xs :=
  row_far h (grown_of_below (row := none) hb) (fun j e => by cases e)
theorem HopsInW.below {w : World} {a : Option Addr} {n cap : Nat} {hs : List Hp} {m : Ms} {bd : Nat} {ds : List Hp} {A B : World} (h : HopsInW w a n cap hs m bd ds A) (hb : Below A.heap.size A B) : HopsInW w a n cap hs m bd ds B := by
  obtain ⟨v, h1, h2, h3, h4, h5, h6, h7⟩ := h
  exact ⟨v, h1.below hb h1.lt, h2.below hb, row_below h3 hb, h4.below hb h4.lt, h5.trans (hb.mono h5.size), h6.below hb, h7⟩
theorem putHop_bad {ds : List Hp} {x : Hp} (h : ¬ (hopOk x = true ∧ ds.length < 4)) : putHop ds x = ds := if_neg h
theorem putHop_good {ds : List Hp} {x : Hp} (h : hopOk x = true) (h2 : ds.length < 4) : putHop ds x = x :: ds := if_pos ⟨h, h2⟩
/-- Why a hop may not be. -/
theorem hop_why {x : Hp} (h : hopOk x = false) : x.rad < 0 ∨ (0 ≤ x.rad ∧ 3 < x.rad) ∨ (0 ≤ x.rad ∧ x.rad ≤ 3 ∧ x.node.length = 0) ∨ (0 ≤ x.rad ∧ x.rad ≤ 3 ∧ 0 < x.node.length ∧ 32 < x.node.length) := by
  simp only [hopOk, decide_eq_false_iff_not] at h
  omega
set_option maxRecDepth 100000 in
set_option maxHeartbeats 6400000 in
theorem snwrapHops_go {a : Option Addr} {cap : Nat} {hs : List Hp} {m : Ms} {w : World} (hH : HopsAt w (.slice a hs.length cap) hs) (hmx : Mx w) (h : lightD hs m = true) (hn : m.name.length ≤ 2000) (hd : m.data.length ≤ 2000) :
    Calls Tryz.prog 4 #[.agg m.cs, .slice a hs.length cap] w fun e w' => e = .returned (.bool true) ∧ Below w.heap.size w w' := by
  have hn8 : hs.length ≤ 8 := by simp only [lightD, Bool.and_eq_true, decide_eq_true_eq] at h; exact h.1.1
  have HMW := Lib.hid hmx
  have HO0 := Lib.hid (Obj?.new w m.cs 25)
  have HB0 := Lib.hid (below_al (Below.refl _ w) (.cells m.cs 25 (0, 0)))
  have HLV := Lib.hid lives23
  have HLD := Lib.hid (fun W (hB : Below w.heap.size w W) => lightdg_any (m := m) (hH.below hB))
  rw [h] at HLD
  have HHW := Lib.hid hH
  have HWB := Lib.hid (wrapB_all hs m hn hd)
  have HBr := Lib.hid (fun W => rbytes_any m (by omega) (by omega) W)
  have HBy := Lib.hid (fun W v (hB : Below w.heap.size w W) (hv : HopsAt W v (wrapAll hs)) => wrapbytes_any (mp := 4096) (md := 6) (m := m) hv (by omega : (m.name.length : Int) ≤ 100000) (by omega : (m.data.length : Int) ≤ 100000) (HMW.out.below hB HMW.out.1))
  rw [HWB.out] at HBy
  obtain ⟨M, hM⟩ : ∃ M, M = (bytesM m).1 := ⟨_, rfl⟩
  obtain ⟨E, hE⟩ : ∃ E, E = (bytesM m).2 := ⟨_, rfl⟩
  have HML := Lib.hid (show M.length ≤ 70000 by rw [hM]; have := bytesM_len m; omega)
  rw [← hM, ← hE] at HBr HBy
  have HE0 := Lib.hid (show E ≠ 0 → M = [] by
    rw [hE, hM]; intro h0
    unfold bytesM at h0 ⊢
    by_cases hc : checkM m = 0
    · rw [if_pos hc] at h0; exact (h0 rfl).elim
    · rw [if_neg hc])
  have d1b : decide ((2000 : Int) < m.name.length) = false := decide_eq_false (by omega)
  have d2b : decide ((2000 : Int) < m.data.length) = false := decide_eq_false (by omega)
  have d1 : ¬ (2000 : Int) < m.name.length := by omega
  have d2 : ¬ (2000 : Int) < m.data.length := by omega
  obtain ⟨n, hN⟩ : ∃ n, n = hs.length := ⟨_, rfl⟩
  rw [← hN] at HHW HLD hn8 ⊢
  have HN := Lib.hid hN
  clear hM hE h hmx hH hn hd hN
  go_enter Tryz.func4, Tryz.ntmps4
  refine wp_hide fun Q1 hQ1 => ?_
  have HQ1 := Lib.hid hQ1
  clear hQ1
  go_wp2_with fail
  refine (HLV.out _ (HMW.out.below HB0.out HMW.out.1)).mono ?_
  rintro r w1 ⟨rfl, hb⟩
  have HO1 := Lib.hid (HO0.out.below hb HO0.out.lt)
  have HB1 := Lib.hid (HB0.out.trans (hb.mono HB0.out.size))
  have hld := load_msg (m := m) HO1.out
  clear hb
  go_wp2_with fail
  refine (HLD.out _ HB1.out).mono ?_
  rintro r w2 ⟨rfl, hb⟩
  have HO2 := Lib.hid (HO1.out.below hb HO1.out.lt)
  have HB2 := Lib.hid (HB1.out.trans (hb.mono HB1.out.size))
  clear hb hld
  have hld := load_msg (m := m) HO2.out
  have kn := HO2.out.cells
  unfold Ms.cs at kn
  have hst := store_newdg w2 nilV m rfl
  unfold dgCs nilV at hst
  have HO3 := Lib.hid (HO2.out.alloc (.cells (dgCs nilV m) 45 (0, 0)))
  have HB3 := Lib.hid (below_al HB2.out (.cells (dgCs nilV m) 45 (0, 0)))
  have HD3 := Lib.hid (Obj?.new w2 (dgCs nilV m) 45)
  go_upto_region 6 with fail
  obtain ⟨W3, hW3⟩ : ∃ W3, W3 = w2.alloc (.cells (dgCs nilV m) 45 (0, 0)) := ⟨_, rfl⟩
  rw [← hW3] at HO3 HB3 HD3
  unfold dgCs nilV at hW3
  rw [← hW3]
  have hz := HO2.out.lt
  obtain ⟨bd, hbd⟩ : ∃ bd, bd = w2.heap.size := ⟨_, rfl⟩
  rw [← hbd] at HD3 hz ⊢
  have HBD := Lib.hid (show bd + 1 ≤ W3.heap.size by rw [hW3, World.size_alloc, hbd]; exact Nat.le_refl _)
  clear hst kn hld hW3 hbd
  have hld := load_msg (m := m) HO3.out
  go_wp2_with fail
  refine (HBr.out _).mono ?_
  rintro r w4 ⟨rfl, hb⟩
  have HI0 : Hid (HopsInW w a n cap hs m bd [] w4) := Lib.hid ⟨nilV, HD3.out.below hb HD3.out.lt, hopsat_nil _, World.ownsRow_nil _ _ _ _, HO3.out.below hb HO3.out.lt, HB3.out.trans (hb.mono HB3.out.size), HHW.out.below (HB3.out.trans (hb.mono HB3.out.size)), hz⟩
  have HZ := Lib.hid (show bd + 1 ≤ w4.heap.size from Nat.le_trans HBD.out hb.size)
  clear hb hld hz
  go_wp2
  go_loopg [6, 8, 9] (n + 1) (fun g s c i wr => ∃ k : Nat, g + k = n + 1 ∧ k ≤ n ∧ i = .int .i64 k ∧ c = .int .i64 (((wrapAll (hs.take k)).length : Nat) : Int) ∧ s = .string ⟨(hopsL (wrapAll (hs.take k)) ++ M).toArray⟩ ∧ Hid (HopsInW w a n cap hs m bd (wrapAll (hs.take k)) wr ∧ bd + 1 ≤ wr.heap.size))
  case atStart => exact ⟨0, rfl, Nat.zero_le _, rfl, rfl, rfl, Lib.hid ⟨HI0.out, HZ.out⟩⟩
  case round =>
    obtain ⟨k, hgk, hk, rfl, rfl, rfl, HV⟩ := hrel
    have HGK := Lib.hid hgk
    clear hgk
    clear HI0 HZ HD3 HO3 HB3
    by_cases hlt : k < n
    · have hkh : k < hs.length := by rw [← HN.out]; exact hlt
      have hsc := wrapAll_succ hkh
      have hok := wrapAll_ok (hs.take k)
      obtain ⟨v, OD, hDs, hrow, OM, hB, hHs, hwb⟩ := HV.out.1
      obtain ⟨b, off, rfl, hbl, c0, c1⟩ := hopat_cell hHs k hkh
      have hsm := hHs.small.1 hs[k] (List.getElem_mem hkh)
      obtain ⟨x, hx⟩ : ∃ x, x = hs[k] := ⟨_, rfl⟩
      obtain ⟨DS, hDS⟩ : ∃ DS, DS = wrapAll (hs.take k) := ⟨_, rfl⟩
      rw [← hx] at c0 c1 hsc hsm
      rw [← hDS] at hsc hok hDs hrow HV ⊢
      have HSC := Lib.hid (And.intro hsc hok)
      have HNX := Lib.hid hsm
      have HBW := Lib.hid HV.out.2
      have c0B := c0
      have HK := Lib.hid (And.intro OD (And.intro hDs (And.intro hrow (And.intro OM (And.intro hB (And.intro hHs hwb))))))
      have HT := Lib.hid (fun W (hW : HopsAt W v DS) => wrap_tri x (m := m) HNX.out hW)
      obtain ⟨⟨H1, M1, E1⟩, hT⟩ : ∃ T, T = wrapT x DS m := ⟨_, rfl⟩
      rw [← hT] at HT
      simp only at HT
      have HTT := Lib.hid hT
      have hki : (k : Int) < n := by omega
      have dk : decide ((k : Int) < n) = true := decide_eq_true hki
      have hld := load_dg (v := v) (m := m) (show Obj? wr.drew bd (dgCs v m) 45 from OD)
      have hldB := load_dg (v := v) (m := m) (show Obj? (wr.alloc (.cells #[.slice none 0 0, .int .i64 0, .bool false, .int .i64 0, .bool false, .bool false, .bool false, .int .i64 0, .int .i64 0, .int .i64 0, .int .i64 0, .bool false, .int .i64 0, .int .i64 0, .int .i64 0, .string ⟨#[]⟩, .string ⟨#[]⟩] 45 (0, 0))).drew bd (dgCs v m) 45 from OD.alloc _)
      have k0B : (wr.alloc (.cells #[.slice none 0 0, .int .i64 0, .bool false, .int .i64 0, .bool false, .bool false, .bool false, .int .i64 0, .int .i64 0, .int .i64 0, .int .i64 0, .bool false, .int .i64 0, .int .i64 0, .int .i64 0, .string ⟨#[]⟩, .string ⟨#[]⟩] 45 (0, 0))).cell? ⟨b, off + k * 2, none⟩ = some (.int .i64 x.rad) := ((below_al (Below.refl _ wr) _).cell (p := ⟨b, _, none⟩) hbl).trans c0
      have k1B : (wr.alloc (.cells #[.slice none 0 0, .int .i64 0, .bool false, .int .i64 0, .bool false, .bool false, .bool false, .int .i64 0, .int .i64 0, .int .i64 0, .int .i64 0, .bool false, .int .i64 0, .int .i64 0, .int .i64 0, .string ⟨#[]⟩, .string ⟨#[]⟩] 45 (0, 0))).cell? ⟨b, off + k * 2 + 1, none⟩ = some (.string ⟨x.node.toArray⟩) := ((below_al (Below.refl _ wr) _).cell (p := ⟨b, _, none⟩) hbl).trans c1
      have HA := Lib.hid (show HopsAt wr.drew v DS from hDs.below (below_grown (quiet_grown ⟨1, rfl⟩ none)))
      have HAB := Lib.hid (show HopsAt (wr.alloc (.cells #[.slice none 0 0, .int .i64 0, .bool false, .int .i64 0, .bool false, .bool false, .bool false, .int .i64 0, .int .i64 0, .int .i64 0, .int .i64 0, .bool false, .int .i64 0, .int .i64 0, .int .i64 0, .string ⟨#[]⟩, .string ⟨#[]⟩] 45 (0, 0))).drew v DS from (hDs.below (below_al (Below.refl _ _) _)).below (below_grown (quiet_grown ⟨1, rfl⟩ none)))
      clear hx hDS hsc hok OD hDs hrow OM hB hHs hwb hsm hT HV c0B
      go_upto_region 11 with fail
      go_cut [10, 11] from 44 to 152 (fun p e wx => ∃ (b10 : Nat) (vx : Value), p = .pointer (some ⟨b10, 0, none⟩) ∧ e = .int .i64 E1 ∧ Hid (GotW wr b10 vx H1 M1 wx))
      case first =>
        go_region_with ((first
          | (go_at_call 25; ((with_reducible refine (HT.out _ HA.out).mono ?_); (rintro r w7 ⟨vx, rfl, hHx, hrx, hb⟩; have hst := store_newdg w7 vx M1 hHx.one; have HG := Lib.hid (gotW_after (M1 := M1) hHx hrx hb); clear hHx hrx hb)))
          | (go_at_call 25; ((with_reducible refine (HT.out _ HAB.out).mono ?_); (rintro r w7 ⟨vx, rfl, hHx, hrx, hb⟩; have hst := store_dg (v0 := nilV) (m0 := ms0) (v := vx) (m := M1) hHx.one (new_kept hb); have HG := Lib.hid (gotW_before (M1 := M1) hHx hrx hb); clear hHx hrx hb)))))
        all_goals
          go_wp2_with fail
          go_meet
          exact ⟨_, _, rfl, rfl, HG⟩
      case rest =>
      obtain ⟨b10, vx, rfl, rfl, HG⟩ := hcut
      have hgb : Below wr.heap.size wr wc := HG.out.2.2.2.2
      have k0 := (hgb.cell (p := ⟨b, off + k * 2, none⟩) hbl).trans c0
      have k1 := (hgb.cell (p := ⟨b, off + k * 2 + 1, none⟩) hbl).trans c1
      have HI1 : Hid (HopsInW w (some ⟨b, off, none⟩) n cap hs m bd DS wc ∧ bd + 1 ≤ wc.heap.size) := Lib.hid ⟨HopsInW.below ⟨v, HK.out.1, HK.out.2.1, HK.out.2.2.1, HK.out.2.2.2.1, HK.out.2.2.2.2.1, HK.out.2.2.2.2.2.1, HK.out.2.2.2.2.2.2⟩ hgb, Nat.le_trans HBW.out hgb.size⟩
      clear hgb hld hldB k0B k1B c0 c1
      cases hok : hopOk x with
      | false =>
        have hput := Lib.hid (putHop_bad (ds := DS) (x := x) (by rw [hok]; simp))
        have hE : wrapT x DS m = ([], ms0, 2) := by unfold wrapT; rw [if_pos hok]
        have hT2 := HTT.out
        rw [hE] at hT2
        obtain ⟨rfl, rfl, rfl⟩ : H1 = [] ∧ M1 = ms0 ∧ E1 = 2 := by cases hT2; exact ⟨rfl, rfl, rfl⟩
        clear hT2 hE HTT HT
        have hwhy := hop_why hok
        clear hok
        rcases hwhy with h1 | ⟨h1, h2⟩ | ⟨h1, h2, h3⟩ | ⟨h1, h2, h3, h4⟩
        all_goals
          go_wp2
          go_roundg (gk - 1)
          case measure => have := HGK.out; omega
          case rel => exact ⟨k + 1, by have := HGK.out; omega, by omega, by go_num, by rw [HSC.out.1, hput.out], by rw [HSC.out.1, hput.out], by rw [HSC.out.1, hput.out]; exact HI1⟩
      | true =>
        have hr : 0 ≤ x.rad ∧ x.rad ≤ 3 ∧ 1 ≤ x.node.length ∧ x.node.length ≤ 32 := by simpa only [hopOk, decide_eq_true_eq] using hok
        obtain ⟨r0, r3, n1, n32⟩ := hr
        by_cases h4 : 4 ≤ DS.length
        · have h4' : DS.length = 4 := by have := HSC.out.2.2; omega
          have hput := Lib.hid (putHop_bad (ds := DS) (x := x) (by omega))
          have hE : wrapT x DS m = ([], ms0, 12) := by unfold wrapT; rw [if_neg (by rw [hok]; simp), if_pos h4]
          have hT2 := HTT.out
          rw [hE] at hT2
          obtain ⟨rfl, rfl, rfl⟩ : H1 = [] ∧ M1 = ms0 ∧ E1 = 12 := by cases hT2; exact ⟨rfl, rfl, rfl⟩
          clear hT2 hE HTT HT hok h4
          have hlz : (DS.length : Int) = 4 := by omega
          have HDL := Lib.hid h4'
          clear h4'
          go_wp2
          go_roundg (gk - 1)
          case measure => have := HGK.out; omega
          case rel => exact ⟨k + 1, by have := HGK.out; omega, by omega, by go_num, by rw [HSC.out.1, hput.out, HDL.out]; rfl, by rw [HSC.out.1, hput.out], by rw [HSC.out.1, hput.out]; exact HI1⟩
        · have h4' : DS.length < 4 := by omega
          have hput := Lib.hid (putHop_good (ds := DS) (x := x) hok h4')
          have hE : wrapT x DS m = (x :: DS, m, 0) := by unfold wrapT; rw [if_neg (by rw [hok]; simp), if_neg h4]
          have hT2 := HTT.out
          rw [hE] at hT2
          obtain ⟨rfl, rfl, rfl⟩ : H1 = x :: DS ∧ M1 = m ∧ E1 = 0 := by cases hT2; exact ⟨rfl, rfl, rfl⟩
          have HFM := Lib.hid (hopL_form hok)
          clear hT2 hE HTT HT hok h4
          have hlz : ((DS.length : Int) == 4) = false := by simp; omega
          have hDSl : DS.length < 4 := h4'
          have hldx := load_dg (v := vx) (m := M1) HG.out.1
          have HUW := Lib.hid (unwrap_some (m := M1) HG.out.2.2.1 (cap_of_row HG.out.2.2.2.1) (by omega : DS.length ≤ 1000))
          clear h4'
          go_wp2_with fail
          refine HUW.out.mono ?_
          rintro r w8 ⟨v2, rfl, hH2, hcap2, hb⟩
          have hst := store_newdg (w8.alloc (.cells #[.int .i64 x.rad, .string ⟨x.node.toArray⟩] 49 (0, 0))) v2 M1 hH2.one
          rw [World.size_alloc] at hst
          have HK01 := Lib.hid (And.intro k0 k1)
          clear hldx k0 k1
          go_upto_region 17 with fail
          obtain ⟨W9, hW9⟩ : ∃ W9, W9 = (w8.alloc (.cells #[.int .i64 x.rad, .string ⟨x.node.toArray⟩] 49 (0, 0))).alloc (.cells (dgCs v2 M1) 45 (0, 0)) := ⟨_, rfl⟩
          have hb1 : Below wc.heap.size wc W9 := by rw [hW9]; exact below_al (below_al hb _) _
          have O13 : Obj? W9 w8.heap.size #[.int .i64 x.rad, .string ⟨x.node.toArray⟩] 49 := by rw [hW9]; exact (Obj?.new w8 _ _).alloc _
          have O14 : Obj? W9 (w8.heap.size + 1) (dgCs v2 M1) 45 := by
            have := Obj?.new (w8.alloc (.cells #[.int .i64 x.rad, .string ⟨x.node.toArray⟩] 49 (0, 0))) (dgCs v2 M1) 45
            rw [World.size_alloc] at this
            rw [hW9]; exact this
          have hH9 : HopsAt W9 v2 DS := by rw [hW9]; exact (hH2.below (below_al (Below.refl _ _) _)).below (below_al (Below.refl _ _) _)
          rw [← hW9]
          clear hW9 hst
          obtain ⟨b13, hb13⟩ : ∃ b13, b13 = w8.heap.size := ⟨_, rfl⟩
          rw [← hb13] at O13 O14 ⊢
          have hbd13 : bd < b13 := by rw [hb13]; have := HI1.out.2; have := hb.size; omega
          obtain ⟨v', OD9, HD9, hrow9, OM9, hB9, hHs9, hwb⟩ := HI1.out.1.below hb1
          have OX9 := HG.out.1.below hb1 HG.out.1.lt
          have hlb : b < wc.heap.size := Nat.lt_of_lt_of_le hbl HG.out.2.2.2.2.size
          have e0 := (hb1.cell (p := ⟨b, off + k * 2, none⟩) hlb).trans HK01.out.1
          have e1 := (hb1.cell (p := ⟨b, off + k * 2 + 1, none⟩) hlb).trans HK01.out.2
          have HLB9 := Lib.hid (Nat.lt_of_lt_of_le hlb hb1.size)
          have HSF := Lib.hid (show ∀ W, Below W9.heap.size W9 W → SHp W9 x M1 v2 v' b13 bd b10 w.heap.size b (off + k * 2) W from fun W hW => ⟨hW, (O13.below hW O13.lt).cells, (hW.cell (p := ⟨b, off + k * 2, none⟩) HLB9.out).trans e0, (hW.cell (p := ⟨b, off + k * 2 + 1, none⟩) HLB9.out).trans e1, load_dg (O14.below hW O14.lt), load_dg (OD9.below hW OD9.lt), load_dgmsg (OX9.below hW OX9.lt), load_msgA rfl (OM9.below hW OM9.lt)⟩)
          have HSame := Lib.hid (show ∀ W, Below W9.heap.size W9 W → Calls Tryz.prog 27 #[.agg (dgCs v2 M1), .agg (dgCs v' M1)] W fun e w' => e = .returned (.bool true) ∧ Below W.heap.size W w' from fun W hW => by
            have := same_eq M1 (hH9.below hW) (HD9.below hW)
            rw [decide_eq_true rfl] at this
            exact this)
          have HO9 := Lib.hid (And.intro O13 (And.intro OD9 (And.intro OX9 (And.intro OM9 (And.intro hB9 (And.intro hHs9 hwb))))))
          have HRX := Lib.hid (And.intro (row_below HG.out.2.2.2.1 hb1) (And.intro HG.out.2.2.1.small (And.intro HG.out.2.2.1.one hbd13)))
          have HSZ := Lib.hid (Nat.le_trans HI1.out.2 hb1.size)
          have qh := fun W => neq_hop x W
          have qm := fun W => neq_msg M1 W
          clear O13 O14 hH9 hb13 OD9 HD9 hrow9 OM9 hB9 hHs9 hwb OX9 e0 e1 hlb hb1 hH2 hcap2 hb HI1
          have hS0 := HSF.out W9 (Below.refl _ _)
          have hS1 := HSF.out W9.drew (below_grown (quiet_grown ⟨1, rfl⟩ none))
          go_region_held3 (fun W => Below W9.heap.size W9 W ∧ (∀ j, W.cell? ⟨b13, j, none⟩ = (#[.int .i64 x.rad, .string ⟨x.node.toArray⟩] : Array Value)[j]?) ∧ W.cell? ⟨b, off + k * 2, none⟩ = some (.int .i64 x.rad) ∧ W.cell? ⟨b, off + k * 2 + 1, none⟩ = some (.string ⟨x.node.toArray⟩) ∧
    (rowSem 45 ⟨b13 + 1, 0, none⟩).run Tryz.prog W = .ok (.agg (dgCs v2 M1)) W ∧ (rowSem 45 ⟨bd, 0, none⟩).run Tryz.prog W = .ok (.agg (dgCs v' M1)) W ∧ (rowSem 25 ⟨b10, 1, none⟩).run Tryz.prog W = .ok (.agg M1.cs) W ∧ (rowSem 25 ⟨w.heap.size, 0, none⟩).run Tryz.prog W = .ok (.agg M1.cs) W)
            ((first | assumption | exact HSF.out _ (below_step (by assumption) (below_grown (quiet_grown ⟨1, rfl⟩ none)))))
            ((go_split_ands; (go_at_call 27; ((with_reducible refine (HSame.out _ (by assumption)).mono ?_); (rintro e w12 ⟨rfl, hb⟩; have hS := HSF.out _ (below_step (by assumption) hb))))))
          have hB12 := hS.1
          obtain ⟨o13, oD, oX, oM, oB, oH, owb⟩ := HO9.out
          have OX12 := oX.below hB12 oX.lt
          have OD12 := oD.below hB12 oD.lt
          have hldx := load_dg OX12
          have hst := store_dg (v0 := v') (m0 := M1) (v := vx) (m := M1) HRX.out.2.2.1 OD12
          have O13' := Obj?.setRow_ne (C := dgCs vx M1) (o13.below hB12 o13.lt) (show b13 ≠ bd by have := HRX.out.2.2.2; omega)
          have k13 := O13'.cells
          have hcv := conv_three ((x.node.length : Int) + 3) 254 x.rad (w12.setRow bd (dgCs vx M1))
          have hsz13 : (w12.setRow bd (dgCs vx M1)).heap.size = w12.heap.size := setRow_size _ _ _
          rw [hsz13] at hcv
          obtain ⟨hc1, hc2⟩ := hop_bytes (S := hopsL DS ++ M) HFM.out
          have hrow13 := row_far (row_below HRX.out.1 hB12) (setRow_grown w12 bd (dgCs vx M1)) (fun j e => by obtain rfl := Option.some.inj e; have := HBW.out; omega)
          have HJ : Hid (HopsInW w (some ⟨b, off, none⟩) n cap hs M1 bd (x :: DS) ((w12.setRow bd (dgCs vx M1)).alloc (.cells #[.int .u8 ((x.node.length : Int) + 3), .int .u8 254, .int .u8 x.rad] 5 (0, 0))) ∧ bd + 1 ≤ ((w12.setRow bd (dgCs vx M1)).alloc (.cells #[.int .u8 ((x.node.length : Int) + 3), .int .u8 254, .int .u8 x.rad] 5 (0, 0))).heap.size) := by
            have hB13 : Below w.heap.size w (w12.setRow bd (dgCs vx M1)) := below_row (oB.trans (hB12.mono oB.size)) (by omega) _
            refine Lib.hid ⟨HopsInW.below ⟨vx, OD12.setRow _, hopsat_of_row hrow13 HRX.out.2.1.1 HRX.out.2.1.2, row_mono hrow13 HBW.out, Obj?.setRow_ne (oM.below hB12 oM.lt) (by omega), hB13, HHW.out.below hB13, owb⟩ (below_al (Below.refl _ _) _), ?_⟩
            rw [World.size_alloc, setRow_size]
            have := HSZ.out; have := hB12.size; omega
          have k13E := (O13'.alloc (.cells #[.int .u8 ((x.node.length : Int) + 3), .int .u8 254, .int .u8 x.rad] 5 (0, 0))).cells
          have hll : (hopL x).length ≤ 40 := by obtain ⟨a9, r9, e9, -, -⟩ := HFM.out; rw [e9]; simp only [List.length_cons]; omega
          have hSl : (hopsL DS).length ≤ 140 := by have := hopsL_take_len HSC.out.2.1; omega
          have hMl : M.length ≤ 70000 := HML.out
          have y1 : ¬ (9223372036854775807 : Nat) < 3 + x.node.length := by omega
          have y2 : ¬ (9223372036854775807 : Nat) < (hopL x).length + (hopsL DS ++ M).length := by rw [List.length_append]; omega
          have y3 : ¬ (9223372036854775807 : Nat) < (hopL x).length + ((hopsL DS).length + M.length) := by omega
          clear hS hB12 hrow13 O13' OX12 OD12 o13 oD oX oM oB oH hsz13
          go_wp2
          go_roundg (gk - 1)
          case measure => have := HGK.out; omega
          case rel => exact ⟨k + 1, by have := HGK.out; omega, by omega, by go_num, by rw [HSC.out.1, hput.out]; simp, by rw [HSC.out.1, hput.out, hopsL_cons, List.append_assoc], by rw [HSC.out.1, hput.out]; exact HJ⟩
    · obtain rfl : k = n := by omega
      have htk : hs.take k = hs := by rw [HN.out]; exact List.take_length
      rw [htk] at HV ⊢
      obtain ⟨v, OD, hDs, hrow, OM, hB, hHs, hwb⟩ := HV.out.1
      obtain ⟨a2, c2, rfl⟩ := owns_shape (by decide) hrow
      have HB9 := Lib.hid hB
      have HDs := Lib.hid hDs
      have HOD := Lib.hid OD
      have hok := wrapAll_ok hs
      have hpl := hopsL_take_len hok.1
      obtain ⟨DS, hDS⟩ : ∃ DS, DS = wrapAll hs := ⟨_, rfl⟩
      rw [← hDS] at HBy hok hpl HDs HOD
      rw [← hDS]
      have hnj : ¬ ((k : Int) < k) := by omega
      have hMl : M.length ≤ 70000 := HML.out
      have hlen : DS.length ≤ 4 := hok.2
      clear hDS hok OD hDs hrow OM hB hHs hwb HV htk
      by_cases hE : E = 0
      · subst hE
        rw [if_pos rfl] at HBy
        obtain ⟨S, hS⟩ : ∃ S, S = hopsL DS ++ M := ⟨_, rfl⟩
        rw [← hS] at HBy ⊢
        clear hS HE0
        have HBv := Lib.hid (fun W (hW : Below wr.heap.size wr W) => HBy.out W _ (HB9.out.trans (hW.mono HB9.out.size)) (HDs.out.below hW))
        have hS0 : Below wr.heap.size wr wr ∧ (rowSem 45 ⟨bd, 0, none⟩).run Tryz.prog wr = .ok (.agg (dgCs (.slice a2 DS.length c2) m)) wr := ⟨Below.refl _ _, load_dg HOD.out⟩
        have HSF := Lib.hid (show ∀ W, Below wr.heap.size wr W → Below wr.heap.size wr W ∧ (rowSem 45 ⟨bd, 0, none⟩).run Tryz.prog W = .ok (.agg (dgCs (.slice a2 DS.length c2) m)) W from fun W hW => ⟨hW, load_dg (HOD.out.below hW HOD.out.lt)⟩)
        have hS1 := HSF.out wr.drew (below_grown (quiet_grown ⟨1, rfl⟩ none))
        go_upto_region 21 with fail
        go_region_held3 (fun W => Below wr.heap.size wr W ∧ (rowSem 45 ⟨bd, 0, none⟩).run Tryz.prog W = .ok (.agg (dgCs (.slice a2 DS.length c2) m)) W)
          ((first | assumption | exact HSF.out _ (below_step (by assumption) (below_grown (quiet_grown ⟨1, rfl⟩ none)))))
          ((go_split_ands; first
            | (go_at_call 29; ((with_reducible refine (limits_any _).mono ?_); (rintro e w11 ⟨rfl, hb⟩; have hS := HSF.out _ (below_step (by assumption) hb))))
            | (go_at_call 28; ((with_reducible refine (HBv.out _ (by assumption)).mono ?_); (rintro e w12 ⟨rfl, hb⟩; have hS := HSF.out _ (below_step (by assumption) hb))))))
        all_goals
          have HB12 := Lib.hid (HB9.out.trans (hS.1.mono HB9.out.size))
          have kd := (HOD.out.below hS.1 HOD.out.lt).cell 0 (.slice a2 DS.length c2) rfl
          have q1 : (S == S) = true := by simp
          have q2 : ((DS.length : Int) == DS.length) = true := by simp
          clear hS
          go_wp2
          refine HQ1.out _ _ _ ?_
          go_ret
          exact ⟨rfl, HB12.out⟩
      · rw [if_neg hE] at HBy
        have dE : (E == 0) = false := by simpa using hE
        have dE2 : (E != 0) = true := by simpa using hE
        have HBv := Lib.hid (fun W (hW : Below wr.heap.size wr W) => HBy.out W _ (HB9.out.trans (hW.mono HB9.out.size)) (HDs.out.below hW))
        have hS0 : Below wr.heap.size wr wr ∧ (rowSem 45 ⟨bd, 0, none⟩).run Tryz.prog wr = .ok (.agg (dgCs (.slice a2 DS.length c2) m)) wr := ⟨Below.refl _ _, load_dg HOD.out⟩
        have HSF := Lib.hid (show ∀ W, Below wr.heap.size wr W → Below wr.heap.size wr W ∧ (rowSem 45 ⟨bd, 0, none⟩).run Tryz.prog W = .ok (.agg (dgCs (.slice a2 DS.length c2) m)) W from fun W hW => ⟨hW, load_dg (HOD.out.below hW HOD.out.lt)⟩)
        have hS1 := HSF.out wr.drew (below_grown (quiet_grown ⟨1, rfl⟩ none))
        go_upto_region 21 with fail
        go_region_held3 (fun W => Below wr.heap.size wr W ∧ (rowSem 45 ⟨bd, 0, none⟩).run Tryz.prog W = .ok (.agg (dgCs (.slice a2 DS.length c2) m)) W)
          ((first | assumption | exact HSF.out _ (below_step (by assumption) (below_grown (quiet_grown ⟨1, rfl⟩ none)))))
          ((go_split_ands; first
            | (go_at_call 29; ((with_reducible refine (limits_any _).mono ?_); (rintro e w11 ⟨rfl, hb⟩; have hS := HSF.out _ (below_step (by assumption) hb))))
            | (go_at_call 28; ((with_reducible refine (HBv.out _ (by assumption)).mono ?_); (rintro e w12 ⟨rfl, hb⟩; have hS := HSF.out _ (below_step (by assumption) hb))))))
        all_goals
          have HB12 := Lib.hid (HB9.out.trans (hS.1.mono HB9.out.size))
          clear hS
          go_wp2
          refine HQ1.out _ _ _ ?_
          go_ret
          exact ⟨rfl, HB12.out⟩
set_option maxRecDepth 100000 in
set_option maxHeartbeats 3200000 in
theorem snwrapHops_heavy {a : Option Addr} {cap : Nat} {hs : List Hp} {m : Ms} {w : World} (hH : HopsAt w (.slice a hs.length cap) hs) (hmx : Mx w) (L : Bool) (hL : lightD hs m = L) (h : L = false ∨ (L = true ∧ 2000 < m.data.length) ∨ (L = true ∧ m.data.length ≤ 2000 ∧ 2000 < m.name.length)) :
    Calls Tryz.prog 4 #[.agg m.cs, .slice a hs.length cap] w fun e w' => e = .returned (.bool true) ∧ Below w.heap.size w w' := by
  have HMW := Lib.hid hmx
  have HO0 := Lib.hid (Obj?.new w m.cs 25)
  have HB0 := Lib.hid (below_al (Below.refl _ w) (.cells m.cs 25 (0, 0)))
  have HLV := Lib.hid lives23
  have HLD := Lib.hid (fun W (hB : Below w.heap.size w W) => lightdg_any (m := m) (hH.below hB))
  rw [hL] at HLD
  have h3 : L = false ∨ (L = true ∧ (2000 : Int) < m.data.length) ∨ (L = true ∧ ¬ (2000 : Int) < m.data.length ∧ (2000 : Int) < m.name.length) := by
    rcases h with h | ⟨h, h1⟩ | ⟨h, h1, h2⟩
    · exact .inl h
    · exact .inr (.inl ⟨h, by omega⟩)
    · exact .inr (.inr ⟨h, by omega, by omega⟩)
  obtain ⟨n, hN⟩ : ∃ n, n = hs.length := ⟨_, rfl⟩
  rw [← hN] at HLD ⊢
  clear h hL hmx hH hN
  rcases h3 with rfl | ⟨rfl, d1⟩ | ⟨rfl, d1, d2⟩
  all_goals
    go_enter Tryz.func4, Tryz.ntmps4
    refine wp_hide fun Q1 hQ1 => ?_
    have HQ1 := Lib.hid hQ1
    clear hQ1
    go_wp2_with fail
    refine (HLV.out _ (HMW.out.below HB0.out HMW.out.1)).mono ?_
    rintro r w1 ⟨rfl, hb⟩
    have HO1 := Lib.hid (HO0.out.below hb HO0.out.lt)
    have HB1 := Lib.hid (HB0.out.trans (hb.mono HB0.out.size))
    have hld := load_msg (m := m) HO1.out
    clear hb
    go_wp2_with fail
    refine (HLD.out _ HB1.out).mono ?_
    rintro r w2 ⟨rfl, hb⟩
    have HO2 := Lib.hid (HO1.out.below hb HO1.out.lt)
    have HB2 := Lib.hid (HB1.out.trans (hb.mono HB1.out.size))
    clear hb hld
    have kn := HO2.out.cells
    unfold Ms.cs at kn
    go_wp2
    refine HQ1.out _ _ _ ?_
    go_ret
    exact ⟨rfl, HB2.out⟩
theorem snwrapHops_walk {v : Value} {hs : List Hp} {m : Ms} {w : World} (hH : HopsAt w v hs) (hmx : Mx w) :
    Calls Tryz.prog 4 #[.agg m.cs, v] w fun e w' => e = .returned (.bool true) ∧ Below w.heap.size w w' := by
  have hH2 := hH
  obtain ⟨a, cap, rfl, -, -, -⟩ := hH2
  cases hl : lightD hs m with
  | false => exact snwrapHops_heavy hH hmx false hl (.inl rfl)
  | true =>
    by_cases h1 : 2000 < m.data.length
    · exact snwrapHops_heavy hH hmx true hl (.inr (.inl ⟨rfl, h1⟩))
    by_cases h2 : 2000 < m.name.length
    · exact snwrapHops_heavy hH hmx true hl (.inr (.inr ⟨rfl, by omega, h2⟩))
    · exact snwrapHops_go hH hmx hl (by omega) (by omega)
end Go.Proofs.YtbacnaplpfmpnaaGreatDoor
