/- snwrap: limits, a hop, the hops' list. snwrap: a hop's bytes; are any hops wrong? snwrap: Bytes, Check. snwrap: Check; hops compared; a datagram that is light. snwrap: a datagram that is light. A range over a function whose iterator keeps its state in a cell (block bx) that lay ahead of the loop: after the library's sixth form. snwrap: the iterator over hops. -/
import Derived.Test.YtanofjmkkhocaaaGreatDoorLkB
import Derived.Test.YtanofjmkkhocaaaGreatDoorLkC
import Derived.Deep.RegionHeld3
import Derived.Deep.LoopGhost
import Derived.Deep.QuietTactic
import Derived.BigQuiet
import Derived.Test.YtanofjmkkhocaaaGreatDoorBase
import Derived.RangeFuncNested
import Derived.RangeFuncBound
import Derived.RangeFuncCalls
import Derived.RangeFuncLeaves
import Derived.RangeFuncBox
import Derived.OwnWalkIn
import Derived.TacticsInMore
import Derived.LoopNIn
import Derived.LoopIn
import Derived.Maps.AppendAt
import Derived.Sort.LoopGhostIn
import Derived.Stop.RegionWithIn
import Derived.RegionIn
import Derived.BigRegionIn
import Derived.Sort.CutIn
import Derived.Shelf.Abstract
set_option linter.unusedVariables false
set_option linter.unusedSimpArgs false
set_option maxRecDepth 100000
set_option maxHeartbeats 3200000
namespace Go.Proofs.YtanofjmkkhocaaaGreatDoor
open Go.RowKit
theorem right_any (mp md : Int) (w : World) : Calls Tryz.prog 399 #[.agg #[.int .i64 mp, .int .i64 md]] w fun e w' => e = .returned (.bool (limOk mp md)) ∧ Below w.heap.size w w' := by
 have hB := below_al (Below.refl _ w) (.cells #[.int .i64 mp, .int .i64 md] 53 (0, 0))
 have HE := Lib.hid (show limOk mp md = (decide (16 ≤ mp) && (decide (mp ≤ 1048576) && (decide (0 ≤ md) && decide (md ≤ 32)))) by unfold limOk; simp only [Bool.decide_and])
 rw [HE.out]
 go_enter Tryz.func399, Tryz.ntmps399
 by_cases h1 : 16 ≤ mp
 ·by_cases h2 : mp ≤ 1048576
  ·by_cases h3 : 0 ≤ md
   ·by_cases h4 : md ≤ 32
    ·go_wp2
     go_ret
     exact ⟨ret_val (congrArg Value.bool (by first | rfl | (simp; done) | (simp; omega) | (simp [*]; done) | (simp [*]; omega))), hB⟩
    ·have h4' : 32 < md := by omega
     go_wp2
     go_ret
     exact ⟨ret_val (congrArg Value.bool (by first | rfl | (simp; done) | (simp; omega) | (simp [*]; done) | (simp [*]; omega))), hB⟩
   ·have h3' : md < 0 := by omega
    go_wp2
    go_ret
    exact ⟨ret_val (congrArg Value.bool (by first | rfl | (simp; done) | (simp; omega) | (simp [*]; done) | (simp [*]; omega))), hB⟩
  ·have h2' : 1048576 < mp := by omega
   go_wp2
   go_ret
   exact ⟨ret_val (congrArg Value.bool (by first | rfl | (simp; done) | (simp; omega) | (simp [*]; done) | (simp [*]; omega))), hB⟩
 ·have h1' : mp < 16 := by omega
  go_wp2
  go_ret
  exact ⟨ret_val (congrArg Value.bool (by first | rfl | (simp; done) | (simp; omega) | (simp [*]; done) | (simp [*]; omega))), hB⟩
def Hp.cs (h : Hp) : Array Value := #[.int .i64 h.rad, .string ⟨h.node.toArray⟩]
theorem hopright_any (h : Hp) (hn : (h.node.length : Int) ≤ 9223372036854775807) (w : World) : Calls Tryz.prog 402 #[.agg #[.int .i64 h.rad, .string ⟨h.node.toArray⟩]] w fun e w' => e = .returned (.bool (hopOk h)) ∧ Below w.heap.size w w' := by
 obtain ⟨rad, node⟩ := h
 simp only at hn ⊢
 have hB := below_al (Below.refl _ w) (.cells #[.int .i64 rad, .string ⟨node.toArray⟩] 155 (0, 0))
 have HE := Lib.hid (show hopOk ⟨rad, node⟩ = (decide (0 ≤ rad) && (decide (rad ≤ 3) && (decide (1 ≤ node.length) && decide (node.length ≤ 32)))) by unfold hopOk; simp only [Bool.decide_and])
 rw [HE.out]
 clear hn
 go_enter Tryz.func402, Tryz.ntmps402
 by_cases h1 : 0 ≤ rad
 ·by_cases h2 : rad ≤ 3
  ·by_cases h3 : 1 ≤ node.length
   ·by_cases h4 : node.length ≤ 32
    ·have h3i : (1 : Int) ≤ node.length := by omega
     have h4i : (node.length : Int) ≤ 32 := by omega
     go_wp2
     go_ret
     exact ⟨ret_val (congrArg Value.bool (by first | rfl | (simp; done) | (simp; omega) | (simp [*]; done) | (simp [*]; omega))), hB⟩
    ·have h3i : (1 : Int) ≤ node.length := by omega
     have h4i : (32 : Int) < node.length := by omega
     go_wp2
     go_ret
     exact ⟨ret_val (congrArg Value.bool (by first | rfl | (simp; done) | (simp; omega) | (simp [*]; done) | (simp [*]; omega))), hB⟩
   ·have h3i : (node.length : Int) < 1 := by omega
    go_wp2
    go_ret
    exact ⟨ret_val (congrArg Value.bool (by first | rfl | (simp; done) | (simp; omega) | (simp [*]; done) | (simp [*]; omega))), hB⟩
  ·have h2' : 3 < rad := by omega
   go_wp2
   go_ret
   exact ⟨ret_val (congrArg Value.bool (by first | rfl | (simp; done) | (simp; omega) | (simp [*]; done) | (simp [*]; omega))), hB⟩
 ·have h1' : rad < 0 := by omega
  go_wp2
  go_ret
  exact ⟨ret_val (congrArg Value.bool (by first | rfl | (simp; done) | (simp; omega) | (simp [*]; done) | (simp [*]; omega))), hB⟩
theorem hopwrong_any (h : Hp) (hn : (h.node.length : Int) ≤ 9223372036854775807) (w : World) : Calls Tryz.prog 401 #[.agg #[.int .i64 h.rad, .string ⟨h.node.toArray⟩]] w fun e w' => e = .returned (.bool (!hopOk h)) ∧ Below w.heap.size w w' := by
 have HR := Lib.hid (hopright_any h hn)
 have hB := below_al (Below.refl _ w) (.cells #[.int .i64 h.rad, .string ⟨h.node.toArray⟩] 155 (0, 0))
 obtain ⟨b, hb⟩ : ∃ b, b = hopOk h := ⟨_, rfl⟩
 rw [← hb] at HR ⊢
 clear hb
 cases b
 all_goals
  go_enter Tryz.func401, Tryz.ntmps401
  go_wp2_with fail
  refine (HR.out _).mono ?_
  rintro r w1 ⟨rfl, hb1⟩
  have HB := Lib.hid (hB.trans (hb1.mono hB.size))
  clear hb1
  go_wp2
  go_ret
  exact ⟨rfl, HB.out⟩
def HopsAt (w : World) (v : Value) (hs : List Hp) : Prop :=
 ∃ a cap, v = .slice a hs.length cap ∧ (∀ h ∈ hs, (h.node.length : Int) ≤ 9223372036854775807) ∧ (hs.length : Int) ≤ 9223372036854775807 ∧ (hs = [] ∨ ∃ b off, a = some ⟨b, off, none⟩ ∧ b < w.heap.size ∧
  ∀ i (hi : i < hs.length), w.cell? ⟨b, off + i * 2, none⟩ = some (.int .i64 hs[i].rad) ∧ w.cell? ⟨b, off + i * 2 + 1, none⟩ = some (.string ⟨hs[i].node.toArray⟩))
theorem HopsAt.below {w w' : World} {v : Value} {hs : List Hp} (h : HopsAt w v hs) (hb : Below w.heap.size w w') : HopsAt w' v hs := by
 obtain ⟨a, cap, rfl, hn, hl, hc⟩ := h
 refine ⟨a, cap, rfl, hn, hl, ?_⟩
 rcases hc with hc | ⟨b, off, rfl, hlt, hc⟩
 ·exact .inl hc
 ·exact .inr ⟨b, off, rfl, Nat.lt_of_lt_of_le hlt hb.size, fun i hi => ⟨(hb.cell (p := ⟨b, _, none⟩) hlt).trans (hc i hi).1, (hb.cell (p := ⟨b, _, none⟩) hlt).trans (hc i hi).2⟩⟩
theorem hopsat_nil (w : World) : HopsAt w (.slice none 0 0) [] := ⟨none, 0, rfl, by simp, by simp, .inl rfl⟩
theorem indexhop_any {v : Value} {hs : List Hp} {w : World} (hH : HopsAt w v hs) :
  Calls Tryz.prog 405 #[v, .func (.func 401) #[] #[]] w fun e w' => ∃ r : Int, e = .returned (.int .i64 r) ∧ decide (0 ≤ r) = !hs.all hopOk ∧ Below w.heap.size w w' := by
 have HH := Lib.hid hH
 obtain ⟨a, cap, rfl, hn, hl, -⟩ := hH
 have HN := Lib.hid (And.intro hn hl)
 have HE := Lib.hid (enters_of Tryz.func401 (by kernel_rfl) rfl)
 clear hn
 obtain ⟨n, hN⟩ : ∃ n, n = hs.length := ⟨_, rfl⟩
 rw [← hN] at hl ⊢
 have HNN := Lib.hid hN
 clear hN
 go_enter Tryz.func405, Tryz.ntmps405
 go_wp2
 go_loopg [8] (n + 1) (fun g i wr => ∃ k : Nat, g + k = n + 1 ∧ k ≤ n ∧ i = .int .i64 k ∧ Hid ((hs.take k).all hopOk = true ∧ Below w.heap.size w wr))
 case atStart => exact ⟨0, by omega, by omega, rfl, Lib.hid ⟨rfl, Below.refl _ _⟩⟩
 case round =>
  obtain ⟨k, hgk, hkn, rfl, HI⟩ := hrel
  have HGK := Lib.hid (And.intro hgk hkn)
  by_cases hlt : k < n
  ·have hk' : k < hs.length := by rw [← HNN.out]; exact hlt
   obtain ⟨a', cap', e1, -, -, hc⟩ := HH.out
   obtain ⟨rfl, -, rfl⟩ : a' = a ∧ True ∧ cap' = cap := by cases e1; exact ⟨rfl, trivial, rfl⟩
   obtain ⟨b, off, rfl, hlb, hc⟩ := hc.resolve_left (fun e => by rw [e] at hk'; cases hk')
   obtain ⟨c0, c1⟩ := hc k hk'
   have k0 := (HI.out.2.cell (p := ⟨b, off + k * 2, none⟩) hlb).trans c0
   have k1 := (HI.out.2.cell (p := ⟨b, off + k * 2 + 1, none⟩) hlb).trans c1
   clear hc c0 c1 e1
   have HW := Lib.hid (fun w => hopwrong_any hs[k] (HN.out.1 _ (List.getElem_mem hk')) w)
   obtain ⟨rad, hrad⟩ : ∃ rad, rad = hs[k].rad := ⟨_, rfl⟩
   obtain ⟨node, hnode⟩ : ∃ node, node = hs[k].node := ⟨_, rfl⟩
   have hok : hopOk hs[k] = hopOk ⟨rad, node⟩ := by rw [hrad, hnode]
   have htk : (hs.take (k + 1)).all hopOk = ((hs.take k).all hopOk && hopOk ⟨rad, node⟩) := by rw [List.take_add_one, List.all_append, ← hok]; simp [hk']
   have hall : hopOk ⟨rad, node⟩ = false → hs.all hopOk = false := fun q => by
    rw [List.all_eq_false]
    exact ⟨hs[k], List.getElem_mem hk', by rw [hok, q]; decide⟩
   rw [← hrad] at k0
   rw [← hnode] at k1
   have HW : Hid (∀ w, Calls Tryz.prog 401 #[.agg #[.int .i64 rad, .string ⟨node.toArray⟩]] w fun e w' => e = .returned (.bool (!hopOk ⟨rad, node⟩)) ∧ Below w.heap.size w w') := Lib.hid (by rw [← hok, hrad, hnode]; exact HW.out)
   have HT := Lib.hid (And.intro htk hall)
   clear htk hall hok hrad hnode
   have d1 : decide ((k : Int) < n) = true := decide_eq_true (by omega)
   have he := HE.out
   obtain ⟨q, hq⟩ : ∃ q, q = hopOk ⟨rad, node⟩ := ⟨_, rfl⟩
   rw [← hq] at HW HT
   clear hq
   go_wp2_with fail
   refine (HW.out _).mono ?_
   rintro r w1 ⟨rfl, hb1⟩
   cases q
   ·have hA : hs.all hopOk = false := HT.out.2 rfl
    have HA := Lib.hid hA
    have HB := Lib.hid (HI.out.2.trans (hb1.mono HI.out.2.size))
    clear hA hb1
    go_wp2
    go_ret
    exact ⟨k, rfl, by rw [HA.out]; simp, HB.out⟩
   ·go_wp2
    go_roundg (gk - 1)
    case measure => have := HGK.out; omega
    case rel => exact ⟨k + 1, by have := HGK.out; omega, by omega, by go_num, Lib.hid ⟨by rw [HT.out.1, HI.out.1]; rfl, HI.out.2.trans (hb1.mono HI.out.2.size)⟩⟩
  ·obtain rfl : k = n := by omega
   go_wp2
   go_ret
   refine ⟨-1, rfl, ?_, HI.out.2⟩
   have := HI.out.1
   rw [HNN.out, List.take_length] at this
   rw [this]; rfl
end Go.Proofs.YtanofjmkkhocaaaGreatDoor
namespace Go.Proofs.YtanofjmkkhocaaaGreatDoor
open Go.RowKit
theorem containshop_any {v : Value} {hs : List Hp} {w : World} (hH : HopsAt w v hs) :
  Calls Tryz.prog 400 #[v, .func (.func 401) #[] #[]] w fun e w' => e = .returned (.bool (!hs.all hopOk)) ∧ Below w.heap.size w w' := by
 have HI := Lib.hid (indexhop_any hH)
 obtain ⟨q, hq⟩ : ∃ q, q = !hs.all hopOk := ⟨_, rfl⟩
 rw [← hq] at HI ⊢
 clear hq hH
 go_enter Tryz.func400, Tryz.ntmps400
 go_wp2_with fail
 refine HI.out.mono ?_
 rintro r w1 ⟨i, rfl, hi, hb⟩
 have HB := Lib.hid hb
 clear hb
 cases q
 all_goals
  go_wp2
  go_ret
  exact ⟨rfl, HB.out⟩
abbrev SHop (cs : Array Value) (b : Nat) (w W : World) : Prop := Below w.heap.size w W ∧ Hid (Obj? W b cs 155) ∧ (∀ j, W.cell? ⟨b, j, none⟩ = cs[j]?)
theorem sHop_mk {cs : Array Value} {b : Nat} {w W : World} (hB : Below w.heap.size w W) (h : Obj? W b cs 155) : SHop cs b w W := ⟨hB, h, h.cells⟩
theorem sHop_step {cs : Array Value} {b : Nat} {w W W' : World} (hb : Below W.heap.size W W') (hB : Below w.heap.size w W) (h : Hid (Obj? W b cs 155)) : SHop cs b w W' :=
 sHop_mk (hB.trans (hb.mono hB.size)) (Obj?.below h.out hb (Obj?.lt h.out))
theorem sHop_drew {cs : Array Value} {b : Nat} {w W : World} (h : SHop cs b w W) : SHop cs b w W.drew := sHop_step (below_grown (quiet_grown ⟨1, rfl⟩ none)) h.1 h.2.1
theorem sHop_drew2 {cs : Array Value} {b : Nat} {w W : World} (hB : Below w.heap.size w W) (h : Hid (Obj? W b cs 155)) : SHop cs b w W.drew := sHop_step (below_grown (quiet_grown ⟨1, rfl⟩ none)) hB h
theorem hopbytes_any (h : Hp) (hk : hopOk h = true) (w : World) : Calls Tryz.prog 404 #[.agg #[.int .i64 h.rad, .string ⟨h.node.toArray⟩]] w fun e w' => e = .returned (.string ⟨(hopL h).toArray⟩) ∧ Below w.heap.size w w' := by
 simp only [hopOk, decide_eq_true_eq] at hk
 obtain ⟨h1, h2, h3, h4⟩ := hk
 obtain ⟨rad, node⟩ := h
 simp only at h1 h2 h3 h4 ⊢
 have hu1 : IntKind.u64.wrap (3 + (node.length : Int)) = 3 + (node.length : Int) := wraps_u64 _ (by omega) (by omega)
 have hu2 : IntKind.u64.wrap rad = rad := wraps_u64 _ (by omega) (by omega)
 have hi1 : IntKind.i64.wrap (3 + (node.length : Int)) = 3 + (node.length : Int) := by rw [IntKind.wrap_i64]; omega
 have HP1 := Lib.hid (fun w => put_any (3 + (node.length : Int)) 1 w)
 have HP2 := Lib.hid (fun w => put_any 254 1 w)
 have HP3 := Lib.hid (fun w => put_any rad 1 w)
 have hL : hopL ⟨rad, node⟩ = putL (3 + node.length) 1 ++ putL 254 1 ++ putL rad 1 ++ node := rfl
 obtain ⟨a, ha⟩ : ∃ a, a = putL (3 + node.length) 1 := ⟨_, rfl⟩
 obtain ⟨b, hb⟩ : ∃ b, b = putL 254 1 := ⟨_, rfl⟩
 obtain ⟨c, hc⟩ : ∃ c, c = putL rad 1 := ⟨_, rfl⟩
 have la : a.length = 1 := by rw [ha, length_putL]; rfl
 have lb : b.length = 1 := by rw [hb, length_putL]; rfl
 have lc : c.length = 1 := by rw [hc, length_putL]; rfl
 rw [← ha] at HP1 hL
 rw [← hb] at HP2 hL
 rw [← hc] at HP3 hL
 obtain ⟨d, hd⟩ : ∃ d, d = a ++ b := ⟨_, rfl⟩
 obtain ⟨e, he⟩ : ∃ e, e = d ++ c := ⟨_, rfl⟩
 obtain ⟨f, hf⟩ : ∃ f, f = e ++ node := ⟨_, rfl⟩
 have hx1 : ByteArray.mk a.toArray ++ ByteArray.mk b.toArray = ByteArray.mk d.toArray := by rw [hd]; exact ByteArray.mk_append_mk _ _
 have hx2 : ByteArray.mk d.toArray ++ ByteArray.mk c.toArray = ByteArray.mk e.toArray := by rw [he]; exact ByteArray.mk_append_mk _ _
 have hx3 : ByteArray.mk e.toArray ++ ByteArray.mk node.toArray = ByteArray.mk f.toArray := by rw [hf]; exact ByteArray.mk_append_mk _ _
 have ld : d.length = 2 := by rw [hd, List.length_append]; omega
 have le : e.length = 3 := by rw [he, List.length_append]; omega
 have y1 : ¬ (9223372036854775807 : Nat) < a.length + b.length := by omega
 have y2 : ¬ (9223372036854775807 : Nat) < d.length + c.length := by omega
 have y3 : ¬ (9223372036854775807 : Nat) < e.length + node.length := by omega
 rw [hL, ← hd, ← he, ← hf]
 clear ha hb hc hL la lb lc hd he hf ld le
 have hB0 := below_al (Below.refl _ w) (.cells #[.int .i64 rad, .string ⟨node.toArray⟩] 155 (0, 0))
 have O0 := Obj?.new w #[.int .i64 rad, .string ⟨node.toArray⟩] 155
 go_enter Tryz.func404, Tryz.ntmps404
 go_wp2_with fail
 obtain ⟨W0, hW0⟩ : ∃ W0, W0 = w.alloc (.cells #[.int .i64 rad, .string ⟨node.toArray⟩] 155 (0, 0)) := ⟨_, rfl⟩
 obtain ⟨B, hBB⟩ : ∃ B, B = w.heap.size := ⟨_, rfl⟩
 have hS0 : SHop #[.int .i64 rad, .string ⟨node.toArray⟩] B w W0 := by rw [hW0, hBB]; exact sHop_mk hB0 O0
 rw [← hW0]
 rw [← hBB]
 clear hW0 hBB hB0 O0
 have hS1 := sHop_drew hS0
 go_region_held3 (fun W => Below w.heap.size w W ∧ Hid (Obj? W B #[.int .i64 rad, .string ⟨node.toArray⟩] 155) ∧ (∀ j, W.cell? ⟨B, j, none⟩ = (#[.int .i64 rad, .string ⟨node.toArray⟩] : Array Value)[j]?))
  ((first | assumption | exact sHop_drew2 (by assumption) (by assumption) | exact sHop_drew (by assumption)))
  ((go_split_ands; first
    | (go_at_call 235; ((with_reducible refine (HP1.out _).mono ?_); (rintro e w' ⟨rfl, hb⟩; have hS := sHop_step hb (by assumption) (by assumption))))
    | (go_at_call 235; ((with_reducible refine (HP2.out _).mono ?_); (rintro e w' ⟨rfl, hb⟩; have hS := sHop_step hb (by assumption) (by assumption))))
    | (go_at_call 235; ((with_reducible refine (HP3.out _).mono ?_); (rintro e w' ⟨rfl, hb⟩; have hS := sHop_step hb (by assumption) (by assumption))))))
 go_wp2_with fail
 all_goals go_ret
 all_goals exact ⟨rfl, by first | assumption | exact (show SHop #[.int .i64 rad, .string ⟨node.toArray⟩] B w _ by assumption).1⟩
end Go.Proofs.YtanofjmkkhocaaaGreatDoor
namespace Go.Proofs.YtanofjmkkhocaaaGreatDoor
open Go.RowKit
attribute [local go_sem ↓] load_Msg store_Msg
attribute [local irreducible] rowSem rowStore
def dgCs (v : Value) (m : Ms) : Array Value := #[v, .int .i64 m.ty, .bool m.fl.dup, .int .i64 m.fl.q, .bool m.fl.retain, .bool m.fl.will, .bool m.fl.clean, .int .i64 m.fl.typ, .int .i64 m.gw, .int .i64 m.rad, .int .i64 m.time, .bool m.timed, .int .i64 m.tid, .int .i64 m.mid, .int .i64 m.code, .string ⟨m.name.toArray⟩, .string ⟨m.data.toArray⟩]
theorem dgCs_mid (v : Value) (m : Ms) : dgCs v m = #[v] ++ m.cs ++ #[] := by unfold dgCs Ms.cs; rfl
theorem load_dgmsg {w : World} {b : Nat} {v : Value} {m : Ms} (h : Obj? w b (dgCs v m) 119) : (rowSem 38 ⟨b, 1, none⟩).run Tryz.prog w = .ok (.agg m.cs) w := by
 rw [dgCs_mid] at h
 refine rowSem_mid w b 1 38 m.cs _ (fun j v hv => ?_) Tryz.underlying38 rfl (by rw [infoMs]; rfl)
 exact Obj?.mid h j v hv
theorem hopsL_take_len {hs : List Hp} (h : hs.all hopOk = true) : (hopsL hs).length ≤ 35 * hs.length := by
 induction hs with
 | nil => simp [hopsL]
 | cons x r ih =>
  simp only [List.all_cons, Bool.and_eq_true] at h
  have h1 := ih h.2
  have h2 := hopL_len h.1
  have h3 := h.1
  simp only [hopOk, decide_eq_true_eq] at h3
  rw [hopsL_cons, List.length_append, List.length_cons]
  omega
theorem hopsL_snoc (hs : List Hp) (k : Nat) (hk : k < hs.length) : hopsL (hs.take (k + 1)) = hopsL (hs.take k) ++ hopL hs[k] := by
 rw [List.take_succ_eq_append_getElem hk]
 unfold hopsL
 rw [List.flatMap_append, List.flatMap_cons, List.flatMap_nil, List.append_nil]
theorem wrapbytes_lim {v : Value} {hs : List Hp} {m : Ms} {mp md : Int} {w : World} (hH : HopsAt w v hs) (hn : (m.name.length : Int) ≤ 100000) (hd : (m.data.length : Int) ≤ 100000) (hmx : Mx w) (h1 : limOk mp md = false) :
  Calls Tryz.prog 398 #[.agg (dgCs v m), .agg #[.int .i64 mp, .int .i64 md]] w fun e w' => e = .returned (.tuple #[.string ⟨(wrapB hs m mp md).1.toArray⟩, .int .i64 (wrapB hs m mp md).2]) ∧ Below w.heap.size w w' := by
 have e : wrapB hs m mp md = ([], 2) := by unfold wrapB; rw [if_pos h1]
 rw [e]
 have OD := Obj?.new w (dgCs v m) 119
 have hB1 := below_al (Below.refl _ w) (.cells (dgCs v m) 119 (0, 0))
 have OL := Obj?.new (w.alloc (.cells (dgCs v m) 119 (0, 0))) #[.int .i64 mp, .int .i64 md] 53
 rw [World.size_alloc] at OL
 have OD1 := OD.alloc (.cells #[.int .i64 mp, .int .i64 md] 53 (0, 0))
 have hB2 := below_al hB1 (.cells #[.int .i64 mp, .int .i64 md] 53 (0, 0))
 have HD0 := Lib.hid OD1
 have HL0 := Lib.hid OL
 have HB0 := Lib.hid hB2
 have HHW := Lib.hid hH
 have HMW := Lib.hid hmx
 have HR := Lib.hid (fun w => right_any mp md w)
 have HBy := Lib.hid (fun w hm => msbytes_any m hn hd w hm)
 clear OD OL hB1 OD1 hB2 hmx hn hd
 rw [h1] at HR
 clear e h1
 unfold dgCs at HD0 HL0 HB0 ⊢
 obtain ⟨a0, cap, rfl, -, hlm, -⟩ := hH
 go_enter Tryz.func398, Tryz.ntmps398
 refine wp_hideM fun Q1 hQ1 => ?_
 have HQ1 := Lib.hid hQ1
 clear hQ1
 go_wp2_with fail
 refine (HR.out _).mono ?_
 rintro r w1 ⟨rfl, hb⟩
 have HB1 := Lib.hid (HB0.out.trans (hb.mono HB0.out.size))
 have HD1 := Lib.hid (HD0.out.below hb HD0.out.lt)
 have HL1 := Lib.hid (HL0.out.below hb HL0.out.lt)
 have kd := HD1.out.cells
 clear hb
 go_wp2
 refine HQ1.out _ _ _ ?_
 go_ret2
 exact ⟨rfl, HB1.out⟩
theorem wrapbytes_full {v : Value} {hs : List Hp} {m : Ms} {mp md : Int} {w : World} (hH : HopsAt w v hs) (hn : (m.name.length : Int) ≤ 100000) (hd : (m.data.length : Int) ≤ 100000) (hmx : Mx w) (h1 : limOk mp md = true) (h2 : 4 < hs.length) :
  Calls Tryz.prog 398 #[.agg (dgCs v m), .agg #[.int .i64 mp, .int .i64 md]] w fun e w' => e = .returned (.tuple #[.string ⟨(wrapB hs m mp md).1.toArray⟩, .int .i64 (wrapB hs m mp md).2]) ∧ Below w.heap.size w w' := by
 have e : wrapB hs m mp md = ([], 12) := by unfold wrapB; rw [if_neg (by simp [h1]), if_pos h2]
 have d1 : (4 : Int) < hs.length := by omega
 rw [e]
 have OD := Obj?.new w (dgCs v m) 119
 have hB1 := below_al (Below.refl _ w) (.cells (dgCs v m) 119 (0, 0))
 have OL := Obj?.new (w.alloc (.cells (dgCs v m) 119 (0, 0))) #[.int .i64 mp, .int .i64 md] 53
 rw [World.size_alloc] at OL
 have OD1 := OD.alloc (.cells #[.int .i64 mp, .int .i64 md] 53 (0, 0))
 have hB2 := below_al hB1 (.cells #[.int .i64 mp, .int .i64 md] 53 (0, 0))
 have HD0 := Lib.hid OD1
 have HL0 := Lib.hid OL
 have HB0 := Lib.hid hB2
 have HHW := Lib.hid hH
 have HMW := Lib.hid hmx
 have HR := Lib.hid (fun w => right_any mp md w)
 have HBy := Lib.hid (fun w hm => msbytes_any m hn hd w hm)
 clear OD OL hB1 OD1 hB2 hmx hn hd
 rw [h1] at HR
 clear e h1
 unfold dgCs at HD0 HL0 HB0 ⊢
 obtain ⟨a0, cap, rfl, -, hlm, -⟩ := hH
 go_enter Tryz.func398, Tryz.ntmps398
 refine wp_hideM fun Q1 hQ1 => ?_
 have HQ1 := Lib.hid hQ1
 clear hQ1
 go_wp2_with fail
 refine (HR.out _).mono ?_
 rintro r w1 ⟨rfl, hb⟩
 have HB1 := Lib.hid (HB0.out.trans (hb.mono HB0.out.size))
 have HD1 := Lib.hid (HD0.out.below hb HD0.out.lt)
 have HL1 := Lib.hid (HL0.out.below hb HL0.out.lt)
 have kd := HD1.out.cells
 clear hb
 go_wp2
 refine HQ1.out _ _ _ ?_
 go_ret2
 exact ⟨rfl, HB1.out⟩
theorem wrapbytes_hop {v : Value} {hs : List Hp} {m : Ms} {mp md : Int} {w : World} (hH : HopsAt w v hs) (hn : (m.name.length : Int) ≤ 100000) (hd : (m.data.length : Int) ≤ 100000) (hmx : Mx w) (h1 : limOk mp md = true) (h2 : hs.length ≤ 4) (h3 : hs.all hopOk = false) :
  Calls Tryz.prog 398 #[.agg (dgCs v m), .agg #[.int .i64 mp, .int .i64 md]] w fun e w' => e = .returned (.tuple #[.string ⟨(wrapB hs m mp md).1.toArray⟩, .int .i64 (wrapB hs m mp md).2]) ∧ Below w.heap.size w w' := by
 have e : wrapB hs m mp md = ([], 2) := by unfold wrapB; rw [if_neg (by simp [h1]), if_neg (by omega), if_pos h3]
 have d1 : (hs.length : Int) ≤ 4 := by omega
 rw [e]
 have OD := Obj?.new w (dgCs v m) 119
 have hB1 := below_al (Below.refl _ w) (.cells (dgCs v m) 119 (0, 0))
 have OL := Obj?.new (w.alloc (.cells (dgCs v m) 119 (0, 0))) #[.int .i64 mp, .int .i64 md] 53
 rw [World.size_alloc] at OL
 have OD1 := OD.alloc (.cells #[.int .i64 mp, .int .i64 md] 53 (0, 0))
 have hB2 := below_al hB1 (.cells #[.int .i64 mp, .int .i64 md] 53 (0, 0))
 have HD0 := Lib.hid OD1
 have HL0 := Lib.hid OL
 have HB0 := Lib.hid hB2
 have HHW := Lib.hid hH
 have HMW := Lib.hid hmx
 have HR := Lib.hid (fun w => right_any mp md w)
 have HBy := Lib.hid (fun w hm => msbytes_any m hn hd w hm)
 clear OD OL hB1 OD1 hB2 hmx hn hd
 have HA := Lib.hid h3
 rw [h1] at HR
 clear e h1 h3
 unfold dgCs at HD0 HL0 HB0 ⊢
 obtain ⟨a0, cap, rfl, -, hlm, -⟩ := hH
 go_enter Tryz.func398, Tryz.ntmps398
 refine wp_hideM fun Q1 hQ1 => ?_
 have HQ1 := Lib.hid hQ1
 clear hQ1
 go_wp2_with fail
 refine (HR.out _).mono ?_
 rintro r w1 ⟨rfl, hb⟩
 have HB1 := Lib.hid (HB0.out.trans (hb.mono HB0.out.size))
 have HD1 := Lib.hid (HD0.out.below hb HD0.out.lt)
 have HL1 := Lib.hid (HL0.out.below hb HL0.out.lt)
 have kd := HD1.out.cells
 clear hb
 go_wp2_with fail
 refine (containshop_any (HHW.out.below HB1.out)).mono ?_
 rintro r w2 ⟨rfl, hb⟩
 have HB2 := Lib.hid (HB1.out.trans (hb.mono HB1.out.size))
 have HD2 := Lib.hid (HD1.out.below hb HD1.out.lt)
 have HL2 := Lib.hid (HL1.out.below hb HL1.out.lt)
 clear kd hb
 rw [HA.out]
 go_wp2
 refine HQ1.out _ _ _ ?_
 go_ret2
 exact ⟨rfl, HB2.out⟩
theorem wrapbytes_msg {v : Value} {hs : List Hp} {m : Ms} {mp md : Int} {w : World} (hH : HopsAt w v hs) (hn : (m.name.length : Int) ≤ 100000) (hd : (m.data.length : Int) ≤ 100000) (hmx : Mx w) (h1 : limOk mp md = true) (h2 : hs.length ≤ 4) (h3 : hs.all hopOk = true) (h4 : (bytesM m).2 ≠ 0) :
  Calls Tryz.prog 398 #[.agg (dgCs v m), .agg #[.int .i64 mp, .int .i64 md]] w fun e w' => e = .returned (.tuple #[.string ⟨(wrapB hs m mp md).1.toArray⟩, .int .i64 (wrapB hs m mp md).2]) ∧ Below w.heap.size w w' := by
 have e : wrapB hs m mp md = ([], (bytesM m).2) := by unfold wrapB; rw [if_neg (by simp [h1]), if_neg (by omega), if_neg (by simp [h3]), if_pos h4]
 have d1 : (hs.length : Int) ≤ 4 := by omega
 rw [e]
 have OD := Obj?.new w (dgCs v m) 119
 have hB1 := below_al (Below.refl _ w) (.cells (dgCs v m) 119 (0, 0))
 have OL := Obj?.new (w.alloc (.cells (dgCs v m) 119 (0, 0))) #[.int .i64 mp, .int .i64 md] 53
 rw [World.size_alloc] at OL
 have OD1 := OD.alloc (.cells #[.int .i64 mp, .int .i64 md] 53 (0, 0))
 have hB2 := below_al hB1 (.cells #[.int .i64 mp, .int .i64 md] 53 (0, 0))
 have HD0 := Lib.hid OD1
 have HL0 := Lib.hid OL
 have HB0 := Lib.hid hB2
 have HHW := Lib.hid hH
 have HMW := Lib.hid hmx
 have HR := Lib.hid (fun w => right_any mp md w)
 have HBy := Lib.hid (fun w hm => msbytes_any m hn hd w hm)
 clear OD OL hB1 OD1 hB2 hmx hn hd
 have HA := Lib.hid h3
 obtain ⟨y, hy⟩ : ∃ y, y = (bytesM m).2 := ⟨_, rfl⟩
 rw [← hy] at HBy h4 ⊢
 have d2 : (y != 0) = true := by simpa using h4
 rw [h1] at HR
 clear e h1 h3 hy
 unfold dgCs at HD0 HL0 HB0 ⊢
 obtain ⟨a0, cap, rfl, -, hlm, -⟩ := hH
 go_enter Tryz.func398, Tryz.ntmps398
 refine wp_hideM fun Q1 hQ1 => ?_
 have HQ1 := Lib.hid hQ1
 clear hQ1
 go_wp2_with fail
 refine (HR.out _).mono ?_
 rintro r w1 ⟨rfl, hb⟩
 have HB1 := Lib.hid (HB0.out.trans (hb.mono HB0.out.size))
 have HD1 := Lib.hid (HD0.out.below hb HD0.out.lt)
 have HL1 := Lib.hid (HL0.out.below hb HL0.out.lt)
 have kd := HD1.out.cells
 clear hb
 go_wp2_with fail
 refine (containshop_any (HHW.out.below HB1.out)).mono ?_
 rintro r w2 ⟨rfl, hb⟩
 have HB2 := Lib.hid (HB1.out.trans (hb.mono HB1.out.size))
 have HD2 := Lib.hid (HD1.out.below hb HD1.out.lt)
 have HL2 := Lib.hid (HL1.out.below hb HL1.out.lt)
 clear kd hb
 rw [HA.out]
 have hld := load_dgmsg (v := .slice a0 hs.length cap) (m := m) HD2.out
 go_wp2_with fail
 refine (HBy.out _ (HMW.out.below HB2.out HMW.out.1)).mono ?_
 rintro r w3 ⟨rfl, hb⟩
 have HB3 := Lib.hid (HB2.out.trans (hb.mono HB2.out.size))
 have HD3 := Lib.hid (HD2.out.below hb HD2.out.lt)
 have HL3 := Lib.hid (HL2.out.below hb HL2.out.lt)
 clear hld hb
 go_wp2
 refine HQ1.out _ _ _ ?_
 go_ret2
 exact ⟨rfl, HB3.out⟩
theorem wrapbytes_go {v : Value} {hs : List Hp} {m : Ms} {mp md : Int} {w : World} (hH : HopsAt w v hs) (hn : (m.name.length : Int) ≤ 100000) (hd : (m.data.length : Int) ≤ 100000) (hmx : Mx w) (h1 : limOk mp md = true) (h2 : hs.length ≤ 4) (h3 : hs.all hopOk = true) (h4 : (bytesM m).2 = 0) :
  Calls Tryz.prog 398 #[.agg (dgCs v m), .agg #[.int .i64 mp, .int .i64 md]] w fun e w' => e = .returned (.tuple #[.string ⟨(wrapB hs m mp md).1.toArray⟩, .int .i64 (wrapB hs m mp md).2]) ∧ Below w.heap.size w w' := by
 have d1 : (hs.length : Int) ≤ 4 := by omega
 have OD := Obj?.new w (dgCs v m) 119
 have hB1 := below_al (Below.refl _ w) (.cells (dgCs v m) 119 (0, 0))
 have OL := Obj?.new (w.alloc (.cells (dgCs v m) 119 (0, 0))) #[.int .i64 mp, .int .i64 md] 53
 rw [World.size_alloc] at OL
 have OD1 := OD.alloc (.cells #[.int .i64 mp, .int .i64 md] 53 (0, 0))
 have hB2 := below_al hB1 (.cells #[.int .i64 mp, .int .i64 md] 53 (0, 0))
 have HD0 := Lib.hid OD1
 have HL0 := Lib.hid OL
 have HB0 := Lib.hid hB2
 have HHW := Lib.hid hH
 have HMW := Lib.hid hmx
 have HR := Lib.hid (fun w => right_any mp md w)
 have HBy := Lib.hid (fun w hm => msbytes_any m hn hd w hm)
 clear OD OL hB1 OD1 hB2 hmx hn hd
 have HA := Lib.hid h3
 have hBl := bytesM_len m
 have hHl := hopsL_take_len h3
 obtain ⟨B, hB⟩ : ∃ B, B = (bytesM m).1 := ⟨_, rfl⟩
 obtain ⟨H, hH'⟩ : ∃ H, H = hopsL hs := ⟨_, rfl⟩
 have e : wrapB hs m mp md = if mp < ((H ++ B).length : Int) then ([], 4) else (H ++ B, 0) := by unfold wrapB; rw [if_neg (by simp [h1]), if_neg (by omega), if_neg (by simp [h3]), if_neg (by simp [h4]), hB, hH']
 have hbe : bytesM m = (B, 0) := by rw [hB, ← h4]
 rw [hbe] at HBy
 rw [← hB] at hBl
 rw [← hH'] at hHl
 have HE := Lib.hid e
 have HHE := Lib.hid hH'
 rw [h1] at HR
 have HMP := Lib.hid (show 16 ≤ mp ∧ mp ≤ 1048576 by simp only [limOk, decide_eq_true_eq] at h1; omega)
 have HOK := Lib.hid (fun (k : Nat) (hk : k < hs.length) => (show hopOk hs[k] = true from List.all_eq_true.1 h3 _ (List.getElem_mem hk)))
 have HTK := Lib.hid (fun (k : Nat) (hk : k ≤ hs.length) => (show (hopsL (hs.take k)).length ≤ 140 by
  have := hopsL_take_len (hs := hs.take k) (List.all_eq_true.2 fun x hx => List.all_eq_true.1 h3 x (List.mem_of_mem_take hx))
  rw [List.length_take] at this; omega))
 clear h1 h3 h4 e hH' hbe hB
 unfold dgCs at HD0 HL0 HB0 ⊢
 obtain ⟨a0, cap, rfl, -, hlm, -⟩ := hH
 go_enter Tryz.func398, Tryz.ntmps398
 refine wp_hideM fun Q1 hQ1 => ?_
 have HQ1 := Lib.hid hQ1
 clear hQ1
 go_wp2_with fail
 refine (HR.out _).mono ?_
 rintro r w1 ⟨rfl, hb⟩
 have HB1 := Lib.hid (HB0.out.trans (hb.mono HB0.out.size))
 have HD1 := Lib.hid (HD0.out.below hb HD0.out.lt)
 have HL1 := Lib.hid (HL0.out.below hb HL0.out.lt)
 have kd := HD1.out.cells
 clear hb
 go_wp2_with fail
 refine (containshop_any (HHW.out.below HB1.out)).mono ?_
 rintro r w2 ⟨rfl, hb⟩
 have HB2 := Lib.hid (HB1.out.trans (hb.mono HB1.out.size))
 have HD2 := Lib.hid (HD1.out.below hb HD1.out.lt)
 have HL2 := Lib.hid (HL1.out.below hb HL1.out.lt)
 clear kd hb
 rw [HA.out]
 have hld := load_dgmsg (v := .slice a0 hs.length cap) (m := m) HD2.out
 go_wp2_with fail
 refine (HBy.out _ (HMW.out.below HB2.out HMW.out.1)).mono ?_
 rintro r w3 ⟨rfl, hb⟩
 have HB3 := Lib.hid (HB2.out.trans (hb.mono HB2.out.size))
 have HD3 := Lib.hid (HD2.out.below hb HD2.out.lt)
 have HL3 := Lib.hid (HL2.out.below hb HL2.out.lt)
 clear hld hb
 obtain ⟨n, hN⟩ : ∃ n, n = hs.length := ⟨_, rfl⟩
 have HN := Lib.hid hN
 have hn4 : n ≤ 4 := by omega
 have kd : ∀ j, w3.cell? ⟨w.heap.size, j, none⟩ = _ := HD3.out.cells
 rw [← hN] at kd ⊢
 have hlm' : (n : Int) ≤ 9223372036854775807 := by omega
 clear hN hlm d1 h2 hHl
 go_wp2
 clear kd
 go_loopg [8, 33] (n + 1) (fun g s i wr => ∃ k : Nat, g + k = n + 1 ∧ k ≤ n ∧ i = .int .i64 k ∧ s = .string ⟨(hopsL (hs.take k)).toArray⟩ ∧ Hid (Below w.heap.size w wr ∧ Obj? wr (w.heap.size + 1) #[.int .i64 mp, .int .i64 md] 53))
 case atStart => exact ⟨0, by omega, by omega, rfl, rfl, Lib.hid ⟨HB3.out, HL3.out⟩⟩
 case round =>
  obtain ⟨k, hgk, hkn, rfl, rfl, HI⟩ := hrel
  have HGK := Lib.hid (And.intro hgk hkn)
  clear hgk
  by_cases hlt : k < n
  ·have hk' : k < hs.length := by rw [← HN.out]; exact hlt
   obtain ⟨a', cap', e1, -, -, hc⟩ := HHW.out
   obtain ⟨rfl, rfl⟩ : a' = a0 ∧ cap' = cap := by cases e1; exact ⟨rfl, rfl⟩
   obtain ⟨b, off, rfl, hlb, hc⟩ := hc.resolve_left (fun e => by rw [e] at hk'; cases hk')
   obtain ⟨c0, c1⟩ := hc k hk'
   have k0 := (HI.out.1.cell (p := ⟨b, off + k * 2, none⟩) hlb).trans c0
   have k1 := (HI.out.1.cell (p := ⟨b, off + k * 2 + 1, none⟩) hlb).trans c1
   clear hc c0 c1 e1
   have HW := Lib.hid (fun w => hopbytes_any hs[k] (HOK.out k hk') w)
   obtain ⟨S, hS⟩ : ∃ S, S = hopsL (hs.take k) := ⟨_, rfl⟩
   obtain ⟨T, hT⟩ : ∃ T, T = hopL hs[k] := ⟨_, rfl⟩
   have hST : hopsL (hs.take (k + 1)) = S ++ T := by rw [hS, hT]; exact hopsL_snoc hs k hk'
   have lS : S.length ≤ 140 := by rw [hS]; exact HTK.out k (by omega)
   have lST := HTK.out (k + 1) (by omega)
   rw [hST, List.length_append] at lST
   have HST := Lib.hid hST
   rw [← hT] at HW
   rw [← hS]
   obtain ⟨rad, hrad⟩ : ∃ rad, rad = hs[k].rad := ⟨_, rfl⟩
   obtain ⟨node, hnode⟩ : ∃ node, node = hs[k].node := ⟨_, rfl⟩
   rw [← hrad] at k0 HW
   rw [← hnode] at k1 HW
   clear hrad hnode hS hT hST hk'
   have hx : ByteArray.mk S.toArray ++ ByteArray.mk T.toArray = ByteArray.mk (S ++ T).toArray := ByteArray.mk_append_mk _ _
   have y1 : ¬ (9223372036854775807 : Nat) < S.length + T.length := by omega
   have d3 : decide ((k : Int) < n) = true := decide_eq_true (by omega)
   have hki : (k : Int) < n := by omega
   have HBn := Lib.hid (below_al HI.out.1 (.cells #[.int .i64 rad, .string ⟨node.toArray⟩] 155 (0, 0)))
   have HLn := Lib.hid (HI.out.2.alloc (.cells #[.int .i64 rad, .string ⟨node.toArray⟩] 155 (0, 0)))
   clear lS lST hlt
   go_wp2_with fail
   refine (HW.out _).mono ?_
   rintro r w4 ⟨rfl, hb⟩
   have HBm := Lib.hid (HBn.out.trans (hb.mono HBn.out.size))
   have HLm := Lib.hid (HLn.out.below hb HLn.out.lt)
   clear hb
   go_wp2
   go_roundg (gk - 1)
   case measure => have := HGK.out; omega
   case rel => exact ⟨k + 1, by have := HGK.out; omega, by omega, by go_num, by rw [HST.out], Lib.hid ⟨HBm.out, HLm.out⟩⟩
  ·obtain rfl : k = n := by omega
   have hT : hopsL (hs.take k) = H := by rw [HN.out, List.take_length]; exact HHE.out.symm
   rw [hT]
   have hHl : H.length ≤ 140 := by rw [← hT]; exact HTK.out k (by have := HN.out; omega)
   have kl := HI.out.2.cells
   have hs1 : IntKind.i64.wrap ((H.length : Int) + (B.length : Int)) = (H.length : Int) + (B.length : Int) := by rw [IntKind.wrap_i64]; omega
   have hx : ByteArray.mk H.toArray ++ ByteArray.mk B.toArray = ByteArray.mk (H ++ B).toArray := ByteArray.mk_append_mk _ _
   have y1 : ¬ (9223372036854775807 : Nat) < H.length + B.length := by omega
   have HX := Lib.hid hx
   clear hT hs1 hx
   by_cases h6 : mp < (H.length : Int) + (B.length : Int)
   ·have e : wrapB hs m mp md = ([], 4) := by rw [HE.out, if_pos (by rw [List.length_append]; omega)]
    have HR4 := Lib.hid e
    clear e
    go_wp2
    refine HQ1.out _ _ _ ?_
    rw [HR4.out]
    go_ret2
    exact ⟨rfl, HI.out.1⟩
   ·have e : wrapB hs m mp md = (H ++ B, 0) := by rw [HE.out, if_neg (by rw [List.length_append]; omega)]
    have HR4 := Lib.hid e
    have hx := HX.out
    clear e
    go_wp2
    refine HQ1.out _ _ _ ?_
    rw [HR4.out]
    go_ret2
    exact ⟨rfl, HI.out.1⟩
theorem wrapbytes_any {v : Value} {hs : List Hp} {m : Ms} {mp md : Int} {w : World} (hH : HopsAt w v hs) (hn : (m.name.length : Int) ≤ 100000) (hd : (m.data.length : Int) ≤ 100000) (hmx : Mx w) :
  Calls Tryz.prog 398 #[.agg (dgCs v m), .agg #[.int .i64 mp, .int .i64 md]] w fun e w' => e = .returned (.tuple #[.string ⟨(wrapB hs m mp md).1.toArray⟩, .int .i64 (wrapB hs m mp md).2]) ∧ Below w.heap.size w w' := by
 cases h1 : limOk mp md with
 | false => exact wrapbytes_lim hH hn hd hmx h1
 | true =>
  by_cases h2 : 4 < hs.length
  ·exact wrapbytes_full hH hn hd hmx h1 h2
  cases h3 : hs.all hopOk with
  | false => exact wrapbytes_hop hH hn hd hmx h1 (by omega) h3
  | true =>
   by_cases h4 : (bytesM m).2 = 0
   ·exact wrapbytes_go hH hn hd hmx h1 (by omega) h3 h4
   ·exact wrapbytes_msg hH hn hd hmx h1 (by omega) h3 h4
end Go.Proofs.YtanofjmkkhocaaaGreatDoor
namespace Go.Proofs.YtanofjmkkhocaaaGreatDoor
open Go.RowKit
theorem load_Dg (a : Addr) : loadVar 119 a = rowSem 119 a := rfl
theorem store_Dg (a : Addr) (v : Value) : storeVar 119 a v = rowStore 119 a v := rfl
attribute [local go_sem ↓] load_Msg store_Msg load_Dg store_Dg
attribute [local irreducible] rowSem rowStore
theorem infoDg : (Tryz.prog.info? 119).map (·.size) = some 17 := by kernel_rfl
theorem load_dg {w : World} {b : Nat} {v : Value} {m : Ms} (h : Obj? w b (dgCs v m) 119) : (rowSem 119 ⟨b, 0, none⟩).run Tryz.prog w = .ok (.agg (dgCs v m)) w :=
 rowSem_run w b 119 119 _ _ h Tryz.underlying119 rfl infoDg
theorem wrapcheck_any {v : Value} {hs : List Hp} {m : Ms} {mp md : Int} {w : World} (hH : HopsAt w v hs) (hn : (m.name.length : Int) ≤ 100000) (hd : (m.data.length : Int) ≤ 100000) (hmx : Mx w) :
  Calls Tryz.prog 396 #[.agg (dgCs v m), .agg #[.int .i64 mp, .int .i64 md]] w fun e w' => e = .returned (.int .i64 (wrapB hs m mp md).2) ∧ Below w.heap.size w w' := by
 have OD := Obj?.new w (dgCs v m) 119
 have hB1 := below_al (Below.refl _ w) (.cells (dgCs v m) 119 (0, 0))
 have OD1 := OD.alloc (.cells #[.int .i64 mp, .int .i64 md] 53 (0, 0))
 have hB2 := below_al hB1 (.cells #[.int .i64 mp, .int .i64 md] 53 (0, 0))
 have hld := load_dg OD1
 have HW := Lib.hid (wrapbytes_any (mp := mp) (md := md) (hH.below hB2) hn hd (hmx.below hB2 hmx.1))
 have HB := Lib.hid hB2
 obtain ⟨B, hB⟩ : ∃ B, B = (wrapB hs m mp md).1 := ⟨_, rfl⟩
 obtain ⟨y, hy⟩ : ∃ y, y = (wrapB hs m mp md).2 := ⟨_, rfl⟩
 rw [← hB, ← hy] at HW
 rw [← hy]
 clear hB hy hB2 hB1 OD1 OD hH hmx hn hd
 unfold dgCs at hld HW HB ⊢
 go_enter Tryz.func396, Tryz.ntmps396
 go_wp2_with fail
 refine HW.out.mono ?_
 rintro r w1 ⟨rfl, hb⟩
 have HB1 := Lib.hid (HB.out.trans (hb.mono HB.out.size))
 clear hb hld
 go_wp2
 go_ret
 exact ⟨rfl, HB1.out⟩
theorem hop_ext {a b : Hp} : a = b ↔ a.rad = b.rad ∧ a.node = b.node := by
 cases a; cases b; simp
theorem hopat_cell {w : World} {a : Option Addr} {cap n : Nat} {hs : List Hp} (h : HopsAt w (.slice a n cap) hs) (k : Nat) (hk : k < hs.length) :
  ∃ b off, a = some ⟨b, off, none⟩ ∧ b < w.heap.size ∧ w.cell? ⟨b, off + k * 2, none⟩ = some (.int .i64 hs[k].rad) ∧ w.cell? ⟨b, off + k * 2 + 1, none⟩ = some (.string ⟨hs[k].node.toArray⟩) := by
 obtain ⟨a', cap', e1, -, -, hc⟩ := h
 obtain ⟨b, off, rfl, hlb, hc⟩ := hc.resolve_left (fun e => by rw [e] at hk; cases hk)
 cases e1
 exact ⟨b, off, rfl, hlb, hc k hk⟩
end Go.Proofs.YtanofjmkkhocaaaGreatDoor
namespace Go.Proofs.YtanofjmkkhocaaaGreatDoor
open Go.RowKit
attribute [local go_sem ↓] load_Msg store_Msg load_Dg store_Dg
attribute [local irreducible] rowSem rowStore
def lightH (hs : List Hp) : Bool := hs.all fun h => decide (h.node.length ≤ 300)
def lightD (hs : List Hp) (m : Ms) : Bool := decide (hs.length ≤ 8) && lightM m && lightH hs
theorem lightdg_any {v : Value} {hs : List Hp} {m : Ms} {w : World} (hH : HopsAt w v hs) :
  Calls Tryz.prog 35 #[.agg (dgCs v m)] w fun e w' => e = .returned (.bool (lightD hs m)) ∧ Below w.heap.size w w' := by
 have OD := Obj?.new w (dgCs v m) 119
 have hB1 := below_al (Below.refl _ w) (.cells (dgCs v m) 119 (0, 0))
 have hld := load_dgmsg OD
 have HL := Lib.hid (fun w => lightmsg_any m w)
 have HB := Lib.hid hB1
 have HO := Lib.hid OD
 have HH := Lib.hid hH
 obtain ⟨a, cap, rfl, -, hl, -⟩ := hH
 obtain ⟨n, hN⟩ : ∃ n, n = hs.length := ⟨_, rfl⟩
 rw [← hN] at hl HH HO HB hld ⊢
 by_cases h8 : 8 < n
 ·have e : lightD hs m = false := by unfold lightD; rw [decide_eq_false (by omega)]; rfl
  have d1 : (8 : Int) < n := by omega
  rw [e]
  clear e h8 hN OD hB1
  unfold dgCs at hld HB ⊢
  go_enter Tryz.func35, Tryz.ntmps35
  go_wp2
  go_ret
  exact ⟨rfl, HB.out⟩
 have d1 : (n : Int) ≤ 8 := by omega
 cases hlm : lightM m with
 | false =>
  have e : lightD hs m = false := by unfold lightD; rw [hlm, Bool.and_false]; rfl
  rw [e]
  rw [hlm] at HL
  clear e h8 hN OD hB1 hlm
  unfold dgCs at hld HB ⊢
  go_enter Tryz.func35, Tryz.ntmps35
  go_wp2_with fail
  refine (HL.out _).mono ?_
  rintro r w1 ⟨rfl, hb⟩
  have HB1 := Lib.hid (HB.out.trans (hb.mono HB.out.size))
  clear hb hld
  go_wp2
  go_ret
  exact ⟨rfl, HB1.out⟩
 | true =>
  have e : lightD hs m = lightH hs := by unfold lightD; rw [hlm, decide_eq_true (by omega)]; rfl
  rw [e]
  rw [hlm] at HL
  have HN := Lib.hid hN
  clear e h8 hN OD hB1 hlm
  unfold dgCs at hld HB HO ⊢
  go_enter Tryz.func35, Tryz.ntmps35
  go_wp2_with fail
  refine (HL.out _).mono ?_
  rintro r w1 ⟨rfl, hb⟩
  have HB1 := Lib.hid (HB.out.trans (hb.mono HB.out.size))
  have HO1 := Lib.hid (HO.out.below hb HO.out.lt)
  clear hb hld
  go_wp2
  go_loopg [3] (n + 1) (fun g i wr => ∃ k : Nat, g + k = n + 1 ∧ k ≤ n ∧ i = .int .i64 k ∧ Hid (lightH (hs.take k) = true ∧ wr = w1))
  case atStart => exact ⟨0, by omega, by omega, rfl, Lib.hid ⟨rfl, rfl⟩⟩
  case round =>
   obtain ⟨k, hgk, hkn, rfl, HI⟩ := hrel
   have HGK := Lib.hid (And.intro hgk hkn)
   clear hgk
   obtain ⟨HT, hw⟩ := HI.out
   subst hw
   have HTT := Lib.hid HT
   clear HT
   have kd := HO1.out.cells
   by_cases hlt : k < n
   ·have hk : k < hs.length := by rw [← HN.out]; exact hlt
    obtain ⟨b, off, rfl, lb, c0, c1⟩ := hopat_cell HH.out k hk
    have k1 := (HB1.out.cell (p := ⟨b, off + k * 2 + 1, none⟩) lb).trans c1
    clear c0 c1
    have htk : lightH (hs.take (k + 1)) = (lightH (hs.take k) && decide (hs[k].node.length ≤ 300)) := by unfold lightH; rw [List.take_succ_eq_append_getElem hk, List.all_append]; simp
    have hno : ¬ hs[k].node.length ≤ 300 → lightH hs = false := fun h => by
     unfold lightH
     rw [List.all_eq_false]
     exact ⟨hs[k], List.getElem_mem hk, by simpa using h⟩
    obtain ⟨t1, ht1⟩ : ∃ r, r = hs[k].node := ⟨_, rfl⟩
    rw [← ht1] at k1 htk hno
    clear ht1 hk
    have d3 : decide ((k : Int) < n) = true := decide_eq_true (by omega)
    have hki : (k : Int) < n := by omega
    by_cases h3 : t1.length ≤ 300
    ·have h3i : (t1.length : Int) ≤ 300 := by omega
     have HS := Lib.hid (show lightH (hs.take (k + 1)) = true by rw [htk, HTT.out, decide_eq_true h3]; rfl)
     clear htk hno hlt h3
     go_wp2
     go_roundg (gk - 1)
     case measure => have := HGK.out; omega
     case rel => exact ⟨k + 1, by have := HGK.out; omega, by omega, by go_num, Lib.hid ⟨HS.out, rfl⟩⟩
    ·have h3i : (300 : Int) < t1.length := by omega
     have HS := Lib.hid (hno h3)
     clear htk hno hlt h3
     go_wp2
     rw [HS.out]
     go_ret
     exact ⟨rfl, HB1.out⟩
   ·obtain rfl : k = n := by omega
    have HS := Lib.hid (show lightH hs = true by have := HTT.out; rwa [HN.out, List.take_length] at this)
    go_wp2
    rw [HS.out]
    go_ret
    exact ⟨rfl, HB1.out⟩
end Go.Proofs.YtanofjmkkhocaaaGreatDoor
namespace Go.Proofs.YtanofjmkkhocaaaGreatDoor
open Go Go.RowKit
def AbidesAt {β : Type} (bx : Nat) (J : β → World → Prop) : Prop := ∀ s W W', J s W → W.grownBy W' (some bx) → J s W'
def SeqBoxed {α : Type} (F : Fence) (n : Nat) (P : Program) (g : Nat) (lb : Array Value) (encs : α → Array Value) (bx : Nat) (Kp : World → World → Prop) (S Sp : List α → World → Prop) (N : Nat) (w : World) : Prop :=
 ∀ (l : Nat) (J Jx : List α → World → Prop) (W : World), Below w.heap.size w W → AbidesAt bx J → AbidesAt bx Jx →
  (∀ pre x W1, J pre W1 → pre.length < N → YieldAt F (n - 1) P l (encs x) W1 fun e W' =>
   (e = .returned (.bool true) ∧ J (pre ++ [x]) W' ∧ Kp W1 W') ∨ (e = .returned (.bool false) ∧ Jx (pre ++ [x]) W')) →
  J [] W →
  CallsIn F n P g (#[.func (.yield l) #[] #[]] ++ lb) W fun e W' => (∃ v, e = .returned v) ∧ ((∃ xs, S xs W' ∧ J xs W') ∨ (∃ pre, Sp pre W' ∧ Jx pre W'))
variable {F : Fence} {n : Nat} {P : Program}
theorem wpIn_rangeFunc_boxed {α : Type} {g : Operand} {ps : Array Tmp} {assign body : Code} {Q : Exit → Act → World → Prop} {a : Act} {w : World}
  (hro : F.round = none) (h1 : 1 ≤ n) {gf : Nat} {lb : Array Value} (hg : a.eval g = .func (.func gf) #[] lb) (hFg : F.fn gf) (eg : ∀ args w, (callFunc gf args).run P w = .ok (.enter gf args) w)
  {encs : α → Array Value} {bx : Nat} {Kp : World → World → Prop} {S Sp : List α → World → Prop} {N : Nat} {w0 : World} (hseq : SeqBoxed F (n - 1) P gf lb encs bx Kp S Sp N w0) (hbx : bx < w.heap.size) (hS : ∀ xs W l o, w.heap.size ≤ l → S xs W → S xs (W.putObj l o)) (hSp : ∀ xs W l o, w.heap.size ≤ l → Sp xs W → Sp xs (W.putObj l o))
  (hKt : ∀ {A B C : World}, Kp A B → Kp B C → Kp A C) (hKb : ∀ (W : World) (l : Nat) (o o' : Obj), w.heap.size ≤ l → W.heap[l]? = some o → o.isCells = false → o.isWalk = false → Kp W (W.putObj l o')) (hb0 : Below w0.heap.size w0 w) (hps : ∀ x, (encs x).size = ps.size)
  (I : List α → World → Prop) (Ix : Code → List α → World → Prop) (hI : OwnFrom w.heap.size I) (hIx : ∀ c, OwnFrom w.heap.size (Ix c)) (hIb : AbidesAt bx I) (hIxb : ∀ c, AbidesAt bx (Ix c)) (h0 : I [] w) (Ax : α → Act → World → Prop) (hAx : ∀ x a', OwnFrom w.heap.size (fun (_ : Unit) W => Ax x a' W))
  (hassign : ∀ (l : Nat) (pre : List α) (x : α) (W : World) (K : Act → World → Prop), I pre W → (∀ a' W', KeepsFrom w.heap.size W W' → Kp W W' → I pre W' → Ax x a' W' → K a' W') →
   assign.wpIn (F.inRound l) (n - 1 - 1) P (Exit.then K (fun _ _ _ => False)) { tmps := (ps.zip (encs x)).foldl (fun t (p, v) => t.setIfInBounds p v) a.tmps, defers := [] } W)
  (hbody : ∀ (l : Nat) (pre : List α) (x : α) (a' : Act) (W : World), w.heap.size ≤ l → (∃ r, W.heap[l]? = some (.loop r)) → I pre W → Ax x a' W → pre.length < N → body.wpIn (F.inRound l) (n - 1 - 1) P (ownPostG w.heap.size Kp I Ix (pre ++ [x]) W) a' W)
  (hdone : ∀ (D : Nat) (xs : List α) (W : World), w.heap.size ≤ D → S xs W → I xs W → W.heap[D]? = some (.deferred (some [])) → Q .normal { a with defers := { target := .collected D, args := #[] } :: a.defers } W)
  (hstop : ∀ (D : Nat) (c : Code) (pre : List α) (W : World), w.heap.size ≤ D → Sp pre W → Ix c pre W → W.heap[D]? = some (.deferred (some [])) → c.wpIn F n P Q { a with defers := { target := .collected D, args := #[] } :: a.defers } W) :
  (Code.rangeFunc g ps assign body).wpIn F n P Q a w := by
 refine wpIn_rangeFunc ?_
 intro fn hfn
 rw [hro]
 obtain ⟨rec, hrec⟩ : ∃ rec : LoopState → Option Code → Loop, rec = fun st pe => { state := st, pending := pe, fn, tmps := a.tmps, params := ps, assign, body, defers := w.heap.size } := ⟨_, rfl⟩
 obtain ⟨W1, hW1⟩ : ∃ W1, (w.alloc (.deferred (some []))).alloc (.loop (rec .ready none)) = W1 := ⟨_, rfl⟩
 have hL1 : W1.heap[w.heap.size + 1]? = some (.loop (rec .ready none)) := by
  rw [← hW1]; have := World.alloc_heap_new (w.alloc (.deferred (some []))) (.loop (rec .ready none)); rwa [World.size_alloc] at this
 have hK1 : W1.heap[w.heap.size]? = some (.deferred (some [])) := by
  rw [← hW1]; exact (Below.heap_alloc _ _ _ (by simp)).trans (World.alloc_heap_new w _)
 have hI1 : I [] W1 := by rw [← hW1]; exact hI.alloc _ (hI.alloc _ h0)
 have hb1 : Below w0.heap.size w0 W1 := by
  rw [← hW1]; exact hb0.trans ((((Below.refl _ w).alloc (Nat.le_refl _) _).alloc (by simp) _).mono hb0.size)
 refine ⟨w.heap.size + 1, [{ target := .collected w.heap.size, args := #[] }], W1, { target := .fn (.func gf) lb, args := #[.func (.yield (w.heap.size + 1)) #[] #[]] }, W1, gf,
  #[.func (.yield (w.heap.size + 1)) #[] #[]] ++ lb, W1, ?_, ?_, ?_, ?_, fun _ => h1, ?_⟩
 ·rw [← hW1, hrec]; exact run_enterLoop_outer _ _ _ _ _
 ·simp only [resolve, hg]
  simp [go_sem]
 ·intro f' hf'; simp [Target.leads] at hf'; subst hf'; exact hFg
 ·simp [invoke, go_sem, eg]
 ·-- THE ITERATOR's CONTRACT, AT THE CALLER's INVARIANT WITH THE TWO FACTS OF BOOK-KEEPING BESIDE IT
  refine (hseq (w.heap.size + 1)
   (fun pre W => I pre W ∧ W.heap[w.heap.size + 1]? = some (.loop (rec .ready none)) ∧ W.heap[w.heap.size]? = some (.deferred (some [])))
   (fun pre W => ∃ c, Ix c pre W ∧ W.heap[w.heap.size + 1]? = some (.loop (rec .done (some c))) ∧ W.heap[w.heap.size]? = some (.deferred (some [])))
   W1 hb1
   (fun s A B hs hg' => ⟨hIb s A B hs.1 hg', (hg'.block _ (Array.getElem?_eq_some_iff.1 hs.2.1).1 (by simp; omega)).trans hs.2.1, (hg'.block _ (Array.getElem?_eq_some_iff.1 hs.2.2).1 (by simp; omega)).trans hs.2.2⟩)
   (fun s A B hs hg' => by
    obtain ⟨c, hc, hl, hk⟩ := hs
    exact ⟨c, hIxb c s A B hc hg', (hg'.block _ (Array.getElem?_eq_some_iff.1 hl).1 (by simp; omega)).trans hl, (hg'.block _ (Array.getElem?_eq_some_iff.1 hk).1 (by simp; omega)).trans hk⟩)
   ?_ ⟨hI1, hL1, hK1⟩).mono ?_
  ·rintro pre x W ⟨hi, hl, hk⟩ hlen
   have hlt : w.heap.size + 1 < W.heap.size := (Array.getElem?_eq_some_iff.1 hl).1
   have hy := run_yield (P := P) (args := encs x) hl (by rw [hrec]; exact hps x)
   rw [hrec] at hy
   refine ⟨fn, _, assign, body, hy, roundIn_of_wpIn hfn (hassign _ pre x W _ hi ?_)⟩
   clear hy
   intro a' Wa hkfa hkpa hia hax
   replace hl := hkfa.same _ _ (by omega) hl rfl
   replace hk := hkfa.same _ _ (Nat.le_refl _) hk rfl
   replace hlt : w.heap.size + 1 < Wa.heap.size := (Array.getElem?_eq_some_iff.1 hl).1
   replace hi := hia
   clear hia
   revert hkpa hkfa
   generalize W = Wb
   intro hkfa hkpa
   obtain ⟨W, rfl⟩ : ∃ W, W = Wa := ⟨_, rfl⟩
   refine ⟨_, run_beginRound hl (by rw [hrec]), ?_⟩
   have hl2 : (W.putObj (w.heap.size + 1) (.loop { rec .ready none with state := .busy })).heap[w.heap.size + 1]? = some (.loop { rec .ready none with state := .busy }) := World.putObj_heap_same hlt
   have hk2 : (W.putObj (w.heap.size + 1) (.loop { rec .ready none with state := .busy })).heap[w.heap.size]? = some (.deferred (some [])) := (World.putObj_heap_other (by omega)).trans hk
   have hw2 : Kp W (W.putObj (w.heap.size + 1) (.loop { rec .ready none with state := .busy })) := hKb _ _ _ _ (by omega) hl rfl rfl
   refine wpIn_mono (hbody _ pre x a' _ (by omega) ⟨_, hl2⟩ (hI.putObj _ hi (by omega) hl rfl) ((hAx x a').putObj (s := ()) _ hax (by omega) hl rfl) hlen) ?_
   have fin : ∀ (jump : Option Code) (W3 : World), KeepsFrom w.heap.size (W.putObj (w.heap.size + 1) (.loop { rec .ready none with state := .busy })) W3 →
     (Instr.endRound (w.heap.size + 1) jump).run P W3 = .ok (.bool jump.isNone) (W3.putObj (w.heap.size + 1) (.loop (rec (if jump.isNone then .ready else .done) jump))) ∧
     W3.heap[w.heap.size + 1]? = some (.loop { rec .ready none with state := .busy }) ∧
     (W3.putObj (w.heap.size + 1) (.loop (rec (if jump.isNone then .ready else .done) jump))).heap[w.heap.size + 1]? = some (.loop (rec (if jump.isNone then .ready else .done) jump)) ∧
     (W3.putObj (w.heap.size + 1) (.loop (rec (if jump.isNone then .ready else .done) jump))).heap[w.heap.size]? = some (.deferred (some [])) := fun jump W3 hk3 => by
    have hl3 := hk3.same _ _ (by omega) hl2 rfl
    have := run_endRound (P := P) jump hl3
    rw [hrec] at this ⊢
    exact ⟨this, by rw [hrec] at hl3; exact hl3, World.putObj_heap_same (Array.getElem?_eq_some_iff.1 hl3).1, (World.putObj_heap_other (by omega)).trans (hk3.same _ _ (Nat.le_refl _) hk2 rfl)⟩
   rintro e a3 W3 hp
   cases e with
   | normal =>
    obtain ⟨hk3, hkp3, hi3⟩ := hp
    obtain ⟨hr, hl3, hl4, hk4⟩ := fin none W3 hk3
    exact ⟨_, _, hr, .inl ⟨rfl, ⟨hI.putObj _ hi3 (by omega) hl3 rfl, hl4, hk4⟩, hKt hkpa (hKt (hKt hw2 hkp3) (hKb _ _ _ _ (by omega) hl3 rfl rfl))⟩⟩
   | ret =>
    obtain ⟨hk3, hi3⟩ := hp
    obtain ⟨hr, hl3, hl4, hk4⟩ := fin (some .ret) W3 hk3
    exact ⟨_, _, hr, .inr ⟨rfl, .ret, (hIx _).putObj _ hi3 (by omega) hl3 rfl, hl4, hk4⟩⟩
   | exit id =>
    obtain ⟨hk3, hi3⟩ := hp
    obtain ⟨hr, hl3, hl4, hk4⟩ := fin (some (.exit id)) W3 hk3
    exact ⟨_, _, hr, .inr ⟨rfl, .exit id, (hIx _).putObj _ hi3 (by omega) hl3 rfl, hl4, hk4⟩⟩
   | goto t =>
    obtain ⟨hk3, hi3⟩ := hp
    obtain ⟨hr, hl3, hl4, hk4⟩ := fin (some (.goto t)) W3 hk3
    exact ⟨_, _, hr, .inr ⟨rfl, .goto t, (hIx _).putObj _ hi3 (by omega) hl3 rfl, hl4, hk4⟩⟩
   | panic ch => exact hp.elim
   | outgrown => exact hp.elim
  ·rintro e W2 ⟨⟨v, rfl⟩, (⟨xs, hS0, hi, hl, hk⟩ | ⟨pre, hSp0, c, hi, hl, hk⟩)⟩
   ·exact ⟨none, _, by have := run_endLoop (P := P) hl (by rw [hrec]; simp); rw [hrec] at this; exact this, hdone _ xs _ (Nat.le_refl _) (hS _ _ _ _ (by omega) hS0) (hI.putObj _ hi (by omega) hl rfl) ((World.putObj_heap_other (by omega)).trans hk)⟩
   ·exact ⟨some c, _, by have := run_endLoop (P := P) hl (by rw [hrec]; simp); rw [hrec] at this; exact this, hstop _ c pre _ (Nat.le_refl _) (hSp _ _ _ _ (by omega) hSp0) ((hIx c).putObj _ hi (by omega) hl rfl) ((World.putObj_heap_other (by omega)).trans hk)⟩
end Go.Proofs.YtanofjmkkhocaaaGreatDoor
namespace Go.Proofs.YtanofjmkkhocaaaGreatDoor
open Go Go.RowKit Go.Shelf
attribute [local go_sem] Oper.semAt_some
abbrev encsEv (x : Hp × Int) : Array Value := #[.agg #[.int .i64 x.1.rad, .string ⟨x.1.node.toArray⟩], .int .i64 x.2]
def h0 : Hp := ⟨0, []⟩
def seqR (k : Nat) (s : List UInt8) : List (Hp × Int) := (hopsR k s).1.map (fun h => (h, (0 : Int))) ++ if (hopsR k s).2.2 = 0 then [] else [(h0, (hopsR k s).2.2)]
theorem seqR_err {k : Nat} {s : List UInt8} (h : (snR s).2.2.2 ≠ 0) : seqR k s = [(h0, (snR s).2.2.2)] := by
 unfold seqR; rw [hopsR_err h]; simp [h]
theorem seqR_end {k : Nat} {s : List UInt8} (h : (snR s).2.2.2 = 0) (h1 : (snR s).1 ≠ 254) : seqR k s = [] := by
 unfold seqR; rw [hopsR_end h h1]; simp
theorem seqR_bad {k : Nat} {s : List UInt8} (h : (snR s).2.2.2 = 0) (h1 : (snR s).1 = 254) (h2 : hopE k s ≠ 0) : seqR k s = [(h0, hopE k s)] := by
 unfold seqR; rw [hopsR_bad h h1 h2]; simp [h2]
theorem seqR_go {k : Nat} {s : List UInt8} (h : (snR s).2.2.2 = 0) (h1 : (snR s).1 = 254) (h2 : hopE (k + 1) s = 0) :
  seqR (k + 1) s = (hopOf s, 0) :: seqR k (s.drop (snR s).2.2.1.toNat) := by
 unfold seqR; rw [hopsR_go h h1 h2]; rfl
def KeepsTwo (bl bx : Nat) (W W' : World) : Prop := W'.heap[bl]? = W.heap[bl]? ∧ W'.heap[bx]? = W.heap[bx]?
theorem KeepsTwo.t {bl bx : Nat} {A B C : World} (h : KeepsTwo bl bx A B) (k : KeepsTwo bl bx B C) : KeepsTwo bl bx A C := ⟨k.1.trans h.1, k.2.trans h.2⟩
theorem grown_of_below {w w' : World} {row : Option Nat} (hb : Below w.heap.size w w') : w.grownBy w' row := ⟨hb.os, hb.tape, hb.output, hb.size, fun k hk _ => hb.block k hk⟩
theorem Obj?.drew_ {w : World} {b : Nat} {cs : Array Value} {t : TypeId} (h : Obj? w b cs t) : Obj? w.drew b cs t := h
def HopsInv (bl bx : Nat) (s : List UInt8) (J : List (Hp × Int) → World → Prop) (k : Nat) (wr : World) : Prop :=
 ∃ (pre : List (Hp × Int)) (t : List UInt8), pre.length = k ∧ k ≤ 4 ∧ seqR 4 s = pre ++ seqR (4 - k) t ∧ (hopsR 4 s).2.1 = (hopsR (4 - k) t).2.1 ∧ t.length ≤ s.length ∧ J pre wr ∧
  Obj? wr bl #[.pointer (some ⟨bx, 0, none⟩)] 471 ∧ Obj? wr bx #[.string ⟨t.toArray⟩] 9
theorem hops1_boxed (n : Nat) (hn : 2 ≤ n) (bl bx : Nat) (hne : bl ≠ bx) (s : List UInt8) (hs : (s.length : Int) ≤ 4611686018427380000) (w : World)
  (hl : Obj? w bl #[.pointer (some ⟨bx, 0, none⟩)] 471) (hx : Obj? w bx #[.string ⟨s.toArray⟩] 9) :
  SeqBoxed Fence.wide n Tryz.prog 450 #[.pointer (some ⟨bl, 0, none⟩)] encsEv bx (KeepsTwo bl bx)
   (fun xs W => xs = seqR 4 s ∧ Obj? W bx #[.string ⟨(hopsR 4 s).2.1.toArray⟩] 9) (fun pre _ => pre <+: seqR 4 s) 6 w := by
 intro l J Jx W hW hJ hJx hY hJ0
 have HA := Lib.hid hJ
 have HY := Lib.hid hY
 have HI0 := Lib.hid (show HopsInv bl bx s J 0 W from ⟨[], s, rfl, by omega, rfl, rfl, Nat.le_refl _, hJ0, hl.below hW hl.lt, hx.below hW hx.lt⟩)
 have hn1 : 1 ≤ n := by omega
 clear hJ hY hJ0 hl hx hW hJx
 refine callsIn_of_wp Tryz.func450 rfl trivial ?_ rfl
 simp only [Tryz.ntmps450, List.size_toArray, List.length_cons, List.length_nil, Nat.reduceAdd, Nat.reduceSub, Array.replicate_succ, Array.replicate_zero, List.push_toArray, List.append_toArray, List.nil_append, List.cons_append]
 gi_wp2
 gi_loopg [3] 5 (fun g i wr => ∃ k : Nat, g + k = 5 ∧ i = .int .i64 k ∧ Hid (HopsInv bl bx s J k wr))
 case atStart => exact ⟨0, by omega, rfl, HI0⟩
 case round =>
  obtain ⟨k, hgk, rfl, HI⟩ := hrel
  obtain ⟨pre, t, hpk, hk4, hsq, hrs, htl, hJp, hol, hox⟩ := HI.out
  have kl := hol.cell 0 _ rfl
  have kx := hox.cell 0 _ rfl
  have htt : (t.length : Int) ≤ 9223372036854775807 := by omega
  have HR := Lib.hid (snread_any t htt wr)
  have hcs := snR_cases t
  obtain ⟨kind, hkind⟩ : ∃ x, x = (snR t).1 := ⟨_, rfl⟩
  obtain ⟨hd, hhd⟩ : ∃ x, x = (snR t).2.1 := ⟨_, rfl⟩
  obtain ⟨ln, hln⟩ : ∃ x, x = (snR t).2.2.1 := ⟨_, rfl⟩
  obtain ⟨er, her⟩ : ∃ x, x = (snR t).2.2.2 := ⟨_, rfl⟩
  rw [← hkind, ← hhd, ← hln, ← her] at HR
  have HP := Lib.hid (And.intro hpk (And.intro hsq (And.intro hrs (And.intro htl hJp))))
  have HO := Lib.hid (And.intro hol hox)
  have HG := Lib.hid (And.intro hgk hk4)
  have HS := Lib.hid (And.intro hkind (And.intro hhd (And.intro hln her)))
  have HC := Lib.hid hcs
  clear hpk hsq hrs htl hJp hol hox hgk hk4 HI hcs hkind hhd hln her
  gi_wp2_with (fail)
  refine ⟨trivial, (callsIn_wide.2 HR.out).mono ?_⟩
  rintro r w1 ⟨rfl, hb⟩
  have HO1 := Lib.hid (And.intro (HO.out.1.below hb HO.out.1.lt) (HO.out.2.below hb HO.out.2.lt))
  have HJ1 := Lib.hid (HA.out _ _ _ HP.out.2.2.2.2 (grown_of_below hb))
  clear hb kl kx
  by_cases h1 : er = 0
  rotate_left
  ·have d1 : (er == 0) = false := by simpa using h1
   have d2 : (er != 0) = true := by simpa using h1
   have hq : seqR 4 s = pre ++ [(h0, er)] := by rw [HP.out.2.1, seqR_err (by rw [← HS.out.2.2.2]; exact h1), ← HS.out.2.2.2]
   have hr : (hopsR 4 s).2.1 = t := by rw [HP.out.2.2.1, hopsR_err (by rw [← HS.out.2.2.2]; exact h1)]
   have HQ := Lib.hid (And.intro hq hr)
   obtain ⟨fn, tmps, assign, body, hy, hR⟩ := HY.out pre (h0, er) w1 HJ1.out (by rw [HP.out.1]; have := HG.out; omega)
   dsimp only [encsEv, h0] at hy
   clear hq hr h1
   gi_wp2
   refine hR.mono ?_
   rintro e W' (⟨rfl, hJ', hk'⟩ | ⟨rfl, hJx'⟩)
   ·gi_wp2
    refine bodyPost_ret (results_none rfl _ _ _) rfl ?_
    exact ⟨⟨_, rfl⟩, .inl ⟨_, ⟨HQ.out.1.symm, by rw [HQ.out.2]; unfold Obj?; rw [hk'.2]; exact HO1.out.2⟩, hJ'⟩⟩
   ·gi_wp2
    refine bodyPost_ret (results_none rfl _ _ _) rfl ?_
    exact ⟨⟨_, rfl⟩, .inr ⟨_, by rw [HQ.out.1]; exact List.prefix_rfl, hJx'⟩⟩
  subst h1
  by_cases h254 : kind = 254
  rotate_left
  ·have d1 : (kind != 254) = true := by simpa using h254
   have d2 : (kind == 254) = false := by simpa using h254
   have hq : seqR 4 s = pre := by rw [HP.out.2.1, seqR_end HS.out.2.2.2.symm (by rw [← HS.out.1]; exact h254), List.append_nil]
   have hr : (hopsR 4 s).2.1 = t := by rw [HP.out.2.2.1, hopsR_end HS.out.2.2.2.symm (by rw [← HS.out.1]; exact h254)]
   have HQ := Lib.hid (And.intro hq hr)
   clear hq hr h254
   gi_wp2
   refine bodyPost_ret (results_none rfl _ _ _) rfl ?_
   exact ⟨⟨_, rfl⟩, .inl ⟨_, ⟨HQ.out.1.symm, by rw [HQ.out.2]; exact HO1.out.2⟩, HJ1.out⟩⟩
  subst h254
  have HC' := HC.out.resolve_left (fun h => h HS.out.2.2.2.symm)
  obtain ⟨kk, hN, lN, hs1, -, hhl, hl65, hht, -⟩ := HC'
  have hh1 : hd = hN := by rw [HS.out.2.1, hs1]
  have hh2 : ln = lN := by rw [HS.out.2.2.1, hs1]
  subst hh1 hh2
  have HSL := Lib.hid (show (snR t).2.1 = hN ∧ (snR t).2.2.1 = lN from ⟨HS.out.2.1.symm, HS.out.2.2.1.symm⟩)
  clear hs1 HC
  by_cases hk4 : k = 4
  ·have d4 : ((k : Int) == 4) = true := by rw [hk4]; rfl
   have hE : hopE (4 - k) t = 12 := by unfold hopE; rw [if_pos (by omega)]
   have hq : seqR 4 s = pre ++ [(h0, 12)] := by rw [HP.out.2.1, seqR_bad HS.out.2.2.2.symm HS.out.1.symm (by rw [hE]; decide), hE]
   have hr : (hopsR 4 s).2.1 = t := by rw [HP.out.2.2.1, hopsR_bad HS.out.2.2.2.symm HS.out.1.symm (by rw [hE]; decide)]
   have HQ := Lib.hid (And.intro hq hr)
   clear hq hr hE
   clear hk4
   obtain ⟨fn, tmps, assign, body, hy, hR⟩ := HY.out pre (h0, 12) w1 HJ1.out (by rw [HP.out.1]; have := HG.out; omega)
   dsimp only [encsEv, h0] at hy
   gi_wp2
   refine hR.mono ?_
   rintro e W' (⟨rfl, hJ', hk'⟩ | ⟨rfl, hJx'⟩)
   ·gi_wp2
    refine bodyPost_ret (results_none rfl _ _ _) rfl ?_
    exact ⟨⟨_, rfl⟩, .inl ⟨_, ⟨HQ.out.1.symm, by rw [HQ.out.2]; unfold Obj?; rw [hk'.2]; exact HO1.out.2⟩, hJ'⟩⟩
   ·gi_wp2
    refine bodyPost_ret (results_none rfl _ _ _) rfl ?_
    exact ⟨⟨_, rfl⟩, .inr ⟨_, by rw [HQ.out.1]; exact List.prefix_rfl, hJx'⟩⟩
  have hk4' : k < 4 := by have := HG.out; omega
  have d4 : ((k : Int) == 4) = false := by apply beq_eq_false_iff_ne.2; omega
  have hE0 : hopE (4 - k) t = if (hN : Int) ≠ 2 ∨ (lN : Int) ≤ 3 ∨ 35 < (lN : Int) then 5 else if (t.length : Int) < lN then 3 else if 3 < num t 2 1 then 5 else 0 := by
   unfold hopE
   rw [if_neg (by omega), HSL.out.1, HSL.out.2]
  have HE0 := Lib.hid hE0
  clear hE0 hk4
  by_cases hh : hN = 2
  rotate_left
  ·have d5 : ((hN : Int) != 2) = true := by simp; omega
   have d6 : ((hN : Int) == 2) = false := by apply beq_eq_false_iff_ne.2; omega
   have hE : hopE (4 - k) t = 5 := by rw [HE0.out, if_pos (.inl (by omega))]
   have hq : seqR 4 s = pre ++ [(h0, 5)] := by rw [HP.out.2.1, seqR_bad HS.out.2.2.2.symm HS.out.1.symm (by rw [hE]; decide), hE]
   have hr : (hopsR 4 s).2.1 = t := by rw [HP.out.2.2.1, hopsR_bad HS.out.2.2.2.symm HS.out.1.symm (by rw [hE]; decide)]
   have HQ := Lib.hid (And.intro hq hr)
   clear hq hr hE
   clear hh
   obtain ⟨fn, tmps, assign, body, hy, hR⟩ := HY.out pre (h0, 5) w1 HJ1.out (by rw [HP.out.1]; have := HG.out; omega)
   dsimp only [encsEv, h0] at hy
   gi_wp2
   refine hR.mono ?_
   rintro e W' (⟨rfl, hJ', hk'⟩ | ⟨rfl, hJx'⟩)
   ·gi_wp2
    refine bodyPost_ret (results_none rfl _ _ _) rfl ?_
    exact ⟨⟨_, rfl⟩, .inl ⟨_, ⟨HQ.out.1.symm, by rw [HQ.out.2]; unfold Obj?; rw [hk'.2]; exact HO1.out.2⟩, hJ'⟩⟩
   ·gi_wp2
    refine bodyPost_ret (results_none rfl _ _ _) rfl ?_
    exact ⟨⟨_, rfl⟩, .inr ⟨_, by rw [HQ.out.1]; exact List.prefix_rfl, hJx'⟩⟩
  subst hh
  by_cases hl3 : lN ≤ 3
  ·have d5 : (lN : Int) ≤ 3 := by omega
   have hE : hopE (4 - k) t = 5 := by rw [HE0.out, if_pos (.inr (.inl (by omega)))]
   have hq : seqR 4 s = pre ++ [(h0, 5)] := by rw [HP.out.2.1, seqR_bad HS.out.2.2.2.symm HS.out.1.symm (by rw [hE]; decide), hE]
   have hr : (hopsR 4 s).2.1 = t := by rw [HP.out.2.2.1, hopsR_bad HS.out.2.2.2.symm HS.out.1.symm (by rw [hE]; decide)]
   have HQ := Lib.hid (And.intro hq hr)
   clear hq hr hE
   clear hl3
   obtain ⟨fn, tmps, assign, body, hy, hR⟩ := HY.out pre (h0, 5) w1 HJ1.out (by rw [HP.out.1]; have := HG.out; omega)
   dsimp only [encsEv, h0] at hy
   gi_wp2
   refine hR.mono ?_
   rintro e W' (⟨rfl, hJ', hk'⟩ | ⟨rfl, hJx'⟩)
   ·gi_wp2
    refine bodyPost_ret (results_none rfl _ _ _) rfl ?_
    exact ⟨⟨_, rfl⟩, .inl ⟨_, ⟨HQ.out.1.symm, by rw [HQ.out.2]; unfold Obj?; rw [hk'.2]; exact HO1.out.2⟩, hJ'⟩⟩
   ·gi_wp2
    refine bodyPost_ret (results_none rfl _ _ _) rfl ?_
    exact ⟨⟨_, rfl⟩, .inr ⟨_, by rw [HQ.out.1]; exact List.prefix_rfl, hJx'⟩⟩
  have d5 : (3 : Int) < lN := by omega
  by_cases hl35 : 35 < lN
  ·have d6 : (35 : Int) < lN := by omega
   have hE : hopE (4 - k) t = 5 := by rw [HE0.out, if_pos (.inr (.inr (by omega)))]
   have hq : seqR 4 s = pre ++ [(h0, 5)] := by rw [HP.out.2.1, seqR_bad HS.out.2.2.2.symm HS.out.1.symm (by rw [hE]; decide), hE]
   have hr : (hopsR 4 s).2.1 = t := by rw [HP.out.2.2.1, hopsR_bad HS.out.2.2.2.symm HS.out.1.symm (by rw [hE]; decide)]
   have HQ := Lib.hid (And.intro hq hr)
   clear hq hr hE
   clear hl35
   obtain ⟨fn, tmps, assign, body, hy, hR⟩ := HY.out pre (h0, 5) w1 HJ1.out (by rw [HP.out.1]; have := HG.out; omega)
   dsimp only [encsEv, h0] at hy
   gi_wp2
   refine hR.mono ?_
   rintro e W' (⟨rfl, hJ', hk'⟩ | ⟨rfl, hJx'⟩)
   ·gi_wp2
    refine bodyPost_ret (results_none rfl _ _ _) rfl ?_
    exact ⟨⟨_, rfl⟩, .inl ⟨_, ⟨HQ.out.1.symm, by rw [HQ.out.2]; unfold Obj?; rw [hk'.2]; exact HO1.out.2⟩, hJ'⟩⟩
   ·gi_wp2
    refine bodyPost_ret (results_none rfl _ _ _) rfl ?_
    exact ⟨⟨_, rfl⟩, .inr ⟨_, by rw [HQ.out.1]; exact List.prefix_rfl, hJx'⟩⟩
  have d6 : (lN : Int) ≤ 35 := by omega
  by_cases hsh : t.length < lN
  ·have d7 : (t.length : Int) < lN := by omega
   have hE : hopE (4 - k) t = 3 := by rw [HE0.out, if_neg (by omega), if_pos (by omega)]
   have hq : seqR 4 s = pre ++ [(h0, 3)] := by rw [HP.out.2.1, seqR_bad HS.out.2.2.2.symm HS.out.1.symm (by rw [hE]; decide), hE]
   have hr : (hopsR 4 s).2.1 = t := by rw [HP.out.2.2.1, hopsR_bad HS.out.2.2.2.symm HS.out.1.symm (by rw [hE]; decide)]
   have HQ := Lib.hid (And.intro hq hr)
   clear hq hr hE
   clear hsh
   obtain ⟨fn, tmps, assign, body, hy, hR⟩ := HY.out pre (h0, 3) w1 HJ1.out (by rw [HP.out.1]; have := HG.out; omega)
   dsimp only [encsEv, h0] at hy
   gi_wp2
   refine hR.mono ?_
   rintro e W' (⟨rfl, hJ', hk'⟩ | ⟨rfl, hJx'⟩)
   ·gi_wp2
    refine bodyPost_ret (results_none rfl _ _ _) rfl ?_
    exact ⟨⟨_, rfl⟩, .inl ⟨_, ⟨HQ.out.1.symm, by rw [HQ.out.2]; unfold Obj?; rw [hk'.2]; exact HO1.out.2⟩, hJ'⟩⟩
   ·gi_wp2
    refine bodyPost_ret (results_none rfl _ _ _) rfl ?_
    exact ⟨⟨_, rfl⟩, .inr ⟨_, by rw [HQ.out.1]; exact List.prefix_rfl, hJx'⟩⟩
  have d7 : (lN : Int) ≤ t.length := by omega
  have h2t : 2 < t.length := by omega
  have hb2 : (ByteArray.mk t.toArray)[2]'(by show 2 < t.toArray.size; simpa using h2t) = t[2] := rfl
  have hi2 : (2 : Int) < t.length := by omega
  have hn2 : num t 2 1 = (t[2].toNat : Int) := by
   match t, h2t with
   | a :: b :: c :: r, _ => exact getB_one c
  have hcu : (t[2].toNat : Int) < 256 := by have := t[2].toNat_lt; omega
  by_cases hr3 : 3 < t[2].toNat
  ·have d8 : (3 : Int) < t[2].toNat := by omega
   have hE : hopE (4 - k) t = 5 := by rw [HE0.out, if_neg (by omega), if_neg (by omega), hn2, if_pos (by omega)]
   have hq : seqR 4 s = pre ++ [(h0, 5)] := by rw [HP.out.2.1, seqR_bad HS.out.2.2.2.symm HS.out.1.symm (by rw [hE]; decide), hE]
   have hr : (hopsR 4 s).2.1 = t := by rw [HP.out.2.2.1, hopsR_bad HS.out.2.2.2.symm HS.out.1.symm (by rw [hE]; decide)]
   have HQ := Lib.hid (And.intro hq hr)
   clear hq hr hE
   clear hr3 hsh hl35 hl3
   obtain ⟨fn, tmps, assign, body, hy, hR⟩ := HY.out pre (h0, 5) w1 HJ1.out (by rw [HP.out.1]; have := HG.out; omega)
   dsimp only [encsEv, h0] at hy
   gi_wp2
   refine hR.mono ?_
   rintro e W' (⟨rfl, hJ', hk'⟩ | ⟨rfl, hJx'⟩)
   ·gi_wp2
    refine bodyPost_ret (results_none rfl _ _ _) rfl ?_
    exact ⟨⟨_, rfl⟩, .inl ⟨_, ⟨HQ.out.1.symm, by rw [HQ.out.2]; unfold Obj?; rw [hk'.2]; exact HO1.out.2⟩, hJ'⟩⟩
   ·gi_wp2
    refine bodyPost_ret (results_none rfl _ _ _) rfl ?_
    exact ⟨⟨_, rfl⟩, .inr ⟨_, by rw [HQ.out.1]; exact List.prefix_rfl, hJx'⟩⟩
  have d8 : (t[2].toNat : Int) ≤ 3 := by omega
  have hkk : 4 - k = (3 - k) + 1 := by omega
  have hE : hopE ((3 - k) + 1) t = 0 := by rw [← hkk, HE0.out, if_neg (by omega), if_neg (by omega), hn2, if_neg (by omega)]
  have hgo : seqR (4 - k) t = (hopOf t, 0) :: seqR (3 - k) (t.drop lN) := by rw [hkk, seqR_go HS.out.2.2.2.symm HS.out.1.symm hE, HSL.out.2]; rfl
  have hgr : (hopsR (4 - k) t).2.1 = (hopsR (3 - k) (t.drop lN)).2.1 := by rw [hkk, hopsR_go HS.out.2.2.2.symm HS.out.1.symm hE, HSL.out.2]; rfl
  have hhop : hopOf t = ⟨(t[2].toNat : Int), (t.take lN).drop 3⟩ := by unfold hopOf; rw [hn2, HSL.out.2]; rfl
  have hsl1 : (ByteArray.mk t.toArray).extract lN t.length = ByteArray.mk (t.drop lN).toArray := by
   rw [ByteArray.extract_mk]; simp
   exact List.take_of_length_le (by simp)
  have hsl2 : (ByteArray.mk t.toArray).extract 3 lN = ByteArray.mk ((t.take lN).drop 3).toArray := by
   rw [ByteArray.extract_mk]; simp [List.drop_take]
  have HGO := Lib.hid (And.intro hgo (And.intro hgr hhop))
  clear hkk hE hgo hgr hhop
  have HSL12 := Lib.hid (And.intro hsl1 hsl2)
  clear hsl1 hsl2
  have kl := HO1.out.1.cell 0 _ rfl
  have kx := HO1.out.2.cell 0 _ rfl
  have fx := HO1.out.2.frozen 0
  have hsl1 := HSL12.out.1
  gi_wp2
  gi_region
  clear hsl1 kl kx fx
  obtain ⟨W2, hW2⟩ : ∃ W2, W2 = (w1.setCell ⟨bx, 0, none⟩ (.string ⟨(t.drop lN).toArray⟩)).drew := ⟨_, rfl⟩
  rw [← hW2]
  have hJ2 : J pre W2 := by
   rw [hW2]
   exact HA.out _ _ _ (HA.out _ _ _ HJ1.out (grown_set (World.grownBy.refl _ _) (p := ⟨bx, 0, none⟩) rfl _)) (quiet_grown ⟨1, rfl⟩ _)
  have ho2 : Obj? W2 bl #[.pointer (some ⟨bx, 0, none⟩)] 471 ∧ Obj? W2 bx #[.string ⟨(t.drop lN).toArray⟩] 9 := by
   rw [hW2]
   exact ⟨Obj?.drew_ (Obj?.kept HO1.out.1 (grown_set (World.grownBy.refl _ _) (p := ⟨bx, 0, none⟩) rfl _) (fun e => hne (Option.some.inj e).symm)), HO1.out.2.set 0 _⟩
  have hJ3 : J pre W2.drew := HA.out _ _ _ hJ2 (quiet_grown ⟨1, rfl⟩ _)
  have HJ2 := Lib.hid (And.intro hJ2 ho2)
  clear hW2 hJ2 ho2
  obtain ⟨fn, tmps, assign, body, hy, hR⟩ := HY.out pre (Hp.mk (t[2].toNat : Int) ((t.take lN).drop 3), (0 : Int)) W2.drew hJ3 (by rw [HP.out.1]; have := HG.out; omega)
  dsimp only [encsEv] at hy
  clear hJ3
  have hsl2 := HSL12.out.2
  have d9 : (3 : Int) ≤ lN := by omega
  have hwr : IntKind.i64.wrap (t[2].toNat : Int) = (t[2].toNat : Int) := by rw [IntKind.wrap_i64]; omega
  gi_wp2
  have hR' := RoundIn.mono (R' := fun e W' => ∃ b : Bool, e = .returned (.bool b) ∧ Hid ((b = true ∧ J (pre ++ [(Hp.mk (t[2].toNat : Int) ((t.take lN).drop 3), (0 : Int))]) W' ∧ KeepsTwo bl bx W2.drew W') ∨ (b = false ∧ Jx (pre ++ [(Hp.mk (t[2].toNat : Int) ((t.take lN).drop 3), (0 : Int))]) W'))) hR (by
   rintro e W' (⟨rfl, h⟩ | ⟨rfl, h⟩)
   ·exact ⟨true, rfl, Lib.hid (.inl ⟨rfl, h⟩)⟩
   ·exact ⟨false, rfl, Lib.hid (.inr ⟨rfl, h⟩)⟩)
  have HRR := Lib.hid hR'
  clear hR hR'
  gi_region_with ((refine HRR.out.mono ?_; rintro e W' ⟨b, rfl, HΦ⟩))
  clear hsl2 hy HRR hwr
  have hcase := HΦ.out
  clear HΦ
  cases b with
  | true =>
   obtain ⟨-, hJ', hk'⟩ := hcase.resolve_right (fun h => by cases h.1)
   clear hcase
   gi_wp2
   gi_roundg (gk - 1)
   case measure => have := HG.out; omega
   case rel =>
    refine ⟨k + 1, by have := HG.out; omega, by go_num, Lib.hid ⟨pre ++ [(Hp.mk (t[2].toNat : Int) ((t.take lN).drop 3), (0 : Int))], t.drop lN, by simp [HP.out.1], by omega, ?_, ?_, ?_, hJ', ?_, ?_⟩⟩
    ·rw [HP.out.2.1, HGO.out.1, HGO.out.2.2, List.append_assoc, List.singleton_append, show 4 - (k + 1) = 3 - k by omega]
    ·rw [HP.out.2.2.1, HGO.out.2.1, show 4 - (k + 1) = 3 - k by omega]
    ·have := HP.out.2.2.2.1; rw [List.length_drop]; omega
    ·unfold Obj?; rw [hk'.1]; exact HJ2.out.2.1
    ·unfold Obj?; rw [hk'.2]; exact HJ2.out.2.2
  | false =>
   obtain ⟨-, hJx'⟩ := hcase.resolve_left (fun h => by cases h.1)
   clear hcase
   gi_wp2
   refine bodyPost_ret (results_none rfl _ _ _) rfl ?_
   exact ⟨⟨_, rfl⟩, .inr ⟨_, by rw [HP.out.2.1, HGO.out.1, HGO.out.2.2]; exact ⟨_, by rw [List.append_assoc, List.singleton_append]⟩, hJx'⟩⟩
end Go.Proofs.YtanofjmkkhocaaaGreatDoor
