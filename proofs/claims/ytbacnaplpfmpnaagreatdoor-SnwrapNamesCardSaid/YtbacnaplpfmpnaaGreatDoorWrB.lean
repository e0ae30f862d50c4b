/- snwrap: limits, a hop, the hops' list. snwrap: a hop's bytes; are any hops wrong? snwrap: Bytes, Check. snwrap: Check; hops compared; a datagram that is light. snwrap: a datagram that is light. -/
import Derived.Test.YtbacnaplpfmpnaaGreatDoorWrA
import Derived.Test.YtbacnaplpfmpnaaGreatDoorLkC
import Derived.Deep.RegionHeld3
import Derived.Deep.LoopGhost
import Derived.Deep.QuietTactic
import Derived.BigQuiet
namespace Go.Proofs.YtbacnaplpfmpnaaGreatDoor
open Go.RowKit
set_option linter.unusedVariables false
set_option linter.unusedSimpArgs false

theorem right_any (mp md : Int) (w : World) : Calls Tryz.prog 78 #[.agg #[.int .i64 mp, .int .i64 md]] w fun e w' => e = .returned (.bool (limOk mp md)) ∧ Below w.heap.size w w' := by
  have hB := below_al (Below.refl _ w) (.cells #[.int .i64 mp, .int .i64 md] 56 (0, 0))
  have HE := Lib.hid (show limOk mp md = (decide (16 ≤ mp) && (decide (mp ≤ 1048576) && (decide (0 ≤ md) && decide (md ≤ 32)))) by unfold limOk; simp only [Bool.decide_and])
  rw [HE.out]
  go_enter Tryz.func78, Tryz.ntmps78
  by_cases h1 : 16 ≤ mp
  · by_cases h2 : mp ≤ 1048576
    · by_cases h3 : 0 ≤ md
      · by_cases h4 : md ≤ 32
        · go_wp2
          go_ret
          exact ⟨ret_val (congrArg Value.bool (by first | rfl | (simp; done) | (simp; omega) | (simp [*]; done) | (simp [*]; omega))), hB⟩
        · have h4' : 32 < md := by omega
          go_wp2
          go_ret
          exact ⟨ret_val (congrArg Value.bool (by first | rfl | (simp; done) | (simp; omega) | (simp [*]; done) | (simp [*]; omega))), hB⟩
      · have h3' : md < 0 := by omega
        go_wp2
        go_ret
        exact ⟨ret_val (congrArg Value.bool (by first | rfl | (simp; done) | (simp; omega) | (simp [*]; done) | (simp [*]; omega))), hB⟩
    · have h2' : 1048576 < mp := by omega
      go_wp2
      go_ret
      exact ⟨ret_val (congrArg Value.bool (by first | rfl | (simp; done) | (simp; omega) | (simp [*]; done) | (simp [*]; omega))), hB⟩
  · have h1' : mp < 16 := by omega
    go_wp2
    go_ret
    exact ⟨ret_val (congrArg Value.bool (by first | rfl | (simp; done) | (simp; omega) | (simp [*]; done) | (simp [*]; omega))), hB⟩
def Hp.cs (h : Hp) : Array Value := #[.int .i64 h.rad, .string ⟨h.node.toArray⟩]
theorem hopright_any (h : Hp) (hn : (h.node.length : Int) ≤ 9223372036854775807) (w : World) : Calls Tryz.prog 74 #[.agg #[.int .i64 h.rad, .string ⟨h.node.toArray⟩]] w fun e w' => e = .returned (.bool (hopOk h)) ∧ Below w.heap.size w w' := by
  obtain ⟨rad, node⟩ := h
  simp only at hn ⊢
  have hB := below_al (Below.refl _ w) (.cells #[.int .i64 rad, .string ⟨node.toArray⟩] 49 (0, 0))
  have HE := Lib.hid (show hopOk ⟨rad, node⟩ = (decide (0 ≤ rad) && (decide (rad ≤ 3) && (decide (1 ≤ node.length) && decide (node.length ≤ 32)))) by unfold hopOk; simp only [Bool.decide_and])
  rw [HE.out]
  clear hn
  go_enter Tryz.func74, Tryz.ntmps74
  by_cases h1 : 0 ≤ rad
  · by_cases h2 : rad ≤ 3
    · by_cases h3 : 1 ≤ node.length
      · by_cases h4 : node.length ≤ 32
        · have h3i : (1 : Int) ≤ node.length := by omega
          have h4i : (node.length : Int) ≤ 32 := by omega
          go_wp2
          go_ret
          exact ⟨ret_val (congrArg Value.bool (by first | rfl | (simp; done) | (simp; omega) | (simp [*]; done) | (simp [*]; omega))), hB⟩
        · have h3i : (1 : Int) ≤ node.length := by omega
          have h4i : (32 : Int) < node.length := by omega
          go_wp2
          go_ret
          exact ⟨ret_val (congrArg Value.bool (by first | rfl | (simp; done) | (simp; omega) | (simp [*]; done) | (simp [*]; omega))), hB⟩
      · have h3i : (node.length : Int) < 1 := by omega
        go_wp2
        go_ret
        exact ⟨ret_val (congrArg Value.bool (by first | rfl | (simp; done) | (simp; omega) | (simp [*]; done) | (simp [*]; omega))), hB⟩
    · have h2' : 3 < rad := by omega
      go_wp2
      go_ret
      exact ⟨ret_val (congrArg Value.bool (by first | rfl | (simp; done) | (simp; omega) | (simp [*]; done) | (simp [*]; omega))), hB⟩
  · have h1' : rad < 0 := by omega
    go_wp2
    go_ret
    exact ⟨ret_val (congrArg Value.bool (by first | rfl | (simp; done) | (simp; omega) | (simp [*]; done) | (simp [*]; omega))), hB⟩
theorem hopwrong_any (h : Hp) (hn : (h.node.length : Int) ≤ 9223372036854775807) (w : World) : Calls Tryz.prog 80 #[.agg #[.int .i64 h.rad, .string ⟨h.node.toArray⟩]] w fun e w' => e = .returned (.bool (!hopOk h)) ∧ Below w.heap.size w w' := by
  have HR := Lib.hid (hopright_any h hn)
  have hB := below_al (Below.refl _ w) (.cells #[.int .i64 h.rad, .string ⟨h.node.toArray⟩] 49 (0, 0))
  obtain ⟨b, hb⟩ : ∃ b, b = hopOk h := ⟨_, rfl⟩
  rw [← hb] at HR ⊢
  clear hb
  cases b
  all_goals
    go_enter Tryz.func80, Tryz.ntmps80
    go_wp2_with fail
    refine (HR.out _).mono ?_
    rintro r w1 ⟨rfl, hb1⟩
    have HB := Lib.hid (hB.trans (hb1.mono hB.size))
    clear hb1
    go_wp2
    go_ret
    exact ⟨rfl, HB.out⟩
/-- Hops lie in memory. -/
def HopsAt (w : World) (v : Value) (hs : List Hp) : Prop :=
  ∃ a cap, v = .slice a hs.length cap ∧ (∀ h ∈ hs, (h.node.length : Int) ≤ 9223372036854775807) ∧ (hs.length : Int) ≤ 9223372036854775807 ∧ (hs = [] ∨ ∃ b off, a = some ⟨b, off, none⟩ ∧ b < w.heap.size ∧
    ∀ i (hi : i < hs.length), w.cell? ⟨b, off + i * 2, none⟩ = some (.int .i64 hs[i].rad) ∧ w.cell? ⟨b, off + i * 2 + 1, none⟩ = some (.string ⟨hs[i].node.toArray⟩))
theorem HopsAt.below {w w' : World} {v : Value} {hs : List Hp} (h : HopsAt w v hs) (hb : Below w.heap.size w w') : HopsAt w' v hs := by
  obtain ⟨a, cap, rfl, hn, hl, hc⟩ := h
  refine ⟨a, cap, rfl, hn, hl, ?_⟩
  rcases hc with hc | ⟨b, off, rfl, hlt, hc⟩
  · exact .inl hc
  · exact .inr ⟨b, off, rfl, Nat.lt_of_lt_of_le hlt hb.size, fun i hi => ⟨(hb.cell (p := ⟨b, _, none⟩) hlt).trans (hc i hi).1, (hb.cell (p := ⟨b, _, none⟩) hlt).trans (hc i hi).2⟩⟩
theorem hopsat_nil (w : World) : HopsAt w (.slice none 0 0) [] := ⟨none, 0, rfl, by simp, by simp, .inl rfl⟩
set_option maxRecDepth 100000 in
set_option maxHeartbeats 1600000 in
theorem indexhop_any {v : Value} {hs : List Hp} {w : World} (hH : HopsAt w v hs) :
    Calls Tryz.prog 107 #[v, .func (.func 80) #[] #[]] w fun e w' => ∃ r : Int, e = .returned (.int .i64 r) ∧ decide (0 ≤ r) = !hs.all hopOk ∧ Below w.heap.size w w' := by
  have HH := Lib.hid hH
  obtain ⟨a, cap, rfl, hn, hl, -⟩ := hH
  have HN := Lib.hid (And.intro hn hl)
  have HE := Lib.hid (enters_of Tryz.func80 (by kernel_rfl) rfl)
  clear hn
  obtain ⟨n, hN⟩ : ∃ n, n = hs.length := ⟨_, rfl⟩
  rw [← hN] at hl ⊢
  have HNN := Lib.hid hN
  clear hN
  go_enter Tryz.func107, Tryz.ntmps107
  go_wp2
  go_loopg [8] (n + 1) (fun g i wr => ∃ k : Nat, g + k = n + 1 ∧ k ≤ n ∧ i = .int .i64 k ∧ Hid ((hs.take k).all hopOk = true ∧ Below w.heap.size w wr))
  case atStart => exact ⟨0, by omega, by omega, rfl, Lib.hid ⟨rfl, Below.refl _ _⟩⟩
  case round =>
    obtain ⟨k, hgk, hkn, rfl, HI⟩ := hrel
    have HGK := Lib.hid (And.intro hgk hkn)
    by_cases hlt : k < n
    · have hk' : k < hs.length := by rw [← HNN.out]; exact hlt
      obtain ⟨a', cap', e1, -, -, hc⟩ := HH.out
      obtain ⟨rfl, -, rfl⟩ : a' = a ∧ True ∧ cap' = cap := by cases e1; exact ⟨rfl, trivial, rfl⟩
      obtain ⟨b, off, rfl, hlb, hc⟩ := hc.resolve_left (fun e => by rw [e] at hk'; cases hk')
      obtain ⟨c0, c1⟩ := hc k hk'
      have k0 := (HI.out.2.cell (p := ⟨b, off + k * 2, none⟩) hlb).trans c0
      have k1 := (HI.out.2.cell (p := ⟨b, off + k * 2 + 1, none⟩) hlb).trans c1
      clear hc c0 c1 e1
      have HW := Lib.hid (fun w => hopwrong_any hs[k] (HN.out.1 _ (List.getElem_mem hk')) w)
      obtain ⟨rad, hrad⟩ : ∃ rad, rad = hs[k].rad := ⟨_, rfl⟩
      obtain ⟨node, hnode⟩ : ∃ node, node = hs[k].node := ⟨_, rfl⟩
      have hok : hopOk hs[k] = hopOk ⟨rad, node⟩ := by rw [hrad, hnode]
      have htk : (hs.take (k + 1)).all hopOk = ((hs.take k).all hopOk && hopOk ⟨rad, node⟩) := by rw [List.take_add_one, List.all_append, ← hok]; simp [hk']
      have hall : hopOk ⟨rad, node⟩ = false → hs.all hopOk = false := fun q => by
        rw [List.all_eq_false]
        exact ⟨hs[k], List.getElem_mem hk', by rw [hok, q]; decide⟩
      rw [← hrad] at k0
      rw [← hnode] at k1
      have HW : Hid (∀ w, Calls Tryz.prog 80 #[.agg #[.int .i64 rad, .string ⟨node.toArray⟩]] w fun e w' => e = .returned (.bool (!hopOk ⟨rad, node⟩)) ∧ Below w.heap.size w w') := Lib.hid (by rw [← hok, hrad, hnode]; exact HW.out)
      have HT := Lib.hid (And.intro htk hall)
      clear htk hall hok hrad hnode
      have d1 : decide ((k : Int) < n) = true := decide_eq_true (by omega)
      have he := HE.out
      obtain ⟨q, hq⟩ : ∃ q, q = hopOk ⟨rad, node⟩ := ⟨_, rfl⟩
      rw [← hq] at HW HT
      clear hq
      go_wp2_with fail
      refine (HW.out _).mono ?_
      rintro r w1 ⟨rfl, hb1⟩
      cases q
      · have hA : hs.all hopOk = false := HT.out.2 rfl
        have HA := Lib.hid hA
        have HB := Lib.hid (HI.out.2.trans (hb1.mono HI.out.2.size))
        clear hA hb1
        go_wp2
        go_ret
        exact ⟨k, rfl, by rw [HA.out]; simp, HB.out⟩
      · go_wp2
        go_roundg (gk - 1)
        case measure => have := HGK.out; omega
        case rel => exact ⟨k + 1, by have := HGK.out; omega, by omega, by go_num, Lib.hid ⟨by rw [HT.out.1, HI.out.1]; rfl, HI.out.2.trans (hb1.mono HI.out.2.size)⟩⟩
    · obtain rfl : k = n := by omega
      go_wp2
      go_ret
      refine ⟨-1, rfl, ?_, HI.out.2⟩
      have := HI.out.1
      rw [HNN.out, List.take_length] at this
      rw [this]; rfl
end Go.Proofs.YtbacnaplpfmpnaaGreatDoor
namespace Go.Proofs.YtbacnaplpfmpnaaGreatDoor
open Go.RowKit
set_option linter.unusedVariables false
set_option linter.unusedSimpArgs false

theorem containshop_any {v : Value} {hs : List Hp} {w : World} (hH : HopsAt w v hs) :
    Calls Tryz.prog 79 #[v, .func (.func 80) #[] #[]] w fun e w' => e = .returned (.bool (!hs.all hopOk)) ∧ Below w.heap.size w w' := by
  have HI := Lib.hid (indexhop_any hH)
  obtain ⟨q, hq⟩ : ∃ q, q = !hs.all hopOk := ⟨_, rfl⟩
  rw [← hq] at HI ⊢
  clear hq hH
  go_enter Tryz.func79, Tryz.ntmps79
  go_wp2_with fail
  refine HI.out.mono ?_
  rintro r w1 ⟨i, rfl, hi, hb⟩
  have HB := Lib.hid hb
  clear hb
  cases q
  all_goals
    go_wp2
    go_ret
    exact ⟨rfl, HB.out⟩
abbrev SHop (cs : Array Value) (b : Nat) (w W : World) : Prop := Below w.heap.size w W ∧ Hid (Obj? W b cs 49) ∧ (∀ j, W.cell? ⟨b, j, none⟩ = cs[j]?)
theorem sHop_mk {cs : Array Value} {b : Nat} {w W : World} (hB : Below w.heap.size w W) (h : Obj? W b cs 49) : SHop cs b w W := ⟨hB, h, h.cells⟩
theorem sHop_step {cs : Array Value} {b : Nat} {w W W' : World} (hb : Below W.heap.size W W') (hB : Below w.heap.size w W) (h : Hid (Obj? W b cs 49)) : SHop cs b w W' :=
  sHop_mk (hB.trans (hb.mono hB.size)) (Obj?.below h.out hb (Obj?.lt h.out))
theorem sHop_drew {cs : Array Value} {b : Nat} {w W : World} (h : SHop cs b w W) : SHop cs b w W.drew := sHop_step (below_grown (quiet_grown ⟨1, rfl⟩ none)) h.1 h.2.1
theorem sHop_drew2 {cs : Array Value} {b : Nat} {w W : World} (hB : Below w.heap.size w W) (h : Hid (Obj? W b cs 49)) : SHop cs b w W.drew := sHop_step (below_grown (quiet_grown ⟨1, rfl⟩ none)) hB h
set_option maxRecDepth 100000 in
set_option maxHeartbeats 1600000 in
theorem hopbytes_any (h : Hp) (hk : hopOk h = true) (w : World) : Calls Tryz.prog 81 #[.agg #[.int .i64 h.rad, .string ⟨h.node.toArray⟩]] w fun e w' => e = .returned (.string ⟨(hopL h).toArray⟩) ∧ Below w.heap.size w w' := by
  simp only [hopOk, decide_eq_true_eq] at hk
  obtain ⟨h1, h2, h3, h4⟩ := hk
  obtain ⟨rad, node⟩ := h
  simp only at h1 h2 h3 h4 ⊢
  have hu1 : IntKind.u64.wrap (3 + (node.length : Int)) = 3 + (node.length : Int) := wraps_u64 _ (by omega) (by omega)
  have hu2 : IntKind.u64.wrap rad = rad := wraps_u64 _ (by omega) (by omega)
  have hi1 : IntKind.i64.wrap (3 + (node.length : Int)) = 3 + (node.length : Int) := by rw [IntKind.wrap_i64]; omega
  have HP1 := Lib.hid (fun w => put_any (3 + (node.length : Int)) 1 w)
  have HP2 := Lib.hid (fun w => put_any 254 1 w)
  have HP3 := Lib.hid (fun w => put_any rad 1 w)
  have hL : hopL ⟨rad, node⟩ = putL (3 + node.length) 1 ++ putL 254 1 ++ putL rad 1 ++ node := rfl
  obtain ⟨a, ha⟩ : ∃ a, a = putL (3 + node.length) 1 := ⟨_, rfl⟩
  obtain ⟨b, hb⟩ : ∃ b, b = putL 254 1 := ⟨_, rfl⟩
  obtain ⟨c, hc⟩ : ∃ c, c = putL rad 1 := ⟨_, rfl⟩
  have la : a.length = 1 := by rw [ha, length_putL]; rfl
  have lb : b.length = 1 := by rw [hb, length_putL]; rfl
  have lc : c.length = 1 := by rw [hc, length_putL]; rfl
  rw [← ha] at HP1 hL
  rw [← hb] at HP2 hL
  rw [← hc] at HP3 hL
  obtain ⟨d, hd⟩ : ∃ d, d = a ++ b := ⟨_, rfl⟩
  obtain ⟨e, he⟩ : ∃ e, e = d ++ c := ⟨_, rfl⟩
  obtain ⟨f, hf⟩ : ∃ f, f = e ++ node := ⟨_, rfl⟩
  have hx1 : ByteArray.mk a.toArray ++ ByteArray.mk b.toArray = ByteArray.mk d.toArray := by rw [hd]; exact ByteArray.mk_append_mk _ _
  have hx2 : ByteArray.mk d.toArray ++ ByteArray.mk c.toArray = ByteArray.mk e.toArray := by rw [he]; exact ByteArray.mk_append_mk _ _
  have hx3 : ByteArray.mk e.toArray ++ ByteArray.mk node.toArray = ByteArray.mk f.toArray := by rw [hf]; exact ByteArray.mk_append_mk _ _
  have ld : d.length = 2 := by rw [hd, List.length_append]; omega
  have le : e.length = 3 := by rw [he, List.length_append]; omega
  have y1 : ¬ (9223372036854775807 : Nat) < a.length + b.length := by omega
  have y2 : ¬ (9223372036854775807 : Nat) < d.length + c.length := by omega
  have y3 : ¬ (9223372036854775807 : Nat) < e.length + node.length := by omega
  rw [hL, ← hd, ← he, ← hf]
  clear ha hb hc hL la lb lc hd he hf ld le
  have hB0 := below_al (Below.refl _ w) (.cells #[.int .i64 rad, .string ⟨node.toArray⟩] 49 (0, 0))
  have O0 := Obj?.new w #[.int .i64 rad, .string ⟨node.toArray⟩] 49
  go_enter Tryz.func81, Tryz.ntmps81
  go_wp2_with fail
  obtain ⟨W0, hW0⟩ : ∃ W0, W0 = w.alloc (.cells #[.int .i64 rad, .string ⟨node.toArray⟩] 49 (0, 0)) := ⟨_, rfl⟩
  obtain ⟨B, hBB⟩ : ∃ B, B = w.heap.size := ⟨_, rfl⟩
  have hS0 : SHop #[.int .i64 rad, .string ⟨node.toArray⟩] B w W0 := by rw [hW0, hBB]; exact sHop_mk hB0 O0
  rw [← hW0]
  rw [← hBB]
  clear hW0 hBB hB0 O0
  have hS1 := sHop_drew hS0
  go_region_held3 (fun W => Below w.heap.size w W ∧ Hid (Obj? W B #[.int .i64 rad, .string ⟨node.toArray⟩] 49) ∧ (∀ j, W.cell? ⟨B, j, none⟩ = (#[.int .i64 rad, .string ⟨node.toArray⟩] : Array Value)[j]?))
    ((first | assumption | exact sHop_drew2 (by assumption) (by assumption) | exact sHop_drew (by assumption)))
    ((go_split_ands; first
        | (go_at_call 61; ((with_reducible refine (HP1.out _).mono ?_); (rintro e w' ⟨rfl, hb⟩; have hS := sHop_step hb (by assumption) (by assumption))))
        | (go_at_call 61; ((with_reducible refine (HP2.out _).mono ?_); (rintro e w' ⟨rfl, hb⟩; have hS := sHop_step hb (by assumption) (by assumption))))
        | (go_at_call 61; ((with_reducible refine (HP3.out _).mono ?_); (rintro e w' ⟨rfl, hb⟩; have hS := sHop_step hb (by assumption) (by assumption))))))
  go_wp2_with fail
  all_goals go_ret
  all_goals exact ⟨rfl, by first | assumption | exact (show SHop #[.int .i64 rad, .string ⟨node.toArray⟩] B w _ by assumption).1⟩
end Go.Proofs.YtbacnaplpfmpnaaGreatDoor
namespace Go.Proofs.YtbacnaplpfmpnaaGreatDoor
open Go.RowKit
set_option linter.unusedVariables false
set_option linter.unusedSimpArgs false
attribute [local go_sem ↓] load_Msg store_Msg
attribute [local irreducible] rowSem rowStore

/-- A datagram's cells. -/
def dgCs (v : Value) (m : Ms) : Array Value := #[v, .int .i64 m.ty, .bool m.fl.dup, .int .i64 m.fl.q, .bool m.fl.retain, .bool m.fl.will, .bool m.fl.clean, .int .i64 m.fl.typ, .int .i64 m.gw, .int .i64 m.rad, .int .i64 m.time, .bool m.timed, .int .i64 m.tid, .int .i64 m.mid, .int .i64 m.code, .string ⟨m.name.toArray⟩, .string ⟨m.data.toArray⟩]
theorem dgCs_mid (v : Value) (m : Ms) : dgCs v m = #[v] ++ m.cs ++ #[] := by unfold dgCs Ms.cs; rfl
/-- The message of a datagram that lies in a block. -/
theorem load_dgmsg {w : World} {b : Nat} {v : Value} {m : Ms} (h : Obj? w b (dgCs v m) 45) : (rowSem 25 ⟨b, 1, none⟩).run Tryz.prog w = .ok (.agg m.cs) w := by
  rw [dgCs_mid] at h
  refine rowSem_mid w b 1 25 m.cs _ (fun j v hv => ?_) Tryz.underlying25 rfl (by rw [infoMs]; rfl)
  exact Obj?.mid h j v hv
theorem hopsL_take_len {hs : List Hp} (h : hs.all hopOk = true) : (hopsL hs).length ≤ 35 * hs.length := by
  induction hs with
  | nil => simp [hopsL]
  | cons x r ih =>
    simp only [List.all_cons, Bool.and_eq_true] at h
    have h1 := ih h.2
    have h2 := hopL_len h.1
    have h3 := h.1
    simp only [hopOk, decide_eq_true_eq] at h3
    rw [hopsL_cons, List.length_append, List.length_cons]
    omega
theorem hopsL_snoc (hs : List Hp) (k : Nat) (hk : k < hs.length) : hopsL (hs.take (k + 1)) = hopsL (hs.take k) ++ hopL hs[k] := by
  rw [List.take_succ_eq_append_getElem hk]
  unfold hopsL
  rw [List.flatMap_append, List.flatMap_cons, List.flatMap_nil, List.append_nil]
set_option maxRecDepth 100000 in
set_option maxHeartbeats 1600000 in
theorem wrapbytes_lim {v : Value} {hs : List Hp} {m : Ms} {mp md : Int} {w : World} (hH : HopsAt w v hs) (hn : (m.name.length : Int) ≤ 100000) (hd : (m.data.length : Int) ≤ 100000) (hmx : Mx w) (h1 : limOk mp md = false) :
    Calls Tryz.prog 28 #[.agg (dgCs v m), .agg #[.int .i64 mp, .int .i64 md]] w fun e w' => e = .returned (.tuple #[.string ⟨(wrapB hs m mp md).1.toArray⟩, .int .i64 (wrapB hs m mp md).2]) ∧ Below w.heap.size w w' := by
  have e : wrapB hs m mp md = ([], 2) := by unfold wrapB; rw [if_pos h1]
  rw [e]
  have OD := Obj?.new w (dgCs v m) 45
  have hB1 := below_al (Below.refl _ w) (.cells (dgCs v m) 45 (0, 0))
  have OL := Obj?.new (w.alloc (.cells (dgCs v m) 45 (0, 0))) #[.int .i64 mp, .int .i64 md] 56
  rw [World.size_alloc] at OL
  have OD1 := OD.alloc (.cells #[.int .i64 mp, .int .i64 md] 56 (0, 0))
  have hB2 := below_al hB1 (.cells #[.int .i64 mp, .int .i64 md] 56 (0, 0))
  have HD0 := Lib.hid OD1
  have HL0 := Lib.hid OL
  have HB0 := Lib.hid hB2
  have HHW := Lib.hid hH
  have HMW := Lib.hid hmx
  have HR := Lib.hid (fun w => right_any mp md w)
  have HBy := Lib.hid (fun w hm => msbytes_any m hn hd w hm)
  clear OD OL hB1 OD1 hB2 hmx hn hd
  rw [h1] at HR
  clear e h1
  unfold dgCs at HD0 HL0 HB0 ⊢
  obtain ⟨a0, cap, rfl, -, hlm, -⟩ := hH
  go_enter Tryz.func28, Tryz.ntmps28
  refine wp_hide fun Q1 hQ1 => ?_
  have HQ1 := Lib.hid hQ1
  clear hQ1
  go_wp2_with fail
  refine (HR.out _).mono ?_
  rintro r w1 ⟨rfl, hb⟩
  have HB1 := Lib.hid (HB0.out.trans (hb.mono HB0.out.size))
  have HD1 := Lib.hid (HD0.out.below hb HD0.out.lt)
  have HL1 := Lib.hid (HL0.out.below hb HL0.out.lt)
  have kd := HD1.out.cells
  clear hb
  go_wp2
  refine HQ1.out _ _ _ ?_
  go_ret2
  exact ⟨rfl, HB1.out⟩
set_option maxRecDepth 100000 in
set_option maxHeartbeats 1600000 in
theorem wrapbytes_full {v : Value} {hs : List Hp} {m : Ms} {mp md : Int} {w : World} (hH : HopsAt w v hs) (hn : (m.name.length : Int) ≤ 100000) (hd : (m.data.length : Int) ≤ 100000) (hmx : Mx w) (h1 : limOk mp md = true) (h2 : 4 < hs.length) :
    Calls Tryz.prog 28 #[.agg (dgCs v m), .agg #[.int .i64 mp, .int .i64 md]] w fun e w' => e = .returned (.tuple #[.string ⟨(wrapB hs m mp md).1.toArray⟩, .int .i64 (wrapB hs m mp md).2]) ∧ Below w.heap.size w w' := by
  have e : wrapB hs m mp md = ([], 12) := by unfold wrapB; rw [if_neg (by simp [h1]), if_pos h2]
  have d1 : (4 : Int) < hs.length := by omega
  rw [e]
  have OD := Obj?.new w (dgCs v m) 45
  have hB1 := below_al (Below.refl _ w) (.cells (dgCs v m) 45 (0, 0))
  have OL := Obj?.new (w.alloc (.cells (dgCs v m) 45 (0, 0))) #[.int .i64 mp, .int .i64 md] 56
  rw [World.size_alloc] at OL
  have OD1 := OD.alloc (.cells #[.int .i64 mp, .int .i64 md] 56 (0, 0))
  have hB2 := below_al hB1 (.cells #[.int .i64 mp, .int .i64 md] 56 (0, 0))
  have HD0 := Lib.hid OD1
  have HL0 := Lib.hid OL
  have HB0 := Lib.hid hB2
  have HHW := Lib.hid hH
  have HMW := Lib.hid hmx
  have HR := Lib.hid (fun w => right_any mp md w)
  have HBy := Lib.hid (fun w hm => msbytes_any m hn hd w hm)
  clear OD OL hB1 OD1 hB2 hmx hn hd
  rw [h1] at HR
  clear e h1
  unfold dgCs at HD0 HL0 HB0 ⊢
  obtain ⟨a0, cap, rfl, -, hlm, -⟩ := hH
  go_enter Tryz.func28, Tryz.ntmps28
  refine wp_hide fun Q1 hQ1 => ?_
  have HQ1 := Lib.hid hQ1
  clear hQ1
  go_wp2_with fail
  refine (HR.out _).mono ?_
  rintro r w1 ⟨rfl, hb⟩
  have HB1 := Lib.hid (HB0.out.trans (hb.mono HB0.out.size))
  have HD1 := Lib.hid (HD0.out.below hb HD0.out.lt)
  have HL1 := Lib.hid (HL0.out.below hb HL0.out.lt)
  have kd := HD1.out.cells
  clear hb
  go_wp2
  refine HQ1.out _ _ _ ?_
  go_ret2
  exact ⟨rfl, HB1.out⟩
set_option maxRecDepth 100000 in
set_option maxHeartbeats 1600000 in
theorem wrapbytes_hop {v : Value} {hs : List Hp} {m : Ms} {mp md : Int} {w : World} (hH : HopsAt w v hs) (hn : (m.name.length : Int) ≤ 100000) (hd : (m.data.length : Int) ≤ 100000) (hmx : Mx w) (h1 : limOk mp md = true) (h2 : hs.length ≤ 4) (h3 : hs.all hopOk = false) :
    Calls Tryz.prog 28 #[.agg (dgCs v m), .agg #[.int .i64 mp, .int .i64 md]] w fun e w' => e = .returned (.tuple #[.string ⟨(wrapB hs m mp md).1.toArray⟩, .int .i64 (wrapB hs m mp md).2]) ∧ Below w.heap.size w w' := by
  have e : wrapB hs m mp md = ([], 2) := by unfold wrapB; rw [if_neg (by simp [h1]), if_neg (by omega), if_pos h3]
  have d1 : (hs.length : Int) ≤ 4 := by omega
  rw [e]
  have OD := Obj?.new w (dgCs v m) 45
  have hB1 := below_al (Below.refl _ w) (.cells (dgCs v m) 45 (0, 0))
  have OL := Obj?.new (w.alloc (.cells (dgCs v m) 45 (0, 0))) #[.int .i64 mp, .int .i64 md] 56
  rw [World.size_alloc] at OL
  have OD1 := OD.alloc (.cells #[.int .i64 mp, .int .i64 md] 56 (0, 0))
  have hB2 := below_al hB1 (.cells #[.int .i64 mp, .int .i64 md] 56 (0, 0))
  have HD0 := Lib.hid OD1
  have HL0 := Lib.hid OL
  have HB0 := Lib.hid hB2
  have HHW := Lib.hid hH
  have HMW := Lib.hid hmx
  have HR := Lib.hid (fun w => right_any mp md w)
  have HBy := Lib.hid (fun w hm => msbytes_any m hn hd w hm)
  clear OD OL hB1 OD1 hB2 hmx hn hd
  have HA := Lib.hid h3
  rw [h1] at HR
  clear e h1 h3
  unfold dgCs at HD0 HL0 HB0 ⊢
  obtain ⟨a0, cap, rfl, -, hlm, -⟩ := hH
  go_enter Tryz.func28, Tryz.ntmps28
  refine wp_hide fun Q1 hQ1 => ?_
  have HQ1 := Lib.hid hQ1
  clear hQ1
  go_wp2_with fail
  refine (HR.out _).mono ?_
  rintro r w1 ⟨rfl, hb⟩
  have HB1 := Lib.hid (HB0.out.trans (hb.mono HB0.out.size))
  have HD1 := Lib.hid (HD0.out.below hb HD0.out.lt)
  have HL1 := Lib.hid (HL0.out.below hb HL0.out.lt)
  have kd := HD1.out.cells
  clear hb
  go_wp2_with fail
  refine (containshop_any (HHW.out.below HB1.out)).mono ?_
  rintro r w2 ⟨rfl, hb⟩
  have HB2 := Lib.hid (HB1.out.trans (hb.mono HB1.out.size))
  have HD2 := Lib.hid (HD1.out.below hb HD1.out.lt)
  have HL2 := Lib.hid (HL1.out.below hb HL1.out.lt)
  clear kd hb
  rw [HA.out]
  go_wp2
  refine HQ1.out _ _ _ ?_
  go_ret2
  exact ⟨rfl, HB2.out⟩
set_option maxRecDepth 100000 in
set_option maxHeartbeats 1600000 in
theorem wrapbytes_msg {v : Value} {hs : List Hp} {m : Ms} {mp md : Int} {w : World} (hH : HopsAt w v hs) (hn : (m.name.length : Int) ≤ 100000) (hd : (m.data.length : Int) ≤ 100000) (hmx : Mx w) (h1 : limOk mp md = true) (h2 : hs.length ≤ 4) (h3 : hs.all hopOk = true) (h4 : (bytesM m).2 ≠ 0) :
    Calls Tryz.prog 28 #[.agg (dgCs v m), .agg #[.int .i64 mp, .int .i64 md]] w fun e w' => e = .returned (.tuple #[.string ⟨(wrapB hs m mp md).1.toArray⟩, .int .i64 (wrapB hs m mp md).2]) ∧ Below w.heap.size w w' := by
  have e : wrapB hs m mp md = ([], (bytesM m).2) := by unfold wrapB; rw [if_neg (by simp [h1]), if_neg (by omega), if_neg (by simp [h3]), if_pos h4]
  have d1 : (hs.length : Int) ≤ 4 := by omega
  rw [e]
  have OD := Obj?.new w (dgCs v m) 45
  have hB1 := below_al (Below.refl _ w) (.cells (dgCs v m) 45 (0, 0))
  have OL := Obj?.new (w.alloc (.cells (dgCs v m) 45 (0, 0))) #[.int .i64 mp, .int .i64 md] 56
  rw [World.size_alloc] at OL
  have OD1 := OD.alloc (.cells #[.int .i64 mp, .int .i64 md] 56 (0, 0))
  have hB2 := below_al hB1 (.cells #[.int .i64 mp, .int .i64 md] 56 (0, 0))
  have HD0 := Lib.hid OD1
  have HL0 := Lib.hid OL
  have HB0 := Lib.hid hB2
  have HHW := Lib.hid hH
  have HMW := Lib.hid hmx
  have HR := Lib.hid (fun w => right_any mp md w)
  have HBy := Lib.hid (fun w hm => msbytes_any m hn hd w hm)
  clear OD OL hB1 OD1 hB2 hmx hn hd
  have HA := Lib.hid h3
  obtain ⟨y, hy⟩ : ∃ y, y = (bytesM m).2 := ⟨_, rfl⟩
  rw [← hy] at HBy h4 ⊢
  have d2 : (y != 0) = true := by simpa using h4
  rw [h1] at HR
  clear e h1 h3 hy
  unfold dgCs at HD0 HL0 HB0 ⊢
  obtain ⟨a0, cap, rfl, -, hlm, -⟩ := hH
  go_enter Tryz.func28, Tryz.ntmps28
  refine wp_hide fun Q1 hQ1 => ?_
  have HQ1 := Lib.hid hQ1
  clear hQ1
  go_wp2_with fail
  refine (HR.out _).mono ?_
  rintro r w1 ⟨rfl, hb⟩
  have HB1 := Lib.hid (HB0.out.trans (hb.mono HB0.out.size))
  have HD1 := Lib.hid (HD0.out.below hb HD0.out.lt)
  have HL1 := Lib.hid (HL0.out.below hb HL0.out.lt)
  have kd := HD1.out.cells
  clear hb
  go_wp2_with fail
  refine (containshop_any (HHW.out.below HB1.out)).mono ?_
  rintro r w2 ⟨rfl, hb⟩
  have HB2 := Lib.hid (HB1.out.trans (hb.mono HB1.out.size))
  have HD2 := Lib.hid (HD1.out.below hb HD1.out.lt)
  have HL2 := Lib.hid (HL1.out.below hb HL1.out.lt)
  clear kd hb
  rw [HA.out]
  have hld := load_dgmsg (v := .slice a0 hs.length cap) (m := m) HD2.out
  go_wp2_with fail
  refine (HBy.out _ (HMW.out.below HB2.out HMW.out.1)).mono ?_
  rintro r w3 ⟨rfl, hb⟩
  have HB3 := Lib.hid (HB2.out.trans (hb.mono HB2.out.size))
  have HD3 := Lib.hid (HD2.out.below hb HD2.out.lt)
  have HL3 := Lib.hid (HL2.out.below hb HL2.out.lt)
  clear hld hb
  go_wp2
  refine HQ1.out _ _ _ ?_
  go_ret2
  exact ⟨rfl, HB3.out⟩
set_option maxRecDepth 100000 in
set_option maxHeartbeats 1600000 in
theorem wrapbytes_go {v : Value} {hs : List Hp} {m : Ms} {mp md : Int} {w : World} (hH : HopsAt w v hs) (hn : (m.name.length : Int) ≤ 100000) (hd : (m.data.length : Int) ≤ 100000) (hmx : Mx w) (h1 : limOk mp md = true) (h2 : hs.length ≤ 4) (h3 : hs.all hopOk = true) (h4 : (bytesM m).2 = 0) :
    Calls Tryz.prog 28 #[.agg (dgCs v m), .agg #[.int .i64 mp, .int .i64 md]] w fun e w' => e = .returned (.tuple #[.string ⟨(wrapB hs m mp md).1.toArray⟩, .int .i64 (wrapB hs m mp md).2]) ∧ Below w.heap.size w w' := by
  have d1 : (hs.length : Int) ≤ 4 := by omega
  have OD := Obj?.new w (dgCs v m) 45
  have hB1 := below_al (Below.refl _ w) (.cells (dgCs v m) 45 (0, 0))
  have OL := Obj?.new (w.alloc (.cells (dgCs v m) 45 (0, 0))) #[.int .i64 mp, .int .i64 md] 56
  rw [World.size_alloc] at OL
  have OD1 := OD.alloc (.cells #[.int .i64 mp, .int .i64 md] 56 (0, 0))
  have hB2 := below_al hB1 (.cells #[.int .i64 mp, .int .i64 md] 56 (0, 0))
  have HD0 := Lib.hid OD1
  have HL0 := Lib.hid OL
  have HB0 := Lib.hid hB2
  have HHW := Lib.hid hH
  have HMW := Lib.hid hmx
  have HR := Lib.hid (fun w => right_any mp md w)
  have HBy := Lib.hid (fun w hm => msbytes_any m hn hd w hm)
  clear OD OL hB1 OD1 hB2 hmx hn hd
  have HA := Lib.hid h3
  have hBl := bytesM_len m
  have hHl := hopsL_take_len h3
  obtain ⟨B, hB⟩ : ∃ B, B = (bytesM m).1 := ⟨_, rfl⟩
  obtain ⟨H, hH'⟩ : ∃ H, H = hopsL hs := ⟨_, rfl⟩
  have e : wrapB hs m mp md = if mp < ((H ++ B).length : Int) then ([], 4) else (H ++ B, 0) := by unfold wrapB; rw [if_neg (by simp [h1]), if_neg (by omega), if_neg (by simp [h3]), if_neg (by simp [h4]), hB, hH']
  have hbe : bytesM m = (B, 0) := by rw [hB, ← h4]
  rw [hbe] at HBy
  rw [← hB] at hBl
  rw [← hH'] at hHl
  have HE := Lib.hid e
  have HHE := Lib.hid hH'
  rw [h1] at HR
  have HMP := Lib.hid (show 16 ≤ mp ∧ mp ≤ 1048576 by simp only [limOk, decide_eq_true_eq] at h1; omega)
  have HOK := Lib.hid (fun (k : Nat) (hk : k < hs.length) => (show hopOk hs[k] = true from List.all_eq_true.1 h3 _ (List.getElem_mem hk)))
  have HTK := Lib.hid (fun (k : Nat) (hk : k ≤ hs.length) => (show (hopsL (hs.take k)).length ≤ 140 by
    have := hopsL_take_len (hs := hs.take k) (List.all_eq_true.2 fun x hx => List.all_eq_true.1 h3 x (List.mem_of_mem_take hx))
    rw [List.length_take] at this; omega))
  clear h1 h3 h4 e hH' hbe hB
  unfold dgCs at HD0 HL0 HB0 ⊢
  obtain ⟨a0, cap, rfl, -, hlm, -⟩ := hH
  go_enter Tryz.func28, Tryz.ntmps28
  refine wp_hide fun Q1 hQ1 => ?_
  have HQ1 := Lib.hid hQ1
  clear hQ1
  go_wp2_with fail
  refine (HR.out _).mono ?_
  rintro r w1 ⟨rfl, hb⟩
  have HB1 := Lib.hid (HB0.out.trans (hb.mono HB0.out.size))
  have HD1 := Lib.hid (HD0.out.below hb HD0.out.lt)
  have HL1 := Lib.hid (HL0.out.below hb HL0.out.lt)
  have kd := HD1.out.cells
  clear hb
  go_wp2_with fail
  refine (containshop_any (HHW.out.below HB1.out)).mono ?_
  rintro r w2 ⟨rfl, hb⟩
  have HB2 := Lib.hid (HB1.out.trans (hb.mono HB1.out.size))
  have HD2 := Lib.hid (HD1.out.below hb HD1.out.lt)
  have HL2 := Lib.hid (HL1.out.below hb HL1.out.lt)
  clear kd hb
  rw [HA.out]
  have hld := load_dgmsg (v := .slice a0 hs.length cap) (m := m) HD2.out
  go_wp2_with fail
  refine (HBy.out _ (HMW.out.below HB2.out HMW.out.1)).mono ?_
  rintro r w3 ⟨rfl, hb⟩
  have HB3 := Lib.hid (HB2.out.trans (hb.mono HB2.out.size))
  have HD3 := Lib.hid (HD2.out.below hb HD2.out.lt)
  have HL3 := Lib.hid (HL2.out.below hb HL2.out.lt)
  clear hld hb
  obtain ⟨n, hN⟩ : ∃ n, n = hs.length := ⟨_, rfl⟩
  have HN := Lib.hid hN
  have hn4 : n ≤ 4 := by omega
  have kd : ∀ j, w3.cell? ⟨w.heap.size, j, none⟩ = _ := HD3.out.cells
  rw [← hN] at kd ⊢
  have hlm' : (n : Int) ≤ 9223372036854775807 := by omega
  clear hN hlm d1 h2 hHl
  go_wp2
  clear kd
  go_loopg [8, 33] (n + 1) (fun g s i wr => ∃ k : Nat, g + k = n + 1 ∧ k ≤ n ∧ i = .int .i64 k ∧ s = .string ⟨(hopsL (hs.take k)).toArray⟩ ∧ Hid (Below w.heap.size w wr ∧ Obj? wr (w.heap.size + 1) #[.int .i64 mp, .int .i64 md] 56))
  case atStart => exact ⟨0, by omega, by omega, rfl, rfl, Lib.hid ⟨HB3.out, HL3.out⟩⟩
  case round =>
    obtain ⟨k, hgk, hkn, rfl, rfl, HI⟩ := hrel
    have HGK := Lib.hid (And.intro hgk hkn)
    clear hgk
    by_cases hlt : k < n
    · have hk' : k < hs.length := by rw [← HN.out]; exact hlt
      obtain ⟨a', cap', e1, -, -, hc⟩ := HHW.out
      obtain ⟨rfl, rfl⟩ : a' = a0 ∧ cap' = cap := by cases e1; exact ⟨rfl, rfl⟩
      obtain ⟨b, off, rfl, hlb, hc⟩ := hc.resolve_left (fun e => by rw [e] at hk'; cases hk')
      obtain ⟨c0, c1⟩ := hc k hk'
      have k0 := (HI.out.1.cell (p := ⟨b, off + k * 2, none⟩) hlb).trans c0
      have k1 := (HI.out.1.cell (p := ⟨b, off + k * 2 + 1, none⟩) hlb).trans c1
      clear hc c0 c1 e1
      have HW := Lib.hid (fun w => hopbytes_any hs[k] (HOK.out k hk') w)
      obtain ⟨S, hS⟩ : ∃ S, S = hopsL (hs.take k) := ⟨_, rfl⟩
      obtain ⟨T, hT⟩ : ∃ T, T = hopL hs[k] := ⟨_, rfl⟩
      have hST : hopsL (hs.take (k + 1)) = S ++ T := by rw [hS, hT]; exact hopsL_snoc hs k hk'
      have lS : S.length ≤ 140 := by rw [hS]; exact HTK.out k (by omega)
      have lST := HTK.out (k + 1) (by omega)
      rw [hST, List.length_append] at lST
      have HST := Lib.hid hST
      rw [← hT] at HW
      rw [← hS]
      obtain ⟨rad, hrad⟩ : ∃ rad, rad = hs[k].rad := ⟨_, rfl⟩
      obtain ⟨node, hnode⟩ : ∃ node, node = hs[k].node := ⟨_, rfl⟩
      rw [← hrad] at k0 HW
      rw [← hnode] at k1 HW
      clear hrad hnode hS hT hST hk'
      have hx : ByteArray.mk S.toArray ++ ByteArray.mk T.toArray = ByteArray.mk (S ++ T).toArray := ByteArray.mk_append_mk _ _
      have y1 : ¬ (9223372036854775807 : Nat) < S.length + T.length := by omega
      have d3 : decide ((k : Int) < n) = true := decide_eq_true (by omega)
      have hki : (k : Int) < n := by omega
      have HBn := Lib.hid (below_al HI.out.1 (.cells #[.int .i64 rad, .string ⟨node.toArray⟩] 49 (0, 0)))
      have HLn := Lib.hid (HI.out.2.alloc (.cells #[.int .i64 rad, .string ⟨node.toArray⟩] 49 (0, 0)))
      clear lS lST hlt
      go_wp2_with fail
      refine (HW.out _).mono ?_
      rintro r w4 ⟨rfl, hb⟩
      have HBm := Lib.hid (HBn.out.trans (hb.mono HBn.out.size))
      have HLm := Lib.hid (HLn.out.below hb HLn.out.lt)
      clear hb
      go_wp2
      go_roundg (gk - 1)
      case measure => have := HGK.out; omega
      case rel => exact ⟨k + 1, by have := HGK.out; omega, by omega, by go_num, by rw [HST.out], Lib.hid ⟨HBm.out, HLm.out⟩⟩
    · obtain rfl : k = n := by omega
      have hT : hopsL (hs.take k) = H := by rw [HN.out, List.take_length]; exact HHE.out.symm
      rw [hT]
      have hHl : H.length ≤ 140 := by rw [← hT]; exact HTK.out k (by have := HN.out; omega)
      have kl := HI.out.2.cells
      have hs1 : IntKind.i64.wrap ((H.length : Int) + (B.length : Int)) = (H.length : Int) + (B.length : Int) := by rw [IntKind.wrap_i64]; omega
      have hx : ByteArray.mk H.toArray ++ ByteArray.mk B.toArray = ByteArray.mk (H ++ B).toArray := ByteArray.mk_append_mk _ _
      have y1 : ¬ (9223372036854775807 : Nat) < H.length + B.length := by omega
      have HX := Lib.hid hx
      clear hT hs1 hx
      by_cases h6 : mp < (H.length : Int) + (B.length : Int)
      · have e : wrapB hs m mp md = ([], 4) := by rw [HE.out, if_pos (by rw [List.length_append]; omega)]
        have HR4 := Lib.hid e
        clear e
        go_wp2
        refine HQ1.out _ _ _ ?_
        rw [HR4.out]
        go_ret2
        exact ⟨rfl, HI.out.1⟩
      · have e : wrapB hs m mp md = (H ++ B, 0) := by rw [HE.out, if_neg (by rw [List.length_append]; omega)]
        have HR4 := Lib.hid e
        have hx := HX.out
        clear e
        go_wp2
        refine HQ1.out _ _ _ ?_
        rw [HR4.out]
        go_ret2
        exact ⟨rfl, HI.out.1⟩
theorem wrapbytes_any {v : Value} {hs : List Hp} {m : Ms} {mp md : Int} {w : World} (hH : HopsAt w v hs) (hn : (m.name.length : Int) ≤ 100000) (hd : (m.data.length : Int) ≤ 100000) (hmx : Mx w) :
    Calls Tryz.prog 28 #[.agg (dgCs v m), .agg #[.int .i64 mp, .int .i64 md]] w fun e w' => e = .returned (.tuple #[.string ⟨(wrapB hs m mp md).1.toArray⟩, .int .i64 (wrapB hs m mp md).2]) ∧ Below w.heap.size w w' := by
  cases h1 : limOk mp md with
  | false => exact wrapbytes_lim hH hn hd hmx h1
  | true =>
    by_cases h2 : 4 < hs.length
    · exact wrapbytes_full hH hn hd hmx h1 h2
    cases h3 : hs.all hopOk with
    | false => exact wrapbytes_hop hH hn hd hmx h1 (by omega) h3
    | true =>
      by_cases h4 : (bytesM m).2 = 0
      · exact wrapbytes_go hH hn hd hmx h1 (by omega) h3 h4
      · exact wrapbytes_msg hH hn hd hmx h1 (by omega) h3 h4
end Go.Proofs.YtbacnaplpfmpnaaGreatDoor
namespace Go.Proofs.YtbacnaplpfmpnaaGreatDoor
open Go.RowKit
set_option linter.unusedVariables false
set_option linter.unusedSimpArgs false
theorem load_Dg (a : Addr) : loadVar 45 a = rowSem 45 a := rfl
theorem store_Dg (a : Addr) (v : Value) : storeVar 45 a v = rowStore 45 a v := rfl
attribute [local go_sem ↓] load_Msg store_Msg load_Dg store_Dg
attribute [local irreducible] rowSem rowStore
theorem infoDg : (Tryz.prog.info? 45).map (·.size) = some 17 := by kernel_rfl
theorem load_dg {w : World} {b : Nat} {v : Value} {m : Ms} (h : Obj? w b (dgCs v m) 45) : (rowSem 45 ⟨b, 0, none⟩).run Tryz.prog w = .ok (.agg (dgCs v m)) w :=
  rowSem_run w b 45 45 _ _ h Tryz.underlying45 rfl infoDg
set_option maxRecDepth 100000 in
theorem wrapcheck_any {v : Value} {hs : List Hp} {m : Ms} {mp md : Int} {w : World} (hH : HopsAt w v hs) (hn : (m.name.length : Int) ≤ 100000) (hd : (m.data.length : Int) ≤ 100000) (hmx : Mx w) :
    Calls Tryz.prog 32 #[.agg (dgCs v m), .agg #[.int .i64 mp, .int .i64 md]] w fun e w' => e = .returned (.int .i64 (wrapB hs m mp md).2) ∧ Below w.heap.size w w' := by
  have OD := Obj?.new w (dgCs v m) 45
  have hB1 := below_al (Below.refl _ w) (.cells (dgCs v m) 45 (0, 0))
  have OD1 := OD.alloc (.cells #[.int .i64 mp, .int .i64 md] 56 (0, 0))
  have hB2 := below_al hB1 (.cells #[.int .i64 mp, .int .i64 md] 56 (0, 0))
  have hld := load_dg OD1
  have HW := Lib.hid (wrapbytes_any (mp := mp) (md := md) (hH.below hB2) hn hd (hmx.below hB2 hmx.1))
  have HB := Lib.hid hB2
  obtain ⟨B, hB⟩ : ∃ B, B = (wrapB hs m mp md).1 := ⟨_, rfl⟩
  obtain ⟨y, hy⟩ : ∃ y, y = (wrapB hs m mp md).2 := ⟨_, rfl⟩
  rw [← hB, ← hy] at HW
  rw [← hy]
  clear hB hy hB2 hB1 OD1 OD hH hmx hn hd
  unfold dgCs at hld HW HB ⊢
  go_enter Tryz.func32, Tryz.ntmps32
  go_wp2_with fail
  refine HW.out.mono ?_
  rintro r w1 ⟨rfl, hb⟩
  have HB1 := Lib.hid (HB.out.trans (hb.mono HB.out.size))
  clear hb hld
  go_wp2
  go_ret
  exact ⟨rfl, HB1.out⟩
theorem hop_ext {a b : Hp} : a = b ↔ a.rad = b.rad ∧ a.node = b.node := by
  cases a; cases b; simp
/-- Hop k of hops that lie in memory. -/
theorem hopat_cell {w : World} {a : Option Addr} {cap n : Nat} {hs : List Hp} (h : HopsAt w (.slice a n cap) hs) (k : Nat) (hk : k < hs.length) :
    ∃ b off, a = some ⟨b, off, none⟩ ∧ b < w.heap.size ∧ w.cell? ⟨b, off + k * 2, none⟩ = some (.int .i64 hs[k].rad) ∧ w.cell? ⟨b, off + k * 2 + 1, none⟩ = some (.string ⟨hs[k].node.toArray⟩) := by
  obtain ⟨a', cap', e1, -, -, hc⟩ := h
  obtain ⟨b, off, rfl, hlb, hc⟩ := hc.resolve_left (fun e => by rw [e] at hk; cases hk)
  cases e1
  exact ⟨b, off, rfl, hlb, hc k hk⟩
set_option maxRecDepth 100000 in
set_option maxHeartbeats 1600000 in
theorem equalhops_any {va vb : Value} {ha hb : List Hp} {w : World} (hA : HopsAt w va ha) (hB : HopsAt w vb hb) :
    Calls Tryz.prog 77 #[va, vb] w fun e w' => e = .returned (.bool (decide (ha = hb))) ∧ Below w.heap.size w w' := by
  have HA := Lib.hid hA
  have HB := Lib.hid hB
  obtain ⟨a, cap, rfl, -, la, -⟩ := hA
  obtain ⟨b, cap', rfl, -, lb, -⟩ := hB
  obtain ⟨n, hN⟩ : ∃ n, n = ha.length := ⟨_, rfl⟩
  obtain ⟨n', hN'⟩ : ∃ n', n' = hb.length := ⟨_, rfl⟩
  rw [← hN] at la HA
  rw [← hN'] at lb HB
  rw [← hN, ← hN']
  by_cases hne : n = n'
  rotate_left
  · have e : decide (ha = hb) = false := decide_eq_false (fun h => hne (by rw [hN, hN', h]))
    have d1 : ((n : Int) == n') = false := by apply beq_eq_false_iff_ne.2; omega
    have d2 : ((n : Int) != n') = true := by simp; omega
    rw [e]
    clear e hN hN' hne
    go_enter Tryz.func77, Tryz.ntmps77
    go_wp2
    go_ret
    exact ⟨rfl, Below.refl _ _⟩
  · subst hne
    have HN := Lib.hid (And.intro hN hN')
    clear hN hN' lb
    go_enter Tryz.func77, Tryz.ntmps77
    go_wp2
    go_loopg [13] (n + 1) (fun g i wr => ∃ k : Nat, g + k = n + 1 ∧ k ≤ n ∧ i = .int .i64 k ∧ Hid (ha.take k = hb.take k ∧ Below w.heap.size w wr))
    case atStart => exact ⟨0, by omega, by omega, rfl, Lib.hid ⟨rfl, Below.refl _ _⟩⟩
    case round =>
      obtain ⟨k, hgk, hkn, rfl, HI⟩ := hrel
      have HGK := Lib.hid (And.intro hgk hkn)
      clear hgk
      by_cases hlt : k < n
      · have hka : k < ha.length := by rw [← HN.out.1]; exact hlt
        have hkb : k < hb.length := by rw [← HN.out.2]; exact hlt
        obtain ⟨b1, o1, rfl, l1, c0, c1⟩ := hopat_cell HA.out k hka
        obtain ⟨b2, o2, rfl, l2, c2, c3⟩ := hopat_cell HB.out k hkb
        have k0 := (HI.out.2.cell (p := ⟨b1, o1 + k * 2, none⟩) l1).trans c0
        have k1 := (HI.out.2.cell (p := ⟨b1, o1 + k * 2 + 1, none⟩) l1).trans c1
        have k2 := (HI.out.2.cell (p := ⟨b2, o2 + k * 2, none⟩) l2).trans c2
        have k3 := (HI.out.2.cell (p := ⟨b2, o2 + k * 2 + 1, none⟩) l2).trans c3
        clear c0 c1 c2 c3
        have hst : ha[k] = hb[k] → ha.take (k + 1) = hb.take (k + 1) := fun e => by
          rw [List.take_succ_eq_append_getElem hka, List.take_succ_eq_append_getElem hkb, HI.out.1, e]
        have hno : ha[k] ≠ hb[k] → decide (ha = hb) = false := fun e => decide_eq_false (fun h => e (by subst h; rfl))
        rw [ne_eq, hop_ext] at hno
        rw [hop_ext] at hst
        obtain ⟨r1, hr1⟩ : ∃ r, r = ha[k].rad := ⟨_, rfl⟩
        obtain ⟨r2, hr2⟩ : ∃ r, r = hb[k].rad := ⟨_, rfl⟩
        obtain ⟨t1, ht1⟩ : ∃ r, r = ha[k].node := ⟨_, rfl⟩
        obtain ⟨t2, ht2⟩ : ∃ r, r = hb[k].node := ⟨_, rfl⟩
        rw [← hr1] at k0
        rw [← ht1] at k1
        rw [← hr2] at k2
        rw [← ht2] at k3
        rw [← hr1, ← hr2, ← ht1, ← ht2] at hst hno
        clear hr1 hr2 ht1 ht2 hka hkb
        have d1 : decide ((k : Int) < n) = true := decide_eq_true (by omega)
        have hki : (k : Int) < n := by omega
        by_cases hrr : r1 = r2
        · by_cases htt : t1 = t2
          · have HS := Lib.hid (hst ⟨hrr, htt⟩)
            subst hrr htt
            clear hst hno hlt
            go_wp2
            go_quiet (fail)
            go_wp2
            go_roundg (gk - 1)
            case measure => have := HGK.out; omega
            case rel => exact ⟨k + 1, by have := HGK.out; omega, by omega, by go_num, Lib.hid ⟨HS.out, HI.out.2.trans (below_drewN (Below.refl _ _) _)⟩⟩
          · have HS := Lib.hid (hno (fun h => htt h.2))
            have d2 : (t1 == t2) = false := by simpa using htt
            subst hrr
            clear hst hno hlt htt
            go_wp2
            go_quiet (fail)
            go_wp2
            rw [HS.out]
            go_ret
            exact ⟨rfl, below_drewN HI.out.2 _⟩
        · have HS := Lib.hid (hno (fun h => hrr h.1))
          have d2 : (r1 == r2) = false := by simpa using hrr
          clear hst hno hlt hrr
          go_wp2
          go_quiet (fail)
          go_wp2
          rw [HS.out]
          go_ret
          exact ⟨rfl, below_drewN HI.out.2 _⟩
      · obtain rfl : k = n := by omega
        have HS := Lib.hid (show decide (ha = hb) = true from decide_eq_true (by have := HI.out.1; rwa [HN.out.1, List.take_length, ← HN.out.1, HN.out.2, List.take_length] at this))
        go_wp2
        rw [HS.out]
        go_ret
        exact ⟨rfl, HI.out.2⟩
end Go.Proofs.YtbacnaplpfmpnaaGreatDoor
namespace Go.Proofs.YtbacnaplpfmpnaaGreatDoor
open Go.RowKit
set_option linter.unusedVariables false
set_option linter.unusedSimpArgs false
attribute [local go_sem ↓] load_Msg store_Msg load_Dg store_Dg
attribute [local irreducible] rowSem rowStore
def lightH (hs : List Hp) : Bool := hs.all fun h => decide (h.node.length ≤ 300)
def lightD (hs : List Hp) (m : Ms) : Bool := decide (hs.length ≤ 8) && lightM m && lightH hs
set_option maxRecDepth 100000 in
set_option maxHeartbeats 1600000 in
theorem lightdg_any {v : Value} {hs : List Hp} {m : Ms} {w : World} (hH : HopsAt w v hs) :
    Calls Tryz.prog 24 #[.agg (dgCs v m)] w fun e w' => e = .returned (.bool (lightD hs m)) ∧ Below w.heap.size w w' := by
  have OD := Obj?.new w (dgCs v m) 45
  have hB1 := below_al (Below.refl _ w) (.cells (dgCs v m) 45 (0, 0))
  have hld := load_dgmsg OD
  have HL := Lib.hid (fun w => lightmsg_any m w)
  have HB := Lib.hid hB1
  have HO := Lib.hid OD
  have HH := Lib.hid hH
  obtain ⟨a, cap, rfl, -, hl, -⟩ := hH
  obtain ⟨n, hN⟩ : ∃ n, n = hs.length := ⟨_, rfl⟩
  rw [← hN] at hl HH HO HB hld ⊢
  by_cases h8 : 8 < n
  · have e : lightD hs m = false := by unfold lightD; rw [decide_eq_false (by omega)]; rfl
    have d1 : (8 : Int) < n := by omega
    rw [e]
    clear e h8 hN OD hB1
    unfold dgCs at hld HB ⊢
    go_enter Tryz.func24, Tryz.ntmps24
    go_wp2
    go_ret
    exact ⟨rfl, HB.out⟩
  have d1 : (n : Int) ≤ 8 := by omega
  cases hlm : lightM m with
  | false =>
    have e : lightD hs m = false := by unfold lightD; rw [hlm, Bool.and_false]; rfl
    rw [e]
    rw [hlm] at HL
    clear e h8 hN OD hB1 hlm
    unfold dgCs at hld HB ⊢
    go_enter Tryz.func24, Tryz.ntmps24
    go_wp2_with fail
    refine (HL.out _).mono ?_
    rintro r w1 ⟨rfl, hb⟩
    have HB1 := Lib.hid (HB.out.trans (hb.mono HB.out.size))
    clear hb hld
    go_wp2
    go_ret
    exact ⟨rfl, HB1.out⟩
  | true =>
    have e : lightD hs m = lightH hs := by unfold lightD; rw [hlm, decide_eq_true (by omega)]; rfl
    rw [e]
    rw [hlm] at HL
    have HN := Lib.hid hN
    clear e h8 hN OD hB1 hlm
    unfold dgCs at hld HB HO ⊢
    go_enter Tryz.func24, Tryz.ntmps24
    go_wp2_with fail
    refine (HL.out _).mono ?_
    rintro r w1 ⟨rfl, hb⟩
    have HB1 := Lib.hid (HB.out.trans (hb.mono HB.out.size))
    have HO1 := Lib.hid (HO.out.below hb HO.out.lt)
    clear hb hld
    go_wp2
    go_loopg [3] (n + 1) (fun g i wr => ∃ k : Nat, g + k = n + 1 ∧ k ≤ n ∧ i = .int .i64 k ∧ Hid (lightH (hs.take k) = true ∧ wr = w1))
    case atStart => exact ⟨0, by omega, by omega, rfl, Lib.hid ⟨rfl, rfl⟩⟩
    case round =>
      obtain ⟨k, hgk, hkn, rfl, HI⟩ := hrel
      have HGK := Lib.hid (And.intro hgk hkn)
      clear hgk
      obtain ⟨HT, hw⟩ := HI.out
      subst hw
      have HTT := Lib.hid HT
      clear HT
      have kd := HO1.out.cells
      by_cases hlt : k < n
      · have hk : k < hs.length := by rw [← HN.out]; exact hlt
        obtain ⟨b, off, rfl, lb, c0, c1⟩ := hopat_cell HH.out k hk
        have k1 := (HB1.out.cell (p := ⟨b, off + k * 2 + 1, none⟩) lb).trans c1
        clear c0 c1
        have htk : lightH (hs.take (k + 1)) = (lightH (hs.take k) && decide (hs[k].node.length ≤ 300)) := by unfold lightH; rw [List.take_succ_eq_append_getElem hk, List.all_append]; simp
        have hno : ¬ hs[k].node.length ≤ 300 → lightH hs = false := fun h => by
          unfold lightH
          rw [List.all_eq_false]
          exact ⟨hs[k], List.getElem_mem hk, by simpa using h⟩
        obtain ⟨t1, ht1⟩ : ∃ r, r = hs[k].node := ⟨_, rfl⟩
        rw [← ht1] at k1 htk hno
        clear ht1 hk
        have d3 : decide ((k : Int) < n) = true := decide_eq_true (by omega)
        have hki : (k : Int) < n := by omega
        by_cases h3 : t1.length ≤ 300
        · have h3i : (t1.length : Int) ≤ 300 := by omega
          have HS := Lib.hid (show lightH (hs.take (k + 1)) = true by rw [htk, HTT.out, decide_eq_true h3]; rfl)
          clear htk hno hlt h3
          go_wp2
          go_roundg (gk - 1)
          case measure => have := HGK.out; omega
          case rel => exact ⟨k + 1, by have := HGK.out; omega, by omega, by go_num, Lib.hid ⟨HS.out, rfl⟩⟩
        · have h3i : (300 : Int) < t1.length := by omega
          have HS := Lib.hid (hno h3)
          clear htk hno hlt h3
          go_wp2
          rw [HS.out]
          go_ret
          exact ⟨rfl, HB1.out⟩
      · obtain rfl : k = n := by omega
        have HS := Lib.hid (show lightH hs = true by have := HTT.out; rwa [HN.out, List.take_length] at this)
        go_wp2
        rw [HS.out]
        go_ret
        exact ⟨rfl, HB1.out⟩
end Go.Proofs.YtbacnaplpfmpnaaGreatDoor
