/- head.strip, sameWill, Same; polyglotkit.SameWill, SamePacket at equal packets. -/
import Derived.Test.YtlfgkdiehmoohaaGreatDoorHeC
import Derived.Deep.RegionHeld3
namespace Go.Proofs.YtlfgkdiehmoohaaGreatDoor
open Go Go.RowKit
set_option linter.unusedVariables false
set_option linter.unusedSimpArgs false
theorem store_Br (a : Addr) (v : Value) : storeVar 230 a v = rowStore 230 a v := rfl
attribute [local go_sem ↓] load_Pk store_Pk load_Wl store_Br
attribute [local irreducible] rowSem rowStore

def scCs (s : Sc) : Array Value := #[.int .i64 s.ki, .int .i64 s.q, .int .i64 s.id, .int .i64 s.al, .int .i64 s.co, .bool s.du, .bool s.re, .bool s.cl, .bool s.hu, .bool s.hp, .bool s.hw, .bool s.se, .string ⟨s.top.toArray⟩, .string ⟨s.pay.toArray⟩, .string ⟨s.cli.toArray⟩, .string ⟨s.us.toArray⟩, .string ⟨s.pw.toArray⟩]
theorem infoBr : (Tryz.prog.info? 230).map (·.size) = some 17 := by kernel_rfl
theorem store_br {w : World} {b : Nat} {s : Sc} {old : Array Value} (h : Obj? w b old 230) (hs : old.size = 17) :
    (rowStore 230 ⟨b, 0, none⟩ (.agg (scCs s))).run Tryz.prog w = .ok () (w.setRow b (scCs s)) :=
  rowStore_run w b 230 230 old _ h infoBr hs (by simp [scCs, Value.oneCell'])
set_option maxRecDepth 100000 in
set_option maxHeartbeats 1600000 in
theorem strip_any (p : Pk) (vw vc vf vp : Value) (w : World) : Calls Tryz.prog 162 #[.agg (pkCs p vw vc vf vp)] w fun e w' => e = .returned (.agg (scCs p.s)) ∧ Below w.heap.size w w' := by
  have O1 := (Obj?.new w (pkCs p vw vc vf vp) 55).alloc (.cells #[.int .i64 0, .int .i64 0, .int .i64 0, .int .i64 0, .int .i64 0, .bool false, .bool false, .bool false, .bool false, .bool false, .bool false, .bool false, .string ⟨#[]⟩, .string ⟨#[]⟩, .string ⟨#[]⟩, .string ⟨#[]⟩, .string ⟨#[]⟩] 230 (0, 0))
  have O2 := Obj?.new (w.alloc (.cells (pkCs p vw vc vf vp) 55 (0, 0))) #[.int .i64 0, .int .i64 0, .int .i64 0, .int .i64 0, .int .i64 0, .bool false, .bool false, .bool false, .bool false, .bool false, .bool false, .bool false, .string ⟨#[]⟩, .string ⟨#[]⟩, .string ⟨#[]⟩, .string ⟨#[]⟩, .string ⟨#[]⟩] 230
  rw [World.size_alloc] at O2
  have hB := below_al (below_al (Below.refl _ w) (.cells (pkCs p vw vc vf vp) 55 (0, 0))) (.cells #[.int .i64 0, .int .i64 0, .int .i64 0, .int .i64 0, .int .i64 0, .bool false, .bool false, .bool false, .bool false, .bool false, .bool false, .bool false, .string ⟨#[]⟩, .string ⟨#[]⟩, .string ⟨#[]⟩, .string ⟨#[]⟩, .string ⟨#[]⟩] 230 (0, 0))
  have k := O1.cells
  have hst := store_br (s := p.s) O2 rfl
  have HO := Lib.hid (And.intro O2 hB)
  unfold scCs at hst
  simp only [pkCs] at k
  clear O1 O2 hB
  go_enter Tryz.func162, Tryz.ntmps162
  go_upto_region 1 with fail
  obtain ⟨W0, hW0⟩ : ∃ W0, W0 = (w.alloc (.cells (pkCs p vw vc vf vp) 55 (0, 0))).alloc (.cells #[.int .i64 0, .int .i64 0, .int .i64 0, .int .i64 0, .int .i64 0, .bool false, .bool false, .bool false, .bool false, .bool false, .bool false, .bool false, .string ⟨#[]⟩, .string ⟨#[]⟩, .string ⟨#[]⟩, .string ⟨#[]⟩, .string ⟨#[]⟩] 230 (0, 0)) := ⟨_, rfl⟩
  rw [← hW0] at hst HO
  rw [← hW0]
  simp only [pkCs] at hW0
  rw [← hW0] at k
  clear hW0
  (try dsimp only [List.append])
  go_wp2
  refine bodyPost_ret (results_row1 rfl _ _ _ _ _ _ rfl (HO.out.1.setRow _) Tryz.underlying230 rfl infoBr) rfl ?_
  exact ⟨rfl, below_row HO.out.2 (by omega) _⟩
theorem wl_world (a b : Wl) (va vb : Value) (w : World) : ∃ W0, (w.alloc (.cells (wlCs a va) 51 (0, 0))).alloc (.cells (wlCs b vb) 51 (0, 0)) = W0 ∧ Obj? W0 w.heap.size (wlCs a va) 51 ∧ Obj? W0 (w.heap.size + 1) (wlCs b vb) 51 ∧ Below w.heap.size w W0 := by
  refine ⟨_, rfl, (Obj?.new w _ _).alloc _, ?_, below_al (below_al (Below.refl _ w) _) _⟩
  have := Obj?.new (w.alloc (.cells (wlCs a va) 51 (0, 0))) (wlCs b vb) 51
  rw [World.size_alloc] at this
  exact this
set_option maxRecDepth 100000 in
set_option maxHeartbeats 3200000 in
theorem samewill_any {a b : Wl} {va vb : Value} {w : World} (hA : RowOf Pp.cs 4 w va a.props) (hB : RowOf Pp.cs 4 w vb b.props) :
    Calls Tryz.prog 163 #[.agg (wlCs a va), .agg (wlCs b vb)] w fun e w' => e = .returned (.bool (decide (a = b))) ∧ Below w.heap.size w w' := by
  obtain ⟨W0, hW0, O1, O2, hb0⟩ := wl_world a b va vb w
  have HO := Lib.hid hb0
  have HLl := Lib.hid (list_pp (hA.below hb0) (hB.below hb0))
  have k1 := O1.cells
  have k2 := O2.cells
  obtain ⟨aa, ca, rfl, -, -⟩ := hA
  obtain ⟨ab, cb, rfl, -, -⟩ := hB
  obtain ⟨t1, p1, q1, r1, l1⟩ := a
  obtain ⟨t2, p2, q2, r2, l2⟩ := b
  simp only at HLl
  simp only [wlCs] at k1 k2 hW0 ⊢
  clear O1 O2 hb0
  by_cases h : t1 = t2
  rotate_left
  · have HE := Lib.hid (show decide ((⟨t1, p1, q1, r1, l1⟩ : Wl) = ⟨t2, p2, q2, r2, l2⟩) = false from decide_eq_false (fun e => h (congrArg Wl.top e)))
    rw [HE.out]
    have e1 : (t1 == t2) = false := by simpa using h
    clear h HLl
    go_enter Tryz.func163, Tryz.ntmps163
    go_upto_region 1 with fail
    (try rw [hW0])
    clear hW0
    (try dsimp only [List.append])
    go_wp2
    go_ret
    exact ⟨rfl, HO.out⟩
  subst h
  by_cases h : p1 = p2
  rotate_left
  · have HE := Lib.hid (show decide ((⟨t1, p1, q1, r1, l1⟩ : Wl) = ⟨t1, p2, q2, r2, l2⟩) = false from decide_eq_false (fun e => h (congrArg Wl.pay e)))
    rw [HE.out]
    have e1 : (p1 == p2) = false := by simpa using h
    clear h HLl
    go_enter Tryz.func163, Tryz.ntmps163
    go_upto_region 1 with fail
    (try rw [hW0])
    clear hW0
    (try dsimp only [List.append])
    go_wp2
    go_ret
    exact ⟨rfl, HO.out⟩
  subst h
  by_cases h : q1 = q2
  rotate_left
  · have HE := Lib.hid (show decide ((⟨t1, p1, q1, r1, l1⟩ : Wl) = ⟨t1, p1, q2, r2, l2⟩) = false from decide_eq_false (fun e => h (congrArg Wl.q e)))
    rw [HE.out]
    have e1 : (q1 == q2) = false := by simpa using h
    clear h HLl
    go_enter Tryz.func163, Tryz.ntmps163
    go_upto_region 1 with fail
    (try rw [hW0])
    clear hW0
    (try dsimp only [List.append])
    go_wp2
    go_ret
    exact ⟨rfl, HO.out⟩
  subst h
  by_cases h : r1 = r2
  rotate_left
  · have HE := Lib.hid (show decide ((⟨t1, p1, q1, r1, l1⟩ : Wl) = ⟨t1, p1, q1, r2, l2⟩) = false from decide_eq_false (fun e => h (congrArg Wl.re e)))
    rw [HE.out]
    have e1 : (r1 == r2) = false := by simpa using h
    clear h HLl
    go_enter Tryz.func163, Tryz.ntmps163
    go_upto_region 1 with fail
    (try rw [hW0])
    clear hW0
    (try dsimp only [List.append])
    go_wp2
    go_ret
    exact ⟨rfl, HO.out⟩
  subst h
  have HE := Lib.hid (show decide ((⟨t1, p1, q1, r1, l1⟩ : Wl) = ⟨t1, p1, q1, r1, l2⟩) = decide (l1 = l2) by simp)
  rw [HE.out]
  go_enter Tryz.func163, Tryz.ntmps163
  go_upto_region 1 with fail
  (try rw [hW0])
  clear hW0
  (try dsimp only [List.append])
  go_wp2_with fail
  refine HLl.out.mono ?_
  rintro r w2 ⟨rfl, hb⟩
  have HB2 := Lib.hid (below_thenh HO.out hb)
  clear hb
  go_wp2
  go_ret
  exact ⟨rfl, HB2.out⟩
theorem pk_world (a b : Pk) (aw ac af ap bw bc bf bp : Value) (w : World) : ∃ W0, (w.alloc (.cells (pkCs a aw ac af ap) 55 (0, 0))).alloc (.cells (pkCs b bw bc bf bp) 55 (0, 0)) = W0 ∧ Obj? W0 w.heap.size (pkCs a aw ac af ap) 55 ∧ Obj? W0 (w.heap.size + 1) (pkCs b bw bc bf bp) 55 ∧ Below w.heap.size w W0 := by
  refine ⟨_, rfl, (Obj?.new w _ _).alloc _, ?_, below_al (below_al (Below.refl _ w) _) _⟩
  have := Obj?.new (w.alloc (.cells (pkCs a aw ac af ap) 55 (0, 0))) (pkCs b bw bc bf bp) 55
  rw [World.size_alloc] at this
  exact this
theorem PkAt.one {w : World} {p : Pk} {vw vc vf vp : Value} (h : PkAt w p vw vc vf vp) : (∃ a n c, vw = .slice a n c) ∧ (∃ a n c, vc = .slice a n c) ∧ (∃ a n c, vf = .slice a n c) ∧ (∃ a n c, vp = .slice a n c) := by
  obtain ⟨⟨a1, c1, e1, -⟩, ⟨a2, c2, e2, -⟩, ⟨a3, c3, e3, -⟩, ⟨a4, c4, e4, -⟩⟩ := h
  exact ⟨⟨_, _, _, e1⟩, ⟨_, _, _, e2⟩, ⟨_, _, _, e3⟩, ⟨_, _, _, e4⟩⟩
end Go.Proofs.YtlfgkdiehmoohaaGreatDoor
