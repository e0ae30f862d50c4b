/- A stream's Feed at a PINGREQ. -/
import Derived.Test.YtlfgkdiehmoohaaGreatDoorTrJ
import Derived.LoopN
namespace Go.Proofs.YtlfgkdiehmoohaaGreatDoor
open Go Go.RowKit
set_option linter.unusedVariables false
set_option linter.unusedSimpArgs false
theorem infoZPk : (Tryz.prog.info? 55).map (fun i => (i.zero, i.size, i.bytes)) = some (some (.agg #[.int .i64 0, .bool false, .bool false, .int .i64 0, .int .i64 0, .string ⟨#[]⟩, .string ⟨#[]⟩, .bool false, .int .i64 0, .string ⟨#[]⟩, .bool false, .string ⟨#[]⟩, .bool false, .string ⟨#[]⟩, .bool false, .string ⟨#[]⟩, .string ⟨#[]⟩, .int .i64 0, .bool false, .slice none 0 0, .bool false, .int .i64 0, .slice none 0 0, .slice none 0 0, .slice none 0 0]), 25, 312) := by kernel_rfl
theorem built12 : Tryz.prog.builtSlice 55 1 [(0, .agg c12)] = some c12 := by unfold c12; kernel_rfl
theorem store_new12c (w : World) : (rowStore 55 ⟨w.heap.size, 0, none⟩ (.agg c12)).run Tryz.prog (w.alloc (.cells #[.int .i64 0, .bool false, .bool false, .int .i64 0, .int .i64 0, .string ⟨#[]⟩, .string ⟨#[]⟩, .bool false, .int .i64 0, .string ⟨#[]⟩, .bool false, .string ⟨#[]⟩, .bool false, .string ⟨#[]⟩, .bool false, .string ⟨#[]⟩, .string ⟨#[]⟩, .int .i64 0, .bool false, .slice none 0 0, .bool false, .int .i64 0, .slice none 0 0, .slice none 0 0, .slice none 0 0] 55 (0, 0))) = .ok () (w.alloc (.cells c12 55 (0, 0))) := by
  have h := store_12 (Obj?.new w #[.int .i64 0, .bool false, .bool false, .int .i64 0, .int .i64 0, .string ⟨#[]⟩, .string ⟨#[]⟩, .bool false, .int .i64 0, .string ⟨#[]⟩, .bool false, .string ⟨#[]⟩, .bool false, .string ⟨#[]⟩, .bool false, .string ⟨#[]⟩, .string ⟨#[]⟩, .int .i64 0, .bool false, .slice none 0 0, .bool false, .int .i64 0, .slice none 0 0, .slice none 0 0, .slice none 0 0] 55)
  rw [World.setRow_alloc_new] at h
  exact h
theorem c12_len : c12.toList.length = 25 := by unfold c12; rfl
theorem c12_mem : ∀ u ∈ c12.toList, u.oneCell' = true := by
  intro u hu
  have h := c12_one
  rw [Array.all_eq_true] at h
  obtain ⟨i, hi, rfl⟩ := List.getElem_of_mem hu
  exact h i (by simpa using hi)
theorem grown_sp {w w' : World} {sp : Nat} {row : Option Nat} (h : w.grownBy w' row) (hr : row = none ∨ row = some sp) : w.grownBy w' (some sp) := by
  rcases hr with rfl | rfl
  · exact ⟨h.os, h.tape, h.output, h.size, fun k hk _ => h.block k hk (by simp)⟩
  · exact h
theorem addr_add (b j : Nat) : ((⟨b, 0, none⟩ : Addr).add j) = ⟨b, j, none⟩ := by cases j <;> simp [Addr.add]
theorem news12 (w : World) : ∀ j u, c12.toList[j]? = some u → (w.alloc (.cells c12 55 (0, 0))).cell? ((⟨w.heap.size, 0, none⟩ : Addr).add j) = some u := by
  intro j u hj
  have h := (Obj?.new w c12 55).cell j u (by simpa using hj)
  rw [addr_add]
  exact h
attribute [local go_sem ↓] load_Pk store_Pk
attribute [local irreducible] rowSem rowStore c12 c00
set_option maxRecDepth 100000 in
set_option maxHeartbeats 6400000 in
theorem feed_12 {w : World} {sp : Nat} (hO : Obj? w sp (stC 4 4096 (.slice none 0 0) 0 0 0) 67) :
    Calls Tryz.prog 10 #[.pointer (some ⟨sp, 0, none⟩), .string ⟨#[192, 0]⟩] w fun r w' => ∃ g c, r = .returned (.tuple #[.slice (some ⟨g, 0, none⟩) 1 c, .int .i64 0]) ∧ w.grownBy w' (some sp) ∧ g < w'.heap.size ∧ ∀ j u, c12[j]? = some u → w'.cell? ⟨g, j, none⟩ = some u := by
  obtain ⟨i0, hi, hz0, hz1, hz2⟩ := info_parts Tryz.infoU8
  obtain ⟨i1, hj, hy0, hy1, hy2⟩ := info_parts infoZPk
  have hB : sp + 1 ≤ w.heap.size := hO.lt
  have hown := World.ownsRow_nil w (sp + 1) 5 1
  have c5 := hO.cell 5 (.int .i64 0) rfl
  have c2 := hO.cell 2 (.slice none 0 0) rfl
  have HO := Lib.hid hO
  clear hO
  go_enter Tryz.func10, Tryz.ntmps10
  refine wp_hide fun Q1 hQ1 => ?_
  have HQ1 := Lib.hid hQ1
  clear hQ1
  go_upto_region 5 with fail
  go_wp2_with (at_builtin; refine Lib.wpList_append_own_string _ rfl _ _ 65 9 rfl (sp + 1) 5 i0 Tryz.underlying65 Tryz.underlying9 hi hz0 hz1 hz2 _ 0 [] rfl hown ⟨#[192, 0]⟩ rfl (by decide) (by decide) hB ?_; intro v' w1 hown1 hgrow _; replace hown1 : w1.ownsRow (sp + 1) 5 1 v' 2 (u8w [192, 0]) := (by exact hown1); obtain ⟨g, cap1, rfl⟩ := owns_succ hown1; have HO1 := Lib.hid (show Obj? w1 sp (stC 4 4096 (.slice none 0 0) 0 0 0) 67 from HO.out.kept hgrow (fun e => by cases e)); have HB1 := Lib.hid (grown_sp (sp := sp) hgrow (.inl rfl)); have f2 := HO1.out.frozen 2; have HW1 := Lib.hid hown1; have k2 := HO1.out.cell 2 (.slice none 0 0) rfl; clear hown1 hgrow c5 c2)
  have HO2 := Lib.hid (show Obj? (w1.setCell ⟨sp, 2, none⟩ (.slice (some ⟨g, 0, none⟩) 2 cap1)) sp (stC 4 4096 (.slice (some ⟨g, 0, none⟩) 2 cap1) 0 0 0) 67 from HO1.out.set 2 _)
  have HW2 := Lib.hid (show (w1.setCell ⟨sp, 2, none⟩ (.slice (some ⟨g, 0, none⟩) 2 cap1)).ownsRow (sp + 1) 5 1 (.slice (some ⟨g, 0, none⟩) 2 cap1) 2 (u8w [192, 0]) from ownsRow_setCell_below (a := ⟨sp, 2, none⟩) HW1.out (Nat.lt_succ_self sp) _)
  have HB2 := Lib.hid (grown_set HB1.out (p := ⟨sp, 2, none⟩) rfl (.slice (some ⟨g, 0, none⟩) 2 cap1))
  obtain ⟨W2, hW2⟩ : ∃ W, W = w1.setCell ⟨sp, 2, none⟩ (.slice (some ⟨g, 0, none⟩) 2 cap1) := ⟨_, rfl⟩
  rw [← hW2] at HO2 HW2 HB2
  rw [← hW2]
  clear hW2 HO1 HW1 HB1 f2 k2 hown hi hz0 hz1 hz2
  have hcap := owns_le HW2.out
  refine wp_loop_rounds 2 ?_
  rw [rounds_succ]
  go_wp2_with fail
  refine (next_12 HO2.out hcap (reads_w (l := [192, 0]) HW2.out)).mono ?_
  rintro r w3 ⟨rfl, hb⟩
  have hst := store_new12c w3
  have hl3 := load_12 (Obj?.new w3 c12 55)
  have HO3 := Lib.hid ((HO2.out.below hb HO2.out.lt).alloc (.cells c12 55 (0, 0)))
  have HB3 := Lib.hid (show w.grownBy (w3.alloc (.cells c12 55 (0, 0))) (some sp) from (HB2.out.trans (grown_below hb (some sp))).trans (World.grownBy_alloc _ _ _))
  clear hb HO2 HW2 HB2
  go_upto_region 13 with fail
  obtain ⟨W3, hW3⟩ : ∃ W, W = w3.alloc (.cells c12 55 (0, 0)) := ⟨_, rfl⟩
  rw [← hW3] at HO3 HB3 hl3
  rw [← hW3]
  clear hst
  have HC3 := Lib.hid (show w3.heap.size < W3.heap.size by rw [hW3]; simp)
  clear hW3
  have hown3 := World.ownsRow_nil (W3.alloc (.cells c12 55 (0, 0))) (sp + 1) 55 25
  have hB3 : sp + 1 ≤ (W3.alloc (.cells c12 55 (0, 0))).heap.size := (HO3.out.alloc _).lt
  have HO4 := Lib.hid (HO3.out.alloc (.cells c12 55 (0, 0)))
  have HB4 := Lib.hid (HB3.out.trans (World.grownBy_alloc _ (.cells c12 55 (0, 0)) _))
  go_wp2_with (first
    | (refine Great.wpList_buildSliceTo rfl 33 55 1 _ rfl W3.heap.size rfl (some 53) rfl Tryz.underlying33 c12 (Eq.trans (congrArg (Tryz.prog.builtSlice 55 1) (a₂ := [(0, .agg c12)]) (by kernel_rfl)) built12) ?_)
    | (at_builtin; refine wpList_append_own _ rfl _ _ 33 rfl (sp + 1) 55 i1 (.agg #[.int .i64 0, .bool false, .bool false, .int .i64 0, .int .i64 0, .string ⟨#[]⟩, .string ⟨#[]⟩, .bool false, .int .i64 0, .string ⟨#[]⟩, .bool false, .string ⟨#[]⟩, .bool false, .string ⟨#[]⟩, .bool false, .string ⟨#[]⟩, .string ⟨#[]⟩, .int .i64 0, .bool false, .slice none 0 0, .bool false, .int .i64 0, .slice none 0 0, .slice none 0 0, .slice none 0 0]) 25 312 Tryz.underlying33 hj hy0 hy1 hy2 rfl (by decide) _ 0 [] rfl hown3 ⟨W3.heap.size, 0, none⟩ 1 1 c12.toList rfl (by rw [c12_len]) (news12 W3) c12_mem (by decide) (by decide) hB3 ?_; intro v5 w5 hown5 hgrow5 _; obtain ⟨g5, cap5, rfl⟩ := owns_succ hown5; have HO5 := Lib.hid (HO4.out.kept hgrow5 (fun e => by cases e)); have HB5 := Lib.hid (HB4.out.trans (grown_sp (sp := sp) hgrow5 (.inl rfl))); have HW5 := Lib.hid hown5; clear hown5 hgrow5 hown3))
  refine (drop_2 HO5.out hcap).mono ?_
  rintro r w6 ⟨rfl, hw6⟩
  have HO6 := Lib.hid (show Obj? w6 sp (stC 4 4096 (.slice (some ⟨g, 0, none⟩) 0 0) 2 1 0) 67 from by rw [hw6]; exact ((HO5.out.set 2 (.slice (some ⟨g, 0, none⟩) 0 0)).set 3 (.int .i64 2)).set 4 (.int .i64 1))
  have HB6 := Lib.hid (show w.grownBy w6 (some sp) from by rw [hw6]; exact grown_set (grown_set (grown_set HB5.out (p := ⟨sp, 2, none⟩) rfl _) (p := ⟨sp, 3, none⟩) rfl _) (p := ⟨sp, 4, none⟩) rfl _)
  have HW6 := Lib.hid (show w6.ownsRow (sp + 1) 55 25 (.slice (some ⟨g5, 0, none⟩) 1 cap5) 1 c12.toList from by
    rw [hw6]
    exact ownsRow_setCell_below (a := ⟨sp, 4, none⟩) (ownsRow_setCell_below (a := ⟨sp, 3, none⟩) (ownsRow_setCell_below (a := ⟨sp, 2, none⟩) HW5.out (Nat.lt_succ_self sp) _) (Nat.lt_succ_self sp) _) (Nat.lt_succ_self sp) _)
  clear hw6 HO5 HB5 HW5 HO4 HB4 HO3 HB3 HC3 hl3 hB3 hj hy0 hy1 hy2
  go_wp2_with fail
  rw [rounds_succ]
  go_wp2_with fail
  refine (next_short (ks := []) (n := 0) HO6.out (by decide) (by decide) (by decide) (fun W _ => run_convert_bytes_arg (P := Tryz.prog) W 65 5 Tryz.underlying65 Tryz.underlying5 g 0 0 0 [] rfl (fun i hi => absurd hi (Nat.not_lt_zero _)) 9 Tryz.underlying9) (by decide)).mono ?_
  rintro r w7 ⟨rfl, hb⟩
  have hst := store_new00 w7
  have HW8 := Lib.hid (row_belowh (row_belowh HW6.out hb) (below_al (Below.refl _ _) (.cells c00 55 (0, 0))))
  have HB8 := Lib.hid (show w.grownBy (w7.alloc (.cells c00 55 (0, 0))) (some sp) from (HB6.out.trans (grown_below hb (some sp))).trans (World.grownBy_alloc _ _ _))
  clear hb HO6 HW6 HB6
  go_wp2_with fail
  refine HQ1.out _ _ _ ?_
  go_ret2
  exact ⟨g5, cap5, rfl, HB8.out, (HW8.out.lt g5 rfl).2, fun j u hj => by rw [← addr_add]; exact HW8.out.cells (g := g5) rfl j u (by simpa using hj)⟩
end Go.Proofs.YtlfgkdiehmoohaaGreatDoor
