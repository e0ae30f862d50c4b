/- polyglotkit.LightEvent at the zero event; polyglottop.acts. polyglottop.acts. -/
import Derived.Test.YtanofjmkkhocaaaGreatDoorTcX
import Derived.Deep.LoopGhost
set_option linter.unusedVariables false
set_option linter.unusedSimpArgs false
set_option maxRecDepth 100000
set_option maxHeartbeats 3200000
namespace Go.Proofs.YtanofjmkkhocaaaGreatDoor
open Go Go.RowKit Go.MapKept
theorem smallprops_nil (w : World) : Calls Tryz.prog 33 #[.slice none 0 0] w fun e w' => e = .returned (.bool true) ∧ Below w.heap.size w w' := by
 go_enter Tryz.func33, Tryz.ntmps33
 go_wp2
 go_loopg [3] 1 (fun g i wr => i = .int .i64 0 ∧ g = 1 ∧ Below w.heap.size w wr)
 case atStart => exact ⟨rfl, rfl, Below.refl _ _⟩
 case round =>
  obtain ⟨rfl, rfl, HI⟩ := hrel
  go_wp2
  go_ret
  exact ⟨rfl, HI⟩
theorem lightframe_zero (w : World) : Calls Tryz.prog 36 #[.agg fr0] w fun e w' => e = .returned (.bool true) ∧ Below w.heap.size w w' := by
 have k0 := (Obj?.new w fr0 41).cells
 have hB := below_al (Below.refl _ w) (.cells fr0 41 (0, 0))
 unfold fr0 at k0 hB ⊢
 go_enter Tryz.func36, Tryz.ntmps36
 go_wp2
 go_loopg [3] 1 (fun g i wr => i = .int .i64 0 ∧ g = 1 ∧ Below w.heap.size w wr ∧ wr.cell? ⟨w.heap.size, 3, none⟩ = some (.slice none 0 0))
 case atStart => exact ⟨rfl, rfl, hB, k0 3⟩
 case round =>
  obtain ⟨rfl, rfl, HI, k3⟩ := hrel
  go_wp2
  go_ret
  exact ⟨rfl, HI⟩
theorem smallpacket_zero (w : World) : Calls Tryz.prog 34 #[.agg pk0] w fun e w' => e = .returned (.bool true) ∧ Below w.heap.size w w' := by
 have O0 := Obj?.new w pk0 34
 have hB := below_al (Below.refl _ w) (.cells pk0 34 (0, 0))
 have HO := Lib.hid O0
 have k0 := O0.cells
 unfold pk0 at k0 hB HO ⊢
 clear O0
 go_enter Tryz.func34, Tryz.ntmps34
 go_wp2
 go_loopg [3] 1 (fun g i wr => i = .int .i64 0 ∧ g = 1 ∧ wr = w.alloc (.cells pk0 34 (0, 0)))
 case atStart => exact ⟨rfl, rfl, rfl⟩
 case round =>
  obtain ⟨rfl, rfl, rfl⟩ := hrel
  have HZ := Lib.hid (show ∀ V, Below (w.alloc (.cells pk0 34 (0, 0))).heap.size (w.alloc (.cells pk0 34 (0, 0))) V → Below w.heap.size w V ∧ ∀ j, V.cell? ⟨w.heap.size, j, none⟩ = pk0[j]? from fun V hV => ⟨below_thn hB hV, (HO.out.below hV HO.out.lt).cells⟩)
  unfold pk0 at HZ ⊢
  clear HO hB
  go_wp2_with fail
  refine (smallprops_nil _).mono ?_
  rintro e V1 ⟨rfl, hb1⟩
  clear k0
  have k1 := (HZ.out V1 hb1).2
  go_wp2_with fail
  refine (smallprops_nil _).mono ?_
  rintro e V2 ⟨rfl, hb2⟩
  have hb2 := below_thn hb1 hb2
  clear k1
  have k2 := (HZ.out V2 hb2).2
  go_wp2_with fail
  go_ret
  exact ⟨rfl, (HZ.out V2 hb2).1⟩
end Go.Proofs.YtanofjmkkhocaaaGreatDoor
namespace Go.Proofs.YtanofjmkkhocaaaGreatDoor
open Go Go.RowKit Go.MapKept
attribute [local go_sem ↓] load_Msg load_Pk load_Fr
attribute [local irreducible] rowSem rowStore
theorem lightevent_zero (w : World) : Calls Tryz.prog 15 #[.agg evZ] w fun e w' => e = .returned (.bool true) ∧ Below w.heap.size w w' := by
 have O0 := Obj?.new w evZ 43
 have hB := below_al (Below.refl _ w) (.cells evZ 43 (0, 0))
 have HZ := Lib.hid (show ∀ V, Below (w.alloc (.cells evZ 43 (0, 0))).heap.size (w.alloc (.cells evZ 43 (0, 0))) V → Below w.heap.size w V ∧ V.cell? ⟨w.heap.size, 2, none⟩ = some (.string ⟨#[]⟩) ∧ V.cell? ⟨w.heap.size, 3, none⟩ = some (.string ⟨#[]⟩) ∧ V.cell? ⟨w.heap.size, 8, none⟩ = some (.slice none 0 0) ∧ V.cell? ⟨w.heap.size, 10, none⟩ = some (.slice none 0 0) ∧ (rowSem 34 ⟨w.heap.size, 12, none⟩).run Tryz.prog V = .ok (.agg pk0) V ∧ (rowSem 38 ⟨w.heap.size, 37, none⟩).run Tryz.prog V = .ok (.agg #[.int .i64 0, .bool false, .int .i64 0, .bool false, .bool false, .bool false, .int .i64 0, .int .i64 0, .int .i64 0, .int .i64 0, .bool false, .int .i64 0, .int .i64 0, .int .i64 0, .string ⟨#[]⟩, .string ⟨#[]⟩]) V ∧ (rowSem 41 ⟨w.heap.size, 53, none⟩).run Tryz.prog V = .ok (.agg fr0) V from fun V hV => by
  have p := O0.below hV O0.lt
  rw [evZ_eq] at p
  exact ⟨below_thn hB hV, p.cell 2 _ rfl, p.cell 3 _ rfl, p.cell 8 _ rfl, p.cell 10 _ rfl, load_xpk p, load_xmsg p, load_xfr p⟩)
 obtain ⟨W, hW⟩ : ∃ W, W = w.alloc (.cells evZ 43 (0, 0)) := ⟨_, rfl⟩
 rw [← hW] at HZ
 obtain ⟨-, c2, c3, c8, c10, l1, l2, l3⟩ := HZ.out W (Below.refl _ _)
 rw [hW] at c2 c3 c8 c10 l1 l2 l3
 have HD := Lib.hid (fun W => lightdg_any (m := ms0) (hopsat_nil W))
 have hd : lightD [] ms0 = true := by decide
 rw [hd] at HD
 clear O0 hB hd
 unfold evZ at c2 c3 c8 c10 l1 l2 l3 hW ⊢
 go_enter Tryz.func15, Tryz.ntmps15
 go_wp2_with fail
 rw [← hW]
 clear hW c2 c3 c8 c10 l1 l2 l3
 refine (smallprops_nil _).mono ?_
 rintro e V1 ⟨rfl, hb1⟩
 obtain ⟨-, c2, c3, c8, c10, l1, l2, l3⟩ := HZ.out V1 hb1
 go_wp2_with fail
 refine (smallpacket_zero _).mono ?_
 rintro e V2 ⟨rfl, hb2⟩
 have hb2 := below_thn hb1 hb2
 clear c2 c3 c8 c10 l1 l2 l3
 obtain ⟨-, c2, c3, c8, c10, l1, l2, l3⟩ := HZ.out V2 hb2
 go_wp2_with fail
 refine (HD.out _).mono ?_
 rintro e V3 ⟨rfl, hb3⟩
 have hb3 := below_thn hb2 hb3
 clear c2 c3 c8 c10 l1 l2 l3
 obtain ⟨-, c2, c3, c8, c10, l1, l2, l3⟩ := HZ.out V3 hb3
 go_wp2_with fail
 refine (lightframe_zero _).mono ?_
 rintro e V4 ⟨rfl, hb4⟩
 have hb4 := below_thn hb3 hb4
 clear c2 c3 c8 c10 l1 l2 l3
 go_wp2_with fail
 go_ret
 exact ⟨rfl, (HZ.out V4 hb4).1⟩
end Go.Proofs.YtanofjmkkhocaaaGreatDoor
namespace Go.Proofs.YtanofjmkkhocaaaGreatDoor
open Go Go.RowKit Go.MapKept
attribute [local go_sem ↓] load_EvX
attribute [local irreducible] rowSem rowStore
def actC (s : List UInt8) : Array Value := #[.int .i64 0, .string ⟨s.toArray⟩, .int .i64 0, .int .i64 0, .string ⟨#[]⟩, .string ⟨#[]⟩, .int .i64 0, .bool false, .bool false, .int .i64 0, .slice none 0 0, .int .i64 0, .slice none 0 0, .int .i64 0, .int .i64 0, .bool false, .bool false, .int .i64 0, .int .i64 0, .string ⟨#[]⟩, .string ⟨#[]⟩, .bool false, .int .i64 0, .string ⟨#[]⟩, .bool false, .string ⟨#[]⟩, .bool false, .string ⟨#[]⟩, .bool false, .string ⟨#[]⟩, .string ⟨#[]⟩, .int .i64 0, .bool false, .slice none 0 0, .bool false, .int .i64 0, .slice none 0 0, .slice none 0 0, .slice none 0 0, .int .i64 0, .bool false, .int .i64 0, .bool false, .bool false, .bool false, .int .i64 0, .int .i64 0, .int .i64 0, .int .i64 0, .bool false, .int .i64 0, .int .i64 0, .int .i64 0, .string ⟨#[]⟩, .string ⟨#[]⟩, .int .i64 0, .int .i64 0, .string ⟨#[]⟩, .slice none 0 0]
theorem actC_eq (s : List UInt8) : actC s = #[.int .i64 0, .string ⟨s.toArray⟩] ++ evZ := by kernel_rfl
def ActsSaid (w : World) (cs : List (List UInt8)) (e : Ending) (w' : World) : Prop := ∃ b, e = .returned (.bool b) ∧ Below w.heap.size w w' ∧ (b = true → cs.length ≤ 20 ∧ ∀ s ∈ cs, s.length ≤ 600)
theorem act_at {W : World} {b o : Nat} {s : List UInt8} (h : ∀ j u, (actC s)[j]? = some u → W.cell? ⟨b, o + j, none⟩ = some u) : W.cell? ⟨b, o + 1, none⟩ = some (.string ⟨s.toArray⟩) ∧ (rowSem 43 ⟨b, o + 2, none⟩).run Tryz.prog W = .ok (.agg evZ) W := by
 refine ⟨h 1 _ (by rw [actC_eq, Array.getElem?_append_left (by simp)]; rfl), rowSem_mid W b (o + 2) 43 evZ _ (fun j v hv => ?_) Tryz.underlying43 rfl infoEvX⟩
 rw [Nat.add_assoc]
 refine h (2 + j) v ?_
 rw [actC_eq, Array.getElem?_append_right (by simp)]
 simpa using hv
theorem acts_any {w : World} {v : Value} {cs : List (List UInt8)} (h : RowOf actC 59 w v cs) (hs : ∀ s ∈ cs, (s.length : Int) ≤ 9223372036854775000) : Calls Tryz.prog 6 #[v] w (ActsSaid w cs) := by
 have HA := Lib.hid h
 have HSm := Lib.hid hs
 obtain ⟨a, cap, rfl, la, -⟩ := h
 obtain ⟨n, hN⟩ : ∃ n, n = cs.length := ⟨_, rfl⟩
 rw [← hN] at la HA ⊢
 have HN := Lib.hid hN
 clear hN hs
 go_enter Tryz.func6, Tryz.ntmps6
 go_wp2
 go_loopg [3, 4] (n + 1) (fun g c i wr => ∃ (k : Nat) (m : Nat), c = .int .i64 m ∧ i = .int .i64 k ∧ Hid (g + k = n + 1 ∧ k ≤ n ∧ m ≤ 600 ∧ (∀ j (hj : j < cs.length), j < k → cs[j].length ≤ 600) ∧ Below w.heap.size w wr))
 case atStart => exact ⟨0, 0, rfl, rfl, Lib.hid ⟨by omega, by omega, by omega, fun j hj h => by omega, Below.refl _ _⟩⟩
 case round =>
  obtain ⟨k, m, rfl, rfl, HG⟩ := hrel
  by_cases hlt : k < n
  ·have hka : k < cs.length := by rw [← HN.out]; exact hlt
   obtain ⟨b1, o1, rfl, l1, c1⟩ := (HA.out.below HG.out.2.2.2.2).at k hka
   obtain ⟨x1, le⟩ := act_at c1
   have hsk := HSm.out cs[k] (List.getElem_mem hka)
   obtain ⟨s, hx⟩ : ∃ s, s = cs[k] := ⟨_, rfl⟩
   rw [← hx] at x1 hsk
   have HXk := Lib.hid hx
   have d1 : decide ((k : Int) < n) = true := decide_eq_true (by omega)
   have hki : (k : Int) < n := by omega
   have hkw : wrap64 ((k : Int) + 1) = (k : Int) + 1 := by unfold wrap64; omega
   clear c1 hx
   by_cases h1 : s.length ≤ 600 ∧ m + s.length ≤ 600
   ·have hm1 : min (s.length : Int) 601 = s.length := by omega
    have hmw : wrap64 ((m : Int) + s.length) = (m : Int) + s.length := by unfold wrap64; omega
    have hmc : ¬ (600 : Int) < (m : Int) + s.length := by omega
    have HS := Lib.hid h1
    clear h1 hsk
    go_wp2_with fail
    refine (lightevent_zero _).mono ?_
    rintro e w9 ⟨rfl, hb⟩
    have HB := Lib.hid (below_thn HG.out.2.2.2.2 hb)
    clear hb le x1
    go_wp2_with fail
    go_roundg (gk - 1)
    case measure => have := HG.out.1; omega
    case rel => exact ⟨k + 1, m + s.length, by go_num, by go_num, Lib.hid ⟨by have := HG.out.1; omega, by omega, HS.out.2, fun j hj hjk => by
     by_cases e : j = k
     ·subst e; rw [← HXk.out]; exact HS.out.1
     ·exact HG.out.2.2.2.1 j hj (by omega), HB.out⟩⟩
   ·have hm0 : m ≤ 600 := HG.out.2.2.1
    by_cases h6 : s.length ≤ 601
    ·have hm1 : min (s.length : Int) 601 = s.length := by omega
     have hmw : wrap64 ((m : Int) + s.length) = (m : Int) + s.length := by unfold wrap64; omega
     have hmc : (600 : Int) < (m : Int) + s.length := by omega
     clear h1 hsk h6 hm0
     go_wp2_with fail
     go_ret
     exact ⟨false, rfl, HG.out.2.2.2.2, fun e => by cases e⟩
    ·have hm1 : min (s.length : Int) 601 = 601 := by omega
     have hmw : wrap64 ((m : Int) + 601) = (m : Int) + 601 := by unfold wrap64; omega
     have hmc : (600 : Int) < (m : Int) + 601 := by omega
     clear h1 hsk h6 hm0
     go_wp2_with fail
     go_ret
     exact ⟨false, rfl, HG.out.2.2.2.2, fun e => by cases e⟩
  ·obtain rfl : k = n := by have := HG.out.2.1; omega
   go_wp2_with fail
   go_ret
   refine ⟨decide ((k : Int) ≤ 20), rfl, HG.out.2.2.2.2, fun e => ⟨?_, fun x hx => ?_⟩⟩
   ·rw [← HN.out]
    have h := of_decide_eq_true e
    omega
   ·obtain ⟨j, hj, rfl⟩ := List.getElem_of_mem hx
    exact HG.out.2.2.2.1 j hj (by rw [HN.out]; exact hj)
end Go.Proofs.YtanofjmkkhocaaaGreatDoor
