/- The document's comparison of events: at two events of MQTT-SN that are the same. The document's comparison of lists of events; polyglotkit.Same at topics. -/
import Derived.Test.YtanofjmkkhocaaaGreatDoorTcV
import Derived.Test.YtanofjmkkhocaaaGreatDoorWrV
import Derived.Deep.LoopGhost
import Derived.Test.YtanofjmkkhocaaaGreatDoorTcL
import Derived.Deep.RegionHeld3
set_option linter.unusedVariables false
set_option linter.unusedSimpArgs false
set_option maxRecDepth 100000
set_option maxHeartbeats 3200000
namespace Go.Proofs.YtanofjmkkhocaaaGreatDoor
open Go Go.RowKit Go.MapKept
theorem psame_nil (w : World) : Calls Tryz.prog 48 #[.slice none 0 0, .slice none 0 0] w fun e w' => e = .returned (.bool true) ∧ Below w.heap.size w w' := by
 go_enter Tryz.func48, Tryz.ntmps48
 go_wp2
 go_loopg [5] 1 (fun g i wr => i = .int .i64 0 ∧ g = 1 ∧ Below w.heap.size w wr)
 case atStart => exact ⟨rfl, rfl, Below.refl _ _⟩
 case round =>
  obtain ⟨rfl, rfl, HI⟩ := hrel
  go_wp2
  go_ret
  exact ⟨rfl, HI⟩
theorem isame_nil (w : World) : Calls Tryz.prog 70 #[.slice none 0 0, .slice none 0 0] w fun e w' => e = .returned (.bool true) ∧ Below w.heap.size w w' := by
 go_enter Tryz.func70, Tryz.ntmps70
 go_wp2
 go_loopg [5] 1 (fun g i wr => i = .int .i64 0 ∧ g = 1 ∧ Below w.heap.size w wr)
 case atStart => exact ⟨rfl, rfl, Below.refl _ _⟩
 case round =>
  obtain ⟨rfl, rfl, HI⟩ := hrel
  go_wp2
  go_ret
  exact ⟨rfl, HI⟩
theorem lsame_nil (w : World) : Calls Tryz.prog 71 #[.slice none 0 0, .slice none 0 0] w fun e w' => e = .returned (.bool true) ∧ Below w.heap.size w w' := by
 go_enter Tryz.func71, Tryz.ntmps71
 go_wp2
 go_loopg [5] 1 (fun g i wr => i = .int .i64 0 ∧ g = 1 ∧ Below w.heap.size w wr)
 case atStart => exact ⟨rfl, rfl, Below.refl _ _⟩
 case round =>
  obtain ⟨rfl, rfl, HI⟩ := hrel
  go_wp2
  go_ret
  exact ⟨rfl, HI⟩
def pk0 : Array Value := #[.int .i64 0, .bool false, .bool false, .int .i64 0, .int .i64 0, .string ⟨#[]⟩, .string ⟨#[]⟩, .bool false, .int .i64 0, .string ⟨#[]⟩, .bool false, .string ⟨#[]⟩, .bool false, .string ⟨#[]⟩, .bool false, .string ⟨#[]⟩, .string ⟨#[]⟩, .int .i64 0, .bool false, .slice none 0 0, .bool false, .int .i64 0, .slice none 0 0, .slice none 0 0, .slice none 0 0]
def wl0 : Array Value := #[.string ⟨#[]⟩, .string ⟨#[]⟩, .int .i64 0, .bool false, .slice none 0 0]
def fr0 : Array Value := #[.int .i64 0, .int .i64 0, .string ⟨#[]⟩, .slice none 0 0]
theorem fsame_zero (w : World) : Calls Tryz.prog 51 #[.agg fr0, .agg fr0] w fun e w' => e = .returned (.bool true) ∧ Below w.heap.size w w' := by
 have k0 := ((Obj?.new w fr0 41).alloc (.cells fr0 41 (0, 0))).cells
 have k1 := (Obj?.new (w.alloc (.cells fr0 41 (0, 0))) fr0 41).cells
 have hB := below_al (below_al (Below.refl _ w) (.cells fr0 41 (0, 0))) (.cells fr0 41 (0, 0))
 obtain ⟨W, hW⟩ : ∃ W, W = (w.alloc (.cells fr0 41 (0, 0))).alloc (.cells fr0 41 (0, 0)) := ⟨_, rfl⟩
 rw [World.size_alloc] at k1
 unfold fr0 at k0 k1 hB ⊢
 go_enter Tryz.func51, Tryz.ntmps51
 go_wp2
 go_loopg [5] 1 (fun g i wr => i = .int .i64 0 ∧ g = 1 ∧ Below w.heap.size w wr ∧ wr.cell? ⟨w.heap.size, 3, none⟩ = some (.slice none 0 0))
 case atStart => exact ⟨rfl, rfl, hB, k0 3⟩
 case round =>
  obtain ⟨rfl, rfl, HI, k3⟩ := hrel
  go_wp2
  go_ret
  exact ⟨rfl, HI⟩
theorem below_grown' {a b : World} (h : Below a.heap.size a b) : Below a.heap.size a b.drew := ⟨h.os, h.tape, h.output, h.size, h.block⟩
theorem ksame_zero (w : World) : Calls Tryz.prog 50 #[.agg pk0, .agg pk0] w fun e w' => e = .returned (.bool true) ∧ Below w.heap.size w w' := by
 have O0 := (Obj?.new w pk0 34).alloc (.cells pk0 34 (0, 0))
 have O1 := Obj?.new (w.alloc (.cells pk0 34 (0, 0))) pk0 34
 have hB := below_al (below_al (Below.refl _ w) (.cells pk0 34 (0, 0))) (.cells pk0 34 (0, 0))
 obtain ⟨W, hW⟩ : ∃ W, W = (w.alloc (.cells pk0 34 (0, 0))).alloc (.cells pk0 34 (0, 0)) := ⟨_, rfl⟩
 rw [World.size_alloc] at O1
 rw [← hW] at O0 O1 hB
 have HO := Lib.hid (And.intro O0 (And.intro O1 hB))
 have k0 := O0.cells
 have k1 := O1.cells
 have k0a := (O0.alloc (.cells wl0 30 (0, 0))).cells
 have k1a := (O1.alloc (.cells wl0 30 (0, 0))).cells
 have k0b := ((O0.alloc (.cells wl0 30 (0, 0))).alloc (.cells wl0 30 (0, 0))).cells
 have k1b := ((O1.alloc (.cells wl0 30 (0, 0))).alloc (.cells wl0 30 (0, 0))).cells
 unfold pk0 at k0 k1 k0a k1a k0b k1b hW ⊢
 unfold wl0 at k0a k1a k0b k1b
 clear O0 O1 hB
 go_enter Tryz.func50, Tryz.ntmps50
 go_upto_region 1 with fail
 rw [← hW]
 clear hW
 go_region
 all_goals
  obtain ⟨W2, hW2⟩ : ∃ W2, W2 = ((W.alloc (.cells wl0 30 (0, 0))).alloc (.cells wl0 30 (0, 0))).drew := ⟨_, rfl⟩
  have HZ := Lib.hid (show ∀ V, Below W2.heap.size W2 V → Below w.heap.size w V ∧ (∀ j, V.cell? ⟨w.heap.size, j, none⟩ = pk0[j]?) ∧ (∀ j, V.cell? ⟨w.heap.size + 1, j, none⟩ = pk0[j]?) ∧ (∀ j, V.cell? ⟨W.heap.size, j, none⟩ = wl0[j]?) ∧ (∀ j, V.cell? ⟨W.heap.size + 1, j, none⟩ = wl0[j]?) from fun V hV => by
   have q0 : Obj? W2 w.heap.size pk0 34 := by rw [hW2]; exact (HO.out.1.alloc _).alloc _
   have q1 : Obj? W2 (w.heap.size + 1) pk0 34 := by rw [hW2]; exact (HO.out.2.1.alloc _).alloc _
   have q2 : Obj? W2 W.heap.size wl0 30 := by rw [hW2]; exact (Obj?.new W wl0 30).alloc _
   have q3 : Obj? W2 (W.heap.size + 1) wl0 30 := by
    rw [hW2]
    have := Obj?.new (W.alloc (.cells wl0 30 (0, 0))) wl0 30
    rw [World.size_alloc] at this
    exact this
   have hb2 : Below w.heap.size w W2 := by rw [hW2]; exact below_grown' (below_al (below_al HO.out.2.2 _) _)
   exact ⟨below_thn hb2 hV, (q0.below hV q0.lt).cells, (q1.below hV q1.lt).cells, (q2.below hV q2.lt).cells, (q3.below hV q3.lt).cells⟩)
  unfold wl0 at hW2
  rw [← hW2]
  clear hW2 k0 k1 k0a k1a k0b k1b
  unfold pk0 wl0 at HZ
  obtain ⟨-, a1, a2, a3, a4⟩ := HZ.out W2 (Below.refl _ _)
  go_wp2_with fail
  refine (psame_nil _).mono ?_
  rintro e V1 ⟨rfl, hb1⟩
  clear a1 a2 a3 a4
  obtain ⟨-, a1, a2, a3, a4⟩ := HZ.out V1 hb1
  go_wp2_with fail
  refine (isame_nil _).mono ?_
  rintro e V2 ⟨rfl, hb2⟩
  have hb2 := below_thn hb1 hb2
  clear a1 a2 a3 a4 hb1
  obtain ⟨-, a1, a2, a3, a4⟩ := HZ.out V2 hb2
  go_wp2_with fail
  refine (lsame_nil _).mono ?_
  rintro e V3 ⟨rfl, hb3⟩
  have hb3 := below_thn hb2 hb3
  clear a1 a2 a3 a4 hb2
  obtain ⟨-, a1, a2, a3, a4⟩ := HZ.out V3 hb3
  go_wp2_with fail
  refine (psame_nil _).mono ?_
  rintro e V4 ⟨rfl, hb4⟩
  have hb4 := below_thn hb3 hb4
  clear a1 a2 a3 a4 hb3
  go_wp2_with fail
  go_ret
  exact ⟨rfl, (HZ.out V4 hb4).1⟩
theorem mid_at {w : World} {b o : Nat} {p cs q : Array Value} {t : TypeId} (h : Obj? w b (p ++ cs ++ q) t) (hp : p.size = o) (j : Nat) (v : Value) (hv : cs[j]? = some v) : w.cell? ⟨b, o + j, none⟩ = some v := by
 subst hp
 exact h.mid j v hv
theorem evX_pk (pr kind : Int) (top pay : List UInt8) (q : Int) (ret dup : Bool) (id typ : Int) (hv : Value) (m : Ms) : evX pr kind top pay q ret dup id typ hv m = #[.int .i64 pr, .int .i64 kind, .string ⟨top.toArray⟩, .string ⟨pay.toArray⟩, .int .i64 q, .bool ret, .bool dup, .int .i64 id, .slice none 0 0, .int .i64 typ, hv, .int .i64 0] ++ pk0 ++ (m.cs ++ fr0) := by kernel_rfl
theorem evX_msg (pr kind : Int) (top pay : List UInt8) (q : Int) (ret dup : Bool) (id typ : Int) (hv : Value) (m : Ms) : evX pr kind top pay q ret dup id typ hv m = (#[.int .i64 pr, .int .i64 kind, .string ⟨top.toArray⟩, .string ⟨pay.toArray⟩, .int .i64 q, .bool ret, .bool dup, .int .i64 id, .slice none 0 0, .int .i64 typ, hv, .int .i64 0] ++ pk0) ++ m.cs ++ fr0 := by kernel_rfl
theorem load_xpk {w : World} {b : Nat} {pr kind : Int} {top pay : List UInt8} {q : Int} {ret dup : Bool} {id typ : Int} {hv : Value} {m : Ms} (h : Obj? w b (evX pr kind top pay q ret dup id typ hv m) 43) : (rowSem 34 ⟨b, 12, none⟩).run Tryz.prog w = .ok (.agg pk0) w := by
 rw [evX_pk] at h
 exact rowSem_mid w b 12 34 pk0 _ (fun j v hv => h.mid j v hv) Tryz.underlying34 rfl (by kernel_rfl)
theorem load_xmsg {w : World} {b : Nat} {pr kind : Int} {top pay : List UInt8} {q : Int} {ret dup : Bool} {id typ : Int} {hv : Value} {m : Ms} (h : Obj? w b (evX pr kind top pay q ret dup id typ hv m) 43) : (rowSem 38 ⟨b, 37, none⟩).run Tryz.prog w = .ok (.agg m.cs) w := by
 rw [evX_msg] at h
 exact rowSem_mid w b 37 38 m.cs _ (mid_at h (by rw [Array.size_append]; rfl)) Tryz.underlying38 rfl (by rw [infoMs]; rfl)
end Go.Proofs.YtanofjmkkhocaaaGreatDoor
namespace Go.Proofs.YtanofjmkkhocaaaGreatDoor
open Go Go.RowKit Go.MapKept
theorem load_Fr (a : Addr) : loadVar 41 a = rowSem 41 a := rfl
theorem load_xfr {w : World} {b : Nat} {pr kind : Int} {top pay : List UInt8} {q : Int} {ret dup : Bool} {id typ : Int} {hv : Value} {m : Ms} (h : Obj? w b (evX pr kind top pay q ret dup id typ hv m) 43) : (rowSem 41 ⟨b, 53, none⟩).run Tryz.prog w = .ok (.agg fr0) w := by
 rw [evX_msg, ← Array.append_empty (xs := (_ ++ _) ++ fr0)] at h
 exact rowSem_mid w b 53 41 fr0 _ (mid_at h (by rw [Array.size_append, Array.size_append]; rfl)) Tryz.underlying41 rfl (by kernel_rfl)
attribute [local go_sem ↓] load_Msg load_Pk load_Fr
attribute [local irreducible] rowSem rowStore
theorem xsame_any (pr kind : Int) (top pay : List UInt8) (q : Int) (ret dup : Bool) (id typ : Int) {h1 h2 : Value} {hs : List Hp} {m : Ms} {w : World} (hA : HopsAt w h1 hs) (hB : HopsAt w h2 hs) :
  Calls Tryz.prog 26 #[.agg (evX pr kind top pay q ret dup id typ h1 m), .agg (evX pr kind top pay q ret dup id typ h2 m)] w fun e w' => e = .returned (.bool true) ∧ Below w.heap.size w w' := by
 have O0 := (Obj?.new w (evX pr kind top pay q ret dup id typ h1 m) 43).alloc (.cells (evX pr kind top pay q ret dup id typ h2 m) 43 (0, 0))
 have O1 := Obj?.new (w.alloc (.cells (evX pr kind top pay q ret dup id typ h1 m) 43 (0, 0))) (evX pr kind top pay q ret dup id typ h2 m) 43
 have hBB := below_al (below_al (Below.refl _ w) (.cells (evX pr kind top pay q ret dup id typ h1 m) 43 (0, 0))) (.cells (evX pr kind top pay q ret dup id typ h2 m) 43 (0, 0))
 obtain ⟨W, hW⟩ : ∃ W, W = (w.alloc (.cells (evX pr kind top pay q ret dup id typ h1 m) 43 (0, 0))).alloc (.cells (evX pr kind top pay q ret dup id typ h2 m) 43 (0, 0)) := ⟨_, rfl⟩
 rw [World.size_alloc] at O1
 rw [← hW] at O0 O1 hBB
 have HZ := Lib.hid (show ∀ V, Below W.heap.size W V → Below w.heap.size w V ∧ (∀ j, V.cell? ⟨w.heap.size, j, none⟩ = (evX pr kind top pay q ret dup id typ h1 m)[j]?) ∧ (∀ j, V.cell? ⟨w.heap.size + 1, j, none⟩ = (evX pr kind top pay q ret dup id typ h2 m)[j]?) ∧ (rowSem 34 ⟨w.heap.size, 12, none⟩).run Tryz.prog V = .ok (.agg pk0) V ∧ (rowSem 34 ⟨w.heap.size + 1, 12, none⟩).run Tryz.prog V = .ok (.agg pk0) V ∧ (rowSem 38 ⟨w.heap.size, 37, none⟩).run Tryz.prog V = .ok (.agg m.cs) V ∧ (rowSem 38 ⟨w.heap.size + 1, 37, none⟩).run Tryz.prog V = .ok (.agg m.cs) V ∧ (rowSem 41 ⟨w.heap.size, 53, none⟩).run Tryz.prog V = .ok (.agg fr0) V ∧ (rowSem 41 ⟨w.heap.size + 1, 53, none⟩).run Tryz.prog V = .ok (.agg fr0) V from fun V hV => by
  have p0 := O0.below hV O0.lt
  have p1 := O1.below hV O1.lt
  exact ⟨below_thn hBB hV, p0.cells, p1.cells, load_xpk p0, load_xpk p1, load_xmsg p0, load_xmsg p1, load_xfr p0, load_xfr p1⟩)
 have HR := Lib.hid (fun V (hV : Below w.heap.size w V) => rhops_any (hA.below hV) (hB.below hV))
 have hd : decide (hs = hs) = true := by simp
 rw [hd] at HR
 have qm := eql_self m
 clear O0 O1 hBB hA hB hd
 unfold evX at hW HZ ⊢
 go_enter Tryz.func26, Tryz.ntmps26
 obtain ⟨-, a1, a2, a3, a4, a5, a6, a7, a8⟩ := HZ.out W (Below.refl _ _)
 rw [hW] at a1 a2 a3 a4 a5 a6 a7 a8
 go_wp2_with fail
 rw [← hW]
 clear a1 a2 a3 a4 a5 a6 a7 a8
 clear hW
 refine (psame_nil _).mono ?_
 rintro e V1 ⟨rfl, hb1⟩
 obtain ⟨-, a1, a2, a3, a4, a5, a6, a7, a8⟩ := HZ.out V1 hb1
 go_wp2_with fail
 refine (HR.out V1 (HZ.out V1 hb1).1).mono ?_
 rintro e V2 ⟨rfl, hb2⟩
 have hb2 := below_thn hb1 hb2
 clear a1 a2 a3 a4 a5 a6 a7 a8 hb1
 obtain ⟨-, a1, a2, a3, a4, a5, a6, a7, a8⟩ := HZ.out V2 hb2
 go_wp2_with fail
 refine (ksame_zero _).mono ?_
 rintro e V3 ⟨rfl, hb3⟩
 have hb3 := below_thn hb2 hb3
 clear a1 a2 a3 a4 a5 a6 a7 a8 hb2
 obtain ⟨-, a1, a2, a3, a4, a5, a6, a7, a8⟩ := HZ.out V3 hb3
 go_wp2_with fail
 refine (fsame_zero _).mono ?_
 rintro e V4 ⟨rfl, hb4⟩
 have hb4 := below_thn hb3 hb4
 clear a1 a2 a3 a4 a5 a6 a7 a8 hb3
 go_wp2_with fail
 go_ret
 exact ⟨rfl, (HZ.out V4 hb4).1⟩
end Go.Proofs.YtanofjmkkhocaaaGreatDoor
namespace Go.Proofs.YtanofjmkkhocaaaGreatDoor
open Go Go.RowKit Go.MapKept
attribute [local go_sem ↓] load_EvX
attribute [local irreducible] rowSem rowStore
theorem esame_any {w : World} (ev : Ev) {h1 h2 : Value} (hA : HopsAt w h1 ev.hs) (hB : HopsAt w h2 ev.hs) :
  Calls Tryz.prog 26 #[.agg (evE h1 ev), .agg (evE h2 ev)] w fun e w' => e = .returned (.bool true) ∧ Below w.heap.size w w' := by
 unfold evE
 split
 ·exact xsame_any _ _ _ _ _ _ _ _ _ hA hB
 ·exact xsame_any _ _ _ _ _ _ _ _ _ hA hB
theorem load_evat {w : World} {g : Nat} {cs : Array Value} (h : ∀ j, w.cell? ⟨g, j, none⟩ = cs[j]?) (hs : cs.size = 57) : (rowSem 43 ⟨g, 0, none⟩).run Tryz.prog w = .ok (.agg cs) w :=
 rowSem_mid w g 0 43 cs _ (fun j v hv => by rw [Nat.zero_add, h j]; exact hv) Tryz.underlying43 rfl (by rw [hs]; exact infoEvX)
theorem cells_below {w w' : World} {g : Nat} {cs : Array Value} (h : ∀ j, w.cell? ⟨g, j, none⟩ = cs[j]?) (hg : g < w.heap.size) (hb : Below w.heap.size w w') : ∀ j, w'.cell? ⟨g, j, none⟩ = cs[j]? := fun j => by
 rw [← h j]
 unfold World.cell?
 rw [hb.block g hg]
theorem evE_size (hv : Value) (ev : Ev) : (evE hv ev).size = 57 := by
 unfold evE
 split
 ·exact evX_size _ _ _ _ _ _ _ _ _ _ _
 ·exact evX_size _ _ _ _ _ _ _ _ _ _ _
theorem all_any {w : World} {B1 B2 : Nat} {v1 v2 : Value} {x : Option Ev} (hA : EvsAt w B1 v1 x) (hB : EvsAt w B2 v2 x) :
  Calls Tryz.prog 11 #[v1, v2] w fun e w' => e = .returned (.bool true) ∧ Below w.heap.size w w' := by
 cases x with
 | none =>
  obtain rfl : v1 = .slice none 0 0 := hA
  obtain rfl : v2 = .slice none 0 0 := hB
  go_enter Tryz.func11, Tryz.ntmps11
  go_wp2
  go_loopg [5] 1 (fun g i wr => i = .int .i64 0 ∧ g = 1 ∧ Below w.heap.size w wr)
  case atStart => exact ⟨rfl, rfl, Below.refl _ _⟩
  case round =>
   obtain ⟨rfl, rfl, HI⟩ := hrel
   go_wp2
   go_ret
   exact ⟨rfl, HI⟩
 | some ev =>
  obtain ⟨g1, h1, rfl, -, l1, c1, r1, sm⟩ := hA
  obtain ⟨g2, h2, rfl, -, l2, c2, r2, -⟩ := hB
  have HS := Lib.hid (fun V (hV : Below w.heap.size w V) => esame_any ev ((hopsat_of_row r1 sm.1 sm.2).below hV) ((hopsat_of_row r2 sm.1 sm.2).below hV))
  have s1 := evE_size h1 ev
  have s2 := evE_size h2 ev
  obtain ⟨e1, he1⟩ : ∃ e1, e1 = evE h1 ev := ⟨_, rfl⟩
  obtain ⟨e2, he2⟩ : ∃ e2, e2 = evE h2 ev := ⟨_, rfl⟩
  rw [← he1] at HS c1 s1
  rw [← he2] at HS c2 s2
  have HSF := Lib.hid (show ∀ V, Below w.heap.size w V → Below w.heap.size w V ∧ (rowSem 43 ⟨g1, 0, none⟩).run Tryz.prog V = .ok (.agg e1) V ∧ (rowSem 43 ⟨g2, 0, none⟩).run Tryz.prog V = .ok (.agg e2) V from fun V hV => ⟨hV, load_evat (cells_below c1 l1 hV) s1, load_evat (cells_below c2 l2 hV) s2⟩)
  clear he1 he2 c1 c2 s1 s2 r1 r2 sm l1 l2
  go_enter Tryz.func11, Tryz.ntmps11
  go_wp2
  go_loopg [5] 2 (fun g i wr => (i = .int .i64 0 ∧ g = 2 ∨ i = .int .i64 1 ∧ g = 1) ∧ Below w.heap.size w wr)
  case atStart => exact ⟨.inl ⟨rfl, rfl⟩, Below.refl _ _⟩
  case round =>
   obtain ⟨⟨rfl, rfl⟩ | ⟨rfl, rfl⟩, hI⟩ := hrel
   ·have hS0 := HSF.out wr hI
    have hS1 := HSF.out wr.drew (below_grown' hI)
    clear hI
    go_wp2
    go_region_held3 (fun W => Below w.heap.size w W ∧ (rowSem 43 ⟨g1, 0, none⟩).run Tryz.prog W = .ok (.agg e1) W ∧ (rowSem 43 ⟨g2, 0, none⟩).run Tryz.prog W = .ok (.agg e2) W)
     ((first | assumption | exact HSF.out _ (below_thn (by assumption) (below_grown (quiet_grown ⟨1, rfl⟩ none)))))
     ((go_split_ands; (go_at_call 26; ((with_reducible refine (HS.out _ (by assumption)).mono ?_); (rintro e w12 ⟨rfl, hb⟩; have hS := HSF.out _ (below_thn (by assumption) hb))))))
    all_goals
     have hI := hS.1
     clear hS
     go_wp2
     go_roundg 1
     case measure => omega
     case rel => exact ⟨.inr ⟨rfl, rfl⟩, hI⟩
   ·go_wp2
    go_ret
    exact ⟨rfl, hI⟩
end Go.Proofs.YtanofjmkkhocaaaGreatDoor
namespace Go.Proofs.YtanofjmkkhocaaaGreatDoor
open Go Go.RowKit Go.MapKept
theorem load_Tp (a : Addr) : loadVar 69 a = rowSem 69 a := rfl
theorem row_tp {W : World} {b o : Nat} {x : Tp} (h : ∀ j u, (Tp.cs x)[j]? = some u → W.cell? ⟨b, o + j, none⟩ = some u) : (rowSem 69 ⟨b, o, none⟩).run Tryz.prog W = .ok (.agg x.cs) W :=
 rowSem_mid W b o 69 x.cs _ h Tryz.underlying69 rfl (by kernel_rfl)
theorem neq_tp (x : Tp) (w : World) : (binOp .neq 69 (.agg x.cs) (.agg x.cs)).run Tryz.prog w = .ok (.bool false) w := by
 unfold Tp.cs
 go_simp
attribute [local go_sem ↓] load_Tp
attribute [local irreducible] rowSem rowStore
end Go.Proofs.YtanofjmkkhocaaaGreatDoor
