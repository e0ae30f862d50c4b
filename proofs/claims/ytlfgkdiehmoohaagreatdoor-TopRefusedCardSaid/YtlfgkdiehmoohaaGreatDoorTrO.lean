/- A session of MQTT 3.1.1, fed a PINGREQ; lives. -/
import Derived.Test.YtlfgkdiehmoohaaGreatDoorTrN
namespace Go.Proofs.YtlfgkdiehmoohaaGreatDoor
open Go Go.RowKit
set_option linter.unusedVariables false
set_option linter.unusedSimpArgs false
attribute [local go_sem ↓] load_Pk store_Pk load_Ev store_Ev
attribute [local irreducible] rowSem rowStore c12 c00 evN evP
attribute [local go_sem] store_func
theorem cell_set_ne {w : World} {p q : Addr} {u : Value} (h : q.block ≠ p.block) : (w.setCell p u).cell? q = w.cell? q := by
  unfold World.cell?
  rw [Below.heap_setCell w p u q.block h]
set_option maxRecDepth 100000 in
set_option maxHeartbeats 3200000 in
theorem sfeed_3 {w : World} {ss sp : Nat} (hS : Obj? w ss (ssC (.iface 83 (.agg (omC sp))) (.func (.method "polyglot/session.feed") #[.iface 83 (.agg (omC sp))] #[]) 0 0) 79) (hT : Obj? w sp (stC 4 4096 (.slice none 0 0) 0 0 0) 67) (hlt : ss < sp) :
    Calls Tryz.prog 18 #[.pointer (some ⟨ss, 0, none⟩), .string ⟨#[192, 0]⟩] w fun r w' => ∃ g c, r = .returned (.tuple #[.slice (some ⟨g, 0, none⟩) 1 c, .int .i64 0]) ∧ Below ss w w' ∧ g < w'.heap.size ∧ w'.cell? ⟨g, 1, none⟩ = some (.int .i64 2) ∧ w'.cell? ⟨g, 12, none⟩ = some (.int .i64 12) := by
  have hq : ∀ W : World, (binOp .eql 47 (.func (.method "polyglot/session.feed") #[.iface 83 (.agg (omC sp))] #[]) .nilFunc).run Tryz.prog W = .ok (.bool false) W := fun W => by kernel_rfl
  have hm : ∀ (W : World), (method 574 83 (.agg (omC sp)) "polyglot/session.feed").run Tryz.prog W = .ok (288, .agg (omC sp)) W := fun W => by kernel_rfl
  have c5 := hS.cell 5 (.func (.method "polyglot/session.feed") #[.iface 83 (.agg (omC sp))] #[]) rfl
  have c6 := hS.cell 6 (.int .i64 0) rfl
  have HS := Lib.hid hS
  have HT := Lib.hid hT
  clear hS hT
  go_enter Tryz.func18, Tryz.ntmps18
  refine wp_hide fun Q1 hQ1 => ?_
  have HQ1 := Lib.hid hQ1
  clear hQ1
  go_wp2_with fail
  refine (omfeed_12 HT.out).mono ?_
  rintro r w1 ⟨g, c, rfl, hg, hgl, h1, h12⟩
  have HS1 := Lib.hid (HS.out.kept hg (fun e => by have := Option.some.inj e; omega))
  have HB1 := Lib.hid (show Below ss w w1 from (Below.refl ss w).grown hg (Nat.le_of_lt HS.out.lt) (fun k e => by have := Option.some.inj e; omega))
  have e7 := HS1.out.cell 7 (.int .i64 0) rfl
  have e6 := HS1.out.cell 6 (.int .i64 0) rfl
  have f7 := HS1.out.frozen 7
  have f6 := HS1.out.frozen 6
  have HGn := Lib.hid (And.intro hgl (And.intro h1 h12))
  clear hg hgl h1 h12 hm c5 c6 hq
  go_wp2_with fail
  have hne : g ≠ ss := by
    rintro rfl
    have h := HS1.out.cells 12
    rw [HGn.out.2.2] at h
    cases h
  refine HQ1.out _ _ _ ?_
  go_ret2
  refine ⟨g, c, rfl, (HB1.out.setCell (p := ⟨ss, 7, none⟩) (Nat.le_refl ss) _).setCell (p := ⟨ss, 6, none⟩) (Nat.le_refl ss) _, ?_, ?_, ?_⟩
  · exact Nat.lt_of_lt_of_le HGn.out.1 (((Below.refl ss w1).setCell (p := ⟨ss, 7, none⟩) (Nat.le_refl ss) _).setCell (p := ⟨ss, 6, none⟩) (Nat.le_refl ss) _).size
  · rw [cell_set_ne (q := ⟨g, 1, none⟩) hne, cell_set_ne (q := ⟨g, 1, none⟩) hne]; exact HGn.out.2.1
  · rw [cell_set_ne (q := ⟨g, 12, none⟩) hne, cell_set_ne (q := ⟨g, 12, none⟩) hne]; exact HGn.out.2.2
set_option maxRecDepth 100000 in
set_option maxHeartbeats 3200000 in
theorem livesT (w : World) : Calls Tryz.prog 4 #[] w fun e w' => e = .returned (.bool true) ∧ Below w.heap.size w w' := by
  go_enter Tryz.func4, Tryz.ntmps4
  refine wp_hide fun Q1 hQ1 => ?_
  have HQ1 := Lib.hid hQ1
  clear hQ1
  go_wp2_with fail
  refine (limits_any _).mono ?_
  rintro e w1 ⟨rfl, hb⟩
  have HB1 := Lib.hid hb
  clear hb
  go_wp2_with fail
  refine (snew_3 _).mono ?_
  rintro e w2 ⟨ss, sp, rfl, hb, hle, hlt, hS, hT⟩
  have HB2 := Lib.hid (below_thenh HB1.out hb)
  have HS := Lib.hid (And.intro hS (And.intro hT (And.intro hlt (Nat.le_trans HB1.out.size hle))))
  clear hb hle hlt hS hT HB1
  go_wp2_with fail
  refine (sfeed_3 HS.out.1 HS.out.2.1 HS.out.2.2.1).mono ?_
  rintro r w3 ⟨g, c, rfl, hb, hgl, h1, h12⟩
  have HB3 := Lib.hid (HB2.out.trans (hb.mono HS.out.2.2.2))
  clear hb HB2 HS
  go_wp2_with fail
  refine HQ1.out _ _ _ ?_
  go_ret
  exact ⟨rfl, HB3.out⟩
end Go.Proofs.YtlfgkdiehmoohaaGreatDoor
