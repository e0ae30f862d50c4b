/- frommqtt.To of a PINGREQ. -/
import Derived.Test.YtlfgkdiehmoohaaGreatDoorTrG
import Derived.Lib.SliceRun
import Derived.LoopN
namespace Go.Proofs.YtlfgkdiehmoohaaGreatDoor
open Go Go.RowKit
set_option linter.unusedVariables false
set_option linter.unusedSimpArgs false
/-- An event of a PINGREQ, by its packet's lists. -/
def evP (vw vc vf vp : Value) : Array Value := #[.int .i64 1, .int .i64 2, .string ⟨#[]⟩, .string ⟨#[]⟩, .int .i64 0, .bool false, .bool false, .int .i64 0, .slice none 0 0, .int .i64 0, .slice none 0 0, .int .i64 0, .int .i64 12, .bool false, .bool false, .int .i64 0, .int .i64 0, .string ⟨#[]⟩, .string ⟨#[]⟩, .bool false, .int .i64 0, .string ⟨#[]⟩, .bool false, .string ⟨#[]⟩, .bool false, .string ⟨#[]⟩, .bool false, .string ⟨#[]⟩, .string ⟨#[]⟩, .int .i64 0, .bool false, vw, .bool false, .int .i64 0, vc, vf, vp, .int .i64 0, .bool false, .int .i64 0, .bool false, .bool false, .bool false, .int .i64 0, .int .i64 0, .int .i64 0, .int .i64 0, .bool false, .int .i64 0, .int .i64 0, .int .i64 0, .string ⟨#[]⟩, .string ⟨#[]⟩, .int .i64 0, .int .i64 0, .string ⟨#[]⟩, .slice none 0 0]
def evN : Array Value := evP (.slice none 0 0) (.slice none 0 0) (.slice none 0 0) (.slice none 0 0)
theorem infoEv : (Tryz.prog.info? 64).map (·.size) = some 57 := by kernel_rfl
theorem evN_info : (Tryz.prog.info? 64).map (·.size) = some evN.size := infoEv
theorem load_Ev (a : Addr) : loadVar 64 a = rowSem 64 a := rfl
theorem store_Ev (a : Addr) (v : Value) : storeVar 64 a v = rowStore 64 a v := rfl
theorem evP_size (vw vc vf vp : Value) : (evP vw vc vf vp).size = 57 := rfl
theorem evP_one {vw vc vf vp : Value} (h1 : vw.oneCell' = true) (h2 : vc.oneCell' = true) (h3 : vf.oneCell' = true) (h4 : vp.oneCell' = true) : (evP vw vc vf vp).all (·.oneCell') = true := by
  simp [evP, Value.oneCell']
  exact ⟨h1, h2, h3, h4⟩
theorem load_ev {w : World} {b : Nat} {vw vc vf vp : Value} (h : Obj? w b (evP vw vc vf vp) 64) : (rowSem 64 ⟨b, 0, none⟩).run Tryz.prog w = .ok (.agg (evP vw vc vf vp)) w :=
  rowSem_run w b 64 64 _ _ h Tryz.underlying64 rfl (by rw [evP_size]; exact infoEv)
theorem store_ev {w : World} {b : Nat} {cs : Array Value} {vw vc vf vp : Value} (h : Obj? w b cs 64) (hs : cs.size = 57) (h1 : (evP vw vc vf vp).all (·.oneCell') = true) : (rowStore 64 ⟨b, 0, none⟩ (.agg (evP vw vc vf vp))).run Tryz.prog w = .ok () (w.setRow b (evP vw vc vf vp)) :=
  rowStore_run (P := Tryz.prog) _ b 64 64 _ _ h (by rw [evP_size]; exact infoEv) (by rw [hs]; rfl) h1
theorem store_newev {w : World} {vw vc vf vp : Value} (h1 : (evP vw vc vf vp).all (·.oneCell') = true) : (rowStore 64 ⟨w.heap.size, 0, none⟩ (.agg (evP vw vc vf vp))).run Tryz.prog (w.alloc (.cells #[.int .i64 0, .int .i64 0, .string ⟨#[]⟩, .string ⟨#[]⟩, .int .i64 0, .bool false, .bool false, .int .i64 0, .slice none 0 0, .int .i64 0, .slice none 0 0, .int .i64 0, .int .i64 0, .bool false, .bool false, .int .i64 0, .int .i64 0, .string ⟨#[]⟩, .string ⟨#[]⟩, .bool false, .int .i64 0, .string ⟨#[]⟩, .bool false, .string ⟨#[]⟩, .bool false, .string ⟨#[]⟩, .bool false, .string ⟨#[]⟩, .string ⟨#[]⟩, .int .i64 0, .bool false, .slice none 0 0, .bool false, .int .i64 0, .slice none 0 0, .slice none 0 0, .slice none 0 0, .int .i64 0, .bool false, .int .i64 0, .bool false, .bool false, .bool false, .int .i64 0, .int .i64 0, .int .i64 0, .int .i64 0, .bool false, .int .i64 0, .int .i64 0, .int .i64 0, .string ⟨#[]⟩, .string ⟨#[]⟩, .int .i64 0, .int .i64 0, .string ⟨#[]⟩, .slice none 0 0] 64 (0, 0))) = .ok () (w.alloc (.cells (evP vw vc vf vp) 64 (0, 0))) := by
  have h := store_ev (vw := vw) (vc := vc) (vf := vf) (vp := vp) (Obj?.new w #[.int .i64 0, .int .i64 0, .string ⟨#[]⟩, .string ⟨#[]⟩, .int .i64 0, .bool false, .bool false, .int .i64 0, .slice none 0 0, .int .i64 0, .slice none 0 0, .int .i64 0, .int .i64 0, .bool false, .bool false, .int .i64 0, .int .i64 0, .string ⟨#[]⟩, .string ⟨#[]⟩, .bool false, .int .i64 0, .string ⟨#[]⟩, .bool false, .string ⟨#[]⟩, .bool false, .string ⟨#[]⟩, .bool false, .string ⟨#[]⟩, .string ⟨#[]⟩, .int .i64 0, .bool false, .slice none 0 0, .bool false, .int .i64 0, .slice none 0 0, .slice none 0 0, .slice none 0 0, .int .i64 0, .bool false, .int .i64 0, .bool false, .bool false, .bool false, .int .i64 0, .int .i64 0, .int .i64 0, .int .i64 0, .bool false, .int .i64 0, .int .i64 0, .int .i64 0, .string ⟨#[]⟩, .string ⟨#[]⟩, .int .i64 0, .int .i64 0, .string ⟨#[]⟩, .slice none 0 0] 64) rfl h1
  rw [World.setRow_alloc_new] at h
  exact h
theorem build_e12 : Array.foldl (fun (cs : Array Value) (x : Value × Nat) => cs.setIfInBounds (12 + x.snd) x.fst) #[.int .i64 1, .int .i64 2, .string ⟨#[]⟩, .string ⟨#[]⟩, .int .i64 0, .bool false, .bool false, .int .i64 0, .slice none 0 0, .int .i64 0, .slice none 0 0, .int .i64 0, .int .i64 0, .bool false, .bool false, .int .i64 0, .int .i64 0, .string ⟨#[]⟩, .string ⟨#[]⟩, .bool false, .int .i64 0, .string ⟨#[]⟩, .bool false, .string ⟨#[]⟩, .bool false, .string ⟨#[]⟩, .bool false, .string ⟨#[]⟩, .string ⟨#[]⟩, .int .i64 0, .bool false, .slice none 0 0, .bool false, .int .i64 0, .slice none 0 0, .slice none 0 0, .slice none 0 0, .int .i64 0, .bool false, .int .i64 0, .bool false, .bool false, .bool false, .int .i64 0, .int .i64 0, .int .i64 0, .int .i64 0, .bool false, .int .i64 0, .int .i64 0, .int .i64 0, .string ⟨#[]⟩, .string ⟨#[]⟩, .int .i64 0, .int .i64 0, .string ⟨#[]⟩, .slice none 0 0] c12.zipIdx 0 25 = evN := by unfold c12 evN evP; kernel_rfl
theorem store_built (w : World) : (rowStore 64 ⟨w.heap.size, 0, none⟩ (.agg (Array.foldl (fun (cs : Array Value) (x : Value × Nat) => cs.setIfInBounds (12 + x.snd) x.fst) #[.int .i64 1, .int .i64 2, .string ⟨#[]⟩, .string ⟨#[]⟩, .int .i64 0, .bool false, .bool false, .int .i64 0, .slice none 0 0, .int .i64 0, .slice none 0 0, .int .i64 0, .int .i64 0, .bool false, .bool false, .int .i64 0, .int .i64 0, .string ⟨#[]⟩, .string ⟨#[]⟩, .bool false, .int .i64 0, .string ⟨#[]⟩, .bool false, .string ⟨#[]⟩, .bool false, .string ⟨#[]⟩, .bool false, .string ⟨#[]⟩, .string ⟨#[]⟩, .int .i64 0, .bool false, .slice none 0 0, .bool false, .int .i64 0, .slice none 0 0, .slice none 0 0, .slice none 0 0, .int .i64 0, .bool false, .int .i64 0, .bool false, .bool false, .bool false, .int .i64 0, .int .i64 0, .int .i64 0, .int .i64 0, .bool false, .int .i64 0, .int .i64 0, .int .i64 0, .string ⟨#[]⟩, .string ⟨#[]⟩, .int .i64 0, .int .i64 0, .string ⟨#[]⟩, .slice none 0 0] c12.zipIdx 0 25))).run Tryz.prog (w.alloc (.cells #[.int .i64 0, .int .i64 0, .string ⟨#[]⟩, .string ⟨#[]⟩, .int .i64 0, .bool false, .bool false, .int .i64 0, .slice none 0 0, .int .i64 0, .slice none 0 0, .int .i64 0, .int .i64 0, .bool false, .bool false, .int .i64 0, .int .i64 0, .string ⟨#[]⟩, .string ⟨#[]⟩, .bool false, .int .i64 0, .string ⟨#[]⟩, .bool false, .string ⟨#[]⟩, .bool false, .string ⟨#[]⟩, .bool false, .string ⟨#[]⟩, .string ⟨#[]⟩, .int .i64 0, .bool false, .slice none 0 0, .bool false, .int .i64 0, .slice none 0 0, .slice none 0 0, .slice none 0 0, .int .i64 0, .bool false, .int .i64 0, .bool false, .bool false, .bool false, .int .i64 0, .int .i64 0, .int .i64 0, .int .i64 0, .bool false, .int .i64 0, .int .i64 0, .int .i64 0, .string ⟨#[]⟩, .string ⟨#[]⟩, .int .i64 0, .int .i64 0, .string ⟨#[]⟩, .slice none 0 0] 64 (0, 0))) = .ok () (w.alloc (.cells evN 64 (0, 0))) := by
  rw [build_e12]
  exact store_newev (evP_one rfl rfl rfl rfl)
def putCs (cs : Array Value) (o : Nat) : List Value → Array Value
  | [] => cs
  | v :: vs => putCs (cs.setIfInBounds o v) (o + 1) vs
theorem Obj?.setCs {b : Nat} {t : TypeId} : ∀ (vs : List Value) (o : Nat) (w : World) (cs : Array Value), Obj? w b cs t → Obj? (w.setCells b o vs) b (putCs cs o vs) t
  | [], o, w, cs, h => h
  | v :: vs, o, w, cs, h => Obj?.setCs vs (o + 1) _ _ (h.set o v)
theorem setCs_grown (b : Nat) : ∀ (vs : List Value) (o : Nat) (w : World), w.grownBy (w.setCells b o vs) (some b)
  | [], o, w => World.grownBy.refl _ _
  | v :: vs, o, w => by
    have h1 := grown_set (World.grownBy.refl w (some b)) (p := ⟨b, o, none⟩) rfl v
    have h2 := setCs_grown b vs (o + 1) (w.setCell ⟨b, o, none⟩ v)
    exact ⟨h2.os.trans h1.os, h2.tape.trans h1.tape, h2.output.trans h1.output, Nat.le_trans h1.size h2.size, fun k hk hne => (h2.block k (Nat.lt_of_lt_of_le hk h1.size) hne).trans (h1.block k hk hne)⟩
theorem put_ev (vw vc vf vp : Value) : putCs evN 12 (pkCs p12 vw vc vf vp).toList = evP vw vc vf vp := by kernel_rfl
theorem pk12_info (vw vc vf vp : Value) : (Tryz.prog.info? 55).map (·.size) = some (pkCs p12 vw vc vf vp).size := by rw [infoPk5]; rfl
theorem store_evpk {w : World} {b : Nat} {vw vc vf vp : Value} (h : Obj? w b evN 64) (h1 : (pkCs p12 vw vc vf vp).all (·.oneCell') = true) :
    (rowStore 55 ⟨b, 12, none⟩ (.agg (pkCs p12 vw vc vf vp))).run Tryz.prog w = .ok () (w.setCells b 12 (pkCs p12 vw vc vf vp).toList) ∧ Obj? (w.setCells b 12 (pkCs p12 vw vc vf vp).toList) b (evP vw vc vf vp) 64 := by
  have s1 : (pkCs p12 vw vc vf vp).size = 25 := rfl
  have s2 : evN.size = 57 := rfl
  have hr := run_storeVar_mid (P := Tryz.prog) w b 12 55 (pkCs p12 vw vc vf vp) (fun j hj => ⟨by rw [h.cell (12 + j) _ (Array.getElem?_eq_getElem (show 12 + j < evN.size by omega))]; rfl, h.frozen _⟩) (pk12_info vw vc vf vp) h1
  rw [store_Pk] at hr
  refine ⟨hr, ?_⟩
  have := Obj?.setCs (pkCs p12 vw vc vf vp).toList 12 w _ h
  rw [put_ev] at this
  exact this
theorem load_evpk {w : World} {b : Nat} (h : Obj? w b evN 64) : (rowSem 55 ⟨b, 12, none⟩).run Tryz.prog w = .ok (.agg (pkCs p12 (.slice none 0 0) (.slice none 0 0) (.slice none 0 0) (.slice none 0 0))) w := by
  have hx : ∀ j v, (pkCs p12 (.slice none 0 0) (.slice none 0 0) (.slice none 0 0) (.slice none 0 0))[j]? = some v → evN[12 + j]? = some v := by
    intro j v hj
    have hlt : j < 25 := (Array.getElem?_eq_some_iff.1 hj).1
    rw [← hj]
    have : ∀ j : Fin 25, evN[12 + j.1]? = (pkCs p12 (.slice none 0 0) (.slice none 0 0) (.slice none 0 0) (.slice none 0 0))[j.1]? := by
      intro j
      match j with
      | ⟨0, _⟩ => rfl
      | ⟨1, _⟩ => rfl
      | ⟨2, _⟩ => rfl
      | ⟨3, _⟩ => rfl
      | ⟨4, _⟩ => rfl
      | ⟨5, _⟩ => rfl
      | ⟨6, _⟩ => rfl
      | ⟨7, _⟩ => rfl
      | ⟨8, _⟩ => rfl
      | ⟨9, _⟩ => rfl
      | ⟨10, _⟩ => rfl
      | ⟨11, _⟩ => rfl
      | ⟨12, _⟩ => rfl
      | ⟨13, _⟩ => rfl
      | ⟨14, _⟩ => rfl
      | ⟨15, _⟩ => rfl
      | ⟨16, _⟩ => rfl
      | ⟨17, _⟩ => rfl
      | ⟨18, _⟩ => rfl
      | ⟨19, _⟩ => rfl
      | ⟨20, _⟩ => rfl
      | ⟨21, _⟩ => rfl
      | ⟨22, _⟩ => rfl
      | ⟨23, _⟩ => rfl
      | ⟨24, _⟩ => rfl
      | ⟨n + 25, h⟩ => exact absurd h (by omega)
    exact this ⟨j, hlt⟩
  exact rowSem_mid (P := Tryz.prog) w b 12 55 _ _ (fun j v hj => h.cell (12 + j) v (hx j v hj)) Tryz.underlying55 rfl (pk12_info _ _ _ _)
set_option maxRecDepth 100000 in
theorem clone_pp0 (w : World) : Calls Tryz.prog 298 #[.slice none 0 0] w fun e w' => e = .returned (.slice none 0 0) ∧ w' = w := by
  have qT : ∀ (w : World) (a : Option Addr) (n c n' c' : Nat), (binOp .eql 48 (.slice a n c) (.slice none n' c')).run Tryz.prog w = .ok (.bool a.isNone) w := fun w a n c n' c' => Lib.run_eql_slice_nil w _ _ a n c n' c' Tryz.underlying48
  go_enter Tryz.func298, Tryz.ntmps298
  go_wp2
  go_ret
  exact ⟨rfl, rfl⟩
set_option maxRecDepth 100000 in
theorem clone_hop0 (w : World) : Calls Tryz.prog 299 #[.slice none 0 0] w fun e w' => e = .returned (.slice none 0 0) ∧ w' = w := by
  have qT : ∀ (w : World) (a : Option Addr) (n c n' c' : Nat), (binOp .eql 49 (.slice a n c) (.slice none n' c')).run Tryz.prog w = .ok (.bool a.isNone) w := fun w a n c n' c' => Lib.run_eql_slice_nil w _ _ a n c n' c' Tryz.underlying49
  go_enter Tryz.func299, Tryz.ntmps299
  go_wp2
  go_ret
  exact ⟨rfl, rfl⟩
attribute [local go_sem ↓] load_Pk store_Pk load_Ev store_Ev
attribute [local irreducible] rowSem rowStore c12 evN evP
theorem proto_4 (w : World) : Calls Tryz.prog 292 #[.int .i64 4] w fun e w' => e = .returned (.tuple #[.int .i64 1, .bool true]) ∧ w' = w := by
  go_enter Tryz.func292, Tryz.ntmps292
  go_wp2
  go_ret2
  exact ⟨rfl, rfl⟩
set_option maxRecDepth 100000 in
set_option maxHeartbeats 3200000 in
theorem other_12 (w : World) : Calls Tryz.prog 294 #[.int .i64 1, .agg c12] w fun e w' => e = .returned (.agg evN) ∧ Below w.heap.size w w' := by
  have hs12 := c12_size
  have HB := Lib.hid (below_al (below_al (Below.refl _ w) (.cells c12 55 (0, 0))) (.cells evN 64 (0, 0)))
  have HO := Lib.hid (Obj?.new (w.alloc (.cells c12 55 (0, 0))) evN 64)
  have hl := load_12 ((Obj?.new w c12 55).alloc (.cells #[.int .i64 0, .int .i64 0, .string ⟨#[]⟩, .string ⟨#[]⟩, .int .i64 0, .bool false, .bool false, .int .i64 0, .slice none 0 0, .int .i64 0, .slice none 0 0, .int .i64 0, .int .i64 0, .bool false, .bool false, .int .i64 0, .int .i64 0, .string ⟨#[]⟩, .string ⟨#[]⟩, .bool false, .int .i64 0, .string ⟨#[]⟩, .bool false, .string ⟨#[]⟩, .bool false, .string ⟨#[]⟩, .bool false, .string ⟨#[]⟩, .string ⟨#[]⟩, .int .i64 0, .bool false, .slice none 0 0, .bool false, .int .i64 0, .slice none 0 0, .slice none 0 0, .slice none 0 0, .int .i64 0, .bool false, .int .i64 0, .bool false, .bool false, .bool false, .int .i64 0, .int .i64 0, .int .i64 0, .int .i64 0, .bool false, .int .i64 0, .int .i64 0, .int .i64 0, .string ⟨#[]⟩, .string ⟨#[]⟩, .int .i64 0, .int .i64 0, .string ⟨#[]⟩, .slice none 0 0] 64 (0, 0)))
  have hst := store_built (w.alloc (.cells c12 55 (0, 0)))
  rw [World.size_alloc] at hst HO
  go_enter Tryz.func294, Tryz.ntmps294
  go_wp2_with fail
  refine bodyPost_ret (results_row1 rfl _ _ _ _ _ _ rfl HO.out Tryz.underlying64 rfl evN_info) rfl ?_
  exact ⟨rfl, HB.out⟩
end Go.Proofs.YtlfgkdiehmoohaaGreatDoor
