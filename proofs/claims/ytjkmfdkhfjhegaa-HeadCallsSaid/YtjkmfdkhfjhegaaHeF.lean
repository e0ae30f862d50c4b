/- polyglotref07.Same. -/
import Derived.Test.YtjkmfdkhfjhegaaHeD
namespace Go.Proofs.Ytjkmfdkhfjhegaa
open Go Go.RowKit
set_option linter.unusedVariables false
set_option linter.unusedSimpArgs false
theorem store_Wl (a : Addr) (v : Value) : storeVar 31 a v = rowStore 31 a v := rfl
attribute [local go_sem ↓] load_Wl store_Wl
attribute [local irreducible] rowSem rowStore

theorem store_newwl (w : World) (u : Wl) (v : Value) (hv : v.oneCell' = true) : (rowStore 31 ⟨w.heap.size, 0, none⟩ (.agg (wlCs u v))).run Try.prog (w.alloc (.cells #[.string ⟨#[]⟩, .string ⟨#[]⟩, .int .i64 0, .bool false, .slice none 0 0] 31 (0, 0))) = .ok () (w.alloc (.cells (wlCs u v) 31 (0, 0))) := by
  have h := rowStore_run (P := Try.prog) _ w.heap.size 31 31 _ (wlCs u v) (Obj?.new w #[.string ⟨#[]⟩, .string ⟨#[]⟩, .int .i64 0, .bool false, .slice none 0 0] 31) infoWl rfl (by simp [wlCs, Value.oneCell']; exact hv)
  rw [World.setRow_alloc_new] at h
  exact h
theorem store_oldwl {w : World} {b : Nat} (u : Wl) (v : Value) (hv : v.oneCell' = true) (h : Obj? w b #[.string ⟨#[]⟩, .string ⟨#[]⟩, .int .i64 0, .bool false, .slice none 0 0] 31) : (rowStore 31 ⟨b, 0, none⟩ (.agg (wlCs u v))).run Try.prog w = .ok () (w.setRow b (wlCs u v)) :=
  rowStore_run (P := Try.prog) _ b 31 31 _ (wlCs u v) h infoWl rfl (by simp [wlCs, Value.oneCell']; exact hv)
/-- What stands behind the two wills' boxes. -/
structure RsAt (W0 : World) (a b : Pk) (aw ac af ap bw bc bf bp : Value) (g0 b5 b6 : Nat) (W : World) : Prop where
  p1 : Obj? W g0 (pkCs a aw ac af ap) 35
  p2 : Obj? W (g0 + 1) (pkCs b bw bc bf bp) 35
  w1 : Obj? W b5 (wlCs a.w aw) 31
  w2 : Obj? W b6 (wlCs b.w bw) 31
  bel : Below W0.heap.size W0 W
theorem RsAt.below {W0 : World} {a b : Pk} {aw ac af ap bw bc bf bp : Value} {g0 b5 b6 : Nat} {A B : World} (h : RsAt W0 a b aw ac af ap bw bc bf bp g0 b5 b6 A) (hb : Below A.heap.size A B) : RsAt W0 a b aw ac af ap bw bc bf bp g0 b5 b6 B :=
  ⟨h.p1.below hb h.p1.lt, h.p2.below hb h.p2.lt, h.w1.below hb h.w1.lt, h.w2.below hb h.w2.lt, below_thenh h.bel hb⟩
theorem below_drewh {A : Nat} {a b : World} (h : Below A a b) : Below A a b.drew := ⟨h.os, h.tape, h.output, h.size, h.block⟩
theorem rs_boxes {W0 : World} {a b : Pk} {aw ac af ap bw bc bf bp : Value} {g0 : Nat} (O1 : Obj? W0 g0 (pkCs a aw ac af ap) 35) (O2 : Obj? W0 (g0 + 1) (pkCs b bw bc bf bp) 35) (o1 : aw.oneCell' = true) (o2 : bw.oneCell' = true) :
    (rowSem 31 ⟨g0, 15, none⟩).run Try.prog (((W0.alloc (.cells #[.string ⟨#[]⟩, .string ⟨#[]⟩, .int .i64 0, .bool false, .slice none 0 0] 31 (0, 0))).alloc (.cells #[.string ⟨#[]⟩, .string ⟨#[]⟩, .int .i64 0, .bool false, .slice none 0 0] 31 (0, 0))).drew) = .ok (.agg (wlCs a.w aw)) (((W0.alloc (.cells #[.string ⟨#[]⟩, .string ⟨#[]⟩, .int .i64 0, .bool false, .slice none 0 0] 31 (0, 0))).alloc (.cells #[.string ⟨#[]⟩, .string ⟨#[]⟩, .int .i64 0, .bool false, .slice none 0 0] 31 (0, 0))).drew) ∧
    (rowSem 31 ⟨g0 + 1, 15, none⟩).run Try.prog (((W0.alloc (.cells #[.string ⟨#[]⟩, .string ⟨#[]⟩, .int .i64 0, .bool false, .slice none 0 0] 31 (0, 0))).alloc (.cells #[.string ⟨#[]⟩, .string ⟨#[]⟩, .int .i64 0, .bool false, .slice none 0 0] 31 (0, 0))).drew) = .ok (.agg (wlCs b.w bw)) (((W0.alloc (.cells #[.string ⟨#[]⟩, .string ⟨#[]⟩, .int .i64 0, .bool false, .slice none 0 0] 31 (0, 0))).alloc (.cells #[.string ⟨#[]⟩, .string ⟨#[]⟩, .int .i64 0, .bool false, .slice none 0 0] 31 (0, 0))).drew) ∧
    ∀ (u u' : Wl) (v v' : Value), v.oneCell' = true → v'.oneCell' = true →
    (rowStore 31 ⟨W0.heap.size, 0, none⟩ (.agg (wlCs u v))).run Try.prog (((W0.alloc (.cells #[.string ⟨#[]⟩, .string ⟨#[]⟩, .int .i64 0, .bool false, .slice none 0 0] 31 (0, 0))).alloc (.cells #[.string ⟨#[]⟩, .string ⟨#[]⟩, .int .i64 0, .bool false, .slice none 0 0] 31 (0, 0))).drew) = .ok () ((((W0.alloc (.cells #[.string ⟨#[]⟩, .string ⟨#[]⟩, .int .i64 0, .bool false, .slice none 0 0] 31 (0, 0))).alloc (.cells #[.string ⟨#[]⟩, .string ⟨#[]⟩, .int .i64 0, .bool false, .slice none 0 0] 31 (0, 0))).drew).setRow W0.heap.size (wlCs u v)) ∧
    (rowStore 31 ⟨W0.heap.size + 1, 0, none⟩ (.agg (wlCs u v))).run Try.prog (((W0.alloc (.cells #[.string ⟨#[]⟩, .string ⟨#[]⟩, .int .i64 0, .bool false, .slice none 0 0] 31 (0, 0))).alloc (.cells #[.string ⟨#[]⟩, .string ⟨#[]⟩, .int .i64 0, .bool false, .slice none 0 0] 31 (0, 0))).drew) = .ok () ((((W0.alloc (.cells #[.string ⟨#[]⟩, .string ⟨#[]⟩, .int .i64 0, .bool false, .slice none 0 0] 31 (0, 0))).alloc (.cells #[.string ⟨#[]⟩, .string ⟨#[]⟩, .int .i64 0, .bool false, .slice none 0 0] 31 (0, 0))).drew).setRow (W0.heap.size + 1) (wlCs u v)) ∧
    (rowStore 31 ⟨W0.heap.size + 1, 0, none⟩ (.agg (wlCs u' v'))).run Try.prog ((((W0.alloc (.cells #[.string ⟨#[]⟩, .string ⟨#[]⟩, .int .i64 0, .bool false, .slice none 0 0] 31 (0, 0))).alloc (.cells #[.string ⟨#[]⟩, .string ⟨#[]⟩, .int .i64 0, .bool false, .slice none 0 0] 31 (0, 0))).drew).setRow W0.heap.size (wlCs u v)) = .ok () (((((W0.alloc (.cells #[.string ⟨#[]⟩, .string ⟨#[]⟩, .int .i64 0, .bool false, .slice none 0 0] 31 (0, 0))).alloc (.cells #[.string ⟨#[]⟩, .string ⟨#[]⟩, .int .i64 0, .bool false, .slice none 0 0] 31 (0, 0))).drew).setRow W0.heap.size (wlCs u v)).setRow (W0.heap.size + 1) (wlCs u' v')) ∧
    (rowStore 31 ⟨W0.heap.size, 0, none⟩ (.agg (wlCs u' v'))).run Try.prog ((((W0.alloc (.cells #[.string ⟨#[]⟩, .string ⟨#[]⟩, .int .i64 0, .bool false, .slice none 0 0] 31 (0, 0))).alloc (.cells #[.string ⟨#[]⟩, .string ⟨#[]⟩, .int .i64 0, .bool false, .slice none 0 0] 31 (0, 0))).drew).setRow (W0.heap.size + 1) (wlCs u v)) = .ok () (((((W0.alloc (.cells #[.string ⟨#[]⟩, .string ⟨#[]⟩, .int .i64 0, .bool false, .slice none 0 0] 31 (0, 0))).alloc (.cells #[.string ⟨#[]⟩, .string ⟨#[]⟩, .int .i64 0, .bool false, .slice none 0 0] 31 (0, 0))).drew).setRow (W0.heap.size + 1) (wlCs u v)).setRow W0.heap.size (wlCs u' v')) := by
  have E1 : Obj? (((W0.alloc (.cells #[.string ⟨#[]⟩, .string ⟨#[]⟩, .int .i64 0, .bool false, .slice none 0 0] 31 (0, 0))).alloc (.cells #[.string ⟨#[]⟩, .string ⟨#[]⟩, .int .i64 0, .bool false, .slice none 0 0] 31 (0, 0))).drew) W0.heap.size #[.string ⟨#[]⟩, .string ⟨#[]⟩, .int .i64 0, .bool false, .slice none 0 0] 31 := (Obj?.new W0 #[.string ⟨#[]⟩, .string ⟨#[]⟩, .int .i64 0, .bool false, .slice none 0 0] 31).alloc (.cells #[.string ⟨#[]⟩, .string ⟨#[]⟩, .int .i64 0, .bool false, .slice none 0 0] 31 (0, 0))
  have E2 : Obj? (((W0.alloc (.cells #[.string ⟨#[]⟩, .string ⟨#[]⟩, .int .i64 0, .bool false, .slice none 0 0] 31 (0, 0))).alloc (.cells #[.string ⟨#[]⟩, .string ⟨#[]⟩, .int .i64 0, .bool false, .slice none 0 0] 31 (0, 0))).drew) (W0.heap.size + 1) #[.string ⟨#[]⟩, .string ⟨#[]⟩, .int .i64 0, .bool false, .slice none 0 0] 31 := by
    have := Obj?.new (W0.alloc (.cells #[.string ⟨#[]⟩, .string ⟨#[]⟩, .int .i64 0, .bool false, .slice none 0 0] 31 (0, 0))) #[.string ⟨#[]⟩, .string ⟨#[]⟩, .int .i64 0, .bool false, .slice none 0 0] 31
    rw [World.size_alloc] at this
    exact this
  exact ⟨load_wl (show Obj? (((W0.alloc (.cells #[.string ⟨#[]⟩, .string ⟨#[]⟩, .int .i64 0, .bool false, .slice none 0 0] 31 (0, 0))).alloc (.cells #[.string ⟨#[]⟩, .string ⟨#[]⟩, .int .i64 0, .bool false, .slice none 0 0] 31 (0, 0))).drew) g0 _ _ from (O1.alloc _).alloc _), load_wl (show Obj? (((W0.alloc (.cells #[.string ⟨#[]⟩, .string ⟨#[]⟩, .int .i64 0, .bool false, .slice none 0 0] 31 (0, 0))).alloc (.cells #[.string ⟨#[]⟩, .string ⟨#[]⟩, .int .i64 0, .bool false, .slice none 0 0] 31 (0, 0))).drew) (g0 + 1) _ _ from (O2.alloc _).alloc _),
    fun u u' v v' hv hv' => ⟨store_oldwl u v hv E1, store_oldwl u v hv E2, store_oldwl u' v' hv' (E2.setRow_ne (by omega)), store_oldwl u' v' hv' (E1.setRow_ne (by omega))⟩⟩
theorem rs_loads {W0 : World} {a b : Pk} {aw ac af ap bw bc bf bp : Value} {g0 : Nat} (O1 : Obj? W0 g0 (pkCs a aw ac af ap) 35) (O2 : Obj? W0 (g0 + 1) (pkCs b bw bc bf bp) 35) (C : Array Value) :
    (rowSem 31 ⟨g0, 15, none⟩).run Try.prog ((((W0.alloc (.cells #[.string ⟨#[]⟩, .string ⟨#[]⟩, .int .i64 0, .bool false, .slice none 0 0] 31 (0, 0))).alloc (.cells #[.string ⟨#[]⟩, .string ⟨#[]⟩, .int .i64 0, .bool false, .slice none 0 0] 31 (0, 0))).drew).setRow W0.heap.size C) = .ok (.agg (wlCs a.w aw)) ((((W0.alloc (.cells #[.string ⟨#[]⟩, .string ⟨#[]⟩, .int .i64 0, .bool false, .slice none 0 0] 31 (0, 0))).alloc (.cells #[.string ⟨#[]⟩, .string ⟨#[]⟩, .int .i64 0, .bool false, .slice none 0 0] 31 (0, 0))).drew).setRow W0.heap.size C) ∧ (rowSem 31 ⟨g0 + 1, 15, none⟩).run Try.prog ((((W0.alloc (.cells #[.string ⟨#[]⟩, .string ⟨#[]⟩, .int .i64 0, .bool false, .slice none 0 0] 31 (0, 0))).alloc (.cells #[.string ⟨#[]⟩, .string ⟨#[]⟩, .int .i64 0, .bool false, .slice none 0 0] 31 (0, 0))).drew).setRow W0.heap.size C) = .ok (.agg (wlCs b.w bw)) ((((W0.alloc (.cells #[.string ⟨#[]⟩, .string ⟨#[]⟩, .int .i64 0, .bool false, .slice none 0 0] 31 (0, 0))).alloc (.cells #[.string ⟨#[]⟩, .string ⟨#[]⟩, .int .i64 0, .bool false, .slice none 0 0] 31 (0, 0))).drew).setRow W0.heap.size C) ∧
    (rowSem 31 ⟨g0, 15, none⟩).run Try.prog ((((W0.alloc (.cells #[.string ⟨#[]⟩, .string ⟨#[]⟩, .int .i64 0, .bool false, .slice none 0 0] 31 (0, 0))).alloc (.cells #[.string ⟨#[]⟩, .string ⟨#[]⟩, .int .i64 0, .bool false, .slice none 0 0] 31 (0, 0))).drew).setRow (W0.heap.size + 1) C) = .ok (.agg (wlCs a.w aw)) ((((W0.alloc (.cells #[.string ⟨#[]⟩, .string ⟨#[]⟩, .int .i64 0, .bool false, .slice none 0 0] 31 (0, 0))).alloc (.cells #[.string ⟨#[]⟩, .string ⟨#[]⟩, .int .i64 0, .bool false, .slice none 0 0] 31 (0, 0))).drew).setRow (W0.heap.size + 1) C) ∧ (rowSem 31 ⟨g0 + 1, 15, none⟩).run Try.prog ((((W0.alloc (.cells #[.string ⟨#[]⟩, .string ⟨#[]⟩, .int .i64 0, .bool false, .slice none 0 0] 31 (0, 0))).alloc (.cells #[.string ⟨#[]⟩, .string ⟨#[]⟩, .int .i64 0, .bool false, .slice none 0 0] 31 (0, 0))).drew).setRow (W0.heap.size + 1) C) = .ok (.agg (wlCs b.w bw)) ((((W0.alloc (.cells #[.string ⟨#[]⟩, .string ⟨#[]⟩, .int .i64 0, .bool false, .slice none 0 0] 31 (0, 0))).alloc (.cells #[.string ⟨#[]⟩, .string ⟨#[]⟩, .int .i64 0, .bool false, .slice none 0 0] 31 (0, 0))).drew).setRow (W0.heap.size + 1) C) := by
  have l1 := O1.lt
  have l2 := O2.lt
  have q1 : Obj? (((W0.alloc (.cells #[.string ⟨#[]⟩, .string ⟨#[]⟩, .int .i64 0, .bool false, .slice none 0 0] 31 (0, 0))).alloc (.cells #[.string ⟨#[]⟩, .string ⟨#[]⟩, .int .i64 0, .bool false, .slice none 0 0] 31 (0, 0))).drew) g0 _ _ := (O1.alloc _).alloc _
  have q2 : Obj? (((W0.alloc (.cells #[.string ⟨#[]⟩, .string ⟨#[]⟩, .int .i64 0, .bool false, .slice none 0 0] 31 (0, 0))).alloc (.cells #[.string ⟨#[]⟩, .string ⟨#[]⟩, .int .i64 0, .bool false, .slice none 0 0] 31 (0, 0))).drew) (g0 + 1) _ _ := (O2.alloc _).alloc _
  exact ⟨load_wl (q1.setRow_ne (by omega)), load_wl (q2.setRow_ne (by omega)), load_wl (q1.setRow_ne (by omega)), load_wl (q2.setRow_ne (by omega))⟩
/-- The first box is stored before the second is made. -/
theorem rs_more {W0 : World} {a b : Pk} {aw ac af ap bw bc bf bp : Value} {g0 : Nat} (O1 : Obj? W0 g0 (pkCs a aw ac af ap) 35) (O2 : Obj? W0 (g0 + 1) (pkCs b bw bc bf bp) 35) (u u' : Wl) (v v' : Value) (hv : v.oneCell' = true) (hv' : v'.oneCell' = true) :
    ((rowSem 31 ⟨g0, 15, none⟩).run Try.prog W0.drew = .ok (.agg (wlCs a.w aw)) W0.drew ∧ (rowSem 31 ⟨g0 + 1, 15, none⟩).run Try.prog W0.drew = .ok (.agg (wlCs b.w bw)) W0.drew) ∧
    ((rowSem 31 ⟨g0, 15, none⟩).run Try.prog ((W0.alloc (.cells #[.string ⟨#[]⟩, .string ⟨#[]⟩, .int .i64 0, .bool false, .slice none 0 0] 31 (0, 0))).drew) = .ok (.agg (wlCs a.w aw)) ((W0.alloc (.cells #[.string ⟨#[]⟩, .string ⟨#[]⟩, .int .i64 0, .bool false, .slice none 0 0] 31 (0, 0))).drew) ∧ (rowSem 31 ⟨g0 + 1, 15, none⟩).run Try.prog ((W0.alloc (.cells #[.string ⟨#[]⟩, .string ⟨#[]⟩, .int .i64 0, .bool false, .slice none 0 0] 31 (0, 0))).drew) = .ok (.agg (wlCs b.w bw)) ((W0.alloc (.cells #[.string ⟨#[]⟩, .string ⟨#[]⟩, .int .i64 0, .bool false, .slice none 0 0] 31 (0, 0))).drew)) ∧
    ((rowSem 31 ⟨g0, 15, none⟩).run Try.prog (((W0.alloc (.cells #[.string ⟨#[]⟩, .string ⟨#[]⟩, .int .i64 0, .bool false, .slice none 0 0] 31 (0, 0))).drew).setRow W0.heap.size (wlCs u v)) = .ok (.agg (wlCs a.w aw)) (((W0.alloc (.cells #[.string ⟨#[]⟩, .string ⟨#[]⟩, .int .i64 0, .bool false, .slice none 0 0] 31 (0, 0))).drew).setRow W0.heap.size (wlCs u v)) ∧ (rowSem 31 ⟨g0 + 1, 15, none⟩).run Try.prog (((W0.alloc (.cells #[.string ⟨#[]⟩, .string ⟨#[]⟩, .int .i64 0, .bool false, .slice none 0 0] 31 (0, 0))).drew).setRow W0.heap.size (wlCs u v)) = .ok (.agg (wlCs b.w bw)) (((W0.alloc (.cells #[.string ⟨#[]⟩, .string ⟨#[]⟩, .int .i64 0, .bool false, .slice none 0 0] 31 (0, 0))).drew).setRow W0.heap.size (wlCs u v))) ∧
    ((rowSem 31 ⟨g0, 15, none⟩).run Try.prog ((((W0.alloc (.cells #[.string ⟨#[]⟩, .string ⟨#[]⟩, .int .i64 0, .bool false, .slice none 0 0] 31 (0, 0))).drew).setRow W0.heap.size (wlCs u v)).alloc (.cells #[.string ⟨#[]⟩, .string ⟨#[]⟩, .int .i64 0, .bool false, .slice none 0 0] 31 (0, 0))) = .ok (.agg (wlCs a.w aw)) ((((W0.alloc (.cells #[.string ⟨#[]⟩, .string ⟨#[]⟩, .int .i64 0, .bool false, .slice none 0 0] 31 (0, 0))).drew).setRow W0.heap.size (wlCs u v)).alloc (.cells #[.string ⟨#[]⟩, .string ⟨#[]⟩, .int .i64 0, .bool false, .slice none 0 0] 31 (0, 0))) ∧ (rowSem 31 ⟨g0 + 1, 15, none⟩).run Try.prog ((((W0.alloc (.cells #[.string ⟨#[]⟩, .string ⟨#[]⟩, .int .i64 0, .bool false, .slice none 0 0] 31 (0, 0))).drew).setRow W0.heap.size (wlCs u v)).alloc (.cells #[.string ⟨#[]⟩, .string ⟨#[]⟩, .int .i64 0, .bool false, .slice none 0 0] 31 (0, 0))) = .ok (.agg (wlCs b.w bw)) ((((W0.alloc (.cells #[.string ⟨#[]⟩, .string ⟨#[]⟩, .int .i64 0, .bool false, .slice none 0 0] 31 (0, 0))).drew).setRow W0.heap.size (wlCs u v)).alloc (.cells #[.string ⟨#[]⟩, .string ⟨#[]⟩, .int .i64 0, .bool false, .slice none 0 0] 31 (0, 0)))) ∧
    (rowStore 31 ⟨W0.heap.size, 0, none⟩ (.agg (wlCs u v))).run Try.prog ((W0.alloc (.cells #[.string ⟨#[]⟩, .string ⟨#[]⟩, .int .i64 0, .bool false, .slice none 0 0] 31 (0, 0))).drew) = .ok () (((W0.alloc (.cells #[.string ⟨#[]⟩, .string ⟨#[]⟩, .int .i64 0, .bool false, .slice none 0 0] 31 (0, 0))).drew).setRow W0.heap.size (wlCs u v)) ∧
    (rowStore 31 ⟨W0.heap.size + 1, 0, none⟩ (.agg (wlCs u' v'))).run Try.prog ((((W0.alloc (.cells #[.string ⟨#[]⟩, .string ⟨#[]⟩, .int .i64 0, .bool false, .slice none 0 0] 31 (0, 0))).drew).setRow W0.heap.size (wlCs u v)).alloc (.cells #[.string ⟨#[]⟩, .string ⟨#[]⟩, .int .i64 0, .bool false, .slice none 0 0] 31 (0, 0))) = .ok () (((((W0.alloc (.cells #[.string ⟨#[]⟩, .string ⟨#[]⟩, .int .i64 0, .bool false, .slice none 0 0] 31 (0, 0))).drew).setRow W0.heap.size (wlCs u v)).alloc (.cells #[.string ⟨#[]⟩, .string ⟨#[]⟩, .int .i64 0, .bool false, .slice none 0 0] 31 (0, 0))).setRow (W0.heap.size + 1) (wlCs u' v')) ∧
    (u = a.w → v = aw → u' = b.w → v' = bw → RsAt W0 a b aw ac af ap bw bc bf bp g0 W0.heap.size (W0.heap.size + 1) (((((W0.alloc (.cells #[.string ⟨#[]⟩, .string ⟨#[]⟩, .int .i64 0, .bool false, .slice none 0 0] 31 (0, 0))).drew).setRow W0.heap.size (wlCs u v)).alloc (.cells #[.string ⟨#[]⟩, .string ⟨#[]⟩, .int .i64 0, .bool false, .slice none 0 0] 31 (0, 0))).setRow (W0.heap.size + 1) (wlCs u' v'))) ∧
    (u' = a.w → v' = aw → u = b.w → v = bw → RsAt W0 a b aw ac af ap bw bc bf bp g0 (W0.heap.size + 1) W0.heap.size (((((W0.alloc (.cells #[.string ⟨#[]⟩, .string ⟨#[]⟩, .int .i64 0, .bool false, .slice none 0 0] 31 (0, 0))).drew).setRow W0.heap.size (wlCs u v)).alloc (.cells #[.string ⟨#[]⟩, .string ⟨#[]⟩, .int .i64 0, .bool false, .slice none 0 0] 31 (0, 0))).setRow (W0.heap.size + 1) (wlCs u' v'))) := by
  have l1 := O1.lt
  have l2 := O2.lt
  have p1 : Obj? W0.drew g0 _ _ := O1
  have p2 : Obj? W0.drew (g0 + 1) _ _ := O2
  have q1 : Obj? ((W0.alloc (.cells #[.string ⟨#[]⟩, .string ⟨#[]⟩, .int .i64 0, .bool false, .slice none 0 0] 31 (0, 0))).drew) g0 _ _ := O1.alloc _
  have q2 : Obj? ((W0.alloc (.cells #[.string ⟨#[]⟩, .string ⟨#[]⟩, .int .i64 0, .bool false, .slice none 0 0] 31 (0, 0))).drew) (g0 + 1) _ _ := O2.alloc _
  have r1 : Obj? (((W0.alloc (.cells #[.string ⟨#[]⟩, .string ⟨#[]⟩, .int .i64 0, .bool false, .slice none 0 0] 31 (0, 0))).drew).setRow W0.heap.size (wlCs u v)) g0 _ _ := q1.setRow_ne (by omega)
  have r2 : Obj? (((W0.alloc (.cells #[.string ⟨#[]⟩, .string ⟨#[]⟩, .int .i64 0, .bool false, .slice none 0 0] 31 (0, 0))).drew).setRow W0.heap.size (wlCs u v)) (g0 + 1) _ _ := q2.setRow_ne (by omega)
  have s1 : Obj? ((((W0.alloc (.cells #[.string ⟨#[]⟩, .string ⟨#[]⟩, .int .i64 0, .bool false, .slice none 0 0] 31 (0, 0))).drew).setRow W0.heap.size (wlCs u v)).alloc (.cells #[.string ⟨#[]⟩, .string ⟨#[]⟩, .int .i64 0, .bool false, .slice none 0 0] 31 (0, 0))) g0 _ _ := r1.alloc _
  have s2 : Obj? ((((W0.alloc (.cells #[.string ⟨#[]⟩, .string ⟨#[]⟩, .int .i64 0, .bool false, .slice none 0 0] 31 (0, 0))).drew).setRow W0.heap.size (wlCs u v)).alloc (.cells #[.string ⟨#[]⟩, .string ⟨#[]⟩, .int .i64 0, .bool false, .slice none 0 0] 31 (0, 0))) (g0 + 1) _ _ := r2.alloc _
  have E1 : Obj? ((W0.alloc (.cells #[.string ⟨#[]⟩, .string ⟨#[]⟩, .int .i64 0, .bool false, .slice none 0 0] 31 (0, 0))).drew) W0.heap.size #[.string ⟨#[]⟩, .string ⟨#[]⟩, .int .i64 0, .bool false, .slice none 0 0] 31 := Obj?.new W0 #[.string ⟨#[]⟩, .string ⟨#[]⟩, .int .i64 0, .bool false, .slice none 0 0] 31
  have E2 : Obj? ((((W0.alloc (.cells #[.string ⟨#[]⟩, .string ⟨#[]⟩, .int .i64 0, .bool false, .slice none 0 0] 31 (0, 0))).drew).setRow W0.heap.size (wlCs u v)).alloc (.cells #[.string ⟨#[]⟩, .string ⟨#[]⟩, .int .i64 0, .bool false, .slice none 0 0] 31 (0, 0))) W0.heap.size (wlCs u v) 31 := (E1.setRow _).alloc _
  have hsz : ((((W0.alloc (.cells #[.string ⟨#[]⟩, .string ⟨#[]⟩, .int .i64 0, .bool false, .slice none 0 0] 31 (0, 0))).drew).setRow W0.heap.size (wlCs u v))).heap.size = W0.heap.size + 1 := by rw [setRow_size]; show (W0.alloc _).heap.size = _; rw [World.size_alloc]
  have E3 : Obj? ((((W0.alloc (.cells #[.string ⟨#[]⟩, .string ⟨#[]⟩, .int .i64 0, .bool false, .slice none 0 0] 31 (0, 0))).drew).setRow W0.heap.size (wlCs u v)).alloc (.cells #[.string ⟨#[]⟩, .string ⟨#[]⟩, .int .i64 0, .bool false, .slice none 0 0] 31 (0, 0))) (W0.heap.size + 1) #[.string ⟨#[]⟩, .string ⟨#[]⟩, .int .i64 0, .bool false, .slice none 0 0] 31 := by
    have := Obj?.new (((W0.alloc (.cells #[.string ⟨#[]⟩, .string ⟨#[]⟩, .int .i64 0, .bool false, .slice none 0 0] 31 (0, 0))).drew).setRow W0.heap.size (wlCs u v)) #[.string ⟨#[]⟩, .string ⟨#[]⟩, .int .i64 0, .bool false, .slice none 0 0] 31
    rw [hsz] at this
    exact this
  have hb : Below W0.heap.size W0 ((((W0.alloc (.cells #[.string ⟨#[]⟩, .string ⟨#[]⟩, .int .i64 0, .bool false, .slice none 0 0] 31 (0, 0))).drew).setRow W0.heap.size (wlCs u v)).alloc (.cells #[.string ⟨#[]⟩, .string ⟨#[]⟩, .int .i64 0, .bool false, .slice none 0 0] 31 (0, 0))) := (below_row (show Below W0.heap.size W0 ((W0.alloc (.cells #[.string ⟨#[]⟩, .string ⟨#[]⟩, .int .i64 0, .bool false, .slice none 0 0] 31 (0, 0))).drew) from below_drewh (below_al (Below.refl _ W0) _)) (Nat.le_refl _) _).alloc (by rw [hsz]; omega) _
  refine ⟨⟨load_wl p1, load_wl p2⟩, ⟨load_wl q1, load_wl q2⟩, ⟨load_wl r1, load_wl r2⟩, ⟨load_wl s1, load_wl s2⟩, store_oldwl u v hv E1, store_oldwl u' v' hv' E3, ?_, ?_⟩
  · rintro rfl rfl rfl rfl
    exact ⟨s1.setRow_ne (by omega), s2.setRow_ne (by omega), E2.setRow_ne (by omega), E3.setRow _, below_row hb (by omega) _⟩
  · rintro rfl rfl rfl rfl
    exact ⟨s1.setRow_ne (by omega), s2.setRow_ne (by omega), E3.setRow _, E2.setRow_ne (by omega), below_row hb (by omega) _⟩
theorem rs_done {W0 : World} {a b : Pk} {aw ac af ap bw bc bf bp : Value} {g0 : Nat} (O1 : Obj? W0 g0 (pkCs a aw ac af ap) 35) (O2 : Obj? W0 (g0 + 1) (pkCs b bw bc bf bp) 35) :
    RsAt W0 a b aw ac af ap bw bc bf bp g0 W0.heap.size (W0.heap.size + 1) (((((W0.alloc (.cells #[.string ⟨#[]⟩, .string ⟨#[]⟩, .int .i64 0, .bool false, .slice none 0 0] 31 (0, 0))).alloc (.cells #[.string ⟨#[]⟩, .string ⟨#[]⟩, .int .i64 0, .bool false, .slice none 0 0] 31 (0, 0))).drew).setRow W0.heap.size (wlCs a.w aw)).setRow (W0.heap.size + 1) (wlCs b.w bw)) := by
  have E1 : Obj? (((W0.alloc (.cells #[.string ⟨#[]⟩, .string ⟨#[]⟩, .int .i64 0, .bool false, .slice none 0 0] 31 (0, 0))).alloc (.cells #[.string ⟨#[]⟩, .string ⟨#[]⟩, .int .i64 0, .bool false, .slice none 0 0] 31 (0, 0))).drew) W0.heap.size #[.string ⟨#[]⟩, .string ⟨#[]⟩, .int .i64 0, .bool false, .slice none 0 0] 31 := (Obj?.new W0 #[.string ⟨#[]⟩, .string ⟨#[]⟩, .int .i64 0, .bool false, .slice none 0 0] 31).alloc (.cells #[.string ⟨#[]⟩, .string ⟨#[]⟩, .int .i64 0, .bool false, .slice none 0 0] 31 (0, 0))
  have E2 : Obj? (((W0.alloc (.cells #[.string ⟨#[]⟩, .string ⟨#[]⟩, .int .i64 0, .bool false, .slice none 0 0] 31 (0, 0))).alloc (.cells #[.string ⟨#[]⟩, .string ⟨#[]⟩, .int .i64 0, .bool false, .slice none 0 0] 31 (0, 0))).drew) (W0.heap.size + 1) #[.string ⟨#[]⟩, .string ⟨#[]⟩, .int .i64 0, .bool false, .slice none 0 0] 31 := by
    have := Obj?.new (W0.alloc (.cells #[.string ⟨#[]⟩, .string ⟨#[]⟩, .int .i64 0, .bool false, .slice none 0 0] 31 (0, 0))) #[.string ⟨#[]⟩, .string ⟨#[]⟩, .int .i64 0, .bool false, .slice none 0 0] 31
    rw [World.size_alloc] at this
    exact this
  have l1 := O1.lt
  have l2 := O2.lt
  have q1 : Obj? (((W0.alloc (.cells #[.string ⟨#[]⟩, .string ⟨#[]⟩, .int .i64 0, .bool false, .slice none 0 0] 31 (0, 0))).alloc (.cells #[.string ⟨#[]⟩, .string ⟨#[]⟩, .int .i64 0, .bool false, .slice none 0 0] 31 (0, 0))).drew) g0 _ _ := (O1.alloc _).alloc _
  have q2 : Obj? (((W0.alloc (.cells #[.string ⟨#[]⟩, .string ⟨#[]⟩, .int .i64 0, .bool false, .slice none 0 0] 31 (0, 0))).alloc (.cells #[.string ⟨#[]⟩, .string ⟨#[]⟩, .int .i64 0, .bool false, .slice none 0 0] 31 (0, 0))).drew) (g0 + 1) _ _ := (O2.alloc _).alloc _
  have hb : Below W0.heap.size W0 (((W0.alloc (.cells #[.string ⟨#[]⟩, .string ⟨#[]⟩, .int .i64 0, .bool false, .slice none 0 0] 31 (0, 0))).alloc (.cells #[.string ⟨#[]⟩, .string ⟨#[]⟩, .int .i64 0, .bool false, .slice none 0 0] 31 (0, 0))).drew) := below_drewh (below_al (below_al (Below.refl _ W0) _) _)
  exact ⟨(q1.setRow_ne (by omega)).setRow_ne (by omega), (q2.setRow_ne (by omega)).setRow_ne (by omega), (E1.setRow _).setRow_ne (by omega), (E2.setRow_ne (by omega)).setRow _, below_row (below_row hb (Nat.le_refl _) _) (by omega) _⟩
theorem rs_done2 {W0 : World} {a b : Pk} {aw ac af ap bw bc bf bp : Value} {g0 : Nat} (O1 : Obj? W0 g0 (pkCs a aw ac af ap) 35) (O2 : Obj? W0 (g0 + 1) (pkCs b bw bc bf bp) 35) :
    RsAt W0 a b aw ac af ap bw bc bf bp g0 (W0.heap.size + 1) W0.heap.size (((((W0.alloc (.cells #[.string ⟨#[]⟩, .string ⟨#[]⟩, .int .i64 0, .bool false, .slice none 0 0] 31 (0, 0))).alloc (.cells #[.string ⟨#[]⟩, .string ⟨#[]⟩, .int .i64 0, .bool false, .slice none 0 0] 31 (0, 0))).drew).setRow (W0.heap.size + 1) (wlCs a.w aw)).setRow W0.heap.size (wlCs b.w bw)) := by
  have E1 : Obj? (((W0.alloc (.cells #[.string ⟨#[]⟩, .string ⟨#[]⟩, .int .i64 0, .bool false, .slice none 0 0] 31 (0, 0))).alloc (.cells #[.string ⟨#[]⟩, .string ⟨#[]⟩, .int .i64 0, .bool false, .slice none 0 0] 31 (0, 0))).drew) W0.heap.size #[.string ⟨#[]⟩, .string ⟨#[]⟩, .int .i64 0, .bool false, .slice none 0 0] 31 := (Obj?.new W0 #[.string ⟨#[]⟩, .string ⟨#[]⟩, .int .i64 0, .bool false, .slice none 0 0] 31).alloc (.cells #[.string ⟨#[]⟩, .string ⟨#[]⟩, .int .i64 0, .bool false, .slice none 0 0] 31 (0, 0))
  have E2 : Obj? (((W0.alloc (.cells #[.string ⟨#[]⟩, .string ⟨#[]⟩, .int .i64 0, .bool false, .slice none 0 0] 31 (0, 0))).alloc (.cells #[.string ⟨#[]⟩, .string ⟨#[]⟩, .int .i64 0, .bool false, .slice none 0 0] 31 (0, 0))).drew) (W0.heap.size + 1) #[.string ⟨#[]⟩, .string ⟨#[]⟩, .int .i64 0, .bool false, .slice none 0 0] 31 := by
    have := Obj?.new (W0.alloc (.cells #[.string ⟨#[]⟩, .string ⟨#[]⟩, .int .i64 0, .bool false, .slice none 0 0] 31 (0, 0))) #[.string ⟨#[]⟩, .string ⟨#[]⟩, .int .i64 0, .bool false, .slice none 0 0] 31
    rw [World.size_alloc] at this
    exact this
  have l1 := O1.lt
  have l2 := O2.lt
  have q1 : Obj? (((W0.alloc (.cells #[.string ⟨#[]⟩, .string ⟨#[]⟩, .int .i64 0, .bool false, .slice none 0 0] 31 (0, 0))).alloc (.cells #[.string ⟨#[]⟩, .string ⟨#[]⟩, .int .i64 0, .bool false, .slice none 0 0] 31 (0, 0))).drew) g0 _ _ := (O1.alloc _).alloc _
  have q2 : Obj? (((W0.alloc (.cells #[.string ⟨#[]⟩, .string ⟨#[]⟩, .int .i64 0, .bool false, .slice none 0 0] 31 (0, 0))).alloc (.cells #[.string ⟨#[]⟩, .string ⟨#[]⟩, .int .i64 0, .bool false, .slice none 0 0] 31 (0, 0))).drew) (g0 + 1) _ _ := (O2.alloc _).alloc _
  have hb : Below W0.heap.size W0 (((W0.alloc (.cells #[.string ⟨#[]⟩, .string ⟨#[]⟩, .int .i64 0, .bool false, .slice none 0 0] 31 (0, 0))).alloc (.cells #[.string ⟨#[]⟩, .string ⟨#[]⟩, .int .i64 0, .bool false, .slice none 0 0] 31 (0, 0))).drew) := below_drewh (below_al (below_al (Below.refl _ W0) _) _)
  exact ⟨(q1.setRow_ne (by omega)).setRow_ne (by omega), (q2.setRow_ne (by omega)).setRow_ne (by omega), (E2.setRow _).setRow_ne (by omega), (E1.setRow_ne (by omega)).setRow _, below_row (below_row hb (by omega) _) (Nat.le_refl _) _⟩
set_option maxRecDepth 100000 in
set_option maxHeartbeats 3200000 in
theorem rsame_0 {wt1 : List UInt8} {wp1 : List UInt8} {wq1 : Int} {wr1 : Bool} {wl1 : List Pp} {ki1 : Int} {du1 : Bool} {re1 : Bool} {q1 : Int} {id1 : Int} {top1 : List UInt8} {pay1 : List UInt8} {cl1 : Bool} {al1 : Int} {cli1 : List UInt8} {hu1 : Bool} {us1 : List UInt8} {hp1 : Bool} {pw1 : List UInt8} {hw1 : Bool} {se1 : Bool} {co1 : Int} {co_1 : List Int} {fi1 : List Ft} {pr1 : List Pp} {wt2 : List UInt8} {wp2 : List UInt8} {wq2 : Int} {wr2 : Bool} {wl2 : List Pp} {ki2 : Int} {du2 : Bool} {re2 : Bool} {q2 : Int} {id2 : Int} {top2 : List UInt8} {pay2 : List UInt8} {cl2 : Bool} {al2 : Int} {cli2 : List UInt8} {hu2 : Bool} {us2 : List UInt8} {hp2 : Bool} {pw2 : List UInt8} {hw2 : Bool} {se2 : Bool} {co2 : Int} {co_2 : List Int} {fi2 : List Ft} {pr2 : List Pp} {aw ac af ap bw bc bf bp : Value} {w : World} (hA : PkAt w ⟨⟨ki1, q1, id1, al1, co1, du1, re1, cl1, hu1, hp1, hw1, se1, top1, pay1, cli1, us1, pw1⟩, ⟨wt1, wp1, wq1, wr1, wl1⟩, co_1, fi1, pr1⟩ aw ac af ap) (hB : PkAt w ⟨⟨ki2, q2, id2, al2, co2, du2, re2, cl2, hu2, hp2, hw2, se2, top2, pay2, cli2, us2, pw2⟩, ⟨wt2, wp2, wq2, wr2, wl2⟩, co_2, fi2, pr2⟩ bw bc bf bp) (hne : wt1 ≠ wt2) :
    Calls Try.prog 18 #[.agg (pkCs ⟨⟨ki1, q1, id1, al1, co1, du1, re1, cl1, hu1, hp1, hw1, se1, top1, pay1, cli1, us1, pw1⟩, ⟨wt1, wp1, wq1, wr1, wl1⟩, co_1, fi1, pr1⟩ aw ac af ap), .agg (pkCs ⟨⟨ki2, q2, id2, al2, co2, du2, re2, cl2, hu2, hp2, hw2, se2, top2, pay2, cli2, us2, pw2⟩, ⟨wt2, wp2, wq2, wr2, wl2⟩, co_2, fi2, pr2⟩ bw bc bf bp)] w fun e w' => e = .returned (.bool (false)) ∧ Below w.heap.size w w' := by
  obtain ⟨⟨_, _, _, e1⟩, -⟩ := hA.one
  obtain ⟨⟨_, _, _, e2⟩, -⟩ := hB.one
  have o1 : aw.oneCell' = true := by rw [e1]; rfl
  have o2 : bw.oneCell' = true := by rw [e2]; rfl
  obtain ⟨W0, hW0, O1, O2, hb0⟩ := pk_world (⟨⟨ki1, q1, id1, al1, co1, du1, re1, cl1, hu1, hp1, hw1, se1, top1, pay1, cli1, us1, pw1⟩, ⟨wt1, wp1, wq1, wr1, wl1⟩, co_1, fi1, pr1⟩ : Pk) (⟨⟨ki2, q2, id2, al2, co2, du2, re2, cl2, hu2, hp2, hw2, se2, top2, pay2, cli2, us2, pw2⟩, ⟨wt2, wp2, wq2, wr2, wl2⟩, co_2, fi2, pr2⟩ : Pk) aw ac af ap bw bc bf bp w
  have HO := Lib.hid (And.intro O1 (And.intro O2 hb0))
  have HA := Lib.hid (hA.below hb0)
  have HB := Lib.hid (hB.below hb0)
  have H1 := Lib.hid (And.intro o1 o2)
  clear e1 e2 o1 o2 O1 O2 hb0 hA hB
  have qz1 : (wt1 == wt2) = false := by simpa using hne
  have qz2 : (wt1 != wt2) = true := by simpa using hne
  clear hne
  go_enter Try.func18, Try.ntmps18
  refine wp_hide fun Q1 hQ1 => ?_
  have HQ1 := Lib.hid hQ1
  clear hQ1
  go_upto_region 1 with fail
  (try rw [hW0])
  clear hW0
  go_cut [5, 6] from 5 to 10 (fun p5 p6 wx => ∃ b5 b6 : Nat, p5 = .pointer (some ⟨b5, 0, none⟩) ∧ p6 = .pointer (some ⟨b6, 0, none⟩) ∧ Hid (RsAt W0 ⟨⟨ki1, q1, id1, al1, co1, du1, re1, cl1, hu1, hp1, hw1, se1, top1, pay1, cli1, us1, pw1⟩, ⟨wt1, wp1, wq1, wr1, wl1⟩, co_1, fi1, pr1⟩ ⟨⟨ki2, q2, id2, al2, co2, du2, re2, cl2, hu2, hp2, hw2, se2, top2, pay2, cli2, us2, pw2⟩, ⟨wt2, wp2, wq2, wr2, wl2⟩, co_2, fi2, pr2⟩ aw ac af ap bw bc bf bp w.heap.size b5 b6 wx))
  case first =>
    obtain ⟨ld1, ld2, hst⟩ := rs_boxes HO.out.1 HO.out.2.1 H1.out.1 H1.out.2
    obtain ⟨sa1, sb1, sc1, sd1⟩ := hst (⟨wt1, wp1, wq1, wr1, wl1⟩ : Wl) (⟨wt2, wp2, wq2, wr2, wl2⟩ : Wl) aw bw H1.out.1 H1.out.2
    obtain ⟨sa2, sb2, sc2, sd2⟩ := hst (⟨wt2, wp2, wq2, wr2, wl2⟩ : Wl) (⟨wt1, wp1, wq1, wr1, wl1⟩ : Wl) bw aw H1.out.2 H1.out.1
    obtain ⟨la1, la2, la3, la4⟩ := rs_loads HO.out.1 HO.out.2.1 (wlCs (⟨wt1, wp1, wq1, wr1, wl1⟩ : Wl) aw)
    obtain ⟨lb1, lb2, lb3, lb4⟩ := rs_loads HO.out.1 HO.out.2.1 (wlCs (⟨wt2, wp2, wq2, wr2, wl2⟩ : Wl) bw)
    obtain ⟨⟨ma1, ma2⟩, ⟨ma3, ma4⟩, ⟨ma5, ma6⟩, ⟨ma7, ma8⟩, ma9, ma10, ma11, -⟩ := rs_more HO.out.1 HO.out.2.1 (⟨wt1, wp1, wq1, wr1, wl1⟩ : Wl) (⟨wt2, wp2, wq2, wr2, wl2⟩ : Wl) aw bw H1.out.1 H1.out.2
    obtain ⟨-, -, ⟨mb5, mb6⟩, ⟨mb7, mb8⟩, mb9, mb10, -, mb11⟩ := rs_more HO.out.1 HO.out.2.1 (⟨wt2, wp2, wq2, wr2, wl2⟩ : Wl) (⟨wt1, wp1, wq1, wr1, wl1⟩ : Wl) bw aw H1.out.2 H1.out.1
    have HDp := Lib.hid (ma11 rfl rfl rfl rfl)
    have HDq := Lib.hid (mb11 rfl rfl rfl rfl)
    clear ma11 mb11
    have HDn := Lib.hid (rs_done HO.out.1 HO.out.2.1)
    have HDm := Lib.hid (rs_done2 HO.out.1 HO.out.2.1)
    clear hst
    go_region
    all_goals
      go_wp2
      go_meet
      first
        | exact ⟨_, _, rfl, rfl, HDn⟩
        | exact ⟨_, _, rfl, rfl, HDm⟩
        | exact ⟨_, _, rfl, rfl, HDp⟩
        | exact ⟨_, _, rfl, rfl, HDq⟩
  case rest =>
  obtain ⟨b5, b6, rfl, rfl, HR⟩ := hcut
  have k1 := HR.out.p1.cells
  have k2 := HR.out.p2.cells
  have k3 := HR.out.w1.cells
  have k4 := HR.out.w2.cells
  simp only [pkCs, wlCs] at k1 k2 k3 k4
  go_wp2
  refine HQ1.out _ _ _ ?_
  go_ret
  exact ⟨rfl, below_thenh HO.out.2.2 HR.out.bel⟩
set_option maxRecDepth 100000 in
set_option maxHeartbeats 3200000 in
theorem rsame_1 {wt1 : List UInt8} {wp1 : List UInt8} {wq1 : Int} {wr1 : Bool} {wl1 : List Pp} {ki1 : Int} {du1 : Bool} {re1 : Bool} {q1 : Int} {id1 : Int} {top1 : List UInt8} {pay1 : List UInt8} {cl1 : Bool} {al1 : Int} {cli1 : List UInt8} {hu1 : Bool} {us1 : List UInt8} {hp1 : Bool} {pw1 : List UInt8} {hw1 : Bool} {se1 : Bool} {co1 : Int} {co_1 : List Int} {fi1 : List Ft} {pr1 : List Pp} {wp2 : List UInt8} {wq2 : Int} {wr2 : Bool} {wl2 : List Pp} {ki2 : Int} {du2 : Bool} {re2 : Bool} {q2 : Int} {id2 : Int} {top2 : List UInt8} {pay2 : List UInt8} {cl2 : Bool} {al2 : Int} {cli2 : List UInt8} {hu2 : Bool} {us2 : List UInt8} {hp2 : Bool} {pw2 : List UInt8} {hw2 : Bool} {se2 : Bool} {co2 : Int} {co_2 : List Int} {fi2 : List Ft} {pr2 : List Pp} {aw ac af ap bw bc bf bp : Value} {w : World} (hA : PkAt w ⟨⟨ki1, q1, id1, al1, co1, du1, re1, cl1, hu1, hp1, hw1, se1, top1, pay1, cli1, us1, pw1⟩, ⟨wt1, wp1, wq1, wr1, wl1⟩, co_1, fi1, pr1⟩ aw ac af ap) (hB : PkAt w ⟨⟨ki2, q2, id2, al2, co2, du2, re2, cl2, hu2, hp2, hw2, se2, top2, pay2, cli2, us2, pw2⟩, ⟨wt1, wp2, wq2, wr2, wl2⟩, co_2, fi2, pr2⟩ bw bc bf bp) (hne : wp1 ≠ wp2) :
    Calls Try.prog 18 #[.agg (pkCs ⟨⟨ki1, q1, id1, al1, co1, du1, re1, cl1, hu1, hp1, hw1, se1, top1, pay1, cli1, us1, pw1⟩, ⟨wt1, wp1, wq1, wr1, wl1⟩, co_1, fi1, pr1⟩ aw ac af ap), .agg (pkCs ⟨⟨ki2, q2, id2, al2, co2, du2, re2, cl2, hu2, hp2, hw2, se2, top2, pay2, cli2, us2, pw2⟩, ⟨wt1, wp2, wq2, wr2, wl2⟩, co_2, fi2, pr2⟩ bw bc bf bp)] w fun e w' => e = .returned (.bool (false)) ∧ Below w.heap.size w w' := by
  obtain ⟨⟨_, _, _, e1⟩, -⟩ := hA.one
  obtain ⟨⟨_, _, _, e2⟩, -⟩ := hB.one
  have o1 : aw.oneCell' = true := by rw [e1]; rfl
  have o2 : bw.oneCell' = true := by rw [e2]; rfl
  obtain ⟨W0, hW0, O1, O2, hb0⟩ := pk_world (⟨⟨ki1, q1, id1, al1, co1, du1, re1, cl1, hu1, hp1, hw1, se1, top1, pay1, cli1, us1, pw1⟩, ⟨wt1, wp1, wq1, wr1, wl1⟩, co_1, fi1, pr1⟩ : Pk) (⟨⟨ki2, q2, id2, al2, co2, du2, re2, cl2, hu2, hp2, hw2, se2, top2, pay2, cli2, us2, pw2⟩, ⟨wt1, wp2, wq2, wr2, wl2⟩, co_2, fi2, pr2⟩ : Pk) aw ac af ap bw bc bf bp w
  have HO := Lib.hid (And.intro O1 (And.intro O2 hb0))
  have HA := Lib.hid (hA.below hb0)
  have HB := Lib.hid (hB.below hb0)
  have H1 := Lib.hid (And.intro o1 o2)
  clear e1 e2 o1 o2 O1 O2 hb0 hA hB
  have qz1 : (wp1 == wp2) = false := by simpa using hne
  have qz2 : (wp1 != wp2) = true := by simpa using hne
  clear hne
  go_enter Try.func18, Try.ntmps18
  refine wp_hide fun Q1 hQ1 => ?_
  have HQ1 := Lib.hid hQ1
  clear hQ1
  go_upto_region 1 with fail
  (try rw [hW0])
  clear hW0
  go_cut [5, 6] from 5 to 10 (fun p5 p6 wx => ∃ b5 b6 : Nat, p5 = .pointer (some ⟨b5, 0, none⟩) ∧ p6 = .pointer (some ⟨b6, 0, none⟩) ∧ Hid (RsAt W0 ⟨⟨ki1, q1, id1, al1, co1, du1, re1, cl1, hu1, hp1, hw1, se1, top1, pay1, cli1, us1, pw1⟩, ⟨wt1, wp1, wq1, wr1, wl1⟩, co_1, fi1, pr1⟩ ⟨⟨ki2, q2, id2, al2, co2, du2, re2, cl2, hu2, hp2, hw2, se2, top2, pay2, cli2, us2, pw2⟩, ⟨wt1, wp2, wq2, wr2, wl2⟩, co_2, fi2, pr2⟩ aw ac af ap bw bc bf bp w.heap.size b5 b6 wx))
  case first =>
    obtain ⟨ld1, ld2, hst⟩ := rs_boxes HO.out.1 HO.out.2.1 H1.out.1 H1.out.2
    obtain ⟨sa1, sb1, sc1, sd1⟩ := hst (⟨wt1, wp1, wq1, wr1, wl1⟩ : Wl) (⟨wt1, wp2, wq2, wr2, wl2⟩ : Wl) aw bw H1.out.1 H1.out.2
    obtain ⟨sa2, sb2, sc2, sd2⟩ := hst (⟨wt1, wp2, wq2, wr2, wl2⟩ : Wl) (⟨wt1, wp1, wq1, wr1, wl1⟩ : Wl) bw aw H1.out.2 H1.out.1
    obtain ⟨la1, la2, la3, la4⟩ := rs_loads HO.out.1 HO.out.2.1 (wlCs (⟨wt1, wp1, wq1, wr1, wl1⟩ : Wl) aw)
    obtain ⟨lb1, lb2, lb3, lb4⟩ := rs_loads HO.out.1 HO.out.2.1 (wlCs (⟨wt1, wp2, wq2, wr2, wl2⟩ : Wl) bw)
    obtain ⟨⟨ma1, ma2⟩, ⟨ma3, ma4⟩, ⟨ma5, ma6⟩, ⟨ma7, ma8⟩, ma9, ma10, ma11, -⟩ := rs_more HO.out.1 HO.out.2.1 (⟨wt1, wp1, wq1, wr1, wl1⟩ : Wl) (⟨wt1, wp2, wq2, wr2, wl2⟩ : Wl) aw bw H1.out.1 H1.out.2
    obtain ⟨-, -, ⟨mb5, mb6⟩, ⟨mb7, mb8⟩, mb9, mb10, -, mb11⟩ := rs_more HO.out.1 HO.out.2.1 (⟨wt1, wp2, wq2, wr2, wl2⟩ : Wl) (⟨wt1, wp1, wq1, wr1, wl1⟩ : Wl) bw aw H1.out.2 H1.out.1
    have HDp := Lib.hid (ma11 rfl rfl rfl rfl)
    have HDq := Lib.hid (mb11 rfl rfl rfl rfl)
    clear ma11 mb11
    have HDn := Lib.hid (rs_done HO.out.1 HO.out.2.1)
    have HDm := Lib.hid (rs_done2 HO.out.1 HO.out.2.1)
    clear hst
    go_region
    all_goals
      go_wp2
      go_meet
      first
        | exact ⟨_, _, rfl, rfl, HDn⟩
        | exact ⟨_, _, rfl, rfl, HDm⟩
        | exact ⟨_, _, rfl, rfl, HDp⟩
        | exact ⟨_, _, rfl, rfl, HDq⟩
  case rest =>
  obtain ⟨b5, b6, rfl, rfl, HR⟩ := hcut
  have k1 := HR.out.p1.cells
  have k2 := HR.out.p2.cells
  have k3 := HR.out.w1.cells
  have k4 := HR.out.w2.cells
  simp only [pkCs, wlCs] at k1 k2 k3 k4
  go_wp2
  refine HQ1.out _ _ _ ?_
  go_ret
  exact ⟨rfl, below_thenh HO.out.2.2 HR.out.bel⟩
set_option maxRecDepth 100000 in
set_option maxHeartbeats 3200000 in
theorem rsame_2 {wt1 : List UInt8} {wp1 : List UInt8} {wq1 : Int} {wr1 : Bool} {wl1 : List Pp} {ki1 : Int} {du1 : Bool} {re1 : Bool} {q1 : Int} {id1 : Int} {top1 : List UInt8} {pay1 : List UInt8} {cl1 : Bool} {al1 : Int} {cli1 : List UInt8} {hu1 : Bool} {us1 : List UInt8} {hp1 : Bool} {pw1 : List UInt8} {hw1 : Bool} {se1 : Bool} {co1 : Int} {co_1 : List Int} {fi1 : List Ft} {pr1 : List Pp} {wq2 : Int} {wr2 : Bool} {wl2 : List Pp} {ki2 : Int} {du2 : Bool} {re2 : Bool} {q2 : Int} {id2 : Int} {top2 : List UInt8} {pay2 : List UInt8} {cl2 : Bool} {al2 : Int} {cli2 : List UInt8} {hu2 : Bool} {us2 : List UInt8} {hp2 : Bool} {pw2 : List UInt8} {hw2 : Bool} {se2 : Bool} {co2 : Int} {co_2 : List Int} {fi2 : List Ft} {pr2 : List Pp} {aw ac af ap bw bc bf bp : Value} {w : World} (hA : PkAt w ⟨⟨ki1, q1, id1, al1, co1, du1, re1, cl1, hu1, hp1, hw1, se1, top1, pay1, cli1, us1, pw1⟩, ⟨wt1, wp1, wq1, wr1, wl1⟩, co_1, fi1, pr1⟩ aw ac af ap) (hB : PkAt w ⟨⟨ki2, q2, id2, al2, co2, du2, re2, cl2, hu2, hp2, hw2, se2, top2, pay2, cli2, us2, pw2⟩, ⟨wt1, wp1, wq2, wr2, wl2⟩, co_2, fi2, pr2⟩ bw bc bf bp) (hne : wq1 ≠ wq2) :
    Calls Try.prog 18 #[.agg (pkCs ⟨⟨ki1, q1, id1, al1, co1, du1, re1, cl1, hu1, hp1, hw1, se1, top1, pay1, cli1, us1, pw1⟩, ⟨wt1, wp1, wq1, wr1, wl1⟩, co_1, fi1, pr1⟩ aw ac af ap), .agg (pkCs ⟨⟨ki2, q2, id2, al2, co2, du2, re2, cl2, hu2, hp2, hw2, se2, top2, pay2, cli2, us2, pw2⟩, ⟨wt1, wp1, wq2, wr2, wl2⟩, co_2, fi2, pr2⟩ bw bc bf bp)] w fun e w' => e = .returned (.bool (false)) ∧ Below w.heap.size w w' := by
  obtain ⟨⟨_, _, _, e1⟩, -⟩ := hA.one
  obtain ⟨⟨_, _, _, e2⟩, -⟩ := hB.one
  have o1 : aw.oneCell' = true := by rw [e1]; rfl
  have o2 : bw.oneCell' = true := by rw [e2]; rfl
  obtain ⟨W0, hW0, O1, O2, hb0⟩ := pk_world (⟨⟨ki1, q1, id1, al1, co1, du1, re1, cl1, hu1, hp1, hw1, se1, top1, pay1, cli1, us1, pw1⟩, ⟨wt1, wp1, wq1, wr1, wl1⟩, co_1, fi1, pr1⟩ : Pk) (⟨⟨ki2, q2, id2, al2, co2, du2, re2, cl2, hu2, hp2, hw2, se2, top2, pay2, cli2, us2, pw2⟩, ⟨wt1, wp1, wq2, wr2, wl2⟩, co_2, fi2, pr2⟩ : Pk) aw ac af ap bw bc bf bp w
  have HO := Lib.hid (And.intro O1 (And.intro O2 hb0))
  have HA := Lib.hid (hA.below hb0)
  have HB := Lib.hid (hB.below hb0)
  have H1 := Lib.hid (And.intro o1 o2)
  clear e1 e2 o1 o2 O1 O2 hb0 hA hB
  have qz1 : (wq1 == wq2) = false := by simpa using hne
  have qz2 : (wq1 != wq2) = true := by simpa using hne
  clear hne
  go_enter Try.func18, Try.ntmps18
  refine wp_hide fun Q1 hQ1 => ?_
  have HQ1 := Lib.hid hQ1
  clear hQ1
  go_upto_region 1 with fail
  (try rw [hW0])
  clear hW0
  go_cut [5, 6] from 5 to 10 (fun p5 p6 wx => ∃ b5 b6 : Nat, p5 = .pointer (some ⟨b5, 0, none⟩) ∧ p6 = .pointer (some ⟨b6, 0, none⟩) ∧ Hid (RsAt W0 ⟨⟨ki1, q1, id1, al1, co1, du1, re1, cl1, hu1, hp1, hw1, se1, top1, pay1, cli1, us1, pw1⟩, ⟨wt1, wp1, wq1, wr1, wl1⟩, co_1, fi1, pr1⟩ ⟨⟨ki2, q2, id2, al2, co2, du2, re2, cl2, hu2, hp2, hw2, se2, top2, pay2, cli2, us2, pw2⟩, ⟨wt1, wp1, wq2, wr2, wl2⟩, co_2, fi2, pr2⟩ aw ac af ap bw bc bf bp w.heap.size b5 b6 wx))
  case first =>
    obtain ⟨ld1, ld2, hst⟩ := rs_boxes HO.out.1 HO.out.2.1 H1.out.1 H1.out.2
    obtain ⟨sa1, sb1, sc1, sd1⟩ := hst (⟨wt1, wp1, wq1, wr1, wl1⟩ : Wl) (⟨wt1, wp1, wq2, wr2, wl2⟩ : Wl) aw bw H1.out.1 H1.out.2
    obtain ⟨sa2, sb2, sc2, sd2⟩ := hst (⟨wt1, wp1, wq2, wr2, wl2⟩ : Wl) (⟨wt1, wp1, wq1, wr1, wl1⟩ : Wl) bw aw H1.out.2 H1.out.1
    obtain ⟨la1, la2, la3, la4⟩ := rs_loads HO.out.1 HO.out.2.1 (wlCs (⟨wt1, wp1, wq1, wr1, wl1⟩ : Wl) aw)
    obtain ⟨lb1, lb2, lb3, lb4⟩ := rs_loads HO.out.1 HO.out.2.1 (wlCs (⟨wt1, wp1, wq2, wr2, wl2⟩ : Wl) bw)
    obtain ⟨⟨ma1, ma2⟩, ⟨ma3, ma4⟩, ⟨ma5, ma6⟩, ⟨ma7, ma8⟩, ma9, ma10, ma11, -⟩ := rs_more HO.out.1 HO.out.2.1 (⟨wt1, wp1, wq1, wr1, wl1⟩ : Wl) (⟨wt1, wp1, wq2, wr2, wl2⟩ : Wl) aw bw H1.out.1 H1.out.2
    obtain ⟨-, -, ⟨mb5, mb6⟩, ⟨mb7, mb8⟩, mb9, mb10, -, mb11⟩ := rs_more HO.out.1 HO.out.2.1 (⟨wt1, wp1, wq2, wr2, wl2⟩ : Wl) (⟨wt1, wp1, wq1, wr1, wl1⟩ : Wl) bw aw H1.out.2 H1.out.1
    have HDp := Lib.hid (ma11 rfl rfl rfl rfl)
    have HDq := Lib.hid (mb11 rfl rfl rfl rfl)
    clear ma11 mb11
    have HDn := Lib.hid (rs_done HO.out.1 HO.out.2.1)
    have HDm := Lib.hid (rs_done2 HO.out.1 HO.out.2.1)
    clear hst
    go_region
    all_goals
      go_wp2
      go_meet
      first
        | exact ⟨_, _, rfl, rfl, HDn⟩
        | exact ⟨_, _, rfl, rfl, HDm⟩
        | exact ⟨_, _, rfl, rfl, HDp⟩
        | exact ⟨_, _, rfl, rfl, HDq⟩
  case rest =>
  obtain ⟨b5, b6, rfl, rfl, HR⟩ := hcut
  have k1 := HR.out.p1.cells
  have k2 := HR.out.p2.cells
  have k3 := HR.out.w1.cells
  have k4 := HR.out.w2.cells
  simp only [pkCs, wlCs] at k1 k2 k3 k4
  go_wp2
  refine HQ1.out _ _ _ ?_
  go_ret
  exact ⟨rfl, below_thenh HO.out.2.2 HR.out.bel⟩
set_option maxRecDepth 100000 in
set_option maxHeartbeats 3200000 in
theorem rsame_3 {wt1 : List UInt8} {wp1 : List UInt8} {wq1 : Int} {wr1 : Bool} {wl1 : List Pp} {ki1 : Int} {du1 : Bool} {re1 : Bool} {q1 : Int} {id1 : Int} {top1 : List UInt8} {pay1 : List UInt8} {cl1 : Bool} {al1 : Int} {cli1 : List UInt8} {hu1 : Bool} {us1 : List UInt8} {hp1 : Bool} {pw1 : List UInt8} {hw1 : Bool} {se1 : Bool} {co1 : Int} {co_1 : List Int} {fi1 : List Ft} {pr1 : List Pp} {wr2 : Bool} {wl2 : List Pp} {ki2 : Int} {du2 : Bool} {re2 : Bool} {q2 : Int} {id2 : Int} {top2 : List UInt8} {pay2 : List UInt8} {cl2 : Bool} {al2 : Int} {cli2 : List UInt8} {hu2 : Bool} {us2 : List UInt8} {hp2 : Bool} {pw2 : List UInt8} {hw2 : Bool} {se2 : Bool} {co2 : Int} {co_2 : List Int} {fi2 : List Ft} {pr2 : List Pp} {aw ac af ap bw bc bf bp : Value} {w : World} (hA : PkAt w ⟨⟨ki1, q1, id1, al1, co1, du1, re1, cl1, hu1, hp1, hw1, se1, top1, pay1, cli1, us1, pw1⟩, ⟨wt1, wp1, wq1, wr1, wl1⟩, co_1, fi1, pr1⟩ aw ac af ap) (hB : PkAt w ⟨⟨ki2, q2, id2, al2, co2, du2, re2, cl2, hu2, hp2, hw2, se2, top2, pay2, cli2, us2, pw2⟩, ⟨wt1, wp1, wq1, wr2, wl2⟩, co_2, fi2, pr2⟩ bw bc bf bp) (hne : wr1 ≠ wr2) :
    Calls Try.prog 18 #[.agg (pkCs ⟨⟨ki1, q1, id1, al1, co1, du1, re1, cl1, hu1, hp1, hw1, se1, top1, pay1, cli1, us1, pw1⟩, ⟨wt1, wp1, wq1, wr1, wl1⟩, co_1, fi1, pr1⟩ aw ac af ap), .agg (pkCs ⟨⟨ki2, q2, id2, al2, co2, du2, re2, cl2, hu2, hp2, hw2, se2, top2, pay2, cli2, us2, pw2⟩, ⟨wt1, wp1, wq1, wr2, wl2⟩, co_2, fi2, pr2⟩ bw bc bf bp)] w fun e w' => e = .returned (.bool (false)) ∧ Below w.heap.size w w' := by
  obtain ⟨⟨_, _, _, e1⟩, -⟩ := hA.one
  obtain ⟨⟨_, _, _, e2⟩, -⟩ := hB.one
  have o1 : aw.oneCell' = true := by rw [e1]; rfl
  have o2 : bw.oneCell' = true := by rw [e2]; rfl
  obtain ⟨W0, hW0, O1, O2, hb0⟩ := pk_world (⟨⟨ki1, q1, id1, al1, co1, du1, re1, cl1, hu1, hp1, hw1, se1, top1, pay1, cli1, us1, pw1⟩, ⟨wt1, wp1, wq1, wr1, wl1⟩, co_1, fi1, pr1⟩ : Pk) (⟨⟨ki2, q2, id2, al2, co2, du2, re2, cl2, hu2, hp2, hw2, se2, top2, pay2, cli2, us2, pw2⟩, ⟨wt1, wp1, wq1, wr2, wl2⟩, co_2, fi2, pr2⟩ : Pk) aw ac af ap bw bc bf bp w
  have HO := Lib.hid (And.intro O1 (And.intro O2 hb0))
  have HA := Lib.hid (hA.below hb0)
  have HB := Lib.hid (hB.below hb0)
  have H1 := Lib.hid (And.intro o1 o2)
  clear e1 e2 o1 o2 O1 O2 hb0 hA hB
  have qz1 : (wr1 == wr2) = false := by simpa using hne
  have qz2 : (wr1 != wr2) = true := by simpa using hne
  clear hne
  go_enter Try.func18, Try.ntmps18
  refine wp_hide fun Q1 hQ1 => ?_
  have HQ1 := Lib.hid hQ1
  clear hQ1
  go_upto_region 1 with fail
  (try rw [hW0])
  clear hW0
  go_cut [5, 6] from 5 to 10 (fun p5 p6 wx => ∃ b5 b6 : Nat, p5 = .pointer (some ⟨b5, 0, none⟩) ∧ p6 = .pointer (some ⟨b6, 0, none⟩) ∧ Hid (RsAt W0 ⟨⟨ki1, q1, id1, al1, co1, du1, re1, cl1, hu1, hp1, hw1, se1, top1, pay1, cli1, us1, pw1⟩, ⟨wt1, wp1, wq1, wr1, wl1⟩, co_1, fi1, pr1⟩ ⟨⟨ki2, q2, id2, al2, co2, du2, re2, cl2, hu2, hp2, hw2, se2, top2, pay2, cli2, us2, pw2⟩, ⟨wt1, wp1, wq1, wr2, wl2⟩, co_2, fi2, pr2⟩ aw ac af ap bw bc bf bp w.heap.size b5 b6 wx))
  case first =>
    obtain ⟨ld1, ld2, hst⟩ := rs_boxes HO.out.1 HO.out.2.1 H1.out.1 H1.out.2
    obtain ⟨sa1, sb1, sc1, sd1⟩ := hst (⟨wt1, wp1, wq1, wr1, wl1⟩ : Wl) (⟨wt1, wp1, wq1, wr2, wl2⟩ : Wl) aw bw H1.out.1 H1.out.2
    obtain ⟨sa2, sb2, sc2, sd2⟩ := hst (⟨wt1, wp1, wq1, wr2, wl2⟩ : Wl) (⟨wt1, wp1, wq1, wr1, wl1⟩ : Wl) bw aw H1.out.2 H1.out.1
    obtain ⟨la1, la2, la3, la4⟩ := rs_loads HO.out.1 HO.out.2.1 (wlCs (⟨wt1, wp1, wq1, wr1, wl1⟩ : Wl) aw)
    obtain ⟨lb1, lb2, lb3, lb4⟩ := rs_loads HO.out.1 HO.out.2.1 (wlCs (⟨wt1, wp1, wq1, wr2, wl2⟩ : Wl) bw)
    obtain ⟨⟨ma1, ma2⟩, ⟨ma3, ma4⟩, ⟨ma5, ma6⟩, ⟨ma7, ma8⟩, ma9, ma10, ma11, -⟩ := rs_more HO.out.1 HO.out.2.1 (⟨wt1, wp1, wq1, wr1, wl1⟩ : Wl) (⟨wt1, wp1, wq1, wr2, wl2⟩ : Wl) aw bw H1.out.1 H1.out.2
    obtain ⟨-, -, ⟨mb5, mb6⟩, ⟨mb7, mb8⟩, mb9, mb10, -, mb11⟩ := rs_more HO.out.1 HO.out.2.1 (⟨wt1, wp1, wq1, wr2, wl2⟩ : Wl) (⟨wt1, wp1, wq1, wr1, wl1⟩ : Wl) bw aw H1.out.2 H1.out.1
    have HDp := Lib.hid (ma11 rfl rfl rfl rfl)
    have HDq := Lib.hid (mb11 rfl rfl rfl rfl)
    clear ma11 mb11
    have HDn := Lib.hid (rs_done HO.out.1 HO.out.2.1)
    have HDm := Lib.hid (rs_done2 HO.out.1 HO.out.2.1)
    clear hst
    go_region
    all_goals
      go_wp2
      go_meet
      first
        | exact ⟨_, _, rfl, rfl, HDn⟩
        | exact ⟨_, _, rfl, rfl, HDm⟩
        | exact ⟨_, _, rfl, rfl, HDp⟩
        | exact ⟨_, _, rfl, rfl, HDq⟩
  case rest =>
  obtain ⟨b5, b6, rfl, rfl, HR⟩ := hcut
  have k1 := HR.out.p1.cells
  have k2 := HR.out.p2.cells
  have k3 := HR.out.w1.cells
  have k4 := HR.out.w2.cells
  simp only [pkCs, wlCs] at k1 k2 k3 k4
  go_wp2
  refine HQ1.out _ _ _ ?_
  go_ret
  exact ⟨rfl, below_thenh HO.out.2.2 HR.out.bel⟩
set_option maxRecDepth 100000 in
set_option maxHeartbeats 3200000 in
theorem rsame_4 {wt1 : List UInt8} {wp1 : List UInt8} {wq1 : Int} {wr1 : Bool} {wl1 : List Pp} {ki1 : Int} {du1 : Bool} {re1 : Bool} {q1 : Int} {id1 : Int} {top1 : List UInt8} {pay1 : List UInt8} {cl1 : Bool} {al1 : Int} {cli1 : List UInt8} {hu1 : Bool} {us1 : List UInt8} {hp1 : Bool} {pw1 : List UInt8} {hw1 : Bool} {se1 : Bool} {co1 : Int} {co_1 : List Int} {fi1 : List Ft} {pr1 : List Pp} {wl2 : List Pp} {ki2 : Int} {du2 : Bool} {re2 : Bool} {q2 : Int} {id2 : Int} {top2 : List UInt8} {pay2 : List UInt8} {cl2 : Bool} {al2 : Int} {cli2 : List UInt8} {hu2 : Bool} {us2 : List UInt8} {hp2 : Bool} {pw2 : List UInt8} {hw2 : Bool} {se2 : Bool} {co2 : Int} {co_2 : List Int} {fi2 : List Ft} {pr2 : List Pp} {aw ac af ap bw bc bf bp : Value} {w : World} (hA : PkAt w ⟨⟨ki1, q1, id1, al1, co1, du1, re1, cl1, hu1, hp1, hw1, se1, top1, pay1, cli1, us1, pw1⟩, ⟨wt1, wp1, wq1, wr1, wl1⟩, co_1, fi1, pr1⟩ aw ac af ap) (hB : PkAt w ⟨⟨ki2, q2, id2, al2, co2, du2, re2, cl2, hu2, hp2, hw2, se2, top2, pay2, cli2, us2, pw2⟩, ⟨wt1, wp1, wq1, wr1, wl2⟩, co_2, fi2, pr2⟩ bw bc bf bp) (hne : wl1 ≠ wl2) :
    Calls Try.prog 18 #[.agg (pkCs ⟨⟨ki1, q1, id1, al1, co1, du1, re1, cl1, hu1, hp1, hw1, se1, top1, pay1, cli1, us1, pw1⟩, ⟨wt1, wp1, wq1, wr1, wl1⟩, co_1, fi1, pr1⟩ aw ac af ap), .agg (pkCs ⟨⟨ki2, q2, id2, al2, co2, du2, re2, cl2, hu2, hp2, hw2, se2, top2, pay2, cli2, us2, pw2⟩, ⟨wt1, wp1, wq1, wr1, wl2⟩, co_2, fi2, pr2⟩ bw bc bf bp)] w fun e w' => e = .returned (.bool (false)) ∧ Below w.heap.size w w' := by
  obtain ⟨⟨_, _, _, e1⟩, -⟩ := hA.one
  obtain ⟨⟨_, _, _, e2⟩, -⟩ := hB.one
  have o1 : aw.oneCell' = true := by rw [e1]; rfl
  have o2 : bw.oneCell' = true := by rw [e2]; rfl
  obtain ⟨W0, hW0, O1, O2, hb0⟩ := pk_world (⟨⟨ki1, q1, id1, al1, co1, du1, re1, cl1, hu1, hp1, hw1, se1, top1, pay1, cli1, us1, pw1⟩, ⟨wt1, wp1, wq1, wr1, wl1⟩, co_1, fi1, pr1⟩ : Pk) (⟨⟨ki2, q2, id2, al2, co2, du2, re2, cl2, hu2, hp2, hw2, se2, top2, pay2, cli2, us2, pw2⟩, ⟨wt1, wp1, wq1, wr1, wl2⟩, co_2, fi2, pr2⟩ : Pk) aw ac af ap bw bc bf bp w
  have HO := Lib.hid (And.intro O1 (And.intro O2 hb0))
  have HA := Lib.hid (hA.below hb0)
  have HB := Lib.hid (hB.below hb0)
  have H1 := Lib.hid (And.intro o1 o2)
  clear e1 e2 o1 o2 O1 O2 hb0 hA hB
  have HWl := Lib.hid (fun W (hW : Below W0.heap.size W0 W) => rsame_pp (HA.out.rw'.below hW) (HB.out.rw'.below hW))
  have HLi := Lib.hid (fun W (hW : Below W0.heap.size W0 W) => rints (HA.out.rc.below hW) (HB.out.rc.below hW))
  have HLf := Lib.hid (fun W (hW : Below W0.heap.size W0 W) => rfilters (HA.out.rf.below hW) (HB.out.rf.below hW))
  have HLp := Lib.hid (fun W (hW : Below W0.heap.size W0 W) => rsame_pp (HA.out.rp.below hW) (HB.out.rp.below hW))
  have hd := decide_eq_false hne
  simp only [hd] at HWl
  clear hd hne
  go_enter Try.func18, Try.ntmps18
  refine wp_hide fun Q1 hQ1 => ?_
  have HQ1 := Lib.hid hQ1
  clear hQ1
  go_upto_region 1 with fail
  (try rw [hW0])
  clear hW0
  go_cut [5, 6] from 5 to 10 (fun p5 p6 wx => ∃ b5 b6 : Nat, p5 = .pointer (some ⟨b5, 0, none⟩) ∧ p6 = .pointer (some ⟨b6, 0, none⟩) ∧ Hid (RsAt W0 ⟨⟨ki1, q1, id1, al1, co1, du1, re1, cl1, hu1, hp1, hw1, se1, top1, pay1, cli1, us1, pw1⟩, ⟨wt1, wp1, wq1, wr1, wl1⟩, co_1, fi1, pr1⟩ ⟨⟨ki2, q2, id2, al2, co2, du2, re2, cl2, hu2, hp2, hw2, se2, top2, pay2, cli2, us2, pw2⟩, ⟨wt1, wp1, wq1, wr1, wl2⟩, co_2, fi2, pr2⟩ aw ac af ap bw bc bf bp w.heap.size b5 b6 wx))
  case first =>
    obtain ⟨ld1, ld2, hst⟩ := rs_boxes HO.out.1 HO.out.2.1 H1.out.1 H1.out.2
    obtain ⟨sa1, sb1, sc1, sd1⟩ := hst (⟨wt1, wp1, wq1, wr1, wl1⟩ : Wl) (⟨wt1, wp1, wq1, wr1, wl2⟩ : Wl) aw bw H1.out.1 H1.out.2
    obtain ⟨sa2, sb2, sc2, sd2⟩ := hst (⟨wt1, wp1, wq1, wr1, wl2⟩ : Wl) (⟨wt1, wp1, wq1, wr1, wl1⟩ : Wl) bw aw H1.out.2 H1.out.1
    obtain ⟨la1, la2, la3, la4⟩ := rs_loads HO.out.1 HO.out.2.1 (wlCs (⟨wt1, wp1, wq1, wr1, wl1⟩ : Wl) aw)
    obtain ⟨lb1, lb2, lb3, lb4⟩ := rs_loads HO.out.1 HO.out.2.1 (wlCs (⟨wt1, wp1, wq1, wr1, wl2⟩ : Wl) bw)
    obtain ⟨⟨ma1, ma2⟩, ⟨ma3, ma4⟩, ⟨ma5, ma6⟩, ⟨ma7, ma8⟩, ma9, ma10, ma11, -⟩ := rs_more HO.out.1 HO.out.2.1 (⟨wt1, wp1, wq1, wr1, wl1⟩ : Wl) (⟨wt1, wp1, wq1, wr1, wl2⟩ : Wl) aw bw H1.out.1 H1.out.2
    obtain ⟨-, -, ⟨mb5, mb6⟩, ⟨mb7, mb8⟩, mb9, mb10, -, mb11⟩ := rs_more HO.out.1 HO.out.2.1 (⟨wt1, wp1, wq1, wr1, wl2⟩ : Wl) (⟨wt1, wp1, wq1, wr1, wl1⟩ : Wl) bw aw H1.out.2 H1.out.1
    have HDp := Lib.hid (ma11 rfl rfl rfl rfl)
    have HDq := Lib.hid (mb11 rfl rfl rfl rfl)
    clear ma11 mb11
    have HDn := Lib.hid (rs_done HO.out.1 HO.out.2.1)
    have HDm := Lib.hid (rs_done2 HO.out.1 HO.out.2.1)
    clear hst
    go_region
    all_goals
      go_wp2
      go_meet
      first
        | exact ⟨_, _, rfl, rfl, HDn⟩
        | exact ⟨_, _, rfl, rfl, HDm⟩
        | exact ⟨_, _, rfl, rfl, HDp⟩
        | exact ⟨_, _, rfl, rfl, HDq⟩
  case rest =>
  obtain ⟨b5, b6, rfl, rfl, HR⟩ := hcut
  have k1 := HR.out.p1.cells
  have k2 := HR.out.p2.cells
  have k3 := HR.out.w1.cells
  have k4 := HR.out.w2.cells
  simp only [pkCs, wlCs] at k1 k2 k3 k4
  go_wp2_with fail
  refine (HWl.out _ HR.out.bel).mono ?_
  rintro r wz1 ⟨rfl, hb⟩
  have HR1 := Lib.hid (HR.out.below hb)
  clear hb k1 k2 k3 k4
  have k1 := HR1.out.p1.cells
  have k2 := HR1.out.p2.cells
  have k3 := HR1.out.w1.cells
  have k4 := HR1.out.w2.cells
  simp only [pkCs, wlCs] at k1 k2 k3 k4
  go_wp2
  refine HQ1.out _ _ _ ?_
  go_ret
  exact ⟨rfl, below_thenh HO.out.2.2 HR1.out.bel⟩
set_option maxRecDepth 100000 in
set_option maxHeartbeats 3200000 in
theorem rsame_5 {wt1 : List UInt8} {wp1 : List UInt8} {wq1 : Int} {wr1 : Bool} {wl1 : List Pp} {ki1 : Int} {du1 : Bool} {re1 : Bool} {q1 : Int} {id1 : Int} {top1 : List UInt8} {pay1 : List UInt8} {cl1 : Bool} {al1 : Int} {cli1 : List UInt8} {hu1 : Bool} {us1 : List UInt8} {hp1 : Bool} {pw1 : List UInt8} {hw1 : Bool} {se1 : Bool} {co1 : Int} {co_1 : List Int} {fi1 : List Ft} {pr1 : List Pp} {ki2 : Int} {du2 : Bool} {re2 : Bool} {q2 : Int} {id2 : Int} {top2 : List UInt8} {pay2 : List UInt8} {cl2 : Bool} {al2 : Int} {cli2 : List UInt8} {hu2 : Bool} {us2 : List UInt8} {hp2 : Bool} {pw2 : List UInt8} {hw2 : Bool} {se2 : Bool} {co2 : Int} {co_2 : List Int} {fi2 : List Ft} {pr2 : List Pp} {aw ac af ap bw bc bf bp : Value} {w : World} (hA : PkAt w ⟨⟨ki1, q1, id1, al1, co1, du1, re1, cl1, hu1, hp1, hw1, se1, top1, pay1, cli1, us1, pw1⟩, ⟨wt1, wp1, wq1, wr1, wl1⟩, co_1, fi1, pr1⟩ aw ac af ap) (hB : PkAt w ⟨⟨ki2, q2, id2, al2, co2, du2, re2, cl2, hu2, hp2, hw2, se2, top2, pay2, cli2, us2, pw2⟩, ⟨wt1, wp1, wq1, wr1, wl1⟩, co_2, fi2, pr2⟩ bw bc bf bp) (hne : ki1 ≠ ki2) :
    Calls Try.prog 18 #[.agg (pkCs ⟨⟨ki1, q1, id1, al1, co1, du1, re1, cl1, hu1, hp1, hw1, se1, top1, pay1, cli1, us1, pw1⟩, ⟨wt1, wp1, wq1, wr1, wl1⟩, co_1, fi1, pr1⟩ aw ac af ap), .agg (pkCs ⟨⟨ki2, q2, id2, al2, co2, du2, re2, cl2, hu2, hp2, hw2, se2, top2, pay2, cli2, us2, pw2⟩, ⟨wt1, wp1, wq1, wr1, wl1⟩, co_2, fi2, pr2⟩ bw bc bf bp)] w fun e w' => e = .returned (.bool (false)) ∧ Below w.heap.size w w' := by
  obtain ⟨⟨_, _, _, e1⟩, -⟩ := hA.one
  obtain ⟨⟨_, _, _, e2⟩, -⟩ := hB.one
  have o1 : aw.oneCell' = true := by rw [e1]; rfl
  have o2 : bw.oneCell' = true := by rw [e2]; rfl
  obtain ⟨W0, hW0, O1, O2, hb0⟩ := pk_world (⟨⟨ki1, q1, id1, al1, co1, du1, re1, cl1, hu1, hp1, hw1, se1, top1, pay1, cli1, us1, pw1⟩, ⟨wt1, wp1, wq1, wr1, wl1⟩, co_1, fi1, pr1⟩ : Pk) (⟨⟨ki2, q2, id2, al2, co2, du2, re2, cl2, hu2, hp2, hw2, se2, top2, pay2, cli2, us2, pw2⟩, ⟨wt1, wp1, wq1, wr1, wl1⟩, co_2, fi2, pr2⟩ : Pk) aw ac af ap bw bc bf bp w
  have HO := Lib.hid (And.intro O1 (And.intro O2 hb0))
  have HA := Lib.hid (hA.below hb0)
  have HB := Lib.hid (hB.below hb0)
  have H1 := Lib.hid (And.intro o1 o2)
  clear e1 e2 o1 o2 O1 O2 hb0 hA hB
  have HWl := Lib.hid (fun W (hW : Below W0.heap.size W0 W) => rsame_pp (HA.out.rw'.below hW) (HB.out.rw'.below hW))
  have HLi := Lib.hid (fun W (hW : Below W0.heap.size W0 W) => rints (HA.out.rc.below hW) (HB.out.rc.below hW))
  have HLf := Lib.hid (fun W (hW : Below W0.heap.size W0 W) => rfilters (HA.out.rf.below hW) (HB.out.rf.below hW))
  have HLp := Lib.hid (fun W (hW : Below W0.heap.size W0 W) => rsame_pp (HA.out.rp.below hW) (HB.out.rp.below hW))
  simp only [decide_true] at HWl
  have qz1 : (ki1 == ki2) = false := by simpa using hne
  have qz2 : (ki1 != ki2) = true := by simpa using hne
  clear hne
  go_enter Try.func18, Try.ntmps18
  refine wp_hide fun Q1 hQ1 => ?_
  have HQ1 := Lib.hid hQ1
  clear hQ1
  go_upto_region 1 with fail
  (try rw [hW0])
  clear hW0
  go_cut [5, 6] from 5 to 10 (fun p5 p6 wx => ∃ b5 b6 : Nat, p5 = .pointer (some ⟨b5, 0, none⟩) ∧ p6 = .pointer (some ⟨b6, 0, none⟩) ∧ Hid (RsAt W0 ⟨⟨ki1, q1, id1, al1, co1, du1, re1, cl1, hu1, hp1, hw1, se1, top1, pay1, cli1, us1, pw1⟩, ⟨wt1, wp1, wq1, wr1, wl1⟩, co_1, fi1, pr1⟩ ⟨⟨ki2, q2, id2, al2, co2, du2, re2, cl2, hu2, hp2, hw2, se2, top2, pay2, cli2, us2, pw2⟩, ⟨wt1, wp1, wq1, wr1, wl1⟩, co_2, fi2, pr2⟩ aw ac af ap bw bc bf bp w.heap.size b5 b6 wx))
  case first =>
    obtain ⟨ld1, ld2, hst⟩ := rs_boxes HO.out.1 HO.out.2.1 H1.out.1 H1.out.2
    obtain ⟨sa1, sb1, sc1, sd1⟩ := hst (⟨wt1, wp1, wq1, wr1, wl1⟩ : Wl) (⟨wt1, wp1, wq1, wr1, wl1⟩ : Wl) aw bw H1.out.1 H1.out.2
    obtain ⟨sa2, sb2, sc2, sd2⟩ := hst (⟨wt1, wp1, wq1, wr1, wl1⟩ : Wl) (⟨wt1, wp1, wq1, wr1, wl1⟩ : Wl) bw aw H1.out.2 H1.out.1
    obtain ⟨la1, la2, la3, la4⟩ := rs_loads HO.out.1 HO.out.2.1 (wlCs (⟨wt1, wp1, wq1, wr1, wl1⟩ : Wl) aw)
    obtain ⟨lb1, lb2, lb3, lb4⟩ := rs_loads HO.out.1 HO.out.2.1 (wlCs (⟨wt1, wp1, wq1, wr1, wl1⟩ : Wl) bw)
    obtain ⟨⟨ma1, ma2⟩, ⟨ma3, ma4⟩, ⟨ma5, ma6⟩, ⟨ma7, ma8⟩, ma9, ma10, ma11, -⟩ := rs_more HO.out.1 HO.out.2.1 (⟨wt1, wp1, wq1, wr1, wl1⟩ : Wl) (⟨wt1, wp1, wq1, wr1, wl1⟩ : Wl) aw bw H1.out.1 H1.out.2
    obtain ⟨-, -, ⟨mb5, mb6⟩, ⟨mb7, mb8⟩, mb9, mb10, -, mb11⟩ := rs_more HO.out.1 HO.out.2.1 (⟨wt1, wp1, wq1, wr1, wl1⟩ : Wl) (⟨wt1, wp1, wq1, wr1, wl1⟩ : Wl) bw aw H1.out.2 H1.out.1
    have HDp := Lib.hid (ma11 rfl rfl rfl rfl)
    have HDq := Lib.hid (mb11 rfl rfl rfl rfl)
    clear ma11 mb11
    have HDn := Lib.hid (rs_done HO.out.1 HO.out.2.1)
    have HDm := Lib.hid (rs_done2 HO.out.1 HO.out.2.1)
    clear hst
    go_region
    all_goals
      go_wp2
      go_meet
      first
        | exact ⟨_, _, rfl, rfl, HDn⟩
        | exact ⟨_, _, rfl, rfl, HDm⟩
        | exact ⟨_, _, rfl, rfl, HDp⟩
        | exact ⟨_, _, rfl, rfl, HDq⟩
  case rest =>
  obtain ⟨b5, b6, rfl, rfl, HR⟩ := hcut
  have k1 := HR.out.p1.cells
  have k2 := HR.out.p2.cells
  have k3 := HR.out.w1.cells
  have k4 := HR.out.w2.cells
  simp only [pkCs, wlCs] at k1 k2 k3 k4
  go_wp2_with fail
  refine (HWl.out _ HR.out.bel).mono ?_
  rintro r wz1 ⟨rfl, hb⟩
  have HR1 := Lib.hid (HR.out.below hb)
  clear hb k1 k2 k3 k4
  have k1 := HR1.out.p1.cells
  have k2 := HR1.out.p2.cells
  have k3 := HR1.out.w1.cells
  have k4 := HR1.out.w2.cells
  simp only [pkCs, wlCs] at k1 k2 k3 k4
  go_upto_region 4 with fail
  (try dsimp only [List.append])
  go_wp2
  refine HQ1.out _ _ _ ?_
  go_ret
  exact ⟨rfl, below_thenh HO.out.2.2 HR1.out.bel⟩
set_option maxRecDepth 100000 in
set_option maxHeartbeats 3200000 in
theorem rsame_6 {wt1 : List UInt8} {wp1 : List UInt8} {wq1 : Int} {wr1 : Bool} {wl1 : List Pp} {ki1 : Int} {du1 : Bool} {re1 : Bool} {q1 : Int} {id1 : Int} {top1 : List UInt8} {pay1 : List UInt8} {cl1 : Bool} {al1 : Int} {cli1 : List UInt8} {hu1 : Bool} {us1 : List UInt8} {hp1 : Bool} {pw1 : List UInt8} {hw1 : Bool} {se1 : Bool} {co1 : Int} {co_1 : List Int} {fi1 : List Ft} {pr1 : List Pp} {du2 : Bool} {re2 : Bool} {q2 : Int} {id2 : Int} {top2 : List UInt8} {pay2 : List UInt8} {cl2 : Bool} {al2 : Int} {cli2 : List UInt8} {hu2 : Bool} {us2 : List UInt8} {hp2 : Bool} {pw2 : List UInt8} {hw2 : Bool} {se2 : Bool} {co2 : Int} {co_2 : List Int} {fi2 : List Ft} {pr2 : List Pp} {aw ac af ap bw bc bf bp : Value} {w : World} (hA : PkAt w ⟨⟨ki1, q1, id1, al1, co1, du1, re1, cl1, hu1, hp1, hw1, se1, top1, pay1, cli1, us1, pw1⟩, ⟨wt1, wp1, wq1, wr1, wl1⟩, co_1, fi1, pr1⟩ aw ac af ap) (hB : PkAt w ⟨⟨ki1, q2, id2, al2, co2, du2, re2, cl2, hu2, hp2, hw2, se2, top2, pay2, cli2, us2, pw2⟩, ⟨wt1, wp1, wq1, wr1, wl1⟩, co_2, fi2, pr2⟩ bw bc bf bp) (hne : du1 ≠ du2) :
    Calls Try.prog 18 #[.agg (pkCs ⟨⟨ki1, q1, id1, al1, co1, du1, re1, cl1, hu1, hp1, hw1, se1, top1, pay1, cli1, us1, pw1⟩, ⟨wt1, wp1, wq1, wr1, wl1⟩, co_1, fi1, pr1⟩ aw ac af ap), .agg (pkCs ⟨⟨ki1, q2, id2, al2, co2, du2, re2, cl2, hu2, hp2, hw2, se2, top2, pay2, cli2, us2, pw2⟩, ⟨wt1, wp1, wq1, wr1, wl1⟩, co_2, fi2, pr2⟩ bw bc bf bp)] w fun e w' => e = .returned (.bool (false)) ∧ Below w.heap.size w w' := by
  obtain ⟨⟨_, _, _, e1⟩, -⟩ := hA.one
  obtain ⟨⟨_, _, _, e2⟩, -⟩ := hB.one
  have o1 : aw.oneCell' = true := by rw [e1]; rfl
  have o2 : bw.oneCell' = true := by rw [e2]; rfl
  obtain ⟨W0, hW0, O1, O2, hb0⟩ := pk_world (⟨⟨ki1, q1, id1, al1, co1, du1, re1, cl1, hu1, hp1, hw1, se1, top1, pay1, cli1, us1, pw1⟩, ⟨wt1, wp1, wq1, wr1, wl1⟩, co_1, fi1, pr1⟩ : Pk) (⟨⟨ki1, q2, id2, al2, co2, du2, re2, cl2, hu2, hp2, hw2, se2, top2, pay2, cli2, us2, pw2⟩, ⟨wt1, wp1, wq1, wr1, wl1⟩, co_2, fi2, pr2⟩ : Pk) aw ac af ap bw bc bf bp w
  have HO := Lib.hid (And.intro O1 (And.intro O2 hb0))
  have HA := Lib.hid (hA.below hb0)
  have HB := Lib.hid (hB.below hb0)
  have H1 := Lib.hid (And.intro o1 o2)
  clear e1 e2 o1 o2 O1 O2 hb0 hA hB
  have HWl := Lib.hid (fun W (hW : Below W0.heap.size W0 W) => rsame_pp (HA.out.rw'.below hW) (HB.out.rw'.below hW))
  have HLi := Lib.hid (fun W (hW : Below W0.heap.size W0 W) => rints (HA.out.rc.below hW) (HB.out.rc.below hW))
  have HLf := Lib.hid (fun W (hW : Below W0.heap.size W0 W) => rfilters (HA.out.rf.below hW) (HB.out.rf.below hW))
  have HLp := Lib.hid (fun W (hW : Below W0.heap.size W0 W) => rsame_pp (HA.out.rp.below hW) (HB.out.rp.below hW))
  simp only [decide_true] at HWl
  have qz1 : (du1 == du2) = false := by simpa using hne
  have qz2 : (du1 != du2) = true := by simpa using hne
  clear hne
  go_enter Try.func18, Try.ntmps18
  refine wp_hide fun Q1 hQ1 => ?_
  have HQ1 := Lib.hid hQ1
  clear hQ1
  go_upto_region 1 with fail
  (try rw [hW0])
  clear hW0
  go_cut [5, 6] from 5 to 10 (fun p5 p6 wx => ∃ b5 b6 : Nat, p5 = .pointer (some ⟨b5, 0, none⟩) ∧ p6 = .pointer (some ⟨b6, 0, none⟩) ∧ Hid (RsAt W0 ⟨⟨ki1, q1, id1, al1, co1, du1, re1, cl1, hu1, hp1, hw1, se1, top1, pay1, cli1, us1, pw1⟩, ⟨wt1, wp1, wq1, wr1, wl1⟩, co_1, fi1, pr1⟩ ⟨⟨ki1, q2, id2, al2, co2, du2, re2, cl2, hu2, hp2, hw2, se2, top2, pay2, cli2, us2, pw2⟩, ⟨wt1, wp1, wq1, wr1, wl1⟩, co_2, fi2, pr2⟩ aw ac af ap bw bc bf bp w.heap.size b5 b6 wx))
  case first =>
    obtain ⟨ld1, ld2, hst⟩ := rs_boxes HO.out.1 HO.out.2.1 H1.out.1 H1.out.2
    obtain ⟨sa1, sb1, sc1, sd1⟩ := hst (⟨wt1, wp1, wq1, wr1, wl1⟩ : Wl) (⟨wt1, wp1, wq1, wr1, wl1⟩ : Wl) aw bw H1.out.1 H1.out.2
    obtain ⟨sa2, sb2, sc2, sd2⟩ := hst (⟨wt1, wp1, wq1, wr1, wl1⟩ : Wl) (⟨wt1, wp1, wq1, wr1, wl1⟩ : Wl) bw aw H1.out.2 H1.out.1
    obtain ⟨la1, la2, la3, la4⟩ := rs_loads HO.out.1 HO.out.2.1 (wlCs (⟨wt1, wp1, wq1, wr1, wl1⟩ : Wl) aw)
    obtain ⟨lb1, lb2, lb3, lb4⟩ := rs_loads HO.out.1 HO.out.2.1 (wlCs (⟨wt1, wp1, wq1, wr1, wl1⟩ : Wl) bw)
    obtain ⟨⟨ma1, ma2⟩, ⟨ma3, ma4⟩, ⟨ma5, ma6⟩, ⟨ma7, ma8⟩, ma9, ma10, ma11, -⟩ := rs_more HO.out.1 HO.out.2.1 (⟨wt1, wp1, wq1, wr1, wl1⟩ : Wl) (⟨wt1, wp1, wq1, wr1, wl1⟩ : Wl) aw bw H1.out.1 H1.out.2
    obtain ⟨-, -, ⟨mb5, mb6⟩, ⟨mb7, mb8⟩, mb9, mb10, -, mb11⟩ := rs_more HO.out.1 HO.out.2.1 (⟨wt1, wp1, wq1, wr1, wl1⟩ : Wl) (⟨wt1, wp1, wq1, wr1, wl1⟩ : Wl) bw aw H1.out.2 H1.out.1
    have HDp := Lib.hid (ma11 rfl rfl rfl rfl)
    have HDq := Lib.hid (mb11 rfl rfl rfl rfl)
    clear ma11 mb11
    have HDn := Lib.hid (rs_done HO.out.1 HO.out.2.1)
    have HDm := Lib.hid (rs_done2 HO.out.1 HO.out.2.1)
    clear hst
    go_region
    all_goals
      go_wp2
      go_meet
      first
        | exact ⟨_, _, rfl, rfl, HDn⟩
        | exact ⟨_, _, rfl, rfl, HDm⟩
        | exact ⟨_, _, rfl, rfl, HDp⟩
        | exact ⟨_, _, rfl, rfl, HDq⟩
  case rest =>
  obtain ⟨b5, b6, rfl, rfl, HR⟩ := hcut
  have k1 := HR.out.p1.cells
  have k2 := HR.out.p2.cells
  have k3 := HR.out.w1.cells
  have k4 := HR.out.w2.cells
  simp only [pkCs, wlCs] at k1 k2 k3 k4
  go_wp2_with fail
  refine (HWl.out _ HR.out.bel).mono ?_
  rintro r wz1 ⟨rfl, hb⟩
  have HR1 := Lib.hid (HR.out.below hb)
  clear hb k1 k2 k3 k4
  have k1 := HR1.out.p1.cells
  have k2 := HR1.out.p2.cells
  have k3 := HR1.out.w1.cells
  have k4 := HR1.out.w2.cells
  simp only [pkCs, wlCs] at k1 k2 k3 k4
  go_upto_region 4 with fail
  (try dsimp only [List.append])
  go_wp2
  refine HQ1.out _ _ _ ?_
  go_ret
  exact ⟨rfl, below_thenh HO.out.2.2 HR1.out.bel⟩
set_option maxRecDepth 100000 in
set_option maxHeartbeats 3200000 in
theorem rsame_7 {wt1 : List UInt8} {wp1 : List UInt8} {wq1 : Int} {wr1 : Bool} {wl1 : List Pp} {ki1 : Int} {du1 : Bool} {re1 : Bool} {q1 : Int} {id1 : Int} {top1 : List UInt8} {pay1 : List UInt8} {cl1 : Bool} {al1 : Int} {cli1 : List UInt8} {hu1 : Bool} {us1 : List UInt8} {hp1 : Bool} {pw1 : List UInt8} {hw1 : Bool} {se1 : Bool} {co1 : Int} {co_1 : List Int} {fi1 : List Ft} {pr1 : List Pp} {re2 : Bool} {q2 : Int} {id2 : Int} {top2 : List UInt8} {pay2 : List UInt8} {cl2 : Bool} {al2 : Int} {cli2 : List UInt8} {hu2 : Bool} {us2 : List UInt8} {hp2 : Bool} {pw2 : List UInt8} {hw2 : Bool} {se2 : Bool} {co2 : Int} {co_2 : List Int} {fi2 : List Ft} {pr2 : List Pp} {aw ac af ap bw bc bf bp : Value} {w : World} (hA : PkAt w ⟨⟨ki1, q1, id1, al1, co1, du1, re1, cl1, hu1, hp1, hw1, se1, top1, pay1, cli1, us1, pw1⟩, ⟨wt1, wp1, wq1, wr1, wl1⟩, co_1, fi1, pr1⟩ aw ac af ap) (hB : PkAt w ⟨⟨ki1, q2, id2, al2, co2, du1, re2, cl2, hu2, hp2, hw2, se2, top2, pay2, cli2, us2, pw2⟩, ⟨wt1, wp1, wq1, wr1, wl1⟩, co_2, fi2, pr2⟩ bw bc bf bp) (hne : re1 ≠ re2) :
    Calls Try.prog 18 #[.agg (pkCs ⟨⟨ki1, q1, id1, al1, co1, du1, re1, cl1, hu1, hp1, hw1, se1, top1, pay1, cli1, us1, pw1⟩, ⟨wt1, wp1, wq1, wr1, wl1⟩, co_1, fi1, pr1⟩ aw ac af ap), .agg (pkCs ⟨⟨ki1, q2, id2, al2, co2, du1, re2, cl2, hu2, hp2, hw2, se2, top2, pay2, cli2, us2, pw2⟩, ⟨wt1, wp1, wq1, wr1, wl1⟩, co_2, fi2, pr2⟩ bw bc bf bp)] w fun e w' => e = .returned (.bool (false)) ∧ Below w.heap.size w w' := by
  obtain ⟨⟨_, _, _, e1⟩, -⟩ := hA.one
  obtain ⟨⟨_, _, _, e2⟩, -⟩ := hB.one
  have o1 : aw.oneCell' = true := by rw [e1]; rfl
  have o2 : bw.oneCell' = true := by rw [e2]; rfl
  obtain ⟨W0, hW0, O1, O2, hb0⟩ := pk_world (⟨⟨ki1, q1, id1, al1, co1, du1, re1, cl1, hu1, hp1, hw1, se1, top1, pay1, cli1, us1, pw1⟩, ⟨wt1, wp1, wq1, wr1, wl1⟩, co_1, fi1, pr1⟩ : Pk) (⟨⟨ki1, q2, id2, al2, co2, du1, re2, cl2, hu2, hp2, hw2, se2, top2, pay2, cli2, us2, pw2⟩, ⟨wt1, wp1, wq1, wr1, wl1⟩, co_2, fi2, pr2⟩ : Pk) aw ac af ap bw bc bf bp w
  have HO := Lib.hid (And.intro O1 (And.intro O2 hb0))
  have HA := Lib.hid (hA.below hb0)
  have HB := Lib.hid (hB.below hb0)
  have H1 := Lib.hid (And.intro o1 o2)
  clear e1 e2 o1 o2 O1 O2 hb0 hA hB
  have HWl := Lib.hid (fun W (hW : Below W0.heap.size W0 W) => rsame_pp (HA.out.rw'.below hW) (HB.out.rw'.below hW))
  have HLi := Lib.hid (fun W (hW : Below W0.heap.size W0 W) => rints (HA.out.rc.below hW) (HB.out.rc.below hW))
  have HLf := Lib.hid (fun W (hW : Below W0.heap.size W0 W) => rfilters (HA.out.rf.below hW) (HB.out.rf.below hW))
  have HLp := Lib.hid (fun W (hW : Below W0.heap.size W0 W) => rsame_pp (HA.out.rp.below hW) (HB.out.rp.below hW))
  simp only [decide_true] at HWl
  have qz1 : (re1 == re2) = false := by simpa using hne
  have qz2 : (re1 != re2) = true := by simpa using hne
  clear hne
  go_enter Try.func18, Try.ntmps18
  refine wp_hide fun Q1 hQ1 => ?_
  have HQ1 := Lib.hid hQ1
  clear hQ1
  go_upto_region 1 with fail
  (try rw [hW0])
  clear hW0
  go_cut [5, 6] from 5 to 10 (fun p5 p6 wx => ∃ b5 b6 : Nat, p5 = .pointer (some ⟨b5, 0, none⟩) ∧ p6 = .pointer (some ⟨b6, 0, none⟩) ∧ Hid (RsAt W0 ⟨⟨ki1, q1, id1, al1, co1, du1, re1, cl1, hu1, hp1, hw1, se1, top1, pay1, cli1, us1, pw1⟩, ⟨wt1, wp1, wq1, wr1, wl1⟩, co_1, fi1, pr1⟩ ⟨⟨ki1, q2, id2, al2, co2, du1, re2, cl2, hu2, hp2, hw2, se2, top2, pay2, cli2, us2, pw2⟩, ⟨wt1, wp1, wq1, wr1, wl1⟩, co_2, fi2, pr2⟩ aw ac af ap bw bc bf bp w.heap.size b5 b6 wx))
  case first =>
    obtain ⟨ld1, ld2, hst⟩ := rs_boxes HO.out.1 HO.out.2.1 H1.out.1 H1.out.2
    obtain ⟨sa1, sb1, sc1, sd1⟩ := hst (⟨wt1, wp1, wq1, wr1, wl1⟩ : Wl) (⟨wt1, wp1, wq1, wr1, wl1⟩ : Wl) aw bw H1.out.1 H1.out.2
    obtain ⟨sa2, sb2, sc2, sd2⟩ := hst (⟨wt1, wp1, wq1, wr1, wl1⟩ : Wl) (⟨wt1, wp1, wq1, wr1, wl1⟩ : Wl) bw aw H1.out.2 H1.out.1
    obtain ⟨la1, la2, la3, la4⟩ := rs_loads HO.out.1 HO.out.2.1 (wlCs (⟨wt1, wp1, wq1, wr1, wl1⟩ : Wl) aw)
    obtain ⟨lb1, lb2, lb3, lb4⟩ := rs_loads HO.out.1 HO.out.2.1 (wlCs (⟨wt1, wp1, wq1, wr1, wl1⟩ : Wl) bw)
    obtain ⟨⟨ma1, ma2⟩, ⟨ma3, ma4⟩, ⟨ma5, ma6⟩, ⟨ma7, ma8⟩, ma9, ma10, ma11, -⟩ := rs_more HO.out.1 HO.out.2.1 (⟨wt1, wp1, wq1, wr1, wl1⟩ : Wl) (⟨wt1, wp1, wq1, wr1, wl1⟩ : Wl) aw bw H1.out.1 H1.out.2
    obtain ⟨-, -, ⟨mb5, mb6⟩, ⟨mb7, mb8⟩, mb9, mb10, -, mb11⟩ := rs_more HO.out.1 HO.out.2.1 (⟨wt1, wp1, wq1, wr1, wl1⟩ : Wl) (⟨wt1, wp1, wq1, wr1, wl1⟩ : Wl) bw aw H1.out.2 H1.out.1
    have HDp := Lib.hid (ma11 rfl rfl rfl rfl)
    have HDq := Lib.hid (mb11 rfl rfl rfl rfl)
    clear ma11 mb11
    have HDn := Lib.hid (rs_done HO.out.1 HO.out.2.1)
    have HDm := Lib.hid (rs_done2 HO.out.1 HO.out.2.1)
    clear hst
    go_region
    all_goals
      go_wp2
      go_meet
      first
        | exact ⟨_, _, rfl, rfl, HDn⟩
        | exact ⟨_, _, rfl, rfl, HDm⟩
        | exact ⟨_, _, rfl, rfl, HDp⟩
        | exact ⟨_, _, rfl, rfl, HDq⟩
  case rest =>
  obtain ⟨b5, b6, rfl, rfl, HR⟩ := hcut
  have k1 := HR.out.p1.cells
  have k2 := HR.out.p2.cells
  have k3 := HR.out.w1.cells
  have k4 := HR.out.w2.cells
  simp only [pkCs, wlCs] at k1 k2 k3 k4
  go_wp2_with fail
  refine (HWl.out _ HR.out.bel).mono ?_
  rintro r wz1 ⟨rfl, hb⟩
  have HR1 := Lib.hid (HR.out.below hb)
  clear hb k1 k2 k3 k4
  have k1 := HR1.out.p1.cells
  have k2 := HR1.out.p2.cells
  have k3 := HR1.out.w1.cells
  have k4 := HR1.out.w2.cells
  simp only [pkCs, wlCs] at k1 k2 k3 k4
  go_upto_region 4 with fail
  (try dsimp only [List.append])
  go_wp2
  refine HQ1.out _ _ _ ?_
  go_ret
  exact ⟨rfl, below_thenh HO.out.2.2 HR1.out.bel⟩
set_option maxRecDepth 100000 in
set_option maxHeartbeats 3200000 in
theorem rsame_8 {wt1 : List UInt8} {wp1 : List UInt8} {wq1 : Int} {wr1 : Bool} {wl1 : List Pp} {ki1 : Int} {du1 : Bool} {re1 : Bool} {q1 : Int} {id1 : Int} {top1 : List UInt8} {pay1 : List UInt8} {cl1 : Bool} {al1 : Int} {cli1 : List UInt8} {hu1 : Bool} {us1 : List UInt8} {hp1 : Bool} {pw1 : List UInt8} {hw1 : Bool} {se1 : Bool} {co1 : Int} {co_1 : List Int} {fi1 : List Ft} {pr1 : List Pp} {q2 : Int} {id2 : Int} {top2 : List UInt8} {pay2 : List UInt8} {cl2 : Bool} {al2 : Int} {cli2 : List UInt8} {hu2 : Bool} {us2 : List UInt8} {hp2 : Bool} {pw2 : List UInt8} {hw2 : Bool} {se2 : Bool} {co2 : Int} {co_2 : List Int} {fi2 : List Ft} {pr2 : List Pp} {aw ac af ap bw bc bf bp : Value} {w : World} (hA : PkAt w ⟨⟨ki1, q1, id1, al1, co1, du1, re1, cl1, hu1, hp1, hw1, se1, top1, pay1, cli1, us1, pw1⟩, ⟨wt1, wp1, wq1, wr1, wl1⟩, co_1, fi1, pr1⟩ aw ac af ap) (hB : PkAt w ⟨⟨ki1, q2, id2, al2, co2, du1, re1, cl2, hu2, hp2, hw2, se2, top2, pay2, cli2, us2, pw2⟩, ⟨wt1, wp1, wq1, wr1, wl1⟩, co_2, fi2, pr2⟩ bw bc bf bp) (hne : q1 ≠ q2) :
    Calls Try.prog 18 #[.agg (pkCs ⟨⟨ki1, q1, id1, al1, co1, du1, re1, cl1, hu1, hp1, hw1, se1, top1, pay1, cli1, us1, pw1⟩, ⟨wt1, wp1, wq1, wr1, wl1⟩, co_1, fi1, pr1⟩ aw ac af ap), .agg (pkCs ⟨⟨ki1, q2, id2, al2, co2, du1, re1, cl2, hu2, hp2, hw2, se2, top2, pay2, cli2, us2, pw2⟩, ⟨wt1, wp1, wq1, wr1, wl1⟩, co_2, fi2, pr2⟩ bw bc bf bp)] w fun e w' => e = .returned (.bool (false)) ∧ Below w.heap.size w w' := by
  obtain ⟨⟨_, _, _, e1⟩, -⟩ := hA.one
  obtain ⟨⟨_, _, _, e2⟩, -⟩ := hB.one
  have o1 : aw.oneCell' = true := by rw [e1]; rfl
  have o2 : bw.oneCell' = true := by rw [e2]; rfl
  obtain ⟨W0, hW0, O1, O2, hb0⟩ := pk_world (⟨⟨ki1, q1, id1, al1, co1, du1, re1, cl1, hu1, hp1, hw1, se1, top1, pay1, cli1, us1, pw1⟩, ⟨wt1, wp1, wq1, wr1, wl1⟩, co_1, fi1, pr1⟩ : Pk) (⟨⟨ki1, q2, id2, al2, co2, du1, re1, cl2, hu2, hp2, hw2, se2, top2, pay2, cli2, us2, pw2⟩, ⟨wt1, wp1, wq1, wr1, wl1⟩, co_2, fi2, pr2⟩ : Pk) aw ac af ap bw bc bf bp w
  have HO := Lib.hid (And.intro O1 (And.intro O2 hb0))
  have HA := Lib.hid (hA.below hb0)
  have HB := Lib.hid (hB.below hb0)
  have H1 := Lib.hid (And.intro o1 o2)
  clear e1 e2 o1 o2 O1 O2 hb0 hA hB
  have HWl := Lib.hid (fun W (hW : Below W0.heap.size W0 W) => rsame_pp (HA.out.rw'.below hW) (HB.out.rw'.below hW))
  have HLi := Lib.hid (fun W (hW : Below W0.heap.size W0 W) => rints (HA.out.rc.below hW) (HB.out.rc.below hW))
  have HLf := Lib.hid (fun W (hW : Below W0.heap.size W0 W) => rfilters (HA.out.rf.below hW) (HB.out.rf.below hW))
  have HLp := Lib.hid (fun W (hW : Below W0.heap.size W0 W) => rsame_pp (HA.out.rp.below hW) (HB.out.rp.below hW))
  simp only [decide_true] at HWl
  have qz1 : (q1 == q2) = false := by simpa using hne
  have qz2 : (q1 != q2) = true := by simpa using hne
  clear hne
  go_enter Try.func18, Try.ntmps18
  refine wp_hide fun Q1 hQ1 => ?_
  have HQ1 := Lib.hid hQ1
  clear hQ1
  go_upto_region 1 with fail
  (try rw [hW0])
  clear hW0
  go_cut [5, 6] from 5 to 10 (fun p5 p6 wx => ∃ b5 b6 : Nat, p5 = .pointer (some ⟨b5, 0, none⟩) ∧ p6 = .pointer (some ⟨b6, 0, none⟩) ∧ Hid (RsAt W0 ⟨⟨ki1, q1, id1, al1, co1, du1, re1, cl1, hu1, hp1, hw1, se1, top1, pay1, cli1, us1, pw1⟩, ⟨wt1, wp1, wq1, wr1, wl1⟩, co_1, fi1, pr1⟩ ⟨⟨ki1, q2, id2, al2, co2, du1, re1, cl2, hu2, hp2, hw2, se2, top2, pay2, cli2, us2, pw2⟩, ⟨wt1, wp1, wq1, wr1, wl1⟩, co_2, fi2, pr2⟩ aw ac af ap bw bc bf bp w.heap.size b5 b6 wx))
  case first =>
    obtain ⟨ld1, ld2, hst⟩ := rs_boxes HO.out.1 HO.out.2.1 H1.out.1 H1.out.2
    obtain ⟨sa1, sb1, sc1, sd1⟩ := hst (⟨wt1, wp1, wq1, wr1, wl1⟩ : Wl) (⟨wt1, wp1, wq1, wr1, wl1⟩ : Wl) aw bw H1.out.1 H1.out.2
    obtain ⟨sa2, sb2, sc2, sd2⟩ := hst (⟨wt1, wp1, wq1, wr1, wl1⟩ : Wl) (⟨wt1, wp1, wq1, wr1, wl1⟩ : Wl) bw aw H1.out.2 H1.out.1
    obtain ⟨la1, la2, la3, la4⟩ := rs_loads HO.out.1 HO.out.2.1 (wlCs (⟨wt1, wp1, wq1, wr1, wl1⟩ : Wl) aw)
    obtain ⟨lb1, lb2, lb3, lb4⟩ := rs_loads HO.out.1 HO.out.2.1 (wlCs (⟨wt1, wp1, wq1, wr1, wl1⟩ : Wl) bw)
    obtain ⟨⟨ma1, ma2⟩, ⟨ma3, ma4⟩, ⟨ma5, ma6⟩, ⟨ma7, ma8⟩, ma9, ma10, ma11, -⟩ := rs_more HO.out.1 HO.out.2.1 (⟨wt1, wp1, wq1, wr1, wl1⟩ : Wl) (⟨wt1, wp1, wq1, wr1, wl1⟩ : Wl) aw bw H1.out.1 H1.out.2
    obtain ⟨-, -, ⟨mb5, mb6⟩, ⟨mb7, mb8⟩, mb9, mb10, -, mb11⟩ := rs_more HO.out.1 HO.out.2.1 (⟨wt1, wp1, wq1, wr1, wl1⟩ : Wl) (⟨wt1, wp1, wq1, wr1, wl1⟩ : Wl) bw aw H1.out.2 H1.out.1
    have HDp := Lib.hid (ma11 rfl rfl rfl rfl)
    have HDq := Lib.hid (mb11 rfl rfl rfl rfl)
    clear ma11 mb11
    have HDn := Lib.hid (rs_done HO.out.1 HO.out.2.1)
    have HDm := Lib.hid (rs_done2 HO.out.1 HO.out.2.1)
    clear hst
    go_region
    all_goals
      go_wp2
      go_meet
      first
        | exact ⟨_, _, rfl, rfl, HDn⟩
        | exact ⟨_, _, rfl, rfl, HDm⟩
        | exact ⟨_, _, rfl, rfl, HDp⟩
        | exact ⟨_, _, rfl, rfl, HDq⟩
  case rest =>
  obtain ⟨b5, b6, rfl, rfl, HR⟩ := hcut
  have k1 := HR.out.p1.cells
  have k2 := HR.out.p2.cells
  have k3 := HR.out.w1.cells
  have k4 := HR.out.w2.cells
  simp only [pkCs, wlCs] at k1 k2 k3 k4
  go_wp2_with fail
  refine (HWl.out _ HR.out.bel).mono ?_
  rintro r wz1 ⟨rfl, hb⟩
  have HR1 := Lib.hid (HR.out.below hb)
  clear hb k1 k2 k3 k4
  have k1 := HR1.out.p1.cells
  have k2 := HR1.out.p2.cells
  have k3 := HR1.out.w1.cells
  have k4 := HR1.out.w2.cells
  simp only [pkCs, wlCs] at k1 k2 k3 k4
  go_upto_region 4 with fail
  (try dsimp only [List.append])
  go_wp2
  refine HQ1.out _ _ _ ?_
  go_ret
  exact ⟨rfl, below_thenh HO.out.2.2 HR1.out.bel⟩
set_option maxRecDepth 100000 in
set_option maxHeartbeats 3200000 in
theorem rsame_9 {wt1 : List UInt8} {wp1 : List UInt8} {wq1 : Int} {wr1 : Bool} {wl1 : List Pp} {ki1 : Int} {du1 : Bool} {re1 : Bool} {q1 : Int} {id1 : Int} {top1 : List UInt8} {pay1 : List UInt8} {cl1 : Bool} {al1 : Int} {cli1 : List UInt8} {hu1 : Bool} {us1 : List UInt8} {hp1 : Bool} {pw1 : List UInt8} {hw1 : Bool} {se1 : Bool} {co1 : Int} {co_1 : List Int} {fi1 : List Ft} {pr1 : List Pp} {id2 : Int} {top2 : List UInt8} {pay2 : List UInt8} {cl2 : Bool} {al2 : Int} {cli2 : List UInt8} {hu2 : Bool} {us2 : List UInt8} {hp2 : Bool} {pw2 : List UInt8} {hw2 : Bool} {se2 : Bool} {co2 : Int} {co_2 : List Int} {fi2 : List Ft} {pr2 : List Pp} {aw ac af ap bw bc bf bp : Value} {w : World} (hA : PkAt w ⟨⟨ki1, q1, id1, al1, co1, du1, re1, cl1, hu1, hp1, hw1, se1, top1, pay1, cli1, us1, pw1⟩, ⟨wt1, wp1, wq1, wr1, wl1⟩, co_1, fi1, pr1⟩ aw ac af ap) (hB : PkAt w ⟨⟨ki1, q1, id2, al2, co2, du1, re1, cl2, hu2, hp2, hw2, se2, top2, pay2, cli2, us2, pw2⟩, ⟨wt1, wp1, wq1, wr1, wl1⟩, co_2, fi2, pr2⟩ bw bc bf bp) (hne : id1 ≠ id2) :
    Calls Try.prog 18 #[.agg (pkCs ⟨⟨ki1, q1, id1, al1, co1, du1, re1, cl1, hu1, hp1, hw1, se1, top1, pay1, cli1, us1, pw1⟩, ⟨wt1, wp1, wq1, wr1, wl1⟩, co_1, fi1, pr1⟩ aw ac af ap), .agg (pkCs ⟨⟨ki1, q1, id2, al2, co2, du1, re1, cl2, hu2, hp2, hw2, se2, top2, pay2, cli2, us2, pw2⟩, ⟨wt1, wp1, wq1, wr1, wl1⟩, co_2, fi2, pr2⟩ bw bc bf bp)] w fun e w' => e = .returned (.bool (false)) ∧ Below w.heap.size w w' := by
  obtain ⟨⟨_, _, _, e1⟩, -⟩ := hA.one
  obtain ⟨⟨_, _, _, e2⟩, -⟩ := hB.one
  have o1 : aw.oneCell' = true := by rw [e1]; rfl
  have o2 : bw.oneCell' = true := by rw [e2]; rfl
  obtain ⟨W0, hW0, O1, O2, hb0⟩ := pk_world (⟨⟨ki1, q1, id1, al1, co1, du1, re1, cl1, hu1, hp1, hw1, se1, top1, pay1, cli1, us1, pw1⟩, ⟨wt1, wp1, wq1, wr1, wl1⟩, co_1, fi1, pr1⟩ : Pk) (⟨⟨ki1, q1, id2, al2, co2, du1, re1, cl2, hu2, hp2, hw2, se2, top2, pay2, cli2, us2, pw2⟩, ⟨wt1, wp1, wq1, wr1, wl1⟩, co_2, fi2, pr2⟩ : Pk) aw ac af ap bw bc bf bp w
  have HO := Lib.hid (And.intro O1 (And.intro O2 hb0))
  have HA := Lib.hid (hA.below hb0)
  have HB := Lib.hid (hB.below hb0)
  have H1 := Lib.hid (And.intro o1 o2)
  clear e1 e2 o1 o2 O1 O2 hb0 hA hB
  have HWl := Lib.hid (fun W (hW : Below W0.heap.size W0 W) => rsame_pp (HA.out.rw'.below hW) (HB.out.rw'.below hW))
  have HLi := Lib.hid (fun W (hW : Below W0.heap.size W0 W) => rints (HA.out.rc.below hW) (HB.out.rc.below hW))
  have HLf := Lib.hid (fun W (hW : Below W0.heap.size W0 W) => rfilters (HA.out.rf.below hW) (HB.out.rf.below hW))
  have HLp := Lib.hid (fun W (hW : Below W0.heap.size W0 W) => rsame_pp (HA.out.rp.below hW) (HB.out.rp.below hW))
  simp only [decide_true] at HWl
  have qz1 : (id1 == id2) = false := by simpa using hne
  have qz2 : (id1 != id2) = true := by simpa using hne
  clear hne
  go_enter Try.func18, Try.ntmps18
  refine wp_hide fun Q1 hQ1 => ?_
  have HQ1 := Lib.hid hQ1
  clear hQ1
  go_upto_region 1 with fail
  (try rw [hW0])
  clear hW0
  go_cut [5, 6] from 5 to 10 (fun p5 p6 wx => ∃ b5 b6 : Nat, p5 = .pointer (some ⟨b5, 0, none⟩) ∧ p6 = .pointer (some ⟨b6, 0, none⟩) ∧ Hid (RsAt W0 ⟨⟨ki1, q1, id1, al1, co1, du1, re1, cl1, hu1, hp1, hw1, se1, top1, pay1, cli1, us1, pw1⟩, ⟨wt1, wp1, wq1, wr1, wl1⟩, co_1, fi1, pr1⟩ ⟨⟨ki1, q1, id2, al2, co2, du1, re1, cl2, hu2, hp2, hw2, se2, top2, pay2, cli2, us2, pw2⟩, ⟨wt1, wp1, wq1, wr1, wl1⟩, co_2, fi2, pr2⟩ aw ac af ap bw bc bf bp w.heap.size b5 b6 wx))
  case first =>
    obtain ⟨ld1, ld2, hst⟩ := rs_boxes HO.out.1 HO.out.2.1 H1.out.1 H1.out.2
    obtain ⟨sa1, sb1, sc1, sd1⟩ := hst (⟨wt1, wp1, wq1, wr1, wl1⟩ : Wl) (⟨wt1, wp1, wq1, wr1, wl1⟩ : Wl) aw bw H1.out.1 H1.out.2
    obtain ⟨sa2, sb2, sc2, sd2⟩ := hst (⟨wt1, wp1, wq1, wr1, wl1⟩ : Wl) (⟨wt1, wp1, wq1, wr1, wl1⟩ : Wl) bw aw H1.out.2 H1.out.1
    obtain ⟨la1, la2, la3, la4⟩ := rs_loads HO.out.1 HO.out.2.1 (wlCs (⟨wt1, wp1, wq1, wr1, wl1⟩ : Wl) aw)
    obtain ⟨lb1, lb2, lb3, lb4⟩ := rs_loads HO.out.1 HO.out.2.1 (wlCs (⟨wt1, wp1, wq1, wr1, wl1⟩ : Wl) bw)
    obtain ⟨⟨ma1, ma2⟩, ⟨ma3, ma4⟩, ⟨ma5, ma6⟩, ⟨ma7, ma8⟩, ma9, ma10, ma11, -⟩ := rs_more HO.out.1 HO.out.2.1 (⟨wt1, wp1, wq1, wr1, wl1⟩ : Wl) (⟨wt1, wp1, wq1, wr1, wl1⟩ : Wl) aw bw H1.out.1 H1.out.2
    obtain ⟨-, -, ⟨mb5, mb6⟩, ⟨mb7, mb8⟩, mb9, mb10, -, mb11⟩ := rs_more HO.out.1 HO.out.2.1 (⟨wt1, wp1, wq1, wr1, wl1⟩ : Wl) (⟨wt1, wp1, wq1, wr1, wl1⟩ : Wl) bw aw H1.out.2 H1.out.1
    have HDp := Lib.hid (ma11 rfl rfl rfl rfl)
    have HDq := Lib.hid (mb11 rfl rfl rfl rfl)
    clear ma11 mb11
    have HDn := Lib.hid (rs_done HO.out.1 HO.out.2.1)
    have HDm := Lib.hid (rs_done2 HO.out.1 HO.out.2.1)
    clear hst
    go_region
    all_goals
      go_wp2
      go_meet
      first
        | exact ⟨_, _, rfl, rfl, HDn⟩
        | exact ⟨_, _, rfl, rfl, HDm⟩
        | exact ⟨_, _, rfl, rfl, HDp⟩
        | exact ⟨_, _, rfl, rfl, HDq⟩
  case rest =>
  obtain ⟨b5, b6, rfl, rfl, HR⟩ := hcut
  have k1 := HR.out.p1.cells
  have k2 := HR.out.p2.cells
  have k3 := HR.out.w1.cells
  have k4 := HR.out.w2.cells
  simp only [pkCs, wlCs] at k1 k2 k3 k4
  go_wp2_with fail
  refine (HWl.out _ HR.out.bel).mono ?_
  rintro r wz1 ⟨rfl, hb⟩
  have HR1 := Lib.hid (HR.out.below hb)
  clear hb k1 k2 k3 k4
  have k1 := HR1.out.p1.cells
  have k2 := HR1.out.p2.cells
  have k3 := HR1.out.w1.cells
  have k4 := HR1.out.w2.cells
  simp only [pkCs, wlCs] at k1 k2 k3 k4
  go_upto_region 4 with fail
  (try dsimp only [List.append])
  go_wp2
  refine HQ1.out _ _ _ ?_
  go_ret
  exact ⟨rfl, below_thenh HO.out.2.2 HR1.out.bel⟩
set_option maxRecDepth 100000 in
set_option maxHeartbeats 3200000 in
theorem rsame_10 {wt1 : List UInt8} {wp1 : List UInt8} {wq1 : Int} {wr1 : Bool} {wl1 : List Pp} {ki1 : Int} {du1 : Bool} {re1 : Bool} {q1 : Int} {id1 : Int} {top1 : List UInt8} {pay1 : List UInt8} {cl1 : Bool} {al1 : Int} {cli1 : List UInt8} {hu1 : Bool} {us1 : List UInt8} {hp1 : Bool} {pw1 : List UInt8} {hw1 : Bool} {se1 : Bool} {co1 : Int} {co_1 : List Int} {fi1 : List Ft} {pr1 : List Pp} {top2 : List UInt8} {pay2 : List UInt8} {cl2 : Bool} {al2 : Int} {cli2 : List UInt8} {hu2 : Bool} {us2 : List UInt8} {hp2 : Bool} {pw2 : List UInt8} {hw2 : Bool} {se2 : Bool} {co2 : Int} {co_2 : List Int} {fi2 : List Ft} {pr2 : List Pp} {aw ac af ap bw bc bf bp : Value} {w : World} (hA : PkAt w ⟨⟨ki1, q1, id1, al1, co1, du1, re1, cl1, hu1, hp1, hw1, se1, top1, pay1, cli1, us1, pw1⟩, ⟨wt1, wp1, wq1, wr1, wl1⟩, co_1, fi1, pr1⟩ aw ac af ap) (hB : PkAt w ⟨⟨ki1, q1, id1, al2, co2, du1, re1, cl2, hu2, hp2, hw2, se2, top2, pay2, cli2, us2, pw2⟩, ⟨wt1, wp1, wq1, wr1, wl1⟩, co_2, fi2, pr2⟩ bw bc bf bp) (hne : top1 ≠ top2) :
    Calls Try.prog 18 #[.agg (pkCs ⟨⟨ki1, q1, id1, al1, co1, du1, re1, cl1, hu1, hp1, hw1, se1, top1, pay1, cli1, us1, pw1⟩, ⟨wt1, wp1, wq1, wr1, wl1⟩, co_1, fi1, pr1⟩ aw ac af ap), .agg (pkCs ⟨⟨ki1, q1, id1, al2, co2, du1, re1, cl2, hu2, hp2, hw2, se2, top2, pay2, cli2, us2, pw2⟩, ⟨wt1, wp1, wq1, wr1, wl1⟩, co_2, fi2, pr2⟩ bw bc bf bp)] w fun e w' => e = .returned (.bool (false)) ∧ Below w.heap.size w w' := by
  obtain ⟨⟨_, _, _, e1⟩, -⟩ := hA.one
  obtain ⟨⟨_, _, _, e2⟩, -⟩ := hB.one
  have o1 : aw.oneCell' = true := by rw [e1]; rfl
  have o2 : bw.oneCell' = true := by rw [e2]; rfl
  obtain ⟨W0, hW0, O1, O2, hb0⟩ := pk_world (⟨⟨ki1, q1, id1, al1, co1, du1, re1, cl1, hu1, hp1, hw1, se1, top1, pay1, cli1, us1, pw1⟩, ⟨wt1, wp1, wq1, wr1, wl1⟩, co_1, fi1, pr1⟩ : Pk) (⟨⟨ki1, q1, id1, al2, co2, du1, re1, cl2, hu2, hp2, hw2, se2, top2, pay2, cli2, us2, pw2⟩, ⟨wt1, wp1, wq1, wr1, wl1⟩, co_2, fi2, pr2⟩ : Pk) aw ac af ap bw bc bf bp w
  have HO := Lib.hid (And.intro O1 (And.intro O2 hb0))
  have HA := Lib.hid (hA.below hb0)
  have HB := Lib.hid (hB.below hb0)
  have H1 := Lib.hid (And.intro o1 o2)
  clear e1 e2 o1 o2 O1 O2 hb0 hA hB
  have HWl := Lib.hid (fun W (hW : Below W0.heap.size W0 W) => rsame_pp (HA.out.rw'.below hW) (HB.out.rw'.below hW))
  have HLi := Lib.hid (fun W (hW : Below W0.heap.size W0 W) => rints (HA.out.rc.below hW) (HB.out.rc.below hW))
  have HLf := Lib.hid (fun W (hW : Below W0.heap.size W0 W) => rfilters (HA.out.rf.below hW) (HB.out.rf.below hW))
  have HLp := Lib.hid (fun W (hW : Below W0.heap.size W0 W) => rsame_pp (HA.out.rp.below hW) (HB.out.rp.below hW))
  simp only [decide_true] at HWl
  have qz1 : (top1 == top2) = false := by simpa using hne
  have qz2 : (top1 != top2) = true := by simpa using hne
  clear hne
  go_enter Try.func18, Try.ntmps18
  refine wp_hide fun Q1 hQ1 => ?_
  have HQ1 := Lib.hid hQ1
  clear hQ1
  go_upto_region 1 with fail
  (try rw [hW0])
  clear hW0
  go_cut [5, 6] from 5 to 10 (fun p5 p6 wx => ∃ b5 b6 : Nat, p5 = .pointer (some ⟨b5, 0, none⟩) ∧ p6 = .pointer (some ⟨b6, 0, none⟩) ∧ Hid (RsAt W0 ⟨⟨ki1, q1, id1, al1, co1, du1, re1, cl1, hu1, hp1, hw1, se1, top1, pay1, cli1, us1, pw1⟩, ⟨wt1, wp1, wq1, wr1, wl1⟩, co_1, fi1, pr1⟩ ⟨⟨ki1, q1, id1, al2, co2, du1, re1, cl2, hu2, hp2, hw2, se2, top2, pay2, cli2, us2, pw2⟩, ⟨wt1, wp1, wq1, wr1, wl1⟩, co_2, fi2, pr2⟩ aw ac af ap bw bc bf bp w.heap.size b5 b6 wx))
  case first =>
    obtain ⟨ld1, ld2, hst⟩ := rs_boxes HO.out.1 HO.out.2.1 H1.out.1 H1.out.2
    obtain ⟨sa1, sb1, sc1, sd1⟩ := hst (⟨wt1, wp1, wq1, wr1, wl1⟩ : Wl) (⟨wt1, wp1, wq1, wr1, wl1⟩ : Wl) aw bw H1.out.1 H1.out.2
    obtain ⟨sa2, sb2, sc2, sd2⟩ := hst (⟨wt1, wp1, wq1, wr1, wl1⟩ : Wl) (⟨wt1, wp1, wq1, wr1, wl1⟩ : Wl) bw aw H1.out.2 H1.out.1
    obtain ⟨la1, la2, la3, la4⟩ := rs_loads HO.out.1 HO.out.2.1 (wlCs (⟨wt1, wp1, wq1, wr1, wl1⟩ : Wl) aw)
    obtain ⟨lb1, lb2, lb3, lb4⟩ := rs_loads HO.out.1 HO.out.2.1 (wlCs (⟨wt1, wp1, wq1, wr1, wl1⟩ : Wl) bw)
    obtain ⟨⟨ma1, ma2⟩, ⟨ma3, ma4⟩, ⟨ma5, ma6⟩, ⟨ma7, ma8⟩, ma9, ma10, ma11, -⟩ := rs_more HO.out.1 HO.out.2.1 (⟨wt1, wp1, wq1, wr1, wl1⟩ : Wl) (⟨wt1, wp1, wq1, wr1, wl1⟩ : Wl) aw bw H1.out.1 H1.out.2
    obtain ⟨-, -, ⟨mb5, mb6⟩, ⟨mb7, mb8⟩, mb9, mb10, -, mb11⟩ := rs_more HO.out.1 HO.out.2.1 (⟨wt1, wp1, wq1, wr1, wl1⟩ : Wl) (⟨wt1, wp1, wq1, wr1, wl1⟩ : Wl) bw aw H1.out.2 H1.out.1
    have HDp := Lib.hid (ma11 rfl rfl rfl rfl)
    have HDq := Lib.hid (mb11 rfl rfl rfl rfl)
    clear ma11 mb11
    have HDn := Lib.hid (rs_done HO.out.1 HO.out.2.1)
    have HDm := Lib.hid (rs_done2 HO.out.1 HO.out.2.1)
    clear hst
    go_region
    all_goals
      go_wp2
      go_meet
      first
        | exact ⟨_, _, rfl, rfl, HDn⟩
        | exact ⟨_, _, rfl, rfl, HDm⟩
        | exact ⟨_, _, rfl, rfl, HDp⟩
        | exact ⟨_, _, rfl, rfl, HDq⟩
  case rest =>
  obtain ⟨b5, b6, rfl, rfl, HR⟩ := hcut
  have k1 := HR.out.p1.cells
  have k2 := HR.out.p2.cells
  have k3 := HR.out.w1.cells
  have k4 := HR.out.w2.cells
  simp only [pkCs, wlCs] at k1 k2 k3 k4
  go_wp2_with fail
  refine (HWl.out _ HR.out.bel).mono ?_
  rintro r wz1 ⟨rfl, hb⟩
  have HR1 := Lib.hid (HR.out.below hb)
  clear hb k1 k2 k3 k4
  have k1 := HR1.out.p1.cells
  have k2 := HR1.out.p2.cells
  have k3 := HR1.out.w1.cells
  have k4 := HR1.out.w2.cells
  simp only [pkCs, wlCs] at k1 k2 k3 k4
  go_upto_region 4 with fail
  (try dsimp only [List.append])
  go_wp2
  refine HQ1.out _ _ _ ?_
  go_ret
  exact ⟨rfl, below_thenh HO.out.2.2 HR1.out.bel⟩
set_option maxRecDepth 100000 in
set_option maxHeartbeats 3200000 in
theorem rsame_11 {wt1 : List UInt8} {wp1 : List UInt8} {wq1 : Int} {wr1 : Bool} {wl1 : List Pp} {ki1 : Int} {du1 : Bool} {re1 : Bool} {q1 : Int} {id1 : Int} {top1 : List UInt8} {pay1 : List UInt8} {cl1 : Bool} {al1 : Int} {cli1 : List UInt8} {hu1 : Bool} {us1 : List UInt8} {hp1 : Bool} {pw1 : List UInt8} {hw1 : Bool} {se1 : Bool} {co1 : Int} {co_1 : List Int} {fi1 : List Ft} {pr1 : List Pp} {pay2 : List UInt8} {cl2 : Bool} {al2 : Int} {cli2 : List UInt8} {hu2 : Bool} {us2 : List UInt8} {hp2 : Bool} {pw2 : List UInt8} {hw2 : Bool} {se2 : Bool} {co2 : Int} {co_2 : List Int} {fi2 : List Ft} {pr2 : List Pp} {aw ac af ap bw bc bf bp : Value} {w : World} (hA : PkAt w ⟨⟨ki1, q1, id1, al1, co1, du1, re1, cl1, hu1, hp1, hw1, se1, top1, pay1, cli1, us1, pw1⟩, ⟨wt1, wp1, wq1, wr1, wl1⟩, co_1, fi1, pr1⟩ aw ac af ap) (hB : PkAt w ⟨⟨ki1, q1, id1, al2, co2, du1, re1, cl2, hu2, hp2, hw2, se2, top1, pay2, cli2, us2, pw2⟩, ⟨wt1, wp1, wq1, wr1, wl1⟩, co_2, fi2, pr2⟩ bw bc bf bp) (hne : pay1 ≠ pay2) :
    Calls Try.prog 18 #[.agg (pkCs ⟨⟨ki1, q1, id1, al1, co1, du1, re1, cl1, hu1, hp1, hw1, se1, top1, pay1, cli1, us1, pw1⟩, ⟨wt1, wp1, wq1, wr1, wl1⟩, co_1, fi1, pr1⟩ aw ac af ap), .agg (pkCs ⟨⟨ki1, q1, id1, al2, co2, du1, re1, cl2, hu2, hp2, hw2, se2, top1, pay2, cli2, us2, pw2⟩, ⟨wt1, wp1, wq1, wr1, wl1⟩, co_2, fi2, pr2⟩ bw bc bf bp)] w fun e w' => e = .returned (.bool (false)) ∧ Below w.heap.size w w' := by
  obtain ⟨⟨_, _, _, e1⟩, -⟩ := hA.one
  obtain ⟨⟨_, _, _, e2⟩, -⟩ := hB.one
  have o1 : aw.oneCell' = true := by rw [e1]; rfl
  have o2 : bw.oneCell' = true := by rw [e2]; rfl
  obtain ⟨W0, hW0, O1, O2, hb0⟩ := pk_world (⟨⟨ki1, q1, id1, al1, co1, du1, re1, cl1, hu1, hp1, hw1, se1, top1, pay1, cli1, us1, pw1⟩, ⟨wt1, wp1, wq1, wr1, wl1⟩, co_1, fi1, pr1⟩ : Pk) (⟨⟨ki1, q1, id1, al2, co2, du1, re1, cl2, hu2, hp2, hw2, se2, top1, pay2, cli2, us2, pw2⟩, ⟨wt1, wp1, wq1, wr1, wl1⟩, co_2, fi2, pr2⟩ : Pk) aw ac af ap bw bc bf bp w
  have HO := Lib.hid (And.intro O1 (And.intro O2 hb0))
  have HA := Lib.hid (hA.below hb0)
  have HB := Lib.hid (hB.below hb0)
  have H1 := Lib.hid (And.intro o1 o2)
  clear e1 e2 o1 o2 O1 O2 hb0 hA hB
  have HWl := Lib.hid (fun W (hW : Below W0.heap.size W0 W) => rsame_pp (HA.out.rw'.below hW) (HB.out.rw'.below hW))
  have HLi := Lib.hid (fun W (hW : Below W0.heap.size W0 W) => rints (HA.out.rc.below hW) (HB.out.rc.below hW))
  have HLf := Lib.hid (fun W (hW : Below W0.heap.size W0 W) => rfilters (HA.out.rf.below hW) (HB.out.rf.below hW))
  have HLp := Lib.hid (fun W (hW : Below W0.heap.size W0 W) => rsame_pp (HA.out.rp.below hW) (HB.out.rp.below hW))
  simp only [decide_true] at HWl
  have qz1 : (pay1 == pay2) = false := by simpa using hne
  have qz2 : (pay1 != pay2) = true := by simpa using hne
  clear hne
  go_enter Try.func18, Try.ntmps18
  refine wp_hide fun Q1 hQ1 => ?_
  have HQ1 := Lib.hid hQ1
  clear hQ1
  go_upto_region 1 with fail
  (try rw [hW0])
  clear hW0
  go_cut [5, 6] from 5 to 10 (fun p5 p6 wx => ∃ b5 b6 : Nat, p5 = .pointer (some ⟨b5, 0, none⟩) ∧ p6 = .pointer (some ⟨b6, 0, none⟩) ∧ Hid (RsAt W0 ⟨⟨ki1, q1, id1, al1, co1, du1, re1, cl1, hu1, hp1, hw1, se1, top1, pay1, cli1, us1, pw1⟩, ⟨wt1, wp1, wq1, wr1, wl1⟩, co_1, fi1, pr1⟩ ⟨⟨ki1, q1, id1, al2, co2, du1, re1, cl2, hu2, hp2, hw2, se2, top1, pay2, cli2, us2, pw2⟩, ⟨wt1, wp1, wq1, wr1, wl1⟩, co_2, fi2, pr2⟩ aw ac af ap bw bc bf bp w.heap.size b5 b6 wx))
  case first =>
    obtain ⟨ld1, ld2, hst⟩ := rs_boxes HO.out.1 HO.out.2.1 H1.out.1 H1.out.2
    obtain ⟨sa1, sb1, sc1, sd1⟩ := hst (⟨wt1, wp1, wq1, wr1, wl1⟩ : Wl) (⟨wt1, wp1, wq1, wr1, wl1⟩ : Wl) aw bw H1.out.1 H1.out.2
    obtain ⟨sa2, sb2, sc2, sd2⟩ := hst (⟨wt1, wp1, wq1, wr1, wl1⟩ : Wl) (⟨wt1, wp1, wq1, wr1, wl1⟩ : Wl) bw aw H1.out.2 H1.out.1
    obtain ⟨la1, la2, la3, la4⟩ := rs_loads HO.out.1 HO.out.2.1 (wlCs (⟨wt1, wp1, wq1, wr1, wl1⟩ : Wl) aw)
    obtain ⟨lb1, lb2, lb3, lb4⟩ := rs_loads HO.out.1 HO.out.2.1 (wlCs (⟨wt1, wp1, wq1, wr1, wl1⟩ : Wl) bw)
    obtain ⟨⟨ma1, ma2⟩, ⟨ma3, ma4⟩, ⟨ma5, ma6⟩, ⟨ma7, ma8⟩, ma9, ma10, ma11, -⟩ := rs_more HO.out.1 HO.out.2.1 (⟨wt1, wp1, wq1, wr1, wl1⟩ : Wl) (⟨wt1, wp1, wq1, wr1, wl1⟩ : Wl) aw bw H1.out.1 H1.out.2
    obtain ⟨-, -, ⟨mb5, mb6⟩, ⟨mb7, mb8⟩, mb9, mb10, -, mb11⟩ := rs_more HO.out.1 HO.out.2.1 (⟨wt1, wp1, wq1, wr1, wl1⟩ : Wl) (⟨wt1, wp1, wq1, wr1, wl1⟩ : Wl) bw aw H1.out.2 H1.out.1
    have HDp := Lib.hid (ma11 rfl rfl rfl rfl)
    have HDq := Lib.hid (mb11 rfl rfl rfl rfl)
    clear ma11 mb11
    have HDn := Lib.hid (rs_done HO.out.1 HO.out.2.1)
    have HDm := Lib.hid (rs_done2 HO.out.1 HO.out.2.1)
    clear hst
    go_region
    all_goals
      go_wp2
      go_meet
      first
        | exact ⟨_, _, rfl, rfl, HDn⟩
        | exact ⟨_, _, rfl, rfl, HDm⟩
        | exact ⟨_, _, rfl, rfl, HDp⟩
        | exact ⟨_, _, rfl, rfl, HDq⟩
  case rest =>
  obtain ⟨b5, b6, rfl, rfl, HR⟩ := hcut
  have k1 := HR.out.p1.cells
  have k2 := HR.out.p2.cells
  have k3 := HR.out.w1.cells
  have k4 := HR.out.w2.cells
  simp only [pkCs, wlCs] at k1 k2 k3 k4
  go_wp2_with fail
  refine (HWl.out _ HR.out.bel).mono ?_
  rintro r wz1 ⟨rfl, hb⟩
  have HR1 := Lib.hid (HR.out.below hb)
  clear hb k1 k2 k3 k4
  have k1 := HR1.out.p1.cells
  have k2 := HR1.out.p2.cells
  have k3 := HR1.out.w1.cells
  have k4 := HR1.out.w2.cells
  simp only [pkCs, wlCs] at k1 k2 k3 k4
  go_upto_region 4 with fail
  (try dsimp only [List.append])
  go_wp2
  refine HQ1.out _ _ _ ?_
  go_ret
  exact ⟨rfl, below_thenh HO.out.2.2 HR1.out.bel⟩
set_option maxRecDepth 100000 in
set_option maxHeartbeats 3200000 in
theorem rsame_12 {wt1 : List UInt8} {wp1 : List UInt8} {wq1 : Int} {wr1 : Bool} {wl1 : List Pp} {ki1 : Int} {du1 : Bool} {re1 : Bool} {q1 : Int} {id1 : Int} {top1 : List UInt8} {pay1 : List UInt8} {cl1 : Bool} {al1 : Int} {cli1 : List UInt8} {hu1 : Bool} {us1 : List UInt8} {hp1 : Bool} {pw1 : List UInt8} {hw1 : Bool} {se1 : Bool} {co1 : Int} {co_1 : List Int} {fi1 : List Ft} {pr1 : List Pp} {cl2 : Bool} {al2 : Int} {cli2 : List UInt8} {hu2 : Bool} {us2 : List UInt8} {hp2 : Bool} {pw2 : List UInt8} {hw2 : Bool} {se2 : Bool} {co2 : Int} {co_2 : List Int} {fi2 : List Ft} {pr2 : List Pp} {aw ac af ap bw bc bf bp : Value} {w : World} (hA : PkAt w ⟨⟨ki1, q1, id1, al1, co1, du1, re1, cl1, hu1, hp1, hw1, se1, top1, pay1, cli1, us1, pw1⟩, ⟨wt1, wp1, wq1, wr1, wl1⟩, co_1, fi1, pr1⟩ aw ac af ap) (hB : PkAt w ⟨⟨ki1, q1, id1, al2, co2, du1, re1, cl2, hu2, hp2, hw2, se2, top1, pay1, cli2, us2, pw2⟩, ⟨wt1, wp1, wq1, wr1, wl1⟩, co_2, fi2, pr2⟩ bw bc bf bp) (hne : cl1 ≠ cl2) :
    Calls Try.prog 18 #[.agg (pkCs ⟨⟨ki1, q1, id1, al1, co1, du1, re1, cl1, hu1, hp1, hw1, se1, top1, pay1, cli1, us1, pw1⟩, ⟨wt1, wp1, wq1, wr1, wl1⟩, co_1, fi1, pr1⟩ aw ac af ap), .agg (pkCs ⟨⟨ki1, q1, id1, al2, co2, du1, re1, cl2, hu2, hp2, hw2, se2, top1, pay1, cli2, us2, pw2⟩, ⟨wt1, wp1, wq1, wr1, wl1⟩, co_2, fi2, pr2⟩ bw bc bf bp)] w fun e w' => e = .returned (.bool (false)) ∧ Below w.heap.size w w' := by
  obtain ⟨⟨_, _, _, e1⟩, -⟩ := hA.one
  obtain ⟨⟨_, _, _, e2⟩, -⟩ := hB.one
  have o1 : aw.oneCell' = true := by rw [e1]; rfl
  have o2 : bw.oneCell' = true := by rw [e2]; rfl
  obtain ⟨W0, hW0, O1, O2, hb0⟩ := pk_world (⟨⟨ki1, q1, id1, al1, co1, du1, re1, cl1, hu1, hp1, hw1, se1, top1, pay1, cli1, us1, pw1⟩, ⟨wt1, wp1, wq1, wr1, wl1⟩, co_1, fi1, pr1⟩ : Pk) (⟨⟨ki1, q1, id1, al2, co2, du1, re1, cl2, hu2, hp2, hw2, se2, top1, pay1, cli2, us2, pw2⟩, ⟨wt1, wp1, wq1, wr1, wl1⟩, co_2, fi2, pr2⟩ : Pk) aw ac af ap bw bc bf bp w
  have HO := Lib.hid (And.intro O1 (And.intro O2 hb0))
  have HA := Lib.hid (hA.below hb0)
  have HB := Lib.hid (hB.below hb0)
  have H1 := Lib.hid (And.intro o1 o2)
  clear e1 e2 o1 o2 O1 O2 hb0 hA hB
  have HWl := Lib.hid (fun W (hW : Below W0.heap.size W0 W) => rsame_pp (HA.out.rw'.below hW) (HB.out.rw'.below hW))
  have HLi := Lib.hid (fun W (hW : Below W0.heap.size W0 W) => rints (HA.out.rc.below hW) (HB.out.rc.below hW))
  have HLf := Lib.hid (fun W (hW : Below W0.heap.size W0 W) => rfilters (HA.out.rf.below hW) (HB.out.rf.below hW))
  have HLp := Lib.hid (fun W (hW : Below W0.heap.size W0 W) => rsame_pp (HA.out.rp.below hW) (HB.out.rp.below hW))
  simp only [decide_true] at HWl
  have qz1 : (cl1 == cl2) = false := by simpa using hne
  have qz2 : (cl1 != cl2) = true := by simpa using hne
  clear hne
  go_enter Try.func18, Try.ntmps18
  refine wp_hide fun Q1 hQ1 => ?_
  have HQ1 := Lib.hid hQ1
  clear hQ1
  go_upto_region 1 with fail
  (try rw [hW0])
  clear hW0
  go_cut [5, 6] from 5 to 10 (fun p5 p6 wx => ∃ b5 b6 : Nat, p5 = .pointer (some ⟨b5, 0, none⟩) ∧ p6 = .pointer (some ⟨b6, 0, none⟩) ∧ Hid (RsAt W0 ⟨⟨ki1, q1, id1, al1, co1, du1, re1, cl1, hu1, hp1, hw1, se1, top1, pay1, cli1, us1, pw1⟩, ⟨wt1, wp1, wq1, wr1, wl1⟩, co_1, fi1, pr1⟩ ⟨⟨ki1, q1, id1, al2, co2, du1, re1, cl2, hu2, hp2, hw2, se2, top1, pay1, cli2, us2, pw2⟩, ⟨wt1, wp1, wq1, wr1, wl1⟩, co_2, fi2, pr2⟩ aw ac af ap bw bc bf bp w.heap.size b5 b6 wx))
  case first =>
    obtain ⟨ld1, ld2, hst⟩ := rs_boxes HO.out.1 HO.out.2.1 H1.out.1 H1.out.2
    obtain ⟨sa1, sb1, sc1, sd1⟩ := hst (⟨wt1, wp1, wq1, wr1, wl1⟩ : Wl) (⟨wt1, wp1, wq1, wr1, wl1⟩ : Wl) aw bw H1.out.1 H1.out.2
    obtain ⟨sa2, sb2, sc2, sd2⟩ := hst (⟨wt1, wp1, wq1, wr1, wl1⟩ : Wl) (⟨wt1, wp1, wq1, wr1, wl1⟩ : Wl) bw aw H1.out.2 H1.out.1
    obtain ⟨la1, la2, la3, la4⟩ := rs_loads HO.out.1 HO.out.2.1 (wlCs (⟨wt1, wp1, wq1, wr1, wl1⟩ : Wl) aw)
    obtain ⟨lb1, lb2, lb3, lb4⟩ := rs_loads HO.out.1 HO.out.2.1 (wlCs (⟨wt1, wp1, wq1, wr1, wl1⟩ : Wl) bw)
    obtain ⟨⟨ma1, ma2⟩, ⟨ma3, ma4⟩, ⟨ma5, ma6⟩, ⟨ma7, ma8⟩, ma9, ma10, ma11, -⟩ := rs_more HO.out.1 HO.out.2.1 (⟨wt1, wp1, wq1, wr1, wl1⟩ : Wl) (⟨wt1, wp1, wq1, wr1, wl1⟩ : Wl) aw bw H1.out.1 H1.out.2
    obtain ⟨-, -, ⟨mb5, mb6⟩, ⟨mb7, mb8⟩, mb9, mb10, -, mb11⟩ := rs_more HO.out.1 HO.out.2.1 (⟨wt1, wp1, wq1, wr1, wl1⟩ : Wl) (⟨wt1, wp1, wq1, wr1, wl1⟩ : Wl) bw aw H1.out.2 H1.out.1
    have HDp := Lib.hid (ma11 rfl rfl rfl rfl)
    have HDq := Lib.hid (mb11 rfl rfl rfl rfl)
    clear ma11 mb11
    have HDn := Lib.hid (rs_done HO.out.1 HO.out.2.1)
    have HDm := Lib.hid (rs_done2 HO.out.1 HO.out.2.1)
    clear hst
    go_region
    all_goals
      go_wp2
      go_meet
      first
        | exact ⟨_, _, rfl, rfl, HDn⟩
        | exact ⟨_, _, rfl, rfl, HDm⟩
        | exact ⟨_, _, rfl, rfl, HDp⟩
        | exact ⟨_, _, rfl, rfl, HDq⟩
  case rest =>
  obtain ⟨b5, b6, rfl, rfl, HR⟩ := hcut
  have k1 := HR.out.p1.cells
  have k2 := HR.out.p2.cells
  have k3 := HR.out.w1.cells
  have k4 := HR.out.w2.cells
  simp only [pkCs, wlCs] at k1 k2 k3 k4
  go_wp2_with fail
  refine (HWl.out _ HR.out.bel).mono ?_
  rintro r wz1 ⟨rfl, hb⟩
  have HR1 := Lib.hid (HR.out.below hb)
  clear hb k1 k2 k3 k4
  have k1 := HR1.out.p1.cells
  have k2 := HR1.out.p2.cells
  have k3 := HR1.out.w1.cells
  have k4 := HR1.out.w2.cells
  simp only [pkCs, wlCs] at k1 k2 k3 k4
  go_upto_region 4 with fail
  (try dsimp only [List.append])
  go_wp2
  refine HQ1.out _ _ _ ?_
  go_ret
  exact ⟨rfl, below_thenh HO.out.2.2 HR1.out.bel⟩
set_option maxRecDepth 100000 in
set_option maxHeartbeats 3200000 in
theorem rsame_13 {wt1 : List UInt8} {wp1 : List UInt8} {wq1 : Int} {wr1 : Bool} {wl1 : List Pp} {ki1 : Int} {du1 : Bool} {re1 : Bool} {q1 : Int} {id1 : Int} {top1 : List UInt8} {pay1 : List UInt8} {cl1 : Bool} {al1 : Int} {cli1 : List UInt8} {hu1 : Bool} {us1 : List UInt8} {hp1 : Bool} {pw1 : List UInt8} {hw1 : Bool} {se1 : Bool} {co1 : Int} {co_1 : List Int} {fi1 : List Ft} {pr1 : List Pp} {al2 : Int} {cli2 : List UInt8} {hu2 : Bool} {us2 : List UInt8} {hp2 : Bool} {pw2 : List UInt8} {hw2 : Bool} {se2 : Bool} {co2 : Int} {co_2 : List Int} {fi2 : List Ft} {pr2 : List Pp} {aw ac af ap bw bc bf bp : Value} {w : World} (hA : PkAt w ⟨⟨ki1, q1, id1, al1, co1, du1, re1, cl1, hu1, hp1, hw1, se1, top1, pay1, cli1, us1, pw1⟩, ⟨wt1, wp1, wq1, wr1, wl1⟩, co_1, fi1, pr1⟩ aw ac af ap) (hB : PkAt w ⟨⟨ki1, q1, id1, al2, co2, du1, re1, cl1, hu2, hp2, hw2, se2, top1, pay1, cli2, us2, pw2⟩, ⟨wt1, wp1, wq1, wr1, wl1⟩, co_2, fi2, pr2⟩ bw bc bf bp) (hne : al1 ≠ al2) :
    Calls Try.prog 18 #[.agg (pkCs ⟨⟨ki1, q1, id1, al1, co1, du1, re1, cl1, hu1, hp1, hw1, se1, top1, pay1, cli1, us1, pw1⟩, ⟨wt1, wp1, wq1, wr1, wl1⟩, co_1, fi1, pr1⟩ aw ac af ap), .agg (pkCs ⟨⟨ki1, q1, id1, al2, co2, du1, re1, cl1, hu2, hp2, hw2, se2, top1, pay1, cli2, us2, pw2⟩, ⟨wt1, wp1, wq1, wr1, wl1⟩, co_2, fi2, pr2⟩ bw bc bf bp)] w fun e w' => e = .returned (.bool (false)) ∧ Below w.heap.size w w' := by
  obtain ⟨⟨_, _, _, e1⟩, -⟩ := hA.one
  obtain ⟨⟨_, _, _, e2⟩, -⟩ := hB.one
  have o1 : aw.oneCell' = true := by rw [e1]; rfl
  have o2 : bw.oneCell' = true := by rw [e2]; rfl
  obtain ⟨W0, hW0, O1, O2, hb0⟩ := pk_world (⟨⟨ki1, q1, id1, al1, co1, du1, re1, cl1, hu1, hp1, hw1, se1, top1, pay1, cli1, us1, pw1⟩, ⟨wt1, wp1, wq1, wr1, wl1⟩, co_1, fi1, pr1⟩ : Pk) (⟨⟨ki1, q1, id1, al2, co2, du1, re1, cl1, hu2, hp2, hw2, se2, top1, pay1, cli2, us2, pw2⟩, ⟨wt1, wp1, wq1, wr1, wl1⟩, co_2, fi2, pr2⟩ : Pk) aw ac af ap bw bc bf bp w
  have HO := Lib.hid (And.intro O1 (And.intro O2 hb0))
  have HA := Lib.hid (hA.below hb0)
  have HB := Lib.hid (hB.below hb0)
  have H1 := Lib.hid (And.intro o1 o2)
  clear e1 e2 o1 o2 O1 O2 hb0 hA hB
  have HWl := Lib.hid (fun W (hW : Below W0.heap.size W0 W) => rsame_pp (HA.out.rw'.below hW) (HB.out.rw'.below hW))
  have HLi := Lib.hid (fun W (hW : Below W0.heap.size W0 W) => rints (HA.out.rc.below hW) (HB.out.rc.below hW))
  have HLf := Lib.hid (fun W (hW : Below W0.heap.size W0 W) => rfilters (HA.out.rf.below hW) (HB.out.rf.below hW))
  have HLp := Lib.hid (fun W (hW : Below W0.heap.size W0 W) => rsame_pp (HA.out.rp.below hW) (HB.out.rp.below hW))
  simp only [decide_true] at HWl
  have qz1 : (al1 == al2) = false := by simpa using hne
  have qz2 : (al1 != al2) = true := by simpa using hne
  clear hne
  go_enter Try.func18, Try.ntmps18
  refine wp_hide fun Q1 hQ1 => ?_
  have HQ1 := Lib.hid hQ1
  clear hQ1
  go_upto_region 1 with fail
  (try rw [hW0])
  clear hW0
  go_cut [5, 6] from 5 to 10 (fun p5 p6 wx => ∃ b5 b6 : Nat, p5 = .pointer (some ⟨b5, 0, none⟩) ∧ p6 = .pointer (some ⟨b6, 0, none⟩) ∧ Hid (RsAt W0 ⟨⟨ki1, q1, id1, al1, co1, du1, re1, cl1, hu1, hp1, hw1, se1, top1, pay1, cli1, us1, pw1⟩, ⟨wt1, wp1, wq1, wr1, wl1⟩, co_1, fi1, pr1⟩ ⟨⟨ki1, q1, id1, al2, co2, du1, re1, cl1, hu2, hp2, hw2, se2, top1, pay1, cli2, us2, pw2⟩, ⟨wt1, wp1, wq1, wr1, wl1⟩, co_2, fi2, pr2⟩ aw ac af ap bw bc bf bp w.heap.size b5 b6 wx))
  case first =>
    obtain ⟨ld1, ld2, hst⟩ := rs_boxes HO.out.1 HO.out.2.1 H1.out.1 H1.out.2
    obtain ⟨sa1, sb1, sc1, sd1⟩ := hst (⟨wt1, wp1, wq1, wr1, wl1⟩ : Wl) (⟨wt1, wp1, wq1, wr1, wl1⟩ : Wl) aw bw H1.out.1 H1.out.2
    obtain ⟨sa2, sb2, sc2, sd2⟩ := hst (⟨wt1, wp1, wq1, wr1, wl1⟩ : Wl) (⟨wt1, wp1, wq1, wr1, wl1⟩ : Wl) bw aw H1.out.2 H1.out.1
    obtain ⟨la1, la2, la3, la4⟩ := rs_loads HO.out.1 HO.out.2.1 (wlCs (⟨wt1, wp1, wq1, wr1, wl1⟩ : Wl) aw)
    obtain ⟨lb1, lb2, lb3, lb4⟩ := rs_loads HO.out.1 HO.out.2.1 (wlCs (⟨wt1, wp1, wq1, wr1, wl1⟩ : Wl) bw)
    obtain ⟨⟨ma1, ma2⟩, ⟨ma3, ma4⟩, ⟨ma5, ma6⟩, ⟨ma7, ma8⟩, ma9, ma10, ma11, -⟩ := rs_more HO.out.1 HO.out.2.1 (⟨wt1, wp1, wq1, wr1, wl1⟩ : Wl) (⟨wt1, wp1, wq1, wr1, wl1⟩ : Wl) aw bw H1.out.1 H1.out.2
    obtain ⟨-, -, ⟨mb5, mb6⟩, ⟨mb7, mb8⟩, mb9, mb10, -, mb11⟩ := rs_more HO.out.1 HO.out.2.1 (⟨wt1, wp1, wq1, wr1, wl1⟩ : Wl) (⟨wt1, wp1, wq1, wr1, wl1⟩ : Wl) bw aw H1.out.2 H1.out.1
    have HDp := Lib.hid (ma11 rfl rfl rfl rfl)
    have HDq := Lib.hid (mb11 rfl rfl rfl rfl)
    clear ma11 mb11
    have HDn := Lib.hid (rs_done HO.out.1 HO.out.2.1)
    have HDm := Lib.hid (rs_done2 HO.out.1 HO.out.2.1)
    clear hst
    go_region
    all_goals
      go_wp2
      go_meet
      first
        | exact ⟨_, _, rfl, rfl, HDn⟩
        | exact ⟨_, _, rfl, rfl, HDm⟩
        | exact ⟨_, _, rfl, rfl, HDp⟩
        | exact ⟨_, _, rfl, rfl, HDq⟩
  case rest =>
  obtain ⟨b5, b6, rfl, rfl, HR⟩ := hcut
  have k1 := HR.out.p1.cells
  have k2 := HR.out.p2.cells
  have k3 := HR.out.w1.cells
  have k4 := HR.out.w2.cells
  simp only [pkCs, wlCs] at k1 k2 k3 k4
  go_wp2_with fail
  refine (HWl.out _ HR.out.bel).mono ?_
  rintro r wz1 ⟨rfl, hb⟩
  have HR1 := Lib.hid (HR.out.below hb)
  clear hb k1 k2 k3 k4
  have k1 := HR1.out.p1.cells
  have k2 := HR1.out.p2.cells
  have k3 := HR1.out.w1.cells
  have k4 := HR1.out.w2.cells
  simp only [pkCs, wlCs] at k1 k2 k3 k4
  go_upto_region 4 with fail
  (try dsimp only [List.append])
  go_wp2
  refine HQ1.out _ _ _ ?_
  go_ret
  exact ⟨rfl, below_thenh HO.out.2.2 HR1.out.bel⟩
set_option maxRecDepth 100000 in
set_option maxHeartbeats 3200000 in
theorem rsame_14 {wt1 : List UInt8} {wp1 : List UInt8} {wq1 : Int} {wr1 : Bool} {wl1 : List Pp} {ki1 : Int} {du1 : Bool} {re1 : Bool} {q1 : Int} {id1 : Int} {top1 : List UInt8} {pay1 : List UInt8} {cl1 : Bool} {al1 : Int} {cli1 : List UInt8} {hu1 : Bool} {us1 : List UInt8} {hp1 : Bool} {pw1 : List UInt8} {hw1 : Bool} {se1 : Bool} {co1 : Int} {co_1 : List Int} {fi1 : List Ft} {pr1 : List Pp} {cli2 : List UInt8} {hu2 : Bool} {us2 : List UInt8} {hp2 : Bool} {pw2 : List UInt8} {hw2 : Bool} {se2 : Bool} {co2 : Int} {co_2 : List Int} {fi2 : List Ft} {pr2 : List Pp} {aw ac af ap bw bc bf bp : Value} {w : World} (hA : PkAt w ⟨⟨ki1, q1, id1, al1, co1, du1, re1, cl1, hu1, hp1, hw1, se1, top1, pay1, cli1, us1, pw1⟩, ⟨wt1, wp1, wq1, wr1, wl1⟩, co_1, fi1, pr1⟩ aw ac af ap) (hB : PkAt w ⟨⟨ki1, q1, id1, al1, co2, du1, re1, cl1, hu2, hp2, hw2, se2, top1, pay1, cli2, us2, pw2⟩, ⟨wt1, wp1, wq1, wr1, wl1⟩, co_2, fi2, pr2⟩ bw bc bf bp) (hne : cli1 ≠ cli2) :
    Calls Try.prog 18 #[.agg (pkCs ⟨⟨ki1, q1, id1, al1, co1, du1, re1, cl1, hu1, hp1, hw1, se1, top1, pay1, cli1, us1, pw1⟩, ⟨wt1, wp1, wq1, wr1, wl1⟩, co_1, fi1, pr1⟩ aw ac af ap), .agg (pkCs ⟨⟨ki1, q1, id1, al1, co2, du1, re1, cl1, hu2, hp2, hw2, se2, top1, pay1, cli2, us2, pw2⟩, ⟨wt1, wp1, wq1, wr1, wl1⟩, co_2, fi2, pr2⟩ bw bc bf bp)] w fun e w' => e = .returned (.bool (false)) ∧ Below w.heap.size w w' := by
  obtain ⟨⟨_, _, _, e1⟩, -⟩ := hA.one
  obtain ⟨⟨_, _, _, e2⟩, -⟩ := hB.one
  have o1 : aw.oneCell' = true := by rw [e1]; rfl
  have o2 : bw.oneCell' = true := by rw [e2]; rfl
  obtain ⟨W0, hW0, O1, O2, hb0⟩ := pk_world (⟨⟨ki1, q1, id1, al1, co1, du1, re1, cl1, hu1, hp1, hw1, se1, top1, pay1, cli1, us1, pw1⟩, ⟨wt1, wp1, wq1, wr1, wl1⟩, co_1, fi1, pr1⟩ : Pk) (⟨⟨ki1, q1, id1, al1, co2, du1, re1, cl1, hu2, hp2, hw2, se2, top1, pay1, cli2, us2, pw2⟩, ⟨wt1, wp1, wq1, wr1, wl1⟩, co_2, fi2, pr2⟩ : Pk) aw ac af ap bw bc bf bp w
  have HO := Lib.hid (And.intro O1 (And.intro O2 hb0))
  have HA := Lib.hid (hA.below hb0)
  have HB := Lib.hid (hB.below hb0)
  have H1 := Lib.hid (And.intro o1 o2)
  clear e1 e2 o1 o2 O1 O2 hb0 hA hB
  have HWl := Lib.hid (fun W (hW : Below W0.heap.size W0 W) => rsame_pp (HA.out.rw'.below hW) (HB.out.rw'.below hW))
  have HLi := Lib.hid (fun W (hW : Below W0.heap.size W0 W) => rints (HA.out.rc.below hW) (HB.out.rc.below hW))
  have HLf := Lib.hid (fun W (hW : Below W0.heap.size W0 W) => rfilters (HA.out.rf.below hW) (HB.out.rf.below hW))
  have HLp := Lib.hid (fun W (hW : Below W0.heap.size W0 W) => rsame_pp (HA.out.rp.below hW) (HB.out.rp.below hW))
  simp only [decide_true] at HWl
  have qz1 : (cli1 == cli2) = false := by simpa using hne
  have qz2 : (cli1 != cli2) = true := by simpa using hne
  clear hne
  go_enter Try.func18, Try.ntmps18
  refine wp_hide fun Q1 hQ1 => ?_
  have HQ1 := Lib.hid hQ1
  clear hQ1
  go_upto_region 1 with fail
  (try rw [hW0])
  clear hW0
  go_cut [5, 6] from 5 to 10 (fun p5 p6 wx => ∃ b5 b6 : Nat, p5 = .pointer (some ⟨b5, 0, none⟩) ∧ p6 = .pointer (some ⟨b6, 0, none⟩) ∧ Hid (RsAt W0 ⟨⟨ki1, q1, id1, al1, co1, du1, re1, cl1, hu1, hp1, hw1, se1, top1, pay1, cli1, us1, pw1⟩, ⟨wt1, wp1, wq1, wr1, wl1⟩, co_1, fi1, pr1⟩ ⟨⟨ki1, q1, id1, al1, co2, du1, re1, cl1, hu2, hp2, hw2, se2, top1, pay1, cli2, us2, pw2⟩, ⟨wt1, wp1, wq1, wr1, wl1⟩, co_2, fi2, pr2⟩ aw ac af ap bw bc bf bp w.heap.size b5 b6 wx))
  case first =>
    obtain ⟨ld1, ld2, hst⟩ := rs_boxes HO.out.1 HO.out.2.1 H1.out.1 H1.out.2
    obtain ⟨sa1, sb1, sc1, sd1⟩ := hst (⟨wt1, wp1, wq1, wr1, wl1⟩ : Wl) (⟨wt1, wp1, wq1, wr1, wl1⟩ : Wl) aw bw H1.out.1 H1.out.2
    obtain ⟨sa2, sb2, sc2, sd2⟩ := hst (⟨wt1, wp1, wq1, wr1, wl1⟩ : Wl) (⟨wt1, wp1, wq1, wr1, wl1⟩ : Wl) bw aw H1.out.2 H1.out.1
    obtain ⟨la1, la2, la3, la4⟩ := rs_loads HO.out.1 HO.out.2.1 (wlCs (⟨wt1, wp1, wq1, wr1, wl1⟩ : Wl) aw)
    obtain ⟨lb1, lb2, lb3, lb4⟩ := rs_loads HO.out.1 HO.out.2.1 (wlCs (⟨wt1, wp1, wq1, wr1, wl1⟩ : Wl) bw)
    obtain ⟨⟨ma1, ma2⟩, ⟨ma3, ma4⟩, ⟨ma5, ma6⟩, ⟨ma7, ma8⟩, ma9, ma10, ma11, -⟩ := rs_more HO.out.1 HO.out.2.1 (⟨wt1, wp1, wq1, wr1, wl1⟩ : Wl) (⟨wt1, wp1, wq1, wr1, wl1⟩ : Wl) aw bw H1.out.1 H1.out.2
    obtain ⟨-, -, ⟨mb5, mb6⟩, ⟨mb7, mb8⟩, mb9, mb10, -, mb11⟩ := rs_more HO.out.1 HO.out.2.1 (⟨wt1, wp1, wq1, wr1, wl1⟩ : Wl) (⟨wt1, wp1, wq1, wr1, wl1⟩ : Wl) bw aw H1.out.2 H1.out.1
    have HDp := Lib.hid (ma11 rfl rfl rfl rfl)
    have HDq := Lib.hid (mb11 rfl rfl rfl rfl)
    clear ma11 mb11
    have HDn := Lib.hid (rs_done HO.out.1 HO.out.2.1)
    have HDm := Lib.hid (rs_done2 HO.out.1 HO.out.2.1)
    clear hst
    go_region
    all_goals
      go_wp2
      go_meet
      first
        | exact ⟨_, _, rfl, rfl, HDn⟩
        | exact ⟨_, _, rfl, rfl, HDm⟩
        | exact ⟨_, _, rfl, rfl, HDp⟩
        | exact ⟨_, _, rfl, rfl, HDq⟩
  case rest =>
  obtain ⟨b5, b6, rfl, rfl, HR⟩ := hcut
  have k1 := HR.out.p1.cells
  have k2 := HR.out.p2.cells
  have k3 := HR.out.w1.cells
  have k4 := HR.out.w2.cells
  simp only [pkCs, wlCs] at k1 k2 k3 k4
  go_wp2_with fail
  refine (HWl.out _ HR.out.bel).mono ?_
  rintro r wz1 ⟨rfl, hb⟩
  have HR1 := Lib.hid (HR.out.below hb)
  clear hb k1 k2 k3 k4
  have k1 := HR1.out.p1.cells
  have k2 := HR1.out.p2.cells
  have k3 := HR1.out.w1.cells
  have k4 := HR1.out.w2.cells
  simp only [pkCs, wlCs] at k1 k2 k3 k4
  go_upto_region 4 with fail
  (try dsimp only [List.append])
  go_upto_region 6 with fail
  (try dsimp only [List.append])
  go_wp2
  refine HQ1.out _ _ _ ?_
  go_ret
  exact ⟨rfl, below_thenh HO.out.2.2 HR1.out.bel⟩
set_option maxRecDepth 100000 in
set_option maxHeartbeats 3200000 in
theorem rsame_15 {wt1 : List UInt8} {wp1 : List UInt8} {wq1 : Int} {wr1 : Bool} {wl1 : List Pp} {ki1 : Int} {du1 : Bool} {re1 : Bool} {q1 : Int} {id1 : Int} {top1 : List UInt8} {pay1 : List UInt8} {cl1 : Bool} {al1 : Int} {cli1 : List UInt8} {hu1 : Bool} {us1 : List UInt8} {hp1 : Bool} {pw1 : List UInt8} {hw1 : Bool} {se1 : Bool} {co1 : Int} {co_1 : List Int} {fi1 : List Ft} {pr1 : List Pp} {hu2 : Bool} {us2 : List UInt8} {hp2 : Bool} {pw2 : List UInt8} {hw2 : Bool} {se2 : Bool} {co2 : Int} {co_2 : List Int} {fi2 : List Ft} {pr2 : List Pp} {aw ac af ap bw bc bf bp : Value} {w : World} (hA : PkAt w ⟨⟨ki1, q1, id1, al1, co1, du1, re1, cl1, hu1, hp1, hw1, se1, top1, pay1, cli1, us1, pw1⟩, ⟨wt1, wp1, wq1, wr1, wl1⟩, co_1, fi1, pr1⟩ aw ac af ap) (hB : PkAt w ⟨⟨ki1, q1, id1, al1, co2, du1, re1, cl1, hu2, hp2, hw2, se2, top1, pay1, cli1, us2, pw2⟩, ⟨wt1, wp1, wq1, wr1, wl1⟩, co_2, fi2, pr2⟩ bw bc bf bp) (hne : hu1 ≠ hu2) :
    Calls Try.prog 18 #[.agg (pkCs ⟨⟨ki1, q1, id1, al1, co1, du1, re1, cl1, hu1, hp1, hw1, se1, top1, pay1, cli1, us1, pw1⟩, ⟨wt1, wp1, wq1, wr1, wl1⟩, co_1, fi1, pr1⟩ aw ac af ap), .agg (pkCs ⟨⟨ki1, q1, id1, al1, co2, du1, re1, cl1, hu2, hp2, hw2, se2, top1, pay1, cli1, us2, pw2⟩, ⟨wt1, wp1, wq1, wr1, wl1⟩, co_2, fi2, pr2⟩ bw bc bf bp)] w fun e w' => e = .returned (.bool (false)) ∧ Below w.heap.size w w' := by
  obtain ⟨⟨_, _, _, e1⟩, -⟩ := hA.one
  obtain ⟨⟨_, _, _, e2⟩, -⟩ := hB.one
  have o1 : aw.oneCell' = true := by rw [e1]; rfl
  have o2 : bw.oneCell' = true := by rw [e2]; rfl
  obtain ⟨W0, hW0, O1, O2, hb0⟩ := pk_world (⟨⟨ki1, q1, id1, al1, co1, du1, re1, cl1, hu1, hp1, hw1, se1, top1, pay1, cli1, us1, pw1⟩, ⟨wt1, wp1, wq1, wr1, wl1⟩, co_1, fi1, pr1⟩ : Pk) (⟨⟨ki1, q1, id1, al1, co2, du1, re1, cl1, hu2, hp2, hw2, se2, top1, pay1, cli1, us2, pw2⟩, ⟨wt1, wp1, wq1, wr1, wl1⟩, co_2, fi2, pr2⟩ : Pk) aw ac af ap bw bc bf bp w
  have HO := Lib.hid (And.intro O1 (And.intro O2 hb0))
  have HA := Lib.hid (hA.below hb0)
  have HB := Lib.hid (hB.below hb0)
  have H1 := Lib.hid (And.intro o1 o2)
  clear e1 e2 o1 o2 O1 O2 hb0 hA hB
  have HWl := Lib.hid (fun W (hW : Below W0.heap.size W0 W) => rsame_pp (HA.out.rw'.below hW) (HB.out.rw'.below hW))
  have HLi := Lib.hid (fun W (hW : Below W0.heap.size W0 W) => rints (HA.out.rc.below hW) (HB.out.rc.below hW))
  have HLf := Lib.hid (fun W (hW : Below W0.heap.size W0 W) => rfilters (HA.out.rf.below hW) (HB.out.rf.below hW))
  have HLp := Lib.hid (fun W (hW : Below W0.heap.size W0 W) => rsame_pp (HA.out.rp.below hW) (HB.out.rp.below hW))
  simp only [decide_true] at HWl
  have qz1 : (hu1 == hu2) = false := by simpa using hne
  have qz2 : (hu1 != hu2) = true := by simpa using hne
  clear hne
  go_enter Try.func18, Try.ntmps18
  refine wp_hide fun Q1 hQ1 => ?_
  have HQ1 := Lib.hid hQ1
  clear hQ1
  go_upto_region 1 with fail
  (try rw [hW0])
  clear hW0
  go_cut [5, 6] from 5 to 10 (fun p5 p6 wx => ∃ b5 b6 : Nat, p5 = .pointer (some ⟨b5, 0, none⟩) ∧ p6 = .pointer (some ⟨b6, 0, none⟩) ∧ Hid (RsAt W0 ⟨⟨ki1, q1, id1, al1, co1, du1, re1, cl1, hu1, hp1, hw1, se1, top1, pay1, cli1, us1, pw1⟩, ⟨wt1, wp1, wq1, wr1, wl1⟩, co_1, fi1, pr1⟩ ⟨⟨ki1, q1, id1, al1, co2, du1, re1, cl1, hu2, hp2, hw2, se2, top1, pay1, cli1, us2, pw2⟩, ⟨wt1, wp1, wq1, wr1, wl1⟩, co_2, fi2, pr2⟩ aw ac af ap bw bc bf bp w.heap.size b5 b6 wx))
  case first =>
    obtain ⟨ld1, ld2, hst⟩ := rs_boxes HO.out.1 HO.out.2.1 H1.out.1 H1.out.2
    obtain ⟨sa1, sb1, sc1, sd1⟩ := hst (⟨wt1, wp1, wq1, wr1, wl1⟩ : Wl) (⟨wt1, wp1, wq1, wr1, wl1⟩ : Wl) aw bw H1.out.1 H1.out.2
    obtain ⟨sa2, sb2, sc2, sd2⟩ := hst (⟨wt1, wp1, wq1, wr1, wl1⟩ : Wl) (⟨wt1, wp1, wq1, wr1, wl1⟩ : Wl) bw aw H1.out.2 H1.out.1
    obtain ⟨la1, la2, la3, la4⟩ := rs_loads HO.out.1 HO.out.2.1 (wlCs (⟨wt1, wp1, wq1, wr1, wl1⟩ : Wl) aw)
    obtain ⟨lb1, lb2, lb3, lb4⟩ := rs_loads HO.out.1 HO.out.2.1 (wlCs (⟨wt1, wp1, wq1, wr1, wl1⟩ : Wl) bw)
    obtain ⟨⟨ma1, ma2⟩, ⟨ma3, ma4⟩, ⟨ma5, ma6⟩, ⟨ma7, ma8⟩, ma9, ma10, ma11, -⟩ := rs_more HO.out.1 HO.out.2.1 (⟨wt1, wp1, wq1, wr1, wl1⟩ : Wl) (⟨wt1, wp1, wq1, wr1, wl1⟩ : Wl) aw bw H1.out.1 H1.out.2
    obtain ⟨-, -, ⟨mb5, mb6⟩, ⟨mb7, mb8⟩, mb9, mb10, -, mb11⟩ := rs_more HO.out.1 HO.out.2.1 (⟨wt1, wp1, wq1, wr1, wl1⟩ : Wl) (⟨wt1, wp1, wq1, wr1, wl1⟩ : Wl) bw aw H1.out.2 H1.out.1
    have HDp := Lib.hid (ma11 rfl rfl rfl rfl)
    have HDq := Lib.hid (mb11 rfl rfl rfl rfl)
    clear ma11 mb11
    have HDn := Lib.hid (rs_done HO.out.1 HO.out.2.1)
    have HDm := Lib.hid (rs_done2 HO.out.1 HO.out.2.1)
    clear hst
    go_region
    all_goals
      go_wp2
      go_meet
      first
        | exact ⟨_, _, rfl, rfl, HDn⟩
        | exact ⟨_, _, rfl, rfl, HDm⟩
        | exact ⟨_, _, rfl, rfl, HDp⟩
        | exact ⟨_, _, rfl, rfl, HDq⟩
  case rest =>
  obtain ⟨b5, b6, rfl, rfl, HR⟩ := hcut
  have k1 := HR.out.p1.cells
  have k2 := HR.out.p2.cells
  have k3 := HR.out.w1.cells
  have k4 := HR.out.w2.cells
  simp only [pkCs, wlCs] at k1 k2 k3 k4
  go_wp2_with fail
  refine (HWl.out _ HR.out.bel).mono ?_
  rintro r wz1 ⟨rfl, hb⟩
  have HR1 := Lib.hid (HR.out.below hb)
  clear hb k1 k2 k3 k4
  have k1 := HR1.out.p1.cells
  have k2 := HR1.out.p2.cells
  have k3 := HR1.out.w1.cells
  have k4 := HR1.out.w2.cells
  simp only [pkCs, wlCs] at k1 k2 k3 k4
  go_upto_region 4 with fail
  (try dsimp only [List.append])
  go_upto_region 6 with fail
  (try dsimp only [List.append])
  go_wp2
  refine HQ1.out _ _ _ ?_
  go_ret
  exact ⟨rfl, below_thenh HO.out.2.2 HR1.out.bel⟩
set_option maxRecDepth 100000 in
set_option maxHeartbeats 3200000 in
theorem rsame_16 {wt1 : List UInt8} {wp1 : List UInt8} {wq1 : Int} {wr1 : Bool} {wl1 : List Pp} {ki1 : Int} {du1 : Bool} {re1 : Bool} {q1 : Int} {id1 : Int} {top1 : List UInt8} {pay1 : List UInt8} {cl1 : Bool} {al1 : Int} {cli1 : List UInt8} {hu1 : Bool} {us1 : List UInt8} {hp1 : Bool} {pw1 : List UInt8} {hw1 : Bool} {se1 : Bool} {co1 : Int} {co_1 : List Int} {fi1 : List Ft} {pr1 : List Pp} {us2 : List UInt8} {hp2 : Bool} {pw2 : List UInt8} {hw2 : Bool} {se2 : Bool} {co2 : Int} {co_2 : List Int} {fi2 : List Ft} {pr2 : List Pp} {aw ac af ap bw bc bf bp : Value} {w : World} (hA : PkAt w ⟨⟨ki1, q1, id1, al1, co1, du1, re1, cl1, hu1, hp1, hw1, se1, top1, pay1, cli1, us1, pw1⟩, ⟨wt1, wp1, wq1, wr1, wl1⟩, co_1, fi1, pr1⟩ aw ac af ap) (hB : PkAt w ⟨⟨ki1, q1, id1, al1, co2, du1, re1, cl1, hu1, hp2, hw2, se2, top1, pay1, cli1, us2, pw2⟩, ⟨wt1, wp1, wq1, wr1, wl1⟩, co_2, fi2, pr2⟩ bw bc bf bp) (hne : us1 ≠ us2) :
    Calls Try.prog 18 #[.agg (pkCs ⟨⟨ki1, q1, id1, al1, co1, du1, re1, cl1, hu1, hp1, hw1, se1, top1, pay1, cli1, us1, pw1⟩, ⟨wt1, wp1, wq1, wr1, wl1⟩, co_1, fi1, pr1⟩ aw ac af ap), .agg (pkCs ⟨⟨ki1, q1, id1, al1, co2, du1, re1, cl1, hu1, hp2, hw2, se2, top1, pay1, cli1, us2, pw2⟩, ⟨wt1, wp1, wq1, wr1, wl1⟩, co_2, fi2, pr2⟩ bw bc bf bp)] w fun e w' => e = .returned (.bool (false)) ∧ Below w.heap.size w w' := by
  obtain ⟨⟨_, _, _, e1⟩, -⟩ := hA.one
  obtain ⟨⟨_, _, _, e2⟩, -⟩ := hB.one
  have o1 : aw.oneCell' = true := by rw [e1]; rfl
  have o2 : bw.oneCell' = true := by rw [e2]; rfl
  obtain ⟨W0, hW0, O1, O2, hb0⟩ := pk_world (⟨⟨ki1, q1, id1, al1, co1, du1, re1, cl1, hu1, hp1, hw1, se1, top1, pay1, cli1, us1, pw1⟩, ⟨wt1, wp1, wq1, wr1, wl1⟩, co_1, fi1, pr1⟩ : Pk) (⟨⟨ki1, q1, id1, al1, co2, du1, re1, cl1, hu1, hp2, hw2, se2, top1, pay1, cli1, us2, pw2⟩, ⟨wt1, wp1, wq1, wr1, wl1⟩, co_2, fi2, pr2⟩ : Pk) aw ac af ap bw bc bf bp w
  have HO := Lib.hid (And.intro O1 (And.intro O2 hb0))
  have HA := Lib.hid (hA.below hb0)
  have HB := Lib.hid (hB.below hb0)
  have H1 := Lib.hid (And.intro o1 o2)
  clear e1 e2 o1 o2 O1 O2 hb0 hA hB
  have HWl := Lib.hid (fun W (hW : Below W0.heap.size W0 W) => rsame_pp (HA.out.rw'.below hW) (HB.out.rw'.below hW))
  have HLi := Lib.hid (fun W (hW : Below W0.heap.size W0 W) => rints (HA.out.rc.below hW) (HB.out.rc.below hW))
  have HLf := Lib.hid (fun W (hW : Below W0.heap.size W0 W) => rfilters (HA.out.rf.below hW) (HB.out.rf.below hW))
  have HLp := Lib.hid (fun W (hW : Below W0.heap.size W0 W) => rsame_pp (HA.out.rp.below hW) (HB.out.rp.below hW))
  simp only [decide_true] at HWl
  have qz1 : (us1 == us2) = false := by simpa using hne
  have qz2 : (us1 != us2) = true := by simpa using hne
  clear hne
  go_enter Try.func18, Try.ntmps18
  refine wp_hide fun Q1 hQ1 => ?_
  have HQ1 := Lib.hid hQ1
  clear hQ1
  go_upto_region 1 with fail
  (try rw [hW0])
  clear hW0
  go_cut [5, 6] from 5 to 10 (fun p5 p6 wx => ∃ b5 b6 : Nat, p5 = .pointer (some ⟨b5, 0, none⟩) ∧ p6 = .pointer (some ⟨b6, 0, none⟩) ∧ Hid (RsAt W0 ⟨⟨ki1, q1, id1, al1, co1, du1, re1, cl1, hu1, hp1, hw1, se1, top1, pay1, cli1, us1, pw1⟩, ⟨wt1, wp1, wq1, wr1, wl1⟩, co_1, fi1, pr1⟩ ⟨⟨ki1, q1, id1, al1, co2, du1, re1, cl1, hu1, hp2, hw2, se2, top1, pay1, cli1, us2, pw2⟩, ⟨wt1, wp1, wq1, wr1, wl1⟩, co_2, fi2, pr2⟩ aw ac af ap bw bc bf bp w.heap.size b5 b6 wx))
  case first =>
    obtain ⟨ld1, ld2, hst⟩ := rs_boxes HO.out.1 HO.out.2.1 H1.out.1 H1.out.2
    obtain ⟨sa1, sb1, sc1, sd1⟩ := hst (⟨wt1, wp1, wq1, wr1, wl1⟩ : Wl) (⟨wt1, wp1, wq1, wr1, wl1⟩ : Wl) aw bw H1.out.1 H1.out.2
    obtain ⟨sa2, sb2, sc2, sd2⟩ := hst (⟨wt1, wp1, wq1, wr1, wl1⟩ : Wl) (⟨wt1, wp1, wq1, wr1, wl1⟩ : Wl) bw aw H1.out.2 H1.out.1
    obtain ⟨la1, la2, la3, la4⟩ := rs_loads HO.out.1 HO.out.2.1 (wlCs (⟨wt1, wp1, wq1, wr1, wl1⟩ : Wl) aw)
    obtain ⟨lb1, lb2, lb3, lb4⟩ := rs_loads HO.out.1 HO.out.2.1 (wlCs (⟨wt1, wp1, wq1, wr1, wl1⟩ : Wl) bw)
    obtain ⟨⟨ma1, ma2⟩, ⟨ma3, ma4⟩, ⟨ma5, ma6⟩, ⟨ma7, ma8⟩, ma9, ma10, ma11, -⟩ := rs_more HO.out.1 HO.out.2.1 (⟨wt1, wp1, wq1, wr1, wl1⟩ : Wl) (⟨wt1, wp1, wq1, wr1, wl1⟩ : Wl) aw bw H1.out.1 H1.out.2
    obtain ⟨-, -, ⟨mb5, mb6⟩, ⟨mb7, mb8⟩, mb9, mb10, -, mb11⟩ := rs_more HO.out.1 HO.out.2.1 (⟨wt1, wp1, wq1, wr1, wl1⟩ : Wl) (⟨wt1, wp1, wq1, wr1, wl1⟩ : Wl) bw aw H1.out.2 H1.out.1
    have HDp := Lib.hid (ma11 rfl rfl rfl rfl)
    have HDq := Lib.hid (mb11 rfl rfl rfl rfl)
    clear ma11 mb11
    have HDn := Lib.hid (rs_done HO.out.1 HO.out.2.1)
    have HDm := Lib.hid (rs_done2 HO.out.1 HO.out.2.1)
    clear hst
    go_region
    all_goals
      go_wp2
      go_meet
      first
        | exact ⟨_, _, rfl, rfl, HDn⟩
        | exact ⟨_, _, rfl, rfl, HDm⟩
        | exact ⟨_, _, rfl, rfl, HDp⟩
        | exact ⟨_, _, rfl, rfl, HDq⟩
  case rest =>
  obtain ⟨b5, b6, rfl, rfl, HR⟩ := hcut
  have k1 := HR.out.p1.cells
  have k2 := HR.out.p2.cells
  have k3 := HR.out.w1.cells
  have k4 := HR.out.w2.cells
  simp only [pkCs, wlCs] at k1 k2 k3 k4
  go_wp2_with fail
  refine (HWl.out _ HR.out.bel).mono ?_
  rintro r wz1 ⟨rfl, hb⟩
  have HR1 := Lib.hid (HR.out.below hb)
  clear hb k1 k2 k3 k4
  have k1 := HR1.out.p1.cells
  have k2 := HR1.out.p2.cells
  have k3 := HR1.out.w1.cells
  have k4 := HR1.out.w2.cells
  simp only [pkCs, wlCs] at k1 k2 k3 k4
  go_upto_region 4 with fail
  (try dsimp only [List.append])
  go_upto_region 6 with fail
  (try dsimp only [List.append])
  go_wp2
  refine HQ1.out _ _ _ ?_
  go_ret
  exact ⟨rfl, below_thenh HO.out.2.2 HR1.out.bel⟩
set_option maxRecDepth 100000 in
set_option maxHeartbeats 3200000 in
theorem rsame_17 {wt1 : List UInt8} {wp1 : List UInt8} {wq1 : Int} {wr1 : Bool} {wl1 : List Pp} {ki1 : Int} {du1 : Bool} {re1 : Bool} {q1 : Int} {id1 : Int} {top1 : List UInt8} {pay1 : List UInt8} {cl1 : Bool} {al1 : Int} {cli1 : List UInt8} {hu1 : Bool} {us1 : List UInt8} {hp1 : Bool} {pw1 : List UInt8} {hw1 : Bool} {se1 : Bool} {co1 : Int} {co_1 : List Int} {fi1 : List Ft} {pr1 : List Pp} {hp2 : Bool} {pw2 : List UInt8} {hw2 : Bool} {se2 : Bool} {co2 : Int} {co_2 : List Int} {fi2 : List Ft} {pr2 : List Pp} {aw ac af ap bw bc bf bp : Value} {w : World} (hA : PkAt w ⟨⟨ki1, q1, id1, al1, co1, du1, re1, cl1, hu1, hp1, hw1, se1, top1, pay1, cli1, us1, pw1⟩, ⟨wt1, wp1, wq1, wr1, wl1⟩, co_1, fi1, pr1⟩ aw ac af ap) (hB : PkAt w ⟨⟨ki1, q1, id1, al1, co2, du1, re1, cl1, hu1, hp2, hw2, se2, top1, pay1, cli1, us1, pw2⟩, ⟨wt1, wp1, wq1, wr1, wl1⟩, co_2, fi2, pr2⟩ bw bc bf bp) (hne : hp1 ≠ hp2) :
    Calls Try.prog 18 #[.agg (pkCs ⟨⟨ki1, q1, id1, al1, co1, du1, re1, cl1, hu1, hp1, hw1, se1, top1, pay1, cli1, us1, pw1⟩, ⟨wt1, wp1, wq1, wr1, wl1⟩, co_1, fi1, pr1⟩ aw ac af ap), .agg (pkCs ⟨⟨ki1, q1, id1, al1, co2, du1, re1, cl1, hu1, hp2, hw2, se2, top1, pay1, cli1, us1, pw2⟩, ⟨wt1, wp1, wq1, wr1, wl1⟩, co_2, fi2, pr2⟩ bw bc bf bp)] w fun e w' => e = .returned (.bool (false)) ∧ Below w.heap.size w w' := by
  obtain ⟨⟨_, _, _, e1⟩, -⟩ := hA.one
  obtain ⟨⟨_, _, _, e2⟩, -⟩ := hB.one
  have o1 : aw.oneCell' = true := by rw [e1]; rfl
  have o2 : bw.oneCell' = true := by rw [e2]; rfl
  obtain ⟨W0, hW0, O1, O2, hb0⟩ := pk_world (⟨⟨ki1, q1, id1, al1, co1, du1, re1, cl1, hu1, hp1, hw1, se1, top1, pay1, cli1, us1, pw1⟩, ⟨wt1, wp1, wq1, wr1, wl1⟩, co_1, fi1, pr1⟩ : Pk) (⟨⟨ki1, q1, id1, al1, co2, du1, re1, cl1, hu1, hp2, hw2, se2, top1, pay1, cli1, us1, pw2⟩, ⟨wt1, wp1, wq1, wr1, wl1⟩, co_2, fi2, pr2⟩ : Pk) aw ac af ap bw bc bf bp w
  have HO := Lib.hid (And.intro O1 (And.intro O2 hb0))
  have HA := Lib.hid (hA.below hb0)
  have HB := Lib.hid (hB.below hb0)
  have H1 := Lib.hid (And.intro o1 o2)
  clear e1 e2 o1 o2 O1 O2 hb0 hA hB
  have HWl := Lib.hid (fun W (hW : Below W0.heap.size W0 W) => rsame_pp (HA.out.rw'.below hW) (HB.out.rw'.below hW))
  have HLi := Lib.hid (fun W (hW : Below W0.heap.size W0 W) => rints (HA.out.rc.below hW) (HB.out.rc.below hW))
  have HLf := Lib.hid (fun W (hW : Below W0.heap.size W0 W) => rfilters (HA.out.rf.below hW) (HB.out.rf.below hW))
  have HLp := Lib.hid (fun W (hW : Below W0.heap.size W0 W) => rsame_pp (HA.out.rp.below hW) (HB.out.rp.below hW))
  simp only [decide_true] at HWl
  have qz1 : (hp1 == hp2) = false := by simpa using hne
  have qz2 : (hp1 != hp2) = true := by simpa using hne
  clear hne
  go_enter Try.func18, Try.ntmps18
  refine wp_hide fun Q1 hQ1 => ?_
  have HQ1 := Lib.hid hQ1
  clear hQ1
  go_upto_region 1 with fail
  (try rw [hW0])
  clear hW0
  go_cut [5, 6] from 5 to 10 (fun p5 p6 wx => ∃ b5 b6 : Nat, p5 = .pointer (some ⟨b5, 0, none⟩) ∧ p6 = .pointer (some ⟨b6, 0, none⟩) ∧ Hid (RsAt W0 ⟨⟨ki1, q1, id1, al1, co1, du1, re1, cl1, hu1, hp1, hw1, se1, top1, pay1, cli1, us1, pw1⟩, ⟨wt1, wp1, wq1, wr1, wl1⟩, co_1, fi1, pr1⟩ ⟨⟨ki1, q1, id1, al1, co2, du1, re1, cl1, hu1, hp2, hw2, se2, top1, pay1, cli1, us1, pw2⟩, ⟨wt1, wp1, wq1, wr1, wl1⟩, co_2, fi2, pr2⟩ aw ac af ap bw bc bf bp w.heap.size b5 b6 wx))
  case first =>
    obtain ⟨ld1, ld2, hst⟩ := rs_boxes HO.out.1 HO.out.2.1 H1.out.1 H1.out.2
    obtain ⟨sa1, sb1, sc1, sd1⟩ := hst (⟨wt1, wp1, wq1, wr1, wl1⟩ : Wl) (⟨wt1, wp1, wq1, wr1, wl1⟩ : Wl) aw bw H1.out.1 H1.out.2
    obtain ⟨sa2, sb2, sc2, sd2⟩ := hst (⟨wt1, wp1, wq1, wr1, wl1⟩ : Wl) (⟨wt1, wp1, wq1, wr1, wl1⟩ : Wl) bw aw H1.out.2 H1.out.1
    obtain ⟨la1, la2, la3, la4⟩ := rs_loads HO.out.1 HO.out.2.1 (wlCs (⟨wt1, wp1, wq1, wr1, wl1⟩ : Wl) aw)
    obtain ⟨lb1, lb2, lb3, lb4⟩ := rs_loads HO.out.1 HO.out.2.1 (wlCs (⟨wt1, wp1, wq1, wr1, wl1⟩ : Wl) bw)
    obtain ⟨⟨ma1, ma2⟩, ⟨ma3, ma4⟩, ⟨ma5, ma6⟩, ⟨ma7, ma8⟩, ma9, ma10, ma11, -⟩ := rs_more HO.out.1 HO.out.2.1 (⟨wt1, wp1, wq1, wr1, wl1⟩ : Wl) (⟨wt1, wp1, wq1, wr1, wl1⟩ : Wl) aw bw H1.out.1 H1.out.2
    obtain ⟨-, -, ⟨mb5, mb6⟩, ⟨mb7, mb8⟩, mb9, mb10, -, mb11⟩ := rs_more HO.out.1 HO.out.2.1 (⟨wt1, wp1, wq1, wr1, wl1⟩ : Wl) (⟨wt1, wp1, wq1, wr1, wl1⟩ : Wl) bw aw H1.out.2 H1.out.1
    have HDp := Lib.hid (ma11 rfl rfl rfl rfl)
    have HDq := Lib.hid (mb11 rfl rfl rfl rfl)
    clear ma11 mb11
    have HDn := Lib.hid (rs_done HO.out.1 HO.out.2.1)
    have HDm := Lib.hid (rs_done2 HO.out.1 HO.out.2.1)
    clear hst
    go_region
    all_goals
      go_wp2
      go_meet
      first
        | exact ⟨_, _, rfl, rfl, HDn⟩
        | exact ⟨_, _, rfl, rfl, HDm⟩
        | exact ⟨_, _, rfl, rfl, HDp⟩
        | exact ⟨_, _, rfl, rfl, HDq⟩
  case rest =>
  obtain ⟨b5, b6, rfl, rfl, HR⟩ := hcut
  have k1 := HR.out.p1.cells
  have k2 := HR.out.p2.cells
  have k3 := HR.out.w1.cells
  have k4 := HR.out.w2.cells
  simp only [pkCs, wlCs] at k1 k2 k3 k4
  go_wp2_with fail
  refine (HWl.out _ HR.out.bel).mono ?_
  rintro r wz1 ⟨rfl, hb⟩
  have HR1 := Lib.hid (HR.out.below hb)
  clear hb k1 k2 k3 k4
  have k1 := HR1.out.p1.cells
  have k2 := HR1.out.p2.cells
  have k3 := HR1.out.w1.cells
  have k4 := HR1.out.w2.cells
  simp only [pkCs, wlCs] at k1 k2 k3 k4
  go_upto_region 4 with fail
  (try dsimp only [List.append])
  go_upto_region 6 with fail
  (try dsimp only [List.append])
  go_wp2
  refine HQ1.out _ _ _ ?_
  go_ret
  exact ⟨rfl, below_thenh HO.out.2.2 HR1.out.bel⟩
set_option maxRecDepth 100000 in
set_option maxHeartbeats 3200000 in
theorem rsame_18 {wt1 : List UInt8} {wp1 : List UInt8} {wq1 : Int} {wr1 : Bool} {wl1 : List Pp} {ki1 : Int} {du1 : Bool} {re1 : Bool} {q1 : Int} {id1 : Int} {top1 : List UInt8} {pay1 : List UInt8} {cl1 : Bool} {al1 : Int} {cli1 : List UInt8} {hu1 : Bool} {us1 : List UInt8} {hp1 : Bool} {pw1 : List UInt8} {hw1 : Bool} {se1 : Bool} {co1 : Int} {co_1 : List Int} {fi1 : List Ft} {pr1 : List Pp} {pw2 : List UInt8} {hw2 : Bool} {se2 : Bool} {co2 : Int} {co_2 : List Int} {fi2 : List Ft} {pr2 : List Pp} {aw ac af ap bw bc bf bp : Value} {w : World} (hA : PkAt w ⟨⟨ki1, q1, id1, al1, co1, du1, re1, cl1, hu1, hp1, hw1, se1, top1, pay1, cli1, us1, pw1⟩, ⟨wt1, wp1, wq1, wr1, wl1⟩, co_1, fi1, pr1⟩ aw ac af ap) (hB : PkAt w ⟨⟨ki1, q1, id1, al1, co2, du1, re1, cl1, hu1, hp1, hw2, se2, top1, pay1, cli1, us1, pw2⟩, ⟨wt1, wp1, wq1, wr1, wl1⟩, co_2, fi2, pr2⟩ bw bc bf bp) (hne : pw1 ≠ pw2) :
    Calls Try.prog 18 #[.agg (pkCs ⟨⟨ki1, q1, id1, al1, co1, du1, re1, cl1, hu1, hp1, hw1, se1, top1, pay1, cli1, us1, pw1⟩, ⟨wt1, wp1, wq1, wr1, wl1⟩, co_1, fi1, pr1⟩ aw ac af ap), .agg (pkCs ⟨⟨ki1, q1, id1, al1, co2, du1, re1, cl1, hu1, hp1, hw2, se2, top1, pay1, cli1, us1, pw2⟩, ⟨wt1, wp1, wq1, wr1, wl1⟩, co_2, fi2, pr2⟩ bw bc bf bp)] w fun e w' => e = .returned (.bool (false)) ∧ Below w.heap.size w w' := by
  obtain ⟨⟨_, _, _, e1⟩, -⟩ := hA.one
  obtain ⟨⟨_, _, _, e2⟩, -⟩ := hB.one
  have o1 : aw.oneCell' = true := by rw [e1]; rfl
  have o2 : bw.oneCell' = true := by rw [e2]; rfl
  obtain ⟨W0, hW0, O1, O2, hb0⟩ := pk_world (⟨⟨ki1, q1, id1, al1, co1, du1, re1, cl1, hu1, hp1, hw1, se1, top1, pay1, cli1, us1, pw1⟩, ⟨wt1, wp1, wq1, wr1, wl1⟩, co_1, fi1, pr1⟩ : Pk) (⟨⟨ki1, q1, id1, al1, co2, du1, re1, cl1, hu1, hp1, hw2, se2, top1, pay1, cli1, us1, pw2⟩, ⟨wt1, wp1, wq1, wr1, wl1⟩, co_2, fi2, pr2⟩ : Pk) aw ac af ap bw bc bf bp w
  have HO := Lib.hid (And.intro O1 (And.intro O2 hb0))
  have HA := Lib.hid (hA.below hb0)
  have HB := Lib.hid (hB.below hb0)
  have H1 := Lib.hid (And.intro o1 o2)
  clear e1 e2 o1 o2 O1 O2 hb0 hA hB
  have HWl := Lib.hid (fun W (hW : Below W0.heap.size W0 W) => rsame_pp (HA.out.rw'.below hW) (HB.out.rw'.below hW))
  have HLi := Lib.hid (fun W (hW : Below W0.heap.size W0 W) => rints (HA.out.rc.below hW) (HB.out.rc.below hW))
  have HLf := Lib.hid (fun W (hW : Below W0.heap.size W0 W) => rfilters (HA.out.rf.below hW) (HB.out.rf.below hW))
  have HLp := Lib.hid (fun W (hW : Below W0.heap.size W0 W) => rsame_pp (HA.out.rp.below hW) (HB.out.rp.below hW))
  simp only [decide_true] at HWl
  have qz1 : (pw1 == pw2) = false := by simpa using hne
  have qz2 : (pw1 != pw2) = true := by simpa using hne
  clear hne
  go_enter Try.func18, Try.ntmps18
  refine wp_hide fun Q1 hQ1 => ?_
  have HQ1 := Lib.hid hQ1
  clear hQ1
  go_upto_region 1 with fail
  (try rw [hW0])
  clear hW0
  go_cut [5, 6] from 5 to 10 (fun p5 p6 wx => ∃ b5 b6 : Nat, p5 = .pointer (some ⟨b5, 0, none⟩) ∧ p6 = .pointer (some ⟨b6, 0, none⟩) ∧ Hid (RsAt W0 ⟨⟨ki1, q1, id1, al1, co1, du1, re1, cl1, hu1, hp1, hw1, se1, top1, pay1, cli1, us1, pw1⟩, ⟨wt1, wp1, wq1, wr1, wl1⟩, co_1, fi1, pr1⟩ ⟨⟨ki1, q1, id1, al1, co2, du1, re1, cl1, hu1, hp1, hw2, se2, top1, pay1, cli1, us1, pw2⟩, ⟨wt1, wp1, wq1, wr1, wl1⟩, co_2, fi2, pr2⟩ aw ac af ap bw bc bf bp w.heap.size b5 b6 wx))
  case first =>
    obtain ⟨ld1, ld2, hst⟩ := rs_boxes HO.out.1 HO.out.2.1 H1.out.1 H1.out.2
    obtain ⟨sa1, sb1, sc1, sd1⟩ := hst (⟨wt1, wp1, wq1, wr1, wl1⟩ : Wl) (⟨wt1, wp1, wq1, wr1, wl1⟩ : Wl) aw bw H1.out.1 H1.out.2
    obtain ⟨sa2, sb2, sc2, sd2⟩ := hst (⟨wt1, wp1, wq1, wr1, wl1⟩ : Wl) (⟨wt1, wp1, wq1, wr1, wl1⟩ : Wl) bw aw H1.out.2 H1.out.1
    obtain ⟨la1, la2, la3, la4⟩ := rs_loads HO.out.1 HO.out.2.1 (wlCs (⟨wt1, wp1, wq1, wr1, wl1⟩ : Wl) aw)
    obtain ⟨lb1, lb2, lb3, lb4⟩ := rs_loads HO.out.1 HO.out.2.1 (wlCs (⟨wt1, wp1, wq1, wr1, wl1⟩ : Wl) bw)
    obtain ⟨⟨ma1, ma2⟩, ⟨ma3, ma4⟩, ⟨ma5, ma6⟩, ⟨ma7, ma8⟩, ma9, ma10, ma11, -⟩ := rs_more HO.out.1 HO.out.2.1 (⟨wt1, wp1, wq1, wr1, wl1⟩ : Wl) (⟨wt1, wp1, wq1, wr1, wl1⟩ : Wl) aw bw H1.out.1 H1.out.2
    obtain ⟨-, -, ⟨mb5, mb6⟩, ⟨mb7, mb8⟩, mb9, mb10, -, mb11⟩ := rs_more HO.out.1 HO.out.2.1 (⟨wt1, wp1, wq1, wr1, wl1⟩ : Wl) (⟨wt1, wp1, wq1, wr1, wl1⟩ : Wl) bw aw H1.out.2 H1.out.1
    have HDp := Lib.hid (ma11 rfl rfl rfl rfl)
    have HDq := Lib.hid (mb11 rfl rfl rfl rfl)
    clear ma11 mb11
    have HDn := Lib.hid (rs_done HO.out.1 HO.out.2.1)
    have HDm := Lib.hid (rs_done2 HO.out.1 HO.out.2.1)
    clear hst
    go_region
    all_goals
      go_wp2
      go_meet
      first
        | exact ⟨_, _, rfl, rfl, HDn⟩
        | exact ⟨_, _, rfl, rfl, HDm⟩
        | exact ⟨_, _, rfl, rfl, HDp⟩
        | exact ⟨_, _, rfl, rfl, HDq⟩
  case rest =>
  obtain ⟨b5, b6, rfl, rfl, HR⟩ := hcut
  have k1 := HR.out.p1.cells
  have k2 := HR.out.p2.cells
  have k3 := HR.out.w1.cells
  have k4 := HR.out.w2.cells
  simp only [pkCs, wlCs] at k1 k2 k3 k4
  go_wp2_with fail
  refine (HWl.out _ HR.out.bel).mono ?_
  rintro r wz1 ⟨rfl, hb⟩
  have HR1 := Lib.hid (HR.out.below hb)
  clear hb k1 k2 k3 k4
  have k1 := HR1.out.p1.cells
  have k2 := HR1.out.p2.cells
  have k3 := HR1.out.w1.cells
  have k4 := HR1.out.w2.cells
  simp only [pkCs, wlCs] at k1 k2 k3 k4
  go_upto_region 4 with fail
  (try dsimp only [List.append])
  go_upto_region 6 with fail
  (try dsimp only [List.append])
  go_wp2
  refine HQ1.out _ _ _ ?_
  go_ret
  exact ⟨rfl, below_thenh HO.out.2.2 HR1.out.bel⟩
set_option maxRecDepth 100000 in
set_option maxHeartbeats 3200000 in
theorem rsame_19 {wt1 : List UInt8} {wp1 : List UInt8} {wq1 : Int} {wr1 : Bool} {wl1 : List Pp} {ki1 : Int} {du1 : Bool} {re1 : Bool} {q1 : Int} {id1 : Int} {top1 : List UInt8} {pay1 : List UInt8} {cl1 : Bool} {al1 : Int} {cli1 : List UInt8} {hu1 : Bool} {us1 : List UInt8} {hp1 : Bool} {pw1 : List UInt8} {hw1 : Bool} {se1 : Bool} {co1 : Int} {co_1 : List Int} {fi1 : List Ft} {pr1 : List Pp} {hw2 : Bool} {se2 : Bool} {co2 : Int} {co_2 : List Int} {fi2 : List Ft} {pr2 : List Pp} {aw ac af ap bw bc bf bp : Value} {w : World} (hA : PkAt w ⟨⟨ki1, q1, id1, al1, co1, du1, re1, cl1, hu1, hp1, hw1, se1, top1, pay1, cli1, us1, pw1⟩, ⟨wt1, wp1, wq1, wr1, wl1⟩, co_1, fi1, pr1⟩ aw ac af ap) (hB : PkAt w ⟨⟨ki1, q1, id1, al1, co2, du1, re1, cl1, hu1, hp1, hw2, se2, top1, pay1, cli1, us1, pw1⟩, ⟨wt1, wp1, wq1, wr1, wl1⟩, co_2, fi2, pr2⟩ bw bc bf bp) (hne : hw1 ≠ hw2) :
    Calls Try.prog 18 #[.agg (pkCs ⟨⟨ki1, q1, id1, al1, co1, du1, re1, cl1, hu1, hp1, hw1, se1, top1, pay1, cli1, us1, pw1⟩, ⟨wt1, wp1, wq1, wr1, wl1⟩, co_1, fi1, pr1⟩ aw ac af ap), .agg (pkCs ⟨⟨ki1, q1, id1, al1, co2, du1, re1, cl1, hu1, hp1, hw2, se2, top1, pay1, cli1, us1, pw1⟩, ⟨wt1, wp1, wq1, wr1, wl1⟩, co_2, fi2, pr2⟩ bw bc bf bp)] w fun e w' => e = .returned (.bool (false)) ∧ Below w.heap.size w w' := by
  obtain ⟨⟨_, _, _, e1⟩, -⟩ := hA.one
  obtain ⟨⟨_, _, _, e2⟩, -⟩ := hB.one
  have o1 : aw.oneCell' = true := by rw [e1]; rfl
  have o2 : bw.oneCell' = true := by rw [e2]; rfl
  obtain ⟨W0, hW0, O1, O2, hb0⟩ := pk_world (⟨⟨ki1, q1, id1, al1, co1, du1, re1, cl1, hu1, hp1, hw1, se1, top1, pay1, cli1, us1, pw1⟩, ⟨wt1, wp1, wq1, wr1, wl1⟩, co_1, fi1, pr1⟩ : Pk) (⟨⟨ki1, q1, id1, al1, co2, du1, re1, cl1, hu1, hp1, hw2, se2, top1, pay1, cli1, us1, pw1⟩, ⟨wt1, wp1, wq1, wr1, wl1⟩, co_2, fi2, pr2⟩ : Pk) aw ac af ap bw bc bf bp w
  have HO := Lib.hid (And.intro O1 (And.intro O2 hb0))
  have HA := Lib.hid (hA.below hb0)
  have HB := Lib.hid (hB.below hb0)
  have H1 := Lib.hid (And.intro o1 o2)
  clear e1 e2 o1 o2 O1 O2 hb0 hA hB
  have HWl := Lib.hid (fun W (hW : Below W0.heap.size W0 W) => rsame_pp (HA.out.rw'.below hW) (HB.out.rw'.below hW))
  have HLi := Lib.hid (fun W (hW : Below W0.heap.size W0 W) => rints (HA.out.rc.below hW) (HB.out.rc.below hW))
  have HLf := Lib.hid (fun W (hW : Below W0.heap.size W0 W) => rfilters (HA.out.rf.below hW) (HB.out.rf.below hW))
  have HLp := Lib.hid (fun W (hW : Below W0.heap.size W0 W) => rsame_pp (HA.out.rp.below hW) (HB.out.rp.below hW))
  simp only [decide_true] at HWl
  have qz1 : (hw1 == hw2) = false := by simpa using hne
  have qz2 : (hw1 != hw2) = true := by simpa using hne
  clear hne
  go_enter Try.func18, Try.ntmps18
  refine wp_hide fun Q1 hQ1 => ?_
  have HQ1 := Lib.hid hQ1
  clear hQ1
  go_upto_region 1 with fail
  (try rw [hW0])
  clear hW0
  go_cut [5, 6] from 5 to 10 (fun p5 p6 wx => ∃ b5 b6 : Nat, p5 = .pointer (some ⟨b5, 0, none⟩) ∧ p6 = .pointer (some ⟨b6, 0, none⟩) ∧ Hid (RsAt W0 ⟨⟨ki1, q1, id1, al1, co1, du1, re1, cl1, hu1, hp1, hw1, se1, top1, pay1, cli1, us1, pw1⟩, ⟨wt1, wp1, wq1, wr1, wl1⟩, co_1, fi1, pr1⟩ ⟨⟨ki1, q1, id1, al1, co2, du1, re1, cl1, hu1, hp1, hw2, se2, top1, pay1, cli1, us1, pw1⟩, ⟨wt1, wp1, wq1, wr1, wl1⟩, co_2, fi2, pr2⟩ aw ac af ap bw bc bf bp w.heap.size b5 b6 wx))
  case first =>
    obtain ⟨ld1, ld2, hst⟩ := rs_boxes HO.out.1 HO.out.2.1 H1.out.1 H1.out.2
    obtain ⟨sa1, sb1, sc1, sd1⟩ := hst (⟨wt1, wp1, wq1, wr1, wl1⟩ : Wl) (⟨wt1, wp1, wq1, wr1, wl1⟩ : Wl) aw bw H1.out.1 H1.out.2
    obtain ⟨sa2, sb2, sc2, sd2⟩ := hst (⟨wt1, wp1, wq1, wr1, wl1⟩ : Wl) (⟨wt1, wp1, wq1, wr1, wl1⟩ : Wl) bw aw H1.out.2 H1.out.1
    obtain ⟨la1, la2, la3, la4⟩ := rs_loads HO.out.1 HO.out.2.1 (wlCs (⟨wt1, wp1, wq1, wr1, wl1⟩ : Wl) aw)
    obtain ⟨lb1, lb2, lb3, lb4⟩ := rs_loads HO.out.1 HO.out.2.1 (wlCs (⟨wt1, wp1, wq1, wr1, wl1⟩ : Wl) bw)
    obtain ⟨⟨ma1, ma2⟩, ⟨ma3, ma4⟩, ⟨ma5, ma6⟩, ⟨ma7, ma8⟩, ma9, ma10, ma11, -⟩ := rs_more HO.out.1 HO.out.2.1 (⟨wt1, wp1, wq1, wr1, wl1⟩ : Wl) (⟨wt1, wp1, wq1, wr1, wl1⟩ : Wl) aw bw H1.out.1 H1.out.2
    obtain ⟨-, -, ⟨mb5, mb6⟩, ⟨mb7, mb8⟩, mb9, mb10, -, mb11⟩ := rs_more HO.out.1 HO.out.2.1 (⟨wt1, wp1, wq1, wr1, wl1⟩ : Wl) (⟨wt1, wp1, wq1, wr1, wl1⟩ : Wl) bw aw H1.out.2 H1.out.1
    have HDp := Lib.hid (ma11 rfl rfl rfl rfl)
    have HDq := Lib.hid (mb11 rfl rfl rfl rfl)
    clear ma11 mb11
    have HDn := Lib.hid (rs_done HO.out.1 HO.out.2.1)
    have HDm := Lib.hid (rs_done2 HO.out.1 HO.out.2.1)
    clear hst
    go_region
    all_goals
      go_wp2
      go_meet
      first
        | exact ⟨_, _, rfl, rfl, HDn⟩
        | exact ⟨_, _, rfl, rfl, HDm⟩
        | exact ⟨_, _, rfl, rfl, HDp⟩
        | exact ⟨_, _, rfl, rfl, HDq⟩
  case rest =>
  obtain ⟨b5, b6, rfl, rfl, HR⟩ := hcut
  have k1 := HR.out.p1.cells
  have k2 := HR.out.p2.cells
  have k3 := HR.out.w1.cells
  have k4 := HR.out.w2.cells
  simp only [pkCs, wlCs] at k1 k2 k3 k4
  go_wp2_with fail
  refine (HWl.out _ HR.out.bel).mono ?_
  rintro r wz1 ⟨rfl, hb⟩
  have HR1 := Lib.hid (HR.out.below hb)
  clear hb k1 k2 k3 k4
  have k1 := HR1.out.p1.cells
  have k2 := HR1.out.p2.cells
  have k3 := HR1.out.w1.cells
  have k4 := HR1.out.w2.cells
  simp only [pkCs, wlCs] at k1 k2 k3 k4
  go_upto_region 4 with fail
  (try dsimp only [List.append])
  go_upto_region 6 with fail
  (try dsimp only [List.append])
  go_wp2
  refine HQ1.out _ _ _ ?_
  go_ret
  exact ⟨rfl, below_thenh HO.out.2.2 HR1.out.bel⟩
set_option maxRecDepth 100000 in
set_option maxHeartbeats 3200000 in
theorem rsame_20 {wt1 : List UInt8} {wp1 : List UInt8} {wq1 : Int} {wr1 : Bool} {wl1 : List Pp} {ki1 : Int} {du1 : Bool} {re1 : Bool} {q1 : Int} {id1 : Int} {top1 : List UInt8} {pay1 : List UInt8} {cl1 : Bool} {al1 : Int} {cli1 : List UInt8} {hu1 : Bool} {us1 : List UInt8} {hp1 : Bool} {pw1 : List UInt8} {hw1 : Bool} {se1 : Bool} {co1 : Int} {co_1 : List Int} {fi1 : List Ft} {pr1 : List Pp} {se2 : Bool} {co2 : Int} {co_2 : List Int} {fi2 : List Ft} {pr2 : List Pp} {aw ac af ap bw bc bf bp : Value} {w : World} (hA : PkAt w ⟨⟨ki1, q1, id1, al1, co1, du1, re1, cl1, hu1, hp1, hw1, se1, top1, pay1, cli1, us1, pw1⟩, ⟨wt1, wp1, wq1, wr1, wl1⟩, co_1, fi1, pr1⟩ aw ac af ap) (hB : PkAt w ⟨⟨ki1, q1, id1, al1, co2, du1, re1, cl1, hu1, hp1, hw1, se2, top1, pay1, cli1, us1, pw1⟩, ⟨wt1, wp1, wq1, wr1, wl1⟩, co_2, fi2, pr2⟩ bw bc bf bp) (hne : se1 ≠ se2) :
    Calls Try.prog 18 #[.agg (pkCs ⟨⟨ki1, q1, id1, al1, co1, du1, re1, cl1, hu1, hp1, hw1, se1, top1, pay1, cli1, us1, pw1⟩, ⟨wt1, wp1, wq1, wr1, wl1⟩, co_1, fi1, pr1⟩ aw ac af ap), .agg (pkCs ⟨⟨ki1, q1, id1, al1, co2, du1, re1, cl1, hu1, hp1, hw1, se2, top1, pay1, cli1, us1, pw1⟩, ⟨wt1, wp1, wq1, wr1, wl1⟩, co_2, fi2, pr2⟩ bw bc bf bp)] w fun e w' => e = .returned (.bool (false)) ∧ Below w.heap.size w w' := by
  obtain ⟨⟨_, _, _, e1⟩, -⟩ := hA.one
  obtain ⟨⟨_, _, _, e2⟩, -⟩ := hB.one
  have o1 : aw.oneCell' = true := by rw [e1]; rfl
  have o2 : bw.oneCell' = true := by rw [e2]; rfl
  obtain ⟨W0, hW0, O1, O2, hb0⟩ := pk_world (⟨⟨ki1, q1, id1, al1, co1, du1, re1, cl1, hu1, hp1, hw1, se1, top1, pay1, cli1, us1, pw1⟩, ⟨wt1, wp1, wq1, wr1, wl1⟩, co_1, fi1, pr1⟩ : Pk) (⟨⟨ki1, q1, id1, al1, co2, du1, re1, cl1, hu1, hp1, hw1, se2, top1, pay1, cli1, us1, pw1⟩, ⟨wt1, wp1, wq1, wr1, wl1⟩, co_2, fi2, pr2⟩ : Pk) aw ac af ap bw bc bf bp w
  have HO := Lib.hid (And.intro O1 (And.intro O2 hb0))
  have HA := Lib.hid (hA.below hb0)
  have HB := Lib.hid (hB.below hb0)
  have H1 := Lib.hid (And.intro o1 o2)
  clear e1 e2 o1 o2 O1 O2 hb0 hA hB
  have HWl := Lib.hid (fun W (hW : Below W0.heap.size W0 W) => rsame_pp (HA.out.rw'.below hW) (HB.out.rw'.below hW))
  have HLi := Lib.hid (fun W (hW : Below W0.heap.size W0 W) => rints (HA.out.rc.below hW) (HB.out.rc.below hW))
  have HLf := Lib.hid (fun W (hW : Below W0.heap.size W0 W) => rfilters (HA.out.rf.below hW) (HB.out.rf.below hW))
  have HLp := Lib.hid (fun W (hW : Below W0.heap.size W0 W) => rsame_pp (HA.out.rp.below hW) (HB.out.rp.below hW))
  simp only [decide_true] at HWl
  have qz1 : (se1 == se2) = false := by simpa using hne
  have qz2 : (se1 != se2) = true := by simpa using hne
  clear hne
  go_enter Try.func18, Try.ntmps18
  refine wp_hide fun Q1 hQ1 => ?_
  have HQ1 := Lib.hid hQ1
  clear hQ1
  go_upto_region 1 with fail
  (try rw [hW0])
  clear hW0
  go_cut [5, 6] from 5 to 10 (fun p5 p6 wx => ∃ b5 b6 : Nat, p5 = .pointer (some ⟨b5, 0, none⟩) ∧ p6 = .pointer (some ⟨b6, 0, none⟩) ∧ Hid (RsAt W0 ⟨⟨ki1, q1, id1, al1, co1, du1, re1, cl1, hu1, hp1, hw1, se1, top1, pay1, cli1, us1, pw1⟩, ⟨wt1, wp1, wq1, wr1, wl1⟩, co_1, fi1, pr1⟩ ⟨⟨ki1, q1, id1, al1, co2, du1, re1, cl1, hu1, hp1, hw1, se2, top1, pay1, cli1, us1, pw1⟩, ⟨wt1, wp1, wq1, wr1, wl1⟩, co_2, fi2, pr2⟩ aw ac af ap bw bc bf bp w.heap.size b5 b6 wx))
  case first =>
    obtain ⟨ld1, ld2, hst⟩ := rs_boxes HO.out.1 HO.out.2.1 H1.out.1 H1.out.2
    obtain ⟨sa1, sb1, sc1, sd1⟩ := hst (⟨wt1, wp1, wq1, wr1, wl1⟩ : Wl) (⟨wt1, wp1, wq1, wr1, wl1⟩ : Wl) aw bw H1.out.1 H1.out.2
    obtain ⟨sa2, sb2, sc2, sd2⟩ := hst (⟨wt1, wp1, wq1, wr1, wl1⟩ : Wl) (⟨wt1, wp1, wq1, wr1, wl1⟩ : Wl) bw aw H1.out.2 H1.out.1
    obtain ⟨la1, la2, la3, la4⟩ := rs_loads HO.out.1 HO.out.2.1 (wlCs (⟨wt1, wp1, wq1, wr1, wl1⟩ : Wl) aw)
    obtain ⟨lb1, lb2, lb3, lb4⟩ := rs_loads HO.out.1 HO.out.2.1 (wlCs (⟨wt1, wp1, wq1, wr1, wl1⟩ : Wl) bw)
    obtain ⟨⟨ma1, ma2⟩, ⟨ma3, ma4⟩, ⟨ma5, ma6⟩, ⟨ma7, ma8⟩, ma9, ma10, ma11, -⟩ := rs_more HO.out.1 HO.out.2.1 (⟨wt1, wp1, wq1, wr1, wl1⟩ : Wl) (⟨wt1, wp1, wq1, wr1, wl1⟩ : Wl) aw bw H1.out.1 H1.out.2
    obtain ⟨-, -, ⟨mb5, mb6⟩, ⟨mb7, mb8⟩, mb9, mb10, -, mb11⟩ := rs_more HO.out.1 HO.out.2.1 (⟨wt1, wp1, wq1, wr1, wl1⟩ : Wl) (⟨wt1, wp1, wq1, wr1, wl1⟩ : Wl) bw aw H1.out.2 H1.out.1
    have HDp := Lib.hid (ma11 rfl rfl rfl rfl)
    have HDq := Lib.hid (mb11 rfl rfl rfl rfl)
    clear ma11 mb11
    have HDn := Lib.hid (rs_done HO.out.1 HO.out.2.1)
    have HDm := Lib.hid (rs_done2 HO.out.1 HO.out.2.1)
    clear hst
    go_region
    all_goals
      go_wp2
      go_meet
      first
        | exact ⟨_, _, rfl, rfl, HDn⟩
        | exact ⟨_, _, rfl, rfl, HDm⟩
        | exact ⟨_, _, rfl, rfl, HDp⟩
        | exact ⟨_, _, rfl, rfl, HDq⟩
  case rest =>
  obtain ⟨b5, b6, rfl, rfl, HR⟩ := hcut
  have k1 := HR.out.p1.cells
  have k2 := HR.out.p2.cells
  have k3 := HR.out.w1.cells
  have k4 := HR.out.w2.cells
  simp only [pkCs, wlCs] at k1 k2 k3 k4
  go_wp2_with fail
  refine (HWl.out _ HR.out.bel).mono ?_
  rintro r wz1 ⟨rfl, hb⟩
  have HR1 := Lib.hid (HR.out.below hb)
  clear hb k1 k2 k3 k4
  have k1 := HR1.out.p1.cells
  have k2 := HR1.out.p2.cells
  have k3 := HR1.out.w1.cells
  have k4 := HR1.out.w2.cells
  simp only [pkCs, wlCs] at k1 k2 k3 k4
  go_upto_region 4 with fail
  (try dsimp only [List.append])
  go_upto_region 6 with fail
  (try dsimp only [List.append])
  go_wp2
  refine HQ1.out _ _ _ ?_
  go_ret
  exact ⟨rfl, below_thenh HO.out.2.2 HR1.out.bel⟩
set_option maxRecDepth 100000 in
set_option maxHeartbeats 3200000 in
theorem rsame_21 {wt1 : List UInt8} {wp1 : List UInt8} {wq1 : Int} {wr1 : Bool} {wl1 : List Pp} {ki1 : Int} {du1 : Bool} {re1 : Bool} {q1 : Int} {id1 : Int} {top1 : List UInt8} {pay1 : List UInt8} {cl1 : Bool} {al1 : Int} {cli1 : List UInt8} {hu1 : Bool} {us1 : List UInt8} {hp1 : Bool} {pw1 : List UInt8} {hw1 : Bool} {se1 : Bool} {co1 : Int} {co_1 : List Int} {fi1 : List Ft} {pr1 : List Pp} {co2 : Int} {co_2 : List Int} {fi2 : List Ft} {pr2 : List Pp} {aw ac af ap bw bc bf bp : Value} {w : World} (hA : PkAt w ⟨⟨ki1, q1, id1, al1, co1, du1, re1, cl1, hu1, hp1, hw1, se1, top1, pay1, cli1, us1, pw1⟩, ⟨wt1, wp1, wq1, wr1, wl1⟩, co_1, fi1, pr1⟩ aw ac af ap) (hB : PkAt w ⟨⟨ki1, q1, id1, al1, co2, du1, re1, cl1, hu1, hp1, hw1, se1, top1, pay1, cli1, us1, pw1⟩, ⟨wt1, wp1, wq1, wr1, wl1⟩, co_2, fi2, pr2⟩ bw bc bf bp) (hne : co1 ≠ co2) :
    Calls Try.prog 18 #[.agg (pkCs ⟨⟨ki1, q1, id1, al1, co1, du1, re1, cl1, hu1, hp1, hw1, se1, top1, pay1, cli1, us1, pw1⟩, ⟨wt1, wp1, wq1, wr1, wl1⟩, co_1, fi1, pr1⟩ aw ac af ap), .agg (pkCs ⟨⟨ki1, q1, id1, al1, co2, du1, re1, cl1, hu1, hp1, hw1, se1, top1, pay1, cli1, us1, pw1⟩, ⟨wt1, wp1, wq1, wr1, wl1⟩, co_2, fi2, pr2⟩ bw bc bf bp)] w fun e w' => e = .returned (.bool (false)) ∧ Below w.heap.size w w' := by
  obtain ⟨⟨_, _, _, e1⟩, -⟩ := hA.one
  obtain ⟨⟨_, _, _, e2⟩, -⟩ := hB.one
  have o1 : aw.oneCell' = true := by rw [e1]; rfl
  have o2 : bw.oneCell' = true := by rw [e2]; rfl
  obtain ⟨W0, hW0, O1, O2, hb0⟩ := pk_world (⟨⟨ki1, q1, id1, al1, co1, du1, re1, cl1, hu1, hp1, hw1, se1, top1, pay1, cli1, us1, pw1⟩, ⟨wt1, wp1, wq1, wr1, wl1⟩, co_1, fi1, pr1⟩ : Pk) (⟨⟨ki1, q1, id1, al1, co2, du1, re1, cl1, hu1, hp1, hw1, se1, top1, pay1, cli1, us1, pw1⟩, ⟨wt1, wp1, wq1, wr1, wl1⟩, co_2, fi2, pr2⟩ : Pk) aw ac af ap bw bc bf bp w
  have HO := Lib.hid (And.intro O1 (And.intro O2 hb0))
  have HA := Lib.hid (hA.below hb0)
  have HB := Lib.hid (hB.below hb0)
  have H1 := Lib.hid (And.intro o1 o2)
  clear e1 e2 o1 o2 O1 O2 hb0 hA hB
  have HWl := Lib.hid (fun W (hW : Below W0.heap.size W0 W) => rsame_pp (HA.out.rw'.below hW) (HB.out.rw'.below hW))
  have HLi := Lib.hid (fun W (hW : Below W0.heap.size W0 W) => rints (HA.out.rc.below hW) (HB.out.rc.below hW))
  have HLf := Lib.hid (fun W (hW : Below W0.heap.size W0 W) => rfilters (HA.out.rf.below hW) (HB.out.rf.below hW))
  have HLp := Lib.hid (fun W (hW : Below W0.heap.size W0 W) => rsame_pp (HA.out.rp.below hW) (HB.out.rp.below hW))
  simp only [decide_true] at HWl
  have qz1 : (co1 == co2) = false := by simpa using hne
  have qz2 : (co1 != co2) = true := by simpa using hne
  clear hne
  go_enter Try.func18, Try.ntmps18
  refine wp_hide fun Q1 hQ1 => ?_
  have HQ1 := Lib.hid hQ1
  clear hQ1
  go_upto_region 1 with fail
  (try rw [hW0])
  clear hW0
  go_cut [5, 6] from 5 to 10 (fun p5 p6 wx => ∃ b5 b6 : Nat, p5 = .pointer (some ⟨b5, 0, none⟩) ∧ p6 = .pointer (some ⟨b6, 0, none⟩) ∧ Hid (RsAt W0 ⟨⟨ki1, q1, id1, al1, co1, du1, re1, cl1, hu1, hp1, hw1, se1, top1, pay1, cli1, us1, pw1⟩, ⟨wt1, wp1, wq1, wr1, wl1⟩, co_1, fi1, pr1⟩ ⟨⟨ki1, q1, id1, al1, co2, du1, re1, cl1, hu1, hp1, hw1, se1, top1, pay1, cli1, us1, pw1⟩, ⟨wt1, wp1, wq1, wr1, wl1⟩, co_2, fi2, pr2⟩ aw ac af ap bw bc bf bp w.heap.size b5 b6 wx))
  case first =>
    obtain ⟨ld1, ld2, hst⟩ := rs_boxes HO.out.1 HO.out.2.1 H1.out.1 H1.out.2
    obtain ⟨sa1, sb1, sc1, sd1⟩ := hst (⟨wt1, wp1, wq1, wr1, wl1⟩ : Wl) (⟨wt1, wp1, wq1, wr1, wl1⟩ : Wl) aw bw H1.out.1 H1.out.2
    obtain ⟨sa2, sb2, sc2, sd2⟩ := hst (⟨wt1, wp1, wq1, wr1, wl1⟩ : Wl) (⟨wt1, wp1, wq1, wr1, wl1⟩ : Wl) bw aw H1.out.2 H1.out.1
    obtain ⟨la1, la2, la3, la4⟩ := rs_loads HO.out.1 HO.out.2.1 (wlCs (⟨wt1, wp1, wq1, wr1, wl1⟩ : Wl) aw)
    obtain ⟨lb1, lb2, lb3, lb4⟩ := rs_loads HO.out.1 HO.out.2.1 (wlCs (⟨wt1, wp1, wq1, wr1, wl1⟩ : Wl) bw)
    obtain ⟨⟨ma1, ma2⟩, ⟨ma3, ma4⟩, ⟨ma5, ma6⟩, ⟨ma7, ma8⟩, ma9, ma10, ma11, -⟩ := rs_more HO.out.1 HO.out.2.1 (⟨wt1, wp1, wq1, wr1, wl1⟩ : Wl) (⟨wt1, wp1, wq1, wr1, wl1⟩ : Wl) aw bw H1.out.1 H1.out.2
    obtain ⟨-, -, ⟨mb5, mb6⟩, ⟨mb7, mb8⟩, mb9, mb10, -, mb11⟩ := rs_more HO.out.1 HO.out.2.1 (⟨wt1, wp1, wq1, wr1, wl1⟩ : Wl) (⟨wt1, wp1, wq1, wr1, wl1⟩ : Wl) bw aw H1.out.2 H1.out.1
    have HDp := Lib.hid (ma11 rfl rfl rfl rfl)
    have HDq := Lib.hid (mb11 rfl rfl rfl rfl)
    clear ma11 mb11
    have HDn := Lib.hid (rs_done HO.out.1 HO.out.2.1)
    have HDm := Lib.hid (rs_done2 HO.out.1 HO.out.2.1)
    clear hst
    go_region
    all_goals
      go_wp2
      go_meet
      first
        | exact ⟨_, _, rfl, rfl, HDn⟩
        | exact ⟨_, _, rfl, rfl, HDm⟩
        | exact ⟨_, _, rfl, rfl, HDp⟩
        | exact ⟨_, _, rfl, rfl, HDq⟩
  case rest =>
  obtain ⟨b5, b6, rfl, rfl, HR⟩ := hcut
  have k1 := HR.out.p1.cells
  have k2 := HR.out.p2.cells
  have k3 := HR.out.w1.cells
  have k4 := HR.out.w2.cells
  simp only [pkCs, wlCs] at k1 k2 k3 k4
  go_wp2_with fail
  refine (HWl.out _ HR.out.bel).mono ?_
  rintro r wz1 ⟨rfl, hb⟩
  have HR1 := Lib.hid (HR.out.below hb)
  clear hb k1 k2 k3 k4
  have k1 := HR1.out.p1.cells
  have k2 := HR1.out.p2.cells
  have k3 := HR1.out.w1.cells
  have k4 := HR1.out.w2.cells
  simp only [pkCs, wlCs] at k1 k2 k3 k4
  go_upto_region 4 with fail
  (try dsimp only [List.append])
  go_upto_region 6 with fail
  (try dsimp only [List.append])
  go_wp2
  refine HQ1.out _ _ _ ?_
  go_ret
  exact ⟨rfl, below_thenh HO.out.2.2 HR1.out.bel⟩
set_option maxRecDepth 100000 in
set_option maxHeartbeats 3200000 in
theorem rsame_22 {wt1 : List UInt8} {wp1 : List UInt8} {wq1 : Int} {wr1 : Bool} {wl1 : List Pp} {ki1 : Int} {du1 : Bool} {re1 : Bool} {q1 : Int} {id1 : Int} {top1 : List UInt8} {pay1 : List UInt8} {cl1 : Bool} {al1 : Int} {cli1 : List UInt8} {hu1 : Bool} {us1 : List UInt8} {hp1 : Bool} {pw1 : List UInt8} {hw1 : Bool} {se1 : Bool} {co1 : Int} {co_1 : List Int} {fi1 : List Ft} {pr1 : List Pp} {co_2 : List Int} {fi2 : List Ft} {pr2 : List Pp} {aw ac af ap bw bc bf bp : Value} {w : World} (hA : PkAt w ⟨⟨ki1, q1, id1, al1, co1, du1, re1, cl1, hu1, hp1, hw1, se1, top1, pay1, cli1, us1, pw1⟩, ⟨wt1, wp1, wq1, wr1, wl1⟩, co_1, fi1, pr1⟩ aw ac af ap) (hB : PkAt w ⟨⟨ki1, q1, id1, al1, co1, du1, re1, cl1, hu1, hp1, hw1, se1, top1, pay1, cli1, us1, pw1⟩, ⟨wt1, wp1, wq1, wr1, wl1⟩, co_2, fi2, pr2⟩ bw bc bf bp) (hne : co_1 ≠ co_2) :
    Calls Try.prog 18 #[.agg (pkCs ⟨⟨ki1, q1, id1, al1, co1, du1, re1, cl1, hu1, hp1, hw1, se1, top1, pay1, cli1, us1, pw1⟩, ⟨wt1, wp1, wq1, wr1, wl1⟩, co_1, fi1, pr1⟩ aw ac af ap), .agg (pkCs ⟨⟨ki1, q1, id1, al1, co1, du1, re1, cl1, hu1, hp1, hw1, se1, top1, pay1, cli1, us1, pw1⟩, ⟨wt1, wp1, wq1, wr1, wl1⟩, co_2, fi2, pr2⟩ bw bc bf bp)] w fun e w' => e = .returned (.bool (false)) ∧ Below w.heap.size w w' := by
  obtain ⟨⟨_, _, _, e1⟩, -⟩ := hA.one
  obtain ⟨⟨_, _, _, e2⟩, -⟩ := hB.one
  have o1 : aw.oneCell' = true := by rw [e1]; rfl
  have o2 : bw.oneCell' = true := by rw [e2]; rfl
  obtain ⟨W0, hW0, O1, O2, hb0⟩ := pk_world (⟨⟨ki1, q1, id1, al1, co1, du1, re1, cl1, hu1, hp1, hw1, se1, top1, pay1, cli1, us1, pw1⟩, ⟨wt1, wp1, wq1, wr1, wl1⟩, co_1, fi1, pr1⟩ : Pk) (⟨⟨ki1, q1, id1, al1, co1, du1, re1, cl1, hu1, hp1, hw1, se1, top1, pay1, cli1, us1, pw1⟩, ⟨wt1, wp1, wq1, wr1, wl1⟩, co_2, fi2, pr2⟩ : Pk) aw ac af ap bw bc bf bp w
  have HO := Lib.hid (And.intro O1 (And.intro O2 hb0))
  have HA := Lib.hid (hA.below hb0)
  have HB := Lib.hid (hB.below hb0)
  have H1 := Lib.hid (And.intro o1 o2)
  clear e1 e2 o1 o2 O1 O2 hb0 hA hB
  have HWl := Lib.hid (fun W (hW : Below W0.heap.size W0 W) => rsame_pp (HA.out.rw'.below hW) (HB.out.rw'.below hW))
  have HLi := Lib.hid (fun W (hW : Below W0.heap.size W0 W) => rints (HA.out.rc.below hW) (HB.out.rc.below hW))
  have HLf := Lib.hid (fun W (hW : Below W0.heap.size W0 W) => rfilters (HA.out.rf.below hW) (HB.out.rf.below hW))
  have HLp := Lib.hid (fun W (hW : Below W0.heap.size W0 W) => rsame_pp (HA.out.rp.below hW) (HB.out.rp.below hW))
  simp only [decide_true] at HWl
  have hd := decide_eq_false hne
  simp only [hd] at HLi
  clear hd hne
  go_enter Try.func18, Try.ntmps18
  refine wp_hide fun Q1 hQ1 => ?_
  have HQ1 := Lib.hid hQ1
  clear hQ1
  go_upto_region 1 with fail
  (try rw [hW0])
  clear hW0
  go_cut [5, 6] from 5 to 10 (fun p5 p6 wx => ∃ b5 b6 : Nat, p5 = .pointer (some ⟨b5, 0, none⟩) ∧ p6 = .pointer (some ⟨b6, 0, none⟩) ∧ Hid (RsAt W0 ⟨⟨ki1, q1, id1, al1, co1, du1, re1, cl1, hu1, hp1, hw1, se1, top1, pay1, cli1, us1, pw1⟩, ⟨wt1, wp1, wq1, wr1, wl1⟩, co_1, fi1, pr1⟩ ⟨⟨ki1, q1, id1, al1, co1, du1, re1, cl1, hu1, hp1, hw1, se1, top1, pay1, cli1, us1, pw1⟩, ⟨wt1, wp1, wq1, wr1, wl1⟩, co_2, fi2, pr2⟩ aw ac af ap bw bc bf bp w.heap.size b5 b6 wx))
  case first =>
    obtain ⟨ld1, ld2, hst⟩ := rs_boxes HO.out.1 HO.out.2.1 H1.out.1 H1.out.2
    obtain ⟨sa1, sb1, sc1, sd1⟩ := hst (⟨wt1, wp1, wq1, wr1, wl1⟩ : Wl) (⟨wt1, wp1, wq1, wr1, wl1⟩ : Wl) aw bw H1.out.1 H1.out.2
    obtain ⟨sa2, sb2, sc2, sd2⟩ := hst (⟨wt1, wp1, wq1, wr1, wl1⟩ : Wl) (⟨wt1, wp1, wq1, wr1, wl1⟩ : Wl) bw aw H1.out.2 H1.out.1
    obtain ⟨la1, la2, la3, la4⟩ := rs_loads HO.out.1 HO.out.2.1 (wlCs (⟨wt1, wp1, wq1, wr1, wl1⟩ : Wl) aw)
    obtain ⟨lb1, lb2, lb3, lb4⟩ := rs_loads HO.out.1 HO.out.2.1 (wlCs (⟨wt1, wp1, wq1, wr1, wl1⟩ : Wl) bw)
    obtain ⟨⟨ma1, ma2⟩, ⟨ma3, ma4⟩, ⟨ma5, ma6⟩, ⟨ma7, ma8⟩, ma9, ma10, ma11, -⟩ := rs_more HO.out.1 HO.out.2.1 (⟨wt1, wp1, wq1, wr1, wl1⟩ : Wl) (⟨wt1, wp1, wq1, wr1, wl1⟩ : Wl) aw bw H1.out.1 H1.out.2
    obtain ⟨-, -, ⟨mb5, mb6⟩, ⟨mb7, mb8⟩, mb9, mb10, -, mb11⟩ := rs_more HO.out.1 HO.out.2.1 (⟨wt1, wp1, wq1, wr1, wl1⟩ : Wl) (⟨wt1, wp1, wq1, wr1, wl1⟩ : Wl) bw aw H1.out.2 H1.out.1
    have HDp := Lib.hid (ma11 rfl rfl rfl rfl)
    have HDq := Lib.hid (mb11 rfl rfl rfl rfl)
    clear ma11 mb11
    have HDn := Lib.hid (rs_done HO.out.1 HO.out.2.1)
    have HDm := Lib.hid (rs_done2 HO.out.1 HO.out.2.1)
    clear hst
    go_region
    all_goals
      go_wp2
      go_meet
      first
        | exact ⟨_, _, rfl, rfl, HDn⟩
        | exact ⟨_, _, rfl, rfl, HDm⟩
        | exact ⟨_, _, rfl, rfl, HDp⟩
        | exact ⟨_, _, rfl, rfl, HDq⟩
  case rest =>
  obtain ⟨b5, b6, rfl, rfl, HR⟩ := hcut
  have k1 := HR.out.p1.cells
  have k2 := HR.out.p2.cells
  have k3 := HR.out.w1.cells
  have k4 := HR.out.w2.cells
  simp only [pkCs, wlCs] at k1 k2 k3 k4
  go_wp2_with fail
  refine (HWl.out _ HR.out.bel).mono ?_
  rintro r wz1 ⟨rfl, hb⟩
  have HR1 := Lib.hid (HR.out.below hb)
  clear hb k1 k2 k3 k4
  have k1 := HR1.out.p1.cells
  have k2 := HR1.out.p2.cells
  have k3 := HR1.out.w1.cells
  have k4 := HR1.out.w2.cells
  simp only [pkCs, wlCs] at k1 k2 k3 k4
  go_upto_region 4 with fail
  (try dsimp only [List.append])
  go_upto_region 6 with fail
  (try dsimp only [List.append])
  go_wp2_with fail
  refine (HLi.out _ HR1.out.bel).mono ?_
  rintro r wz2 ⟨rfl, hb⟩
  have HR2 := Lib.hid (HR1.out.below hb)
  clear hb k1 k2 k3 k4
  have k1 := HR2.out.p1.cells
  have k2 := HR2.out.p2.cells
  have k3 := HR2.out.w1.cells
  have k4 := HR2.out.w2.cells
  simp only [pkCs, wlCs] at k1 k2 k3 k4
  go_wp2
  refine HQ1.out _ _ _ ?_
  go_ret
  exact ⟨rfl, below_thenh HO.out.2.2 HR2.out.bel⟩
set_option maxRecDepth 100000 in
set_option maxHeartbeats 3200000 in
theorem rsame_23 {wt1 : List UInt8} {wp1 : List UInt8} {wq1 : Int} {wr1 : Bool} {wl1 : List Pp} {ki1 : Int} {du1 : Bool} {re1 : Bool} {q1 : Int} {id1 : Int} {top1 : List UInt8} {pay1 : List UInt8} {cl1 : Bool} {al1 : Int} {cli1 : List UInt8} {hu1 : Bool} {us1 : List UInt8} {hp1 : Bool} {pw1 : List UInt8} {hw1 : Bool} {se1 : Bool} {co1 : Int} {co_1 : List Int} {fi1 : List Ft} {pr1 : List Pp} {fi2 : List Ft} {pr2 : List Pp} {aw ac af ap bw bc bf bp : Value} {w : World} (hA : PkAt w ⟨⟨ki1, q1, id1, al1, co1, du1, re1, cl1, hu1, hp1, hw1, se1, top1, pay1, cli1, us1, pw1⟩, ⟨wt1, wp1, wq1, wr1, wl1⟩, co_1, fi1, pr1⟩ aw ac af ap) (hB : PkAt w ⟨⟨ki1, q1, id1, al1, co1, du1, re1, cl1, hu1, hp1, hw1, se1, top1, pay1, cli1, us1, pw1⟩, ⟨wt1, wp1, wq1, wr1, wl1⟩, co_1, fi2, pr2⟩ bw bc bf bp) (hne : fi1 ≠ fi2) :
    Calls Try.prog 18 #[.agg (pkCs ⟨⟨ki1, q1, id1, al1, co1, du1, re1, cl1, hu1, hp1, hw1, se1, top1, pay1, cli1, us1, pw1⟩, ⟨wt1, wp1, wq1, wr1, wl1⟩, co_1, fi1, pr1⟩ aw ac af ap), .agg (pkCs ⟨⟨ki1, q1, id1, al1, co1, du1, re1, cl1, hu1, hp1, hw1, se1, top1, pay1, cli1, us1, pw1⟩, ⟨wt1, wp1, wq1, wr1, wl1⟩, co_1, fi2, pr2⟩ bw bc bf bp)] w fun e w' => e = .returned (.bool (false)) ∧ Below w.heap.size w w' := by
  obtain ⟨⟨_, _, _, e1⟩, -⟩ := hA.one
  obtain ⟨⟨_, _, _, e2⟩, -⟩ := hB.one
  have o1 : aw.oneCell' = true := by rw [e1]; rfl
  have o2 : bw.oneCell' = true := by rw [e2]; rfl
  obtain ⟨W0, hW0, O1, O2, hb0⟩ := pk_world (⟨⟨ki1, q1, id1, al1, co1, du1, re1, cl1, hu1, hp1, hw1, se1, top1, pay1, cli1, us1, pw1⟩, ⟨wt1, wp1, wq1, wr1, wl1⟩, co_1, fi1, pr1⟩ : Pk) (⟨⟨ki1, q1, id1, al1, co1, du1, re1, cl1, hu1, hp1, hw1, se1, top1, pay1, cli1, us1, pw1⟩, ⟨wt1, wp1, wq1, wr1, wl1⟩, co_1, fi2, pr2⟩ : Pk) aw ac af ap bw bc bf bp w
  have HO := Lib.hid (And.intro O1 (And.intro O2 hb0))
  have HA := Lib.hid (hA.below hb0)
  have HB := Lib.hid (hB.below hb0)
  have H1 := Lib.hid (And.intro o1 o2)
  clear e1 e2 o1 o2 O1 O2 hb0 hA hB
  have HWl := Lib.hid (fun W (hW : Below W0.heap.size W0 W) => rsame_pp (HA.out.rw'.below hW) (HB.out.rw'.below hW))
  have HLi := Lib.hid (fun W (hW : Below W0.heap.size W0 W) => rints (HA.out.rc.below hW) (HB.out.rc.below hW))
  have HLf := Lib.hid (fun W (hW : Below W0.heap.size W0 W) => rfilters (HA.out.rf.below hW) (HB.out.rf.below hW))
  have HLp := Lib.hid (fun W (hW : Below W0.heap.size W0 W) => rsame_pp (HA.out.rp.below hW) (HB.out.rp.below hW))
  simp only [decide_true] at HWl
  simp only [decide_true] at HLi
  have hd := decide_eq_false hne
  simp only [hd] at HLf
  clear hd hne
  go_enter Try.func18, Try.ntmps18
  refine wp_hide fun Q1 hQ1 => ?_
  have HQ1 := Lib.hid hQ1
  clear hQ1
  go_upto_region 1 with fail
  (try rw [hW0])
  clear hW0
  go_cut [5, 6] from 5 to 10 (fun p5 p6 wx => ∃ b5 b6 : Nat, p5 = .pointer (some ⟨b5, 0, none⟩) ∧ p6 = .pointer (some ⟨b6, 0, none⟩) ∧ Hid (RsAt W0 ⟨⟨ki1, q1, id1, al1, co1, du1, re1, cl1, hu1, hp1, hw1, se1, top1, pay1, cli1, us1, pw1⟩, ⟨wt1, wp1, wq1, wr1, wl1⟩, co_1, fi1, pr1⟩ ⟨⟨ki1, q1, id1, al1, co1, du1, re1, cl1, hu1, hp1, hw1, se1, top1, pay1, cli1, us1, pw1⟩, ⟨wt1, wp1, wq1, wr1, wl1⟩, co_1, fi2, pr2⟩ aw ac af ap bw bc bf bp w.heap.size b5 b6 wx))
  case first =>
    obtain ⟨ld1, ld2, hst⟩ := rs_boxes HO.out.1 HO.out.2.1 H1.out.1 H1.out.2
    obtain ⟨sa1, sb1, sc1, sd1⟩ := hst (⟨wt1, wp1, wq1, wr1, wl1⟩ : Wl) (⟨wt1, wp1, wq1, wr1, wl1⟩ : Wl) aw bw H1.out.1 H1.out.2
    obtain ⟨sa2, sb2, sc2, sd2⟩ := hst (⟨wt1, wp1, wq1, wr1, wl1⟩ : Wl) (⟨wt1, wp1, wq1, wr1, wl1⟩ : Wl) bw aw H1.out.2 H1.out.1
    obtain ⟨la1, la2, la3, la4⟩ := rs_loads HO.out.1 HO.out.2.1 (wlCs (⟨wt1, wp1, wq1, wr1, wl1⟩ : Wl) aw)
    obtain ⟨lb1, lb2, lb3, lb4⟩ := rs_loads HO.out.1 HO.out.2.1 (wlCs (⟨wt1, wp1, wq1, wr1, wl1⟩ : Wl) bw)
    obtain ⟨⟨ma1, ma2⟩, ⟨ma3, ma4⟩, ⟨ma5, ma6⟩, ⟨ma7, ma8⟩, ma9, ma10, ma11, -⟩ := rs_more HO.out.1 HO.out.2.1 (⟨wt1, wp1, wq1, wr1, wl1⟩ : Wl) (⟨wt1, wp1, wq1, wr1, wl1⟩ : Wl) aw bw H1.out.1 H1.out.2
    obtain ⟨-, -, ⟨mb5, mb6⟩, ⟨mb7, mb8⟩, mb9, mb10, -, mb11⟩ := rs_more HO.out.1 HO.out.2.1 (⟨wt1, wp1, wq1, wr1, wl1⟩ : Wl) (⟨wt1, wp1, wq1, wr1, wl1⟩ : Wl) bw aw H1.out.2 H1.out.1
    have HDp := Lib.hid (ma11 rfl rfl rfl rfl)
    have HDq := Lib.hid (mb11 rfl rfl rfl rfl)
    clear ma11 mb11
    have HDn := Lib.hid (rs_done HO.out.1 HO.out.2.1)
    have HDm := Lib.hid (rs_done2 HO.out.1 HO.out.2.1)
    clear hst
    go_region
    all_goals
      go_wp2
      go_meet
      first
        | exact ⟨_, _, rfl, rfl, HDn⟩
        | exact ⟨_, _, rfl, rfl, HDm⟩
        | exact ⟨_, _, rfl, rfl, HDp⟩
        | exact ⟨_, _, rfl, rfl, HDq⟩
  case rest =>
  obtain ⟨b5, b6, rfl, rfl, HR⟩ := hcut
  have k1 := HR.out.p1.cells
  have k2 := HR.out.p2.cells
  have k3 := HR.out.w1.cells
  have k4 := HR.out.w2.cells
  simp only [pkCs, wlCs] at k1 k2 k3 k4
  go_wp2_with fail
  refine (HWl.out _ HR.out.bel).mono ?_
  rintro r wz1 ⟨rfl, hb⟩
  have HR1 := Lib.hid (HR.out.below hb)
  clear hb k1 k2 k3 k4
  have k1 := HR1.out.p1.cells
  have k2 := HR1.out.p2.cells
  have k3 := HR1.out.w1.cells
  have k4 := HR1.out.w2.cells
  simp only [pkCs, wlCs] at k1 k2 k3 k4
  go_upto_region 4 with fail
  (try dsimp only [List.append])
  go_upto_region 6 with fail
  (try dsimp only [List.append])
  go_wp2_with fail
  refine (HLi.out _ HR1.out.bel).mono ?_
  rintro r wz2 ⟨rfl, hb⟩
  have HR2 := Lib.hid (HR1.out.below hb)
  clear hb k1 k2 k3 k4
  have k1 := HR2.out.p1.cells
  have k2 := HR2.out.p2.cells
  have k3 := HR2.out.w1.cells
  have k4 := HR2.out.w2.cells
  simp only [pkCs, wlCs] at k1 k2 k3 k4
  go_wp2_with fail
  refine (HLf.out _ HR2.out.bel).mono ?_
  rintro r wz3 ⟨rfl, hb⟩
  have HR3 := Lib.hid (HR2.out.below hb)
  clear hb k1 k2 k3 k4
  have k1 := HR3.out.p1.cells
  have k2 := HR3.out.p2.cells
  have k3 := HR3.out.w1.cells
  have k4 := HR3.out.w2.cells
  simp only [pkCs, wlCs] at k1 k2 k3 k4
  go_wp2
  refine HQ1.out _ _ _ ?_
  go_ret
  exact ⟨rfl, below_thenh HO.out.2.2 HR3.out.bel⟩
set_option maxRecDepth 100000 in
set_option maxHeartbeats 3200000 in
theorem rsame_24 {wt1 : List UInt8} {wp1 : List UInt8} {wq1 : Int} {wr1 : Bool} {wl1 : List Pp} {ki1 : Int} {du1 : Bool} {re1 : Bool} {q1 : Int} {id1 : Int} {top1 : List UInt8} {pay1 : List UInt8} {cl1 : Bool} {al1 : Int} {cli1 : List UInt8} {hu1 : Bool} {us1 : List UInt8} {hp1 : Bool} {pw1 : List UInt8} {hw1 : Bool} {se1 : Bool} {co1 : Int} {co_1 : List Int} {fi1 : List Ft} {pr1 : List Pp} {pr2 : List Pp} {aw ac af ap bw bc bf bp : Value} {w : World} (hA : PkAt w ⟨⟨ki1, q1, id1, al1, co1, du1, re1, cl1, hu1, hp1, hw1, se1, top1, pay1, cli1, us1, pw1⟩, ⟨wt1, wp1, wq1, wr1, wl1⟩, co_1, fi1, pr1⟩ aw ac af ap) (hB : PkAt w ⟨⟨ki1, q1, id1, al1, co1, du1, re1, cl1, hu1, hp1, hw1, se1, top1, pay1, cli1, us1, pw1⟩, ⟨wt1, wp1, wq1, wr1, wl1⟩, co_1, fi1, pr2⟩ bw bc bf bp) :
    Calls Try.prog 18 #[.agg (pkCs ⟨⟨ki1, q1, id1, al1, co1, du1, re1, cl1, hu1, hp1, hw1, se1, top1, pay1, cli1, us1, pw1⟩, ⟨wt1, wp1, wq1, wr1, wl1⟩, co_1, fi1, pr1⟩ aw ac af ap), .agg (pkCs ⟨⟨ki1, q1, id1, al1, co1, du1, re1, cl1, hu1, hp1, hw1, se1, top1, pay1, cli1, us1, pw1⟩, ⟨wt1, wp1, wq1, wr1, wl1⟩, co_1, fi1, pr2⟩ bw bc bf bp)] w fun e w' => e = .returned (.bool (decide (pr1 = pr2))) ∧ Below w.heap.size w w' := by
  obtain ⟨⟨_, _, _, e1⟩, -⟩ := hA.one
  obtain ⟨⟨_, _, _, e2⟩, -⟩ := hB.one
  have o1 : aw.oneCell' = true := by rw [e1]; rfl
  have o2 : bw.oneCell' = true := by rw [e2]; rfl
  obtain ⟨W0, hW0, O1, O2, hb0⟩ := pk_world (⟨⟨ki1, q1, id1, al1, co1, du1, re1, cl1, hu1, hp1, hw1, se1, top1, pay1, cli1, us1, pw1⟩, ⟨wt1, wp1, wq1, wr1, wl1⟩, co_1, fi1, pr1⟩ : Pk) (⟨⟨ki1, q1, id1, al1, co1, du1, re1, cl1, hu1, hp1, hw1, se1, top1, pay1, cli1, us1, pw1⟩, ⟨wt1, wp1, wq1, wr1, wl1⟩, co_1, fi1, pr2⟩ : Pk) aw ac af ap bw bc bf bp w
  have HO := Lib.hid (And.intro O1 (And.intro O2 hb0))
  have HA := Lib.hid (hA.below hb0)
  have HB := Lib.hid (hB.below hb0)
  have H1 := Lib.hid (And.intro o1 o2)
  clear e1 e2 o1 o2 O1 O2 hb0 hA hB
  have HWl := Lib.hid (fun W (hW : Below W0.heap.size W0 W) => rsame_pp (HA.out.rw'.below hW) (HB.out.rw'.below hW))
  have HLi := Lib.hid (fun W (hW : Below W0.heap.size W0 W) => rints (HA.out.rc.below hW) (HB.out.rc.below hW))
  have HLf := Lib.hid (fun W (hW : Below W0.heap.size W0 W) => rfilters (HA.out.rf.below hW) (HB.out.rf.below hW))
  have HLp := Lib.hid (fun W (hW : Below W0.heap.size W0 W) => rsame_pp (HA.out.rp.below hW) (HB.out.rp.below hW))
  simp only [decide_true] at HWl
  simp only [decide_true] at HLi
  simp only [decide_true] at HLf
  go_enter Try.func18, Try.ntmps18
  refine wp_hide fun Q1 hQ1 => ?_
  have HQ1 := Lib.hid hQ1
  clear hQ1
  go_upto_region 1 with fail
  (try rw [hW0])
  clear hW0
  go_cut [5, 6] from 5 to 10 (fun p5 p6 wx => ∃ b5 b6 : Nat, p5 = .pointer (some ⟨b5, 0, none⟩) ∧ p6 = .pointer (some ⟨b6, 0, none⟩) ∧ Hid (RsAt W0 ⟨⟨ki1, q1, id1, al1, co1, du1, re1, cl1, hu1, hp1, hw1, se1, top1, pay1, cli1, us1, pw1⟩, ⟨wt1, wp1, wq1, wr1, wl1⟩, co_1, fi1, pr1⟩ ⟨⟨ki1, q1, id1, al1, co1, du1, re1, cl1, hu1, hp1, hw1, se1, top1, pay1, cli1, us1, pw1⟩, ⟨wt1, wp1, wq1, wr1, wl1⟩, co_1, fi1, pr2⟩ aw ac af ap bw bc bf bp w.heap.size b5 b6 wx))
  case first =>
    obtain ⟨ld1, ld2, hst⟩ := rs_boxes HO.out.1 HO.out.2.1 H1.out.1 H1.out.2
    obtain ⟨sa1, sb1, sc1, sd1⟩ := hst (⟨wt1, wp1, wq1, wr1, wl1⟩ : Wl) (⟨wt1, wp1, wq1, wr1, wl1⟩ : Wl) aw bw H1.out.1 H1.out.2
    obtain ⟨sa2, sb2, sc2, sd2⟩ := hst (⟨wt1, wp1, wq1, wr1, wl1⟩ : Wl) (⟨wt1, wp1, wq1, wr1, wl1⟩ : Wl) bw aw H1.out.2 H1.out.1
    obtain ⟨la1, la2, la3, la4⟩ := rs_loads HO.out.1 HO.out.2.1 (wlCs (⟨wt1, wp1, wq1, wr1, wl1⟩ : Wl) aw)
    obtain ⟨lb1, lb2, lb3, lb4⟩ := rs_loads HO.out.1 HO.out.2.1 (wlCs (⟨wt1, wp1, wq1, wr1, wl1⟩ : Wl) bw)
    obtain ⟨⟨ma1, ma2⟩, ⟨ma3, ma4⟩, ⟨ma5, ma6⟩, ⟨ma7, ma8⟩, ma9, ma10, ma11, -⟩ := rs_more HO.out.1 HO.out.2.1 (⟨wt1, wp1, wq1, wr1, wl1⟩ : Wl) (⟨wt1, wp1, wq1, wr1, wl1⟩ : Wl) aw bw H1.out.1 H1.out.2
    obtain ⟨-, -, ⟨mb5, mb6⟩, ⟨mb7, mb8⟩, mb9, mb10, -, mb11⟩ := rs_more HO.out.1 HO.out.2.1 (⟨wt1, wp1, wq1, wr1, wl1⟩ : Wl) (⟨wt1, wp1, wq1, wr1, wl1⟩ : Wl) bw aw H1.out.2 H1.out.1
    have HDp := Lib.hid (ma11 rfl rfl rfl rfl)
    have HDq := Lib.hid (mb11 rfl rfl rfl rfl)
    clear ma11 mb11
    have HDn := Lib.hid (rs_done HO.out.1 HO.out.2.1)
    have HDm := Lib.hid (rs_done2 HO.out.1 HO.out.2.1)
    clear hst
    go_region
    all_goals
      go_wp2
      go_meet
      first
        | exact ⟨_, _, rfl, rfl, HDn⟩
        | exact ⟨_, _, rfl, rfl, HDm⟩
        | exact ⟨_, _, rfl, rfl, HDp⟩
        | exact ⟨_, _, rfl, rfl, HDq⟩
  case rest =>
  obtain ⟨b5, b6, rfl, rfl, HR⟩ := hcut
  have k1 := HR.out.p1.cells
  have k2 := HR.out.p2.cells
  have k3 := HR.out.w1.cells
  have k4 := HR.out.w2.cells
  simp only [pkCs, wlCs] at k1 k2 k3 k4
  go_wp2_with fail
  refine (HWl.out _ HR.out.bel).mono ?_
  rintro r wz1 ⟨rfl, hb⟩
  have HR1 := Lib.hid (HR.out.below hb)
  clear hb k1 k2 k3 k4
  have k1 := HR1.out.p1.cells
  have k2 := HR1.out.p2.cells
  have k3 := HR1.out.w1.cells
  have k4 := HR1.out.w2.cells
  simp only [pkCs, wlCs] at k1 k2 k3 k4
  go_upto_region 4 with fail
  (try dsimp only [List.append])
  go_upto_region 6 with fail
  (try dsimp only [List.append])
  go_wp2_with fail
  refine (HLi.out _ HR1.out.bel).mono ?_
  rintro r wz2 ⟨rfl, hb⟩
  have HR2 := Lib.hid (HR1.out.below hb)
  clear hb k1 k2 k3 k4
  have k1 := HR2.out.p1.cells
  have k2 := HR2.out.p2.cells
  have k3 := HR2.out.w1.cells
  have k4 := HR2.out.w2.cells
  simp only [pkCs, wlCs] at k1 k2 k3 k4
  go_wp2_with fail
  refine (HLf.out _ HR2.out.bel).mono ?_
  rintro r wz3 ⟨rfl, hb⟩
  have HR3 := Lib.hid (HR2.out.below hb)
  clear hb k1 k2 k3 k4
  have k1 := HR3.out.p1.cells
  have k2 := HR3.out.p2.cells
  have k3 := HR3.out.w1.cells
  have k4 := HR3.out.w2.cells
  simp only [pkCs, wlCs] at k1 k2 k3 k4
  go_wp2_with fail
  refine (HLp.out _ HR3.out.bel).mono ?_
  rintro r wz4 ⟨rfl, hb⟩
  have HR4 := Lib.hid (HR3.out.below hb)
  clear hb k1 k2 k3 k4
  have k1 := HR4.out.p1.cells
  have k2 := HR4.out.p2.cells
  have k3 := HR4.out.w1.cells
  have k4 := HR4.out.w2.cells
  simp only [pkCs, wlCs] at k1 k2 k3 k4
  go_wp2
  refine HQ1.out _ _ _ ?_
  go_ret
  exact ⟨rfl, below_thenh HO.out.2.2 HR4.out.bel⟩
theorem rsame_any {a b : Pk} {aw ac af ap bw bc bf bp : Value} {w : World} (hA : PkAt w a aw ac af ap) (hB : PkAt w b bw bc bf bp) :
    Calls Try.prog 18 #[.agg (pkCs a aw ac af ap), .agg (pkCs b bw bc bf bp)] w fun e w' => e = .returned (.bool (decide (a = b))) ∧ Below w.heap.size w w' := by
  obtain ⟨⟨ki1, q1, id1, al1, co1, du1, re1, cl1, hu1, hp1, hw1, se1, top1, pay1, cli1, us1, pw1⟩, ⟨wt1, wp1, wq1, wr1, wl1⟩, co_1, fi1, pr1⟩ := a
  obtain ⟨⟨ki2, q2, id2, al2, co2, du2, re2, cl2, hu2, hp2, hw2, se2, top2, pay2, cli2, us2, pw2⟩, ⟨wt2, wp2, wq2, wr2, wl2⟩, co_2, fi2, pr2⟩ := b
  by_cases h : wt1 = wt2
  rotate_left
  · rw [show decide ((⟨⟨ki1, q1, id1, al1, co1, du1, re1, cl1, hu1, hp1, hw1, se1, top1, pay1, cli1, us1, pw1⟩, ⟨wt1, wp1, wq1, wr1, wl1⟩, co_1, fi1, pr1⟩ : Pk) = ⟨⟨ki2, q2, id2, al2, co2, du2, re2, cl2, hu2, hp2, hw2, se2, top2, pay2, cli2, us2, pw2⟩, ⟨wt2, wp2, wq2, wr2, wl2⟩, co_2, fi2, pr2⟩) = false from decide_eq_false (fun e => h (congrArg (fun p : Pk => p.w.top) e))]
    exact rsame_0 hA hB h
  subst h
  by_cases h : wp1 = wp2
  rotate_left
  · rw [show decide ((⟨⟨ki1, q1, id1, al1, co1, du1, re1, cl1, hu1, hp1, hw1, se1, top1, pay1, cli1, us1, pw1⟩, ⟨wt1, wp1, wq1, wr1, wl1⟩, co_1, fi1, pr1⟩ : Pk) = ⟨⟨ki2, q2, id2, al2, co2, du2, re2, cl2, hu2, hp2, hw2, se2, top2, pay2, cli2, us2, pw2⟩, ⟨wt1, wp2, wq2, wr2, wl2⟩, co_2, fi2, pr2⟩) = false from decide_eq_false (fun e => h (congrArg (fun p : Pk => p.w.pay) e))]
    exact rsame_1 hA hB h
  subst h
  by_cases h : wq1 = wq2
  rotate_left
  · rw [show decide ((⟨⟨ki1, q1, id1, al1, co1, du1, re1, cl1, hu1, hp1, hw1, se1, top1, pay1, cli1, us1, pw1⟩, ⟨wt1, wp1, wq1, wr1, wl1⟩, co_1, fi1, pr1⟩ : Pk) = ⟨⟨ki2, q2, id2, al2, co2, du2, re2, cl2, hu2, hp2, hw2, se2, top2, pay2, cli2, us2, pw2⟩, ⟨wt1, wp1, wq2, wr2, wl2⟩, co_2, fi2, pr2⟩) = false from decide_eq_false (fun e => h (congrArg (fun p : Pk => p.w.q) e))]
    exact rsame_2 hA hB h
  subst h
  by_cases h : wr1 = wr2
  rotate_left
  · rw [show decide ((⟨⟨ki1, q1, id1, al1, co1, du1, re1, cl1, hu1, hp1, hw1, se1, top1, pay1, cli1, us1, pw1⟩, ⟨wt1, wp1, wq1, wr1, wl1⟩, co_1, fi1, pr1⟩ : Pk) = ⟨⟨ki2, q2, id2, al2, co2, du2, re2, cl2, hu2, hp2, hw2, se2, top2, pay2, cli2, us2, pw2⟩, ⟨wt1, wp1, wq1, wr2, wl2⟩, co_2, fi2, pr2⟩) = false from decide_eq_false (fun e => h (congrArg (fun p : Pk => p.w.re) e))]
    exact rsame_3 hA hB h
  subst h
  by_cases h : wl1 = wl2
  rotate_left
  · rw [show decide ((⟨⟨ki1, q1, id1, al1, co1, du1, re1, cl1, hu1, hp1, hw1, se1, top1, pay1, cli1, us1, pw1⟩, ⟨wt1, wp1, wq1, wr1, wl1⟩, co_1, fi1, pr1⟩ : Pk) = ⟨⟨ki2, q2, id2, al2, co2, du2, re2, cl2, hu2, hp2, hw2, se2, top2, pay2, cli2, us2, pw2⟩, ⟨wt1, wp1, wq1, wr1, wl2⟩, co_2, fi2, pr2⟩) = false from decide_eq_false (fun e => h (congrArg (fun p : Pk => p.w.props) e))]
    exact rsame_4 hA hB h
  subst h
  by_cases h : ki1 = ki2
  rotate_left
  · rw [show decide ((⟨⟨ki1, q1, id1, al1, co1, du1, re1, cl1, hu1, hp1, hw1, se1, top1, pay1, cli1, us1, pw1⟩, ⟨wt1, wp1, wq1, wr1, wl1⟩, co_1, fi1, pr1⟩ : Pk) = ⟨⟨ki2, q2, id2, al2, co2, du2, re2, cl2, hu2, hp2, hw2, se2, top2, pay2, cli2, us2, pw2⟩, ⟨wt1, wp1, wq1, wr1, wl1⟩, co_2, fi2, pr2⟩) = false from decide_eq_false (fun e => h (congrArg (fun p : Pk => p.s.ki) e))]
    exact rsame_5 hA hB h
  subst h
  by_cases h : du1 = du2
  rotate_left
  · rw [show decide ((⟨⟨ki1, q1, id1, al1, co1, du1, re1, cl1, hu1, hp1, hw1, se1, top1, pay1, cli1, us1, pw1⟩, ⟨wt1, wp1, wq1, wr1, wl1⟩, co_1, fi1, pr1⟩ : Pk) = ⟨⟨ki1, q2, id2, al2, co2, du2, re2, cl2, hu2, hp2, hw2, se2, top2, pay2, cli2, us2, pw2⟩, ⟨wt1, wp1, wq1, wr1, wl1⟩, co_2, fi2, pr2⟩) = false from decide_eq_false (fun e => h (congrArg (fun p : Pk => p.s.du) e))]
    exact rsame_6 hA hB h
  subst h
  by_cases h : re1 = re2
  rotate_left
  · rw [show decide ((⟨⟨ki1, q1, id1, al1, co1, du1, re1, cl1, hu1, hp1, hw1, se1, top1, pay1, cli1, us1, pw1⟩, ⟨wt1, wp1, wq1, wr1, wl1⟩, co_1, fi1, pr1⟩ : Pk) = ⟨⟨ki1, q2, id2, al2, co2, du1, re2, cl2, hu2, hp2, hw2, se2, top2, pay2, cli2, us2, pw2⟩, ⟨wt1, wp1, wq1, wr1, wl1⟩, co_2, fi2, pr2⟩) = false from decide_eq_false (fun e => h (congrArg (fun p : Pk => p.s.re) e))]
    exact rsame_7 hA hB h
  subst h
  by_cases h : q1 = q2
  rotate_left
  · rw [show decide ((⟨⟨ki1, q1, id1, al1, co1, du1, re1, cl1, hu1, hp1, hw1, se1, top1, pay1, cli1, us1, pw1⟩, ⟨wt1, wp1, wq1, wr1, wl1⟩, co_1, fi1, pr1⟩ : Pk) = ⟨⟨ki1, q2, id2, al2, co2, du1, re1, cl2, hu2, hp2, hw2, se2, top2, pay2, cli2, us2, pw2⟩, ⟨wt1, wp1, wq1, wr1, wl1⟩, co_2, fi2, pr2⟩) = false from decide_eq_false (fun e => h (congrArg (fun p : Pk => p.s.q) e))]
    exact rsame_8 hA hB h
  subst h
  by_cases h : id1 = id2
  rotate_left
  · rw [show decide ((⟨⟨ki1, q1, id1, al1, co1, du1, re1, cl1, hu1, hp1, hw1, se1, top1, pay1, cli1, us1, pw1⟩, ⟨wt1, wp1, wq1, wr1, wl1⟩, co_1, fi1, pr1⟩ : Pk) = ⟨⟨ki1, q1, id2, al2, co2, du1, re1, cl2, hu2, hp2, hw2, se2, top2, pay2, cli2, us2, pw2⟩, ⟨wt1, wp1, wq1, wr1, wl1⟩, co_2, fi2, pr2⟩) = false from decide_eq_false (fun e => h (congrArg (fun p : Pk => p.s.id) e))]
    exact rsame_9 hA hB h
  subst h
  by_cases h : top1 = top2
  rotate_left
  · rw [show decide ((⟨⟨ki1, q1, id1, al1, co1, du1, re1, cl1, hu1, hp1, hw1, se1, top1, pay1, cli1, us1, pw1⟩, ⟨wt1, wp1, wq1, wr1, wl1⟩, co_1, fi1, pr1⟩ : Pk) = ⟨⟨ki1, q1, id1, al2, co2, du1, re1, cl2, hu2, hp2, hw2, se2, top2, pay2, cli2, us2, pw2⟩, ⟨wt1, wp1, wq1, wr1, wl1⟩, co_2, fi2, pr2⟩) = false from decide_eq_false (fun e => h (congrArg (fun p : Pk => p.s.top) e))]
    exact rsame_10 hA hB h
  subst h
  by_cases h : pay1 = pay2
  rotate_left
  · rw [show decide ((⟨⟨ki1, q1, id1, al1, co1, du1, re1, cl1, hu1, hp1, hw1, se1, top1, pay1, cli1, us1, pw1⟩, ⟨wt1, wp1, wq1, wr1, wl1⟩, co_1, fi1, pr1⟩ : Pk) = ⟨⟨ki1, q1, id1, al2, co2, du1, re1, cl2, hu2, hp2, hw2, se2, top1, pay2, cli2, us2, pw2⟩, ⟨wt1, wp1, wq1, wr1, wl1⟩, co_2, fi2, pr2⟩) = false from decide_eq_false (fun e => h (congrArg (fun p : Pk => p.s.pay) e))]
    exact rsame_11 hA hB h
  subst h
  by_cases h : cl1 = cl2
  rotate_left
  · rw [show decide ((⟨⟨ki1, q1, id1, al1, co1, du1, re1, cl1, hu1, hp1, hw1, se1, top1, pay1, cli1, us1, pw1⟩, ⟨wt1, wp1, wq1, wr1, wl1⟩, co_1, fi1, pr1⟩ : Pk) = ⟨⟨ki1, q1, id1, al2, co2, du1, re1, cl2, hu2, hp2, hw2, se2, top1, pay1, cli2, us2, pw2⟩, ⟨wt1, wp1, wq1, wr1, wl1⟩, co_2, fi2, pr2⟩) = false from decide_eq_false (fun e => h (congrArg (fun p : Pk => p.s.cl) e))]
    exact rsame_12 hA hB h
  subst h
  by_cases h : al1 = al2
  rotate_left
  · rw [show decide ((⟨⟨ki1, q1, id1, al1, co1, du1, re1, cl1, hu1, hp1, hw1, se1, top1, pay1, cli1, us1, pw1⟩, ⟨wt1, wp1, wq1, wr1, wl1⟩, co_1, fi1, pr1⟩ : Pk) = ⟨⟨ki1, q1, id1, al2, co2, du1, re1, cl1, hu2, hp2, hw2, se2, top1, pay1, cli2, us2, pw2⟩, ⟨wt1, wp1, wq1, wr1, wl1⟩, co_2, fi2, pr2⟩) = false from decide_eq_false (fun e => h (congrArg (fun p : Pk => p.s.al) e))]
    exact rsame_13 hA hB h
  subst h
  by_cases h : cli1 = cli2
  rotate_left
  · rw [show decide ((⟨⟨ki1, q1, id1, al1, co1, du1, re1, cl1, hu1, hp1, hw1, se1, top1, pay1, cli1, us1, pw1⟩, ⟨wt1, wp1, wq1, wr1, wl1⟩, co_1, fi1, pr1⟩ : Pk) = ⟨⟨ki1, q1, id1, al1, co2, du1, re1, cl1, hu2, hp2, hw2, se2, top1, pay1, cli2, us2, pw2⟩, ⟨wt1, wp1, wq1, wr1, wl1⟩, co_2, fi2, pr2⟩) = false from decide_eq_false (fun e => h (congrArg (fun p : Pk => p.s.cli) e))]
    exact rsame_14 hA hB h
  subst h
  by_cases h : hu1 = hu2
  rotate_left
  · rw [show decide ((⟨⟨ki1, q1, id1, al1, co1, du1, re1, cl1, hu1, hp1, hw1, se1, top1, pay1, cli1, us1, pw1⟩, ⟨wt1, wp1, wq1, wr1, wl1⟩, co_1, fi1, pr1⟩ : Pk) = ⟨⟨ki1, q1, id1, al1, co2, du1, re1, cl1, hu2, hp2, hw2, se2, top1, pay1, cli1, us2, pw2⟩, ⟨wt1, wp1, wq1, wr1, wl1⟩, co_2, fi2, pr2⟩) = false from decide_eq_false (fun e => h (congrArg (fun p : Pk => p.s.hu) e))]
    exact rsame_15 hA hB h
  subst h
  by_cases h : us1 = us2
  rotate_left
  · rw [show decide ((⟨⟨ki1, q1, id1, al1, co1, du1, re1, cl1, hu1, hp1, hw1, se1, top1, pay1, cli1, us1, pw1⟩, ⟨wt1, wp1, wq1, wr1, wl1⟩, co_1, fi1, pr1⟩ : Pk) = ⟨⟨ki1, q1, id1, al1, co2, du1, re1, cl1, hu1, hp2, hw2, se2, top1, pay1, cli1, us2, pw2⟩, ⟨wt1, wp1, wq1, wr1, wl1⟩, co_2, fi2, pr2⟩) = false from decide_eq_false (fun e => h (congrArg (fun p : Pk => p.s.us) e))]
    exact rsame_16 hA hB h
  subst h
  by_cases h : hp1 = hp2
  rotate_left
  · rw [show decide ((⟨⟨ki1, q1, id1, al1, co1, du1, re1, cl1, hu1, hp1, hw1, se1, top1, pay1, cli1, us1, pw1⟩, ⟨wt1, wp1, wq1, wr1, wl1⟩, co_1, fi1, pr1⟩ : Pk) = ⟨⟨ki1, q1, id1, al1, co2, du1, re1, cl1, hu1, hp2, hw2, se2, top1, pay1, cli1, us1, pw2⟩, ⟨wt1, wp1, wq1, wr1, wl1⟩, co_2, fi2, pr2⟩) = false from decide_eq_false (fun e => h (congrArg (fun p : Pk => p.s.hp) e))]
    exact rsame_17 hA hB h
  subst h
  by_cases h : pw1 = pw2
  rotate_left
  · rw [show decide ((⟨⟨ki1, q1, id1, al1, co1, du1, re1, cl1, hu1, hp1, hw1, se1, top1, pay1, cli1, us1, pw1⟩, ⟨wt1, wp1, wq1, wr1, wl1⟩, co_1, fi1, pr1⟩ : Pk) = ⟨⟨ki1, q1, id1, al1, co2, du1, re1, cl1, hu1, hp1, hw2, se2, top1, pay1, cli1, us1, pw2⟩, ⟨wt1, wp1, wq1, wr1, wl1⟩, co_2, fi2, pr2⟩) = false from decide_eq_false (fun e => h (congrArg (fun p : Pk => p.s.pw) e))]
    exact rsame_18 hA hB h
  subst h
  by_cases h : hw1 = hw2
  rotate_left
  · rw [show decide ((⟨⟨ki1, q1, id1, al1, co1, du1, re1, cl1, hu1, hp1, hw1, se1, top1, pay1, cli1, us1, pw1⟩, ⟨wt1, wp1, wq1, wr1, wl1⟩, co_1, fi1, pr1⟩ : Pk) = ⟨⟨ki1, q1, id1, al1, co2, du1, re1, cl1, hu1, hp1, hw2, se2, top1, pay1, cli1, us1, pw1⟩, ⟨wt1, wp1, wq1, wr1, wl1⟩, co_2, fi2, pr2⟩) = false from decide_eq_false (fun e => h (congrArg (fun p : Pk => p.s.hw) e))]
    exact rsame_19 hA hB h
  subst h
  by_cases h : se1 = se2
  rotate_left
  · rw [show decide ((⟨⟨ki1, q1, id1, al1, co1, du1, re1, cl1, hu1, hp1, hw1, se1, top1, pay1, cli1, us1, pw1⟩, ⟨wt1, wp1, wq1, wr1, wl1⟩, co_1, fi1, pr1⟩ : Pk) = ⟨⟨ki1, q1, id1, al1, co2, du1, re1, cl1, hu1, hp1, hw1, se2, top1, pay1, cli1, us1, pw1⟩, ⟨wt1, wp1, wq1, wr1, wl1⟩, co_2, fi2, pr2⟩) = false from decide_eq_false (fun e => h (congrArg (fun p : Pk => p.s.se) e))]
    exact rsame_20 hA hB h
  subst h
  by_cases h : co1 = co2
  rotate_left
  · rw [show decide ((⟨⟨ki1, q1, id1, al1, co1, du1, re1, cl1, hu1, hp1, hw1, se1, top1, pay1, cli1, us1, pw1⟩, ⟨wt1, wp1, wq1, wr1, wl1⟩, co_1, fi1, pr1⟩ : Pk) = ⟨⟨ki1, q1, id1, al1, co2, du1, re1, cl1, hu1, hp1, hw1, se1, top1, pay1, cli1, us1, pw1⟩, ⟨wt1, wp1, wq1, wr1, wl1⟩, co_2, fi2, pr2⟩) = false from decide_eq_false (fun e => h (congrArg (fun p : Pk => p.s.co) e))]
    exact rsame_21 hA hB h
  subst h
  by_cases h : co_1 = co_2
  rotate_left
  · rw [show decide ((⟨⟨ki1, q1, id1, al1, co1, du1, re1, cl1, hu1, hp1, hw1, se1, top1, pay1, cli1, us1, pw1⟩, ⟨wt1, wp1, wq1, wr1, wl1⟩, co_1, fi1, pr1⟩ : Pk) = ⟨⟨ki1, q1, id1, al1, co1, du1, re1, cl1, hu1, hp1, hw1, se1, top1, pay1, cli1, us1, pw1⟩, ⟨wt1, wp1, wq1, wr1, wl1⟩, co_2, fi2, pr2⟩) = false from decide_eq_false (fun e => h (congrArg (fun p : Pk => p.codes) e))]
    exact rsame_22 hA hB h
  subst h
  by_cases h : fi1 = fi2
  rotate_left
  · rw [show decide ((⟨⟨ki1, q1, id1, al1, co1, du1, re1, cl1, hu1, hp1, hw1, se1, top1, pay1, cli1, us1, pw1⟩, ⟨wt1, wp1, wq1, wr1, wl1⟩, co_1, fi1, pr1⟩ : Pk) = ⟨⟨ki1, q1, id1, al1, co1, du1, re1, cl1, hu1, hp1, hw1, se1, top1, pay1, cli1, us1, pw1⟩, ⟨wt1, wp1, wq1, wr1, wl1⟩, co_1, fi2, pr2⟩) = false from decide_eq_false (fun e => h (congrArg (fun p : Pk => p.filters) e))]
    exact rsame_23 hA hB h
  subst h
  rw [show decide ((⟨⟨ki1, q1, id1, al1, co1, du1, re1, cl1, hu1, hp1, hw1, se1, top1, pay1, cli1, us1, pw1⟩, ⟨wt1, wp1, wq1, wr1, wl1⟩, co_1, fi1, pr1⟩ : Pk) = ⟨⟨ki1, q1, id1, al1, co1, du1, re1, cl1, hu1, hp1, hw1, se1, top1, pay1, cli1, us1, pw1⟩, ⟨wt1, wp1, wq1, wr1, wl1⟩, co_1, fi1, pr2⟩) = decide (pr1 = pr2) by simp]
  exact rsame_24 hA hB
end Go.Proofs.Ytjkmfdkhfjhegaa
