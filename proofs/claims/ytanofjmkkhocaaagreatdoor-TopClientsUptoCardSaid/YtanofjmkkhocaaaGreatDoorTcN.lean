/- registry: Clear. fromsn: learn, Learn: what a message tells of topics. -/
import Derived.Test.YtanofjmkkhocaaaGreatDoorTcL
import Derived.Test.YtanofjmkkhocaaaGreatDoorTcJ
import Derived.Deep.LoopGhost
import Derived.Test.YtanofjmkkhocaaaGreatDoorTcR
import Derived.Test.YtanofjmkkhocaaaGreatDoorMsW
set_option linter.unusedVariables false
set_option linter.unusedSimpArgs false
set_option maxRecDepth 100000
set_option maxHeartbeats 3200000
namespace Go.Proofs.YtanofjmkkhocaaaGreatDoor
open Go Go.RowKit Go.MapKept
open Go.ChangeMaps (setBlock)
theorem del_id {w : World} {b c : Nat} {l : List (List UInt8 × Int × Nat)} (hb : w.heap[b]? = some (mapG idE l c)) (n : List UInt8) (ty kt : TypeId) :
  (Builtin.delete_ #[108, kt] ty #[.map (some b), .string ⟨n.toArray⟩]).run Tryz.prog w = .ok (.tuple #[]) (setBlock w b (mapG idE (dropG (fun x : List UInt8 × Int × Nat => x.1) l n) c)) := by
 rw [run_delF (P := Tryz.prog) Tryz.underlying108 Tryz.underlying9 (key_str n) hb (findNow_str (fun _ => rfl) l 0 n)]
 unfold dropG
 cases lookG (fun x : List UInt8 × Int × Nat => x.1) l 0 n <;> rfl
theorem del_al {w : World} {b c : Nat} {l : List (Tp × Nat)} (hb : w.heap[b]? = some (mapG alE l c)) (k : Int) (ty kt : TypeId) :
  (Builtin.delete_ #[107, kt] ty #[.map (some b), .int .i64 k]).run Tryz.prog w = .ok (.tuple #[]) (setBlock w b (mapG alE (dropG (fun x : Tp × Nat => x.1.id) l k) c)) := by
 rw [run_delF (P := Tryz.prog) Tryz.underlying107 Tryz.underlying3 (key_int k) hb (findNow_int (fun _ => rfl) l 0 k)]
 unfold dropG
 cases lookG (fun x : Tp × Nat => x.1.id) l 0 k <;> rfl
theorem del_cl {w : World} {b c : Nat} {es : List (List UInt8 × Nat × Nat)} (hb : w.heap[b]? = some (mapG clE es c)) (n : List UInt8) (ty kt : TypeId) :
  (Builtin.delete_ #[121, kt] ty #[.map (some b), .string ⟨n.toArray⟩]).run Tryz.prog w = .ok (.tuple #[]) (setBlock w b (mapG clE (dropG (fun x : List UInt8 × Nat × Nat => x.1) es n) c)) := by
 rw [run_delF (P := Tryz.prog) Tryz.underlying121 Tryz.underlying9 (key_str n) hb (findNow_str (fun _ => rfl) es 0 n)]
 unfold dropG
 cases lookG (fun x : List UInt8 × Nat × Nat => x.1) es 0 n <;> rfl
theorem len_al {w : World} {b c : Nat} {l : List (Tp × Nat)} (hb : w.heap[b]? = some (mapG alE l c)) : (Builtin.len_ #[107] 3 #[.map (some b)]).run Tryz.prog w = .ok (.int .i64 l.length) w := by
 replace hb : w.heap[b]? = some (.map (l.map alE).toArray c) := hb
 simp [Builtin.len_, run_underlying Tryz.underlying107, MapKept.run_getObj_map hb, goInt]
theorem tfoldl_take {α β : Type} (f : β → α → β) (l : List α) (k : Nat) (hk : k < l.length) (c : β) : (l.take (k + 1)).foldl f c = f ((l.take k).foldl f c) l[k] := by
 rw [List.take_succ_eq_append_getElem hk, List.foldl_append]; rfl
theorem ExtO.more {n : List UInt8} {a b c : World} {O O' : Nat → Own} (h : ExtO n a b O O') (hs : b.heap.size ≤ c.heap.size) : ExtO n a c O O' := fun i => by
 rcases h i with h1 | ⟨h1, h2, h3⟩
 ·exact .inl h1
 ·exact .inr ⟨h1, by omega, h3⟩
theorem ExtO.less {n : List UInt8} {a b c : World} {O O' : Nat → Own} (h : ExtO n b c O O') (hs : a.heap.size ≤ b.heap.size) : ExtO n a c O O' := fun i => by
 rcases h i with h1 | ⟨h1, h2, h3⟩
 ·exact .inl h1
 ·exact .inr ⟨by omega, h2, h3⟩
def Cl.cut (C : Cl) (t : Tp) : Cl := { C with ids := dropG (fun x : List UInt8 × Int × Nat => x.1) C.ids t.name, all := dropG (fun x : Tp × Nat => x.1.id) C.all t.id }
theorem outC_cut {C : Cl} {t : Tp} (h : t.fx = false) : outC C t = { C.cut t with back := pushH C.back t.id } := by unfold outC; rw [h]; rfl
theorem wf_cut {C : Cl} (h : WfC C) (t : Tp) : WfC (C.cut t) := by
 have hs := dropG_sub (fun x : Tp × Nat => x.1.id) C.all t.id
 exact ⟨(hs.map _).nodup h.ids, (hs.map _).nodup h.born, fun x hx => h.old x (hs.subset hx), h.least, h.most⟩
theorem ClAt.cut {w : World} {O : Nat → Own} {n : List UInt8} {cb ib ab : Nat} {v : Value} {C : Cl} (h : ClAt w O n cb ib ab v C) (t : Tp) {W2 W3 : World} (h2 : W2 = setBlock w ib (mapG idE (dropG (fun x : List UInt8 × Int × Nat => x.1) C.ids t.name) C.idc)) (h3 : W3 = setBlock W2.drew ab (mapG alE (dropG (fun x : Tp × Nat => x.1.id) C.all t.id) C.alc)) :
  (Obj? W2 cb #[.map (some ib), .map (some ab), v, .int .i64 C.next] 111 ∧ W2.heap[ab]? = some (mapG alE C.all C.alc) ∧ Kq (fun b => b = ib) w W2) ∧ ClAt W3 O n cb ib ab v (C.cut t) ∧ Kq (fun b => b = ib ∨ b = ab) w W3 := by
 have HK2 : Kq (fun b => b = ib) w W2 := by rw [h2]; exact (Kq.refl (fun b => b = ib) w).setB (r := ib) (.inl rfl) _
 have HK3 : Kq (fun b => b = ab) W2 W3 := by rw [h3]; exact ((Kq.refl (fun b => b = ab) W2).drew).setB (r := ab) (.inl rfl) _
 have c2 := h.cl.kp HK2 h.ne_ci
 have a2 := HK2.at h.all (Ne.symm h.ne)
 have i2 : W2.heap[ib]? = some (mapG idE (dropG (fun x : List UInt8 × Int × Nat => x.1) C.ids t.name) C.idc) := by rw [h2]; exact heap_setB (lt_of_heap h.ids)
 refine ⟨⟨c2, a2, HK2⟩, ⟨c2.kp HK3 h.ne_ca, HK3.at i2 h.ne, by rw [h3]; exact heap_setB (w := W2.drew) (lt_of_heap a2), row_kp (row_kp h.back HK2 (fun b hb => (h.row_ne hb).2.1)) HK3 (fun b hb => (h.row_ne hb).2.2), wf_cut h.wf t, h.ne, h.oc, h.oi, h.oa, h.ob⟩, ?_⟩
 exact (HK2.mono (fun _ _ e => .inl e)).trans (HK3.mono (fun _ _ e => .inr e))
structure ClrAt (w1 : World) (O : Nat → Own) (n : List UInt8) (cb ib ab : Nat) (Ck : Cl) (wr : World) : Prop where
 cl : ∃ v O', ClAt wr O' n cb ib ab v Ck ∧ ExtO n w1 wr O O' ∧ (∀ b, O' b ≠ none → b < wr.heap.size)
 kq : Kq (fun b => O b = some (some n)) w1 wr
theorem rclear_any {w : World} {rb : Nat} {O : Nat → Own} {L : List UInt8 → Option (Nat × Cl)} (h : RegAt w rb O L) (n : List UInt8) (hw : wtO ((L n).map (·.2)) ≤ 400000000) :
  Calls Tryz.prog 173 #[.pointer (some ⟨rb, 0, none⟩), .string ⟨n.toArray⟩] w fun e w' => (∃ k, e = .returned (.int .i64 k)) ∧ RegSays w rb O L n (clearC ((L n).map (·.2))) w' := by
 have HF := Lib.hid (of_any h n)
 have HT := Lib.hid (rtopics_any h n (by omega))
 have HR := Lib.hid h
 cases hL : L n with
 | none =>
  rw [hL] at HF
  have HL := Lib.hid hL
  clear h hw hL
  go_enter Tryz.func173, Tryz.ntmps173
  go_wp2_with fail
  refine HF.out.mono ?_
  rintro e w1 ⟨rfl, rfl⟩
  unfold ptrL
  go_wp2
  go_ret
  have := RegSays.none (n := n) HR.out (Below.refl _ w1)
  rw [HL.out] at this
  exact ⟨⟨_, rfl⟩, this⟩
 | some p =>
  obtain ⟨cb, C⟩ := p
  have HL := Lib.hid hL
  rw [hL, ptr_some] at HF
  rw [hL] at HT hw
  obtain ⟨ib, ab, v, hC⟩ := h.client hL
  obtain ⟨T, hTd⟩ : ∃ T, T = topicsC C := ⟨_, rfl⟩
  have HTd := Lib.hid hTd
  have hwt : C.all.length + C.back.length ≤ 400000000 := by simpa [wtO, wtC] using hw
  have HW := Lib.hid hwt
  simp only [Option.map_some, topsC, Option.getD_some] at HT ⊢
  rw [← hTd] at HT
  have HC := Lib.hid hC
  clear h hw hL hC hTd hwt
  go_enter Tryz.func173, Tryz.ntmps173
  go_wp2_with fail
  refine HF.out.mono ?_
  rintro e w1 ⟨rfl, rfl⟩
  go_wp2_with fail
  refine HT.out.mono ?_
  rintro e w2 ⟨vt, rfl, hrow, hB⟩
  have HRow := Lib.hid hrow
  have HB := Lib.hid hB
  obtain ⟨⟨va, vc, hv, hTl, -⟩, -⟩ := hrow
  rw [hv]
  have HV := Lib.hid hv
  have HC2 := Lib.hid (HC.out.below hB)
  clear hB hv HT HF
  go_wp2_with fail
  go_loopg [5, 18] (T.length + 1) (fun gk c i wr => ∃ (k cnt : Nat), c = .int .i64 cnt ∧ i = .int .i64 k ∧ Hid (gk + k = T.length + 1 ∧ k ≤ T.length ∧ cnt ≤ k ∧ T.length ≤ 400000000 ∧ ClrAt w2 O n cb ib ab ((T.take k).foldl outC C) wr ∧ RowG w1.heap.size Tp.cs 3 wr vt T))
  case atStart => exact ⟨0, 0, rfl, rfl, Lib.hid ⟨by omega, by omega, by omega, by rw [HTd.out, topicsC_len]; have := HW.out; omega, ⟨⟨v, O, HC2.out, ExtO.refl _ _ _ _, fun b hb => Nat.lt_of_lt_of_le (HR.out.fresh b hb) HB.out.size⟩, Kq.refl _ _⟩, HRow.out⟩⟩
  case round =>
   obtain ⟨k, cnt, rfl, rfl, HI⟩ := hrel
   by_cases hlt : k < T.length
   ·have hki : (k : Int) < T.length := by omega
    obtain ⟨vk, Ok, hCk, hEk, hFk⟩ := HI.out.2.2.2.2.1.cl
    have HK := Lib.hid (And.intro hCk (And.intro hEk hFk))
    have hro := HI.out.2.2.2.2.2
    rw [HV.out] at hro
    obtain ⟨b1, o1, rfl, l1, c1⟩ := hro.1.at k hlt
    have HTk := Lib.hid (show T[k] = ⟨T[k].id, T[k].name, T[k].fx⟩ from rfl)
    have HFo := Lib.hid (tfoldl_take outC T k hlt C)
    obtain ⟨t, ht⟩ : ∃ t, t = T[k] := ⟨_, rfl⟩
    rw [← ht] at c1 HFo
    have a0 : wr.cell? ⟨b1, o1 + k * 3, none⟩ = some (.int .i64 t.id) := c1 0 _ rfl
    have a1 : wr.cell? ⟨b1, o1 + k * 3 + 1, none⟩ = some (.string ⟨t.name.toArray⟩) := c1 1 _ rfl
    have a2 : wr.cell? ⟨b1, o1 + k * 3 + 2, none⟩ = some (.bool t.fx) := c1 2 _ rfl
    have e1 : wrap64 ((k : Int) + 1) = (k : Int) + 1 := by have := HI.out.2.2.2.1; unfold wrap64; omega
    have e2 : wrap64 ((cnt : Int) + 1) = (cnt : Int) + 1 := by have := HI.out.2.2.2.1; have := HI.out.2.2.1; unfold wrap64; omega
    have HLt := Lib.hid hlt
    clear hCk hEk hFk hro c1 ht l1 hlt HTk
    cases hfx : t.fx with
    | true =>
     rw [hfx] at a2
     have HX := Lib.hid (show outC ((T.take k).foldl outC C) t = (T.take k).foldl outC C by unfold outC; rw [hfx]; rfl)
     clear hfx
     go_wp2_with fail
     go_roundg (gk - 1)
     case measure => have := HI.out.1; have := HLt.out; omega
     case rel =>
      refine ⟨k + 1, cnt, by go_num, by go_num, Lib.hid ⟨by have := HI.out.1; have := HLt.out; omega, HLt.out, by have := HI.out.2.2.1; omega, HI.out.2.2.2.1, ?_, HI.out.2.2.2.2.2.kp (S := fun _ => False) ((Kq.refl _ _).alloc _) (fun _ _ _ e => e)⟩⟩
      rw [HFo.out, HX.out]
      exact ⟨⟨vk, Ok, HK.out.1.below (below_al (Below.refl _ _) _), HK.out.2.1.more (by simp), fun b hb => by have := HK.out.2.2 b hb; simp; omega⟩, HI.out.2.2.2.2.1.kq.alloc _⟩
    | false =>
     rw [hfx] at a2
     have HX := Lib.hid (outC_cut (C := (T.take k).foldl outC C) hfx)
     obtain ⟨Ck, hCkd⟩ : ∃ Ck, Ck = (T.take k).foldl outC C := ⟨_, rfl⟩
     rw [← hCkd] at HX HFo HK
     have HCd := Lib.hid hCkd
     clear hfx hCkd
     obtain ⟨W1, hW1⟩ : ∃ W1, W1 = (wr.alloc (.cells #[.int .i64 t.id, .string ⟨t.name.toArray⟩, .bool false] 69 (0, 0))).drew := ⟨_, rfl⟩
     have HB1 := Lib.hid (show Below wr.heap.size wr W1 by rw [hW1]; exact Below.drew (below_al (Below.refl _ wr) _))
     have HO1 := Lib.hid (show Obj? W1 wr.heap.size #[.int .i64 t.id, .string ⟨t.name.toArray⟩, .bool false] 69 by rw [hW1]; exact Obj?.new wr _ _)
     have HC1 := Lib.hid (HK.out.1.below HB1.out)
     obtain ⟨W2, hW2⟩ : ∃ W2, W2 = setBlock W1 ib (mapG idE (dropG (fun x : List UInt8 × Int × Nat => x.1) Ck.ids t.name) Ck.idc) := ⟨_, rfl⟩
     obtain ⟨W3, hW3⟩ : ∃ W3, W3 = setBlock W2.drew ab (mapG alE (dropG (fun x : Tp × Nat => x.1.id) Ck.all t.id) Ck.alc) := ⟨_, rfl⟩
     have HZ := Lib.hid (HC1.out.cut t hW2 hW3)
     have hd1 := fun ty kt => del_id (w := W1) HC1.out.ids t.name ty kt
     have hd2 := fun ty kt => del_al (w := W2.drew) (b := ab) (c := Ck.alc) HZ.out.1.2.1 t.id ty kt
     rw [← hW2] at hd1
     rw [← hW3] at hd2
     have hbx : wr.heap.size ≠ ib := fun e => by have := HK.out.1.lt.2.1; omega
     have hbx2 : wr.heap.size ≠ ab := fun e => by have := HK.out.1.lt.2.2.1; omega
     have HO2 := Lib.hid (HO1.out.kp HZ.out.1.2.2 hbx)
     have HO3 := Lib.hid (HO1.out.kp HZ.out.2.2 (fun e => e.elim hbx hbx2))
     have HP := Lib.hid (hpush_any (w := W3.drew) ⟨HZ.out.2.1.cl, HZ.out.2.1.ids, HZ.out.2.1.all, HZ.out.2.1.back, HZ.out.2.1.wf, HZ.out.2.1.ne, HZ.out.2.1.oc, HZ.out.2.1.oi, HZ.out.2.1.oa, HZ.out.2.1.ob⟩ (fun b hb => by have h1 := HK.out.2.2 b hb; have h2 := HB1.out.size; have h3 := HZ.out.2.2.size; show b < W3.heap.size; omega) (by
      have h1 := outsC_len (T.take k) C
      rw [← HCd.out] at h1
      have := HW.out; have := HI.out.2.2.2.1
      rw [List.length_take] at h1
      show Ck.back.length ≤ _
      omega) t.id)
     have g0 : W1.cell? ⟨cb, 0, none⟩ = some (.map (some ib)) := HC1.out.cl.cell 0 _ rfl
     have g1 : W2.cell? ⟨cb, 1, none⟩ = some (.map (some ab)) := HZ.out.1.1.cell 1 _ rfl
     have x1 : W1.cell? ⟨wr.heap.size, 1, none⟩ = some (.string ⟨t.name.toArray⟩) := HO1.out.cell 1 _ rfl
     have y0 : W2.cell? ⟨wr.heap.size, 0, none⟩ = some (.int .i64 t.id) := HO2.out.cell 0 _ rfl
     have z0 : W3.cell? ⟨wr.heap.size, 0, none⟩ = some (.int .i64 t.id) := HO3.out.cell 0 _ rfl
     clear hW2 hW3
     subst hW1
     clear hbx hbx2
     go_wp2_with fail
     go_region
     go_wp2_with fail
     go_region
     go_wp2_with fail
     go_region_with ((go_at_call 449; ((with_reducible refine HP.out.mono ?_); (rintro e w4 ⟨rfl, v4, O4, hC4, hE4, hK4⟩; have H4 := Lib.hid (And.intro hC4 (And.intro hE4 hK4)); clear hC4 hE4 hK4))))
     all_goals
      go_wp2_with fail
      go_roundg (gk - 1)
      case measure => have := HI.out.1; have := HLt.out; omega
      case rel =>
       have hKr : Kq (fun b => O b = some (some n)) w2 w4 := by
        have k1 := (HI.out.2.2.2.2.1.kq.below HB1.out).then HZ.out.2.2 (fun i hi e => by
         rw [← HK.out.2.1.old i hi]
         rcases e with rfl | rfl
         ·exact HK.out.1.oi
         ·exact HK.out.1.oa)
        exact k1.drew.then H4.out.2.2 (fun i hi e => by rw [← HK.out.2.1.old i hi]; exact e)
       have s1 : wr.heap.size ≤ W3.heap.size := Nat.le_trans HB1.out.size HZ.out.2.2.size
       have s2 : W3.heap.size ≤ w4.heap.size := H4.out.2.2.size
       refine ⟨k + 1, cnt + 1, by go_num, by go_num, Lib.hid ⟨by have := HI.out.1; have := HLt.out; omega, HLt.out, by have := HI.out.2.2.1; omega, HI.out.2.2.2.1, ⟨⟨v4, O4, ?_, ?_, ?_⟩, hKr⟩, HRow.out.kp hKr (fun b hb1 _ e => by have := HR.out.fresh b (by rw [e]; simp); omega)⟩⟩
       ·rw [HFo.out, HX.out]; exact H4.out.1
       ·exact HK.out.2.1.trans (H4.out.2.1.less s1) HI.out.2.2.2.2.1.kq.size (Nat.le_trans s1 s2)
       ·intro b hb
        rcases H4.out.2.1 b with h1 | ⟨-, h2, -⟩
        ·have := HK.out.2.2 b (by rw [← h1]; exact hb)
         omega
        ·exact h2
   ·obtain rfl : k = T.length := by have := HI.out.2.1; omega
    obtain ⟨vk, Ok, hCk, hEk, hFk⟩ := HI.out.2.2.2.2.1.cl
    rw [List.take_length, HTd.out] at hCk
    obtain ⟨Ck, hCkd⟩ : ∃ Ck, Ck = (topicsC C).foldl outC C := ⟨_, rfl⟩
    rw [← hCkd] at hCk
    have HK := Lib.hid (And.intro hCk (And.intro hEk hFk))
    have HRk := Lib.hid ((HR.out.below HB.out).upd HL.out HI.out.2.2.2.2.1.kq hEk hCk)
    have HCd := Lib.hid (show clearC (some C) = if Ck.all = [] then none else some Ck by rw [hCkd]; rfl)
    have g1 := hCk.cl.cell 1 (.map (some ab)) rfl
    have hal := hCk.all
    clear hCk hEk hFk hCkd hlt
    have hln : (Builtin.len_ #[107] 3 #[.map (some ab)]).run Tryz.prog wr = .ok (.int .i64 Ck.all.length) wr := len_al hal
    have hKw : Kq (fun b => O b ≠ none) w1 wr := (Kq.of_below HB.out).then HI.out.2.2.2.2.1.kq (fun i hi e => by rw [e]; simp)
    have hOw : ∀ b, b < w1.heap.size → Ok b = O b := fun b hb => HK.out.2.1.old b (Nat.lt_of_lt_of_le hb HB.out.size)
    have HKw := Lib.hid (And.intro hKw hOw)
    clear hKw hOw hal
    by_cases hemp : Ck.all = []
    ·have hl0 : (Ck.all.length : Int) = 0 := by rw [hemp]; rfl
     rw [hl0] at hln
     have HE := Lib.hid hemp
     have hRk := HRk.out
     obtain ⟨mb, es, ec, hM⟩ := hRk
     have HM := Lib.hid hM
     have g0 := hM.reg.cell 0 (.map (some mb)) rfl
     have hd := fun ty kt => del_cl (w := wr) hM.map n ty kt
     clear hM hemp hl0
     go_wp2_with fail
     go_ret
     refine ⟨⟨_, rfl⟩, ?_⟩
     have hK2 : Kq (fun b => b = mb) wr (setBlock wr mb (mapG clE (dropG (fun x : List UInt8 × Nat × Nat => x.1) es n) ec)) := (Kq.refl (fun b => b = mb) wr).setB (r := mb) (.inl rfl) _
     have hdel := HM.out.del (n := n) hK2 (heap_setB (lt_of_heap HM.out.map))
     rw [updL_upd] at hdel
     rw [HCd.out, if_pos HE.out]
     exact ⟨Ok, none, hdel.at, rfl, HKw.out.1.then hK2 (fun i hi e => by subst e; rw [← HKw.out.2 i hi, HM.out.omb]; simp), HKw.out.2⟩
    ·have hl0 : ((Ck.all.length : Int) == 0) = false := by
      have : Ck.all.length ≠ 0 := fun e => hemp (List.eq_nil_of_length_eq_zero e)
      simp; exact hemp
     have HE := Lib.hid hemp
     clear hemp
     go_wp2_with fail
     go_ret
     refine ⟨⟨_, rfl⟩, ?_⟩
     rw [HCd.out, if_neg HE.out]
     exact ⟨Ok, _, HRk.out, rfl, HKw.out.1, HKw.out.2⟩
end Go.Proofs.YtanofjmkkhocaaaGreatDoor
namespace Go.Proofs.YtanofjmkkhocaaaGreatDoor
open Go Go.RowKit Go.MapKept
attribute [local go_sem ↓] load_Msg
attribute [local irreducible] rowSem rowStore
theorem leastT_stop {t : Tp} {r : List Tp} {n : Int} (h : t.id ≠ n) : leastT (t :: r) n = n := by rw [leastT, if_neg h]
theorem leastT_go {t : Tp} {r : List Tp} {n : Int} (h : t.id = n) : leastT (t :: r) n = leastT r (n + 1) := by rw [leastT, if_pos h]
theorem flearn_any {w : World} {rb : Nat} {O : Nat → Own} {L : List UInt8 → Option (Nat × Cl)} (h : RegAt w rb O L) (n : List UInt8) (m : Ms) (hs : m.name.length < 4294967281) (hw : wtO ((L n).map (·.2)) ≤ 1000000000) :
  Calls Tryz.prog 448 #[.pointer (some ⟨rb, 0, none⟩), .string ⟨n.toArray⟩, .agg m.cs] w fun e w' => e = .returned (.int .i64 (learnR ((L n).map (·.2)) m).1) ∧ RegSays w rb O L n (learnR ((L n).map (·.2)) m).2 w' := by
 have HR := Lib.hid h
 have HM0 := Lib.hid (Obj?.new w m.cs 38)
 have HBx := Lib.hid (below_al (Below.refl _ w) (.cells m.cs 38 (0, 0)))
 have HI := Lib.hid (rid_any (HR.out.below HBx.out) n m.name)
 have HW := Lib.hid hw
 have HS := Lib.hid hs
 obtain ⟨o, ho⟩ : ∃ o, o = (L n).map (·.2) := ⟨_, rfl⟩
 have HO := Lib.hid ho
 rw [← ho] at HI HW ⊢
 have k9 : (w.alloc (.cells m.cs 38 (0, 0))).cell? ⟨w.heap.size, 14, none⟩ = some (.string ⟨m.name.toArray⟩) := HM0.out.cell 14 _ rfl
 unfold Ms.cs at k9 HI ⊢
 clear h hs hw ho
 by_cases h1 : (idC o m.name).2 = 0
 ·have H1 := Lib.hid h1
  rw [h1] at HI
  clear h1
  by_cases h2 : (idC o m.name).1 = m.tid
  ·have hc : learnR o m = (0, o) := by unfold learnR; rw [if_pos H1.out, if_pos h2]
   rw [h2] at HI
   rw [hc]
   clear hc h2
   go_enter Tryz.func448, Tryz.ntmps448
   go_wp2_with fail
   refine HI.out.mono ?_
   rintro e w1 ⟨rfl, hb⟩
   have HB := Lib.hid (below_thn HBx.out hb)
   have k6 : w1.cell? ⟨w.heap.size, 11, none⟩ = some (.int .i64 m.tid) := (HM0.out.below hb HM0.out.lt).cell 11 _ rfl
   clear hb
   go_wp2_with fail
   go_ret
   exact ⟨rfl, by rw [HO.out]; exact RegSays.none HR.out HB.out⟩
  ·have hc : learnR o m = (2, o) := by unfold learnR; rw [if_pos H1.out, if_neg h2]
   have d2 : ((idC o m.name).1 == m.tid) = false := by simpa using h2
   rw [hc]
   clear hc
   go_enter Tryz.func448, Tryz.ntmps448
   go_wp2_with fail
   refine HI.out.mono ?_
   rintro e w1 ⟨rfl, hb⟩
   have HB := Lib.hid (below_thn HBx.out hb)
   have k6 : w1.cell? ⟨w.heap.size, 11, none⟩ = some (.int .i64 m.tid) := (HM0.out.below hb HM0.out.lt).cell 11 _ rfl
   clear hb
   go_wp2_with fail
   go_ret
   exact ⟨rfl, by rw [HO.out]; exact RegSays.none HR.out HB.out⟩
 ·have d1 : ((idC o m.name).2 == 0) = false := by simpa using h1
  obtain ⟨T, hT⟩ : ∃ T, T = topsC o := ⟨_, rfl⟩
  have HTd := Lib.hid hT
  have HLr := Lib.hid (show learnR o m = if m.tid = leastT T 1 then ((regC o m.name).1.2.2, (regC o m.name).2) else (2, o) by unfold learnR; rw [if_neg h1, hT])
  have HTl := Lib.hid (show T.length ≤ 1000000000 by
   rw [hT]
   unfold topsC
   have hw := HW.out
   cases o with
   | none => exact Nat.zero_le _
   | some C => simp only [Option.map_some, Option.getD_some, topicsC_len]; simp only [wtO, Option.map_some, Option.getD_some, wtC] at hw; omega)
  clear h1 hT
  go_enter Tryz.func448, Tryz.ntmps448
  go_wp2_with fail
  refine HI.out.mono ?_
  rintro e w1 ⟨rfl, hb⟩
  have HB := Lib.hid (below_thn HBx.out hb)
  have HM1 := Lib.hid (HM0.out.below hb HM0.out.lt)
  have HTp := Lib.hid (rtopics_any (HR.out.below HB.out) n (by rw [← HO.out]; exact HW.out))
  rw [← HO.out, ← HTd.out] at HTp
  clear hb k9
  go_wp2_with fail
  refine HTp.out.mono ?_
  rintro e w2 ⟨vt, rfl, hrow, hb⟩
  have HB2 := Lib.hid (below_thn HB.out hb)
  have HM2 := Lib.hid (HM1.out.below hb HM1.out.lt)
  have HRow := Lib.hid hrow
  obtain ⟨⟨va, vc, hv, hTl, -⟩, -⟩ := hrow
  rw [hv]
  have HV := Lib.hid hv
  clear hb hv
  go_wp2_with fail
  go_loopg [9, 33] (T.length + 1) (fun gk x i wr => ∃ k : Nat, x = .int .i64 (1 + (k : Int)) ∧ i = .int .i64 k ∧ Hid (gk + k = T.length + 1 ∧ k ≤ T.length ∧ leastT T 1 = leastT (T.drop k) (1 + (k : Int)) ∧ Below w2.heap.size w2 wr))
  case atStart => exact ⟨0, rfl, rfl, Lib.hid ⟨by omega, by omega, by simp, Below.refl _ _⟩⟩
  case round =>
   obtain ⟨k, rfl, rfl, HK⟩ := hrel
   have HMr := Lib.hid (HM2.out.below HK.out.2.2.2 HM2.out.lt)
   have HBr := Lib.hid (below_thn HB2.out HK.out.2.2.2)
   by_cases hlt : k < T.length
   ·have hki : (k : Int) < T.length := by omega
    have hro := HRow.out.1.below HK.out.2.2.2
    rw [HV.out] at hro
    obtain ⟨b1, o1, rfl, l1, c1⟩ := hro.at k hlt
    have HDr := Lib.hid (show T.drop k = T[k] :: T.drop (k + 1) from List.drop_eq_getElem_cons hlt)
    obtain ⟨t, ht⟩ : ∃ t, t = T[k] := ⟨_, rfl⟩
    rw [← ht] at c1 HDr
    have a0 : wr.cell? ⟨b1, o1 + k * 3, none⟩ = some (.int .i64 t.id) := c1 0 _ rfl
    have a1 : wr.cell? ⟨b1, o1 + k * 3 + 1, none⟩ = some (.string ⟨t.name.toArray⟩) := c1 1 _ rfl
    have a2 : wr.cell? ⟨b1, o1 + k * 3 + 2, none⟩ = some (.bool t.fx) := c1 2 _ rfl
    have e1 : wrap64 ((k : Int) + 1) = (k : Int) + 1 := by have := HTl.out; unfold wrap64; omega
    have e2 : wrap64 (1 + (k : Int) + 1) = 1 + ((k : Int) + 1) := by have := HTl.out; unfold wrap64; omega
    have HLt := Lib.hid hlt
    clear hro c1 ht l1 hlt hTl
    by_cases hid : t.id = 1 + (k : Int)
    ·have d3 : (t.id == 1 + (k : Int)) = true := by simpa using hid
     have d4 : (t.id != 1 + (k : Int)) = false := by simpa using hid
     have HId := Lib.hid hid
     clear hid
     go_wp2_with fail
     go_roundg (gk - 1)
     case measure => have := HK.out.1; have := HLt.out; omega
     case rel =>
      refine ⟨k + 1, by go_num, by go_num, Lib.hid ⟨by have := HK.out.1; have := HLt.out; omega, HLt.out, ?_, below_thn HK.out.2.2.2 (below_al (Below.refl _ _) _)⟩⟩
      rw [HK.out.2.2.1, HDr.out, leastT_go HId.out]
      congr 1
    ·have d3 : (t.id == 1 + (k : Int)) = false := by simpa using hid
     have HLe := Lib.hid (show leastT T 1 = 1 + (k : Int) by rw [HK.out.2.2.1, HDr.out, leastT_stop hid])
     obtain ⟨W, hW⟩ : ∃ W, W = wr.alloc (.cells #[.int .i64 t.id, .string ⟨t.name.toArray⟩, .bool t.fx] 69 (0, 0)) := ⟨_, rfl⟩
     have HBW := Lib.hid (show Below w.heap.size w W by rw [hW]; exact below_al HBr.out _)
     have HMW := Lib.hid (show Obj? W w.heap.size m.cs 38 by rw [hW]; exact HMr.out.alloc _)
     have k6 : W.cell? ⟨w.heap.size, 11, none⟩ = some (.int .i64 m.tid) := HMW.out.cell 11 _ rfl
     have k14 : W.cell? ⟨w.heap.size, 14, none⟩ = some (.string ⟨m.name.toArray⟩) := HMW.out.cell 14 _ rfl
     have HRg := Lib.hid (rreg_any (HR.out.below HBW.out) n m.name HS.out (by rw [← HO.out]; exact HW.out))
     rw [← HO.out] at HRg
     by_cases hti : m.tid = 1 + (k : Int)
     ·have hl : learnR o m = ((regC o m.name).1.2.2, (regC o m.name).2) := by rw [HLr.out, HLe.out, if_pos hti]
      have d5 : (m.tid == 1 + (k : Int)) = true := by simpa using hti
      have HLl := Lib.hid hl
      clear hti hl
      subst hW
      go_wp2_with fail
      refine HRg.out.mono ?_
      rintro e w5 ⟨rfl, hsay⟩
      have HSay := Lib.hid hsay
      clear hsay
      go_wp2_with fail
      go_ret
      rw [HLl.out]
      obtain ⟨O5, X, q1, q2, q3, q4⟩ := HSay.out
      exact ⟨rfl, O5, X, q1, q2, (Kq.of_below HBW.out).trans q3, fun b hb => q4 b (Nat.lt_of_lt_of_le hb HBW.out.size)⟩
     ·have hl : learnR o m = (2, o) := by rw [HLr.out, HLe.out, if_neg hti]
      have d5 : (m.tid == 1 + (k : Int)) = false := by simpa using hti
      have HLl := Lib.hid hl
      clear hti hl
      subst hW
      go_wp2_with fail
      go_ret
      rw [HLl.out]
      exact ⟨rfl, by rw [HO.out]; exact RegSays.none HR.out HBW.out⟩
   ·obtain rfl : k = T.length := by have := HK.out.2.1; omega
    have HLe := Lib.hid (show leastT T 1 = 1 + (T.length : Int) by rw [HK.out.2.2.1, List.drop_length]; rfl)
    obtain ⟨W, hW⟩ : ∃ W, W = wr := ⟨_, rfl⟩
    have HBW := Lib.hid (show Below w.heap.size w W by rw [hW]; exact HBr.out)
    have HMW := Lib.hid (show Obj? W w.heap.size m.cs 38 by rw [hW]; exact HMr.out)
    clear hlt
    have k6 : W.cell? ⟨w.heap.size, 11, none⟩ = some (.int .i64 m.tid) := HMW.out.cell 11 _ rfl
    have k14 : W.cell? ⟨w.heap.size, 14, none⟩ = some (.string ⟨m.name.toArray⟩) := HMW.out.cell 14 _ rfl
    have HRg := Lib.hid (rreg_any (HR.out.below HBW.out) n m.name HS.out (by rw [← HO.out]; exact HW.out))
    rw [← HO.out] at HRg
    by_cases hti : m.tid = 1 + (T.length : Int)
    ·have hl : learnR o m = ((regC o m.name).1.2.2, (regC o m.name).2) := by rw [HLr.out, HLe.out, if_pos hti]
     have d5 : (m.tid == 1 + (T.length : Int)) = true := by simpa using hti
     have HLl := Lib.hid hl
     clear hti hl
     subst hW
     go_wp2_with fail
     refine HRg.out.mono ?_
     rintro e w5 ⟨rfl, hsay⟩
     have HSay := Lib.hid hsay
     clear hsay
     go_wp2_with fail
     go_ret
     rw [HLl.out]
     obtain ⟨O5, X, q1, q2, q3, q4⟩ := HSay.out
     exact ⟨rfl, O5, X, q1, q2, (Kq.of_below HBW.out).trans q3, fun b hb => q4 b (Nat.lt_of_lt_of_le hb HBW.out.size)⟩
    ·have hl : learnR o m = (2, o) := by rw [HLr.out, HLe.out, if_neg hti]
     have d5 : (m.tid == 1 + (T.length : Int)) = false := by simpa using hti
     have HLl := Lib.hid hl
     clear hti hl
     subst hW
     go_wp2_with fail
     go_ret
     rw [HLl.out]
     exact ⟨rfl, by rw [HO.out]; exact RegSays.none HR.out HBW.out⟩
theorem fLearn_any {w : World} {rb : Nat} {O : Nat → Own} {L : List UInt8 → Option (Nat × Cl)} (h : RegAt w rb O L) (n : List UInt8) (m : Ms) (hn : (m.name.length : Int) ≤ 100000) (hd : (m.data.length : Int) ≤ 100000) (hmx : Mx w) (hw : wtO ((L n).map (·.2)) ≤ 400000000) :
  Calls Tryz.prog 443 #[.pointer (some ⟨rb, 0, none⟩), .string ⟨n.toArray⟩, .agg m.cs] w fun e w' => e = .returned (.int .i64 (learnC ((L n).map (·.2)) m).1) ∧ RegSays w rb O L n (learnC ((L n).map (·.2)) m).2 w' := by
 have HR := Lib.hid h
 have HBx := Lib.hid (below_al (Below.refl _ w) (.cells m.cs 38 (0, 0)))
 have HM0 := Lib.hid (Obj?.new w m.cs 38)
 have HC := Lib.hid (mscheck_any m hn hd _ (hmx.below HBx.out hmx.1))
 have hld := load_msg HM0.out
 have hn2 : m.name.length < 4294967281 := by omega
 have HN := Lib.hid (And.intro hn2 hw)
 obtain ⟨o, ho⟩ : ∃ o, o = (L n).map (·.2) := ⟨_, rfl⟩
 have HO := Lib.hid ho
 rw [← ho]
 have HLl := Lib.hid (fun (W : World) (hW : Below w.heap.size w W) => flearn_any (h.below hW) n m hn2 (by omega))
 have HCl := Lib.hid (fun (W : World) (hW : Below w.heap.size w W) => rclear_any (h.below hW) n hw)
 rw [← ho] at HLl HCl
 unfold Ms.cs at HC hld HLl ⊢
 have SP : ∀ (W w2 : World) (x : Option Cl), Below w.heap.size w W → RegSays W rb O L n x w2 → RegSays w rb O L n x w2 := by
  intro W w2 x hb hsay
  obtain ⟨O5, X, q1, q2, q3, q4⟩ := hsay
  exact ⟨O5, X, q1, q2, (Kq.of_below hb).trans q3, fun b hlt => q4 b (Nat.lt_of_lt_of_le hlt hb.size)⟩
 have HSP := Lib.hid SP
 clear h hn hd hmx hw ho hn2 SP
 by_cases hck : checkM m = 0
 ·rw [hck] at HC
  by_cases h4 : m.ty = 4
  ·by_cases hcl : m.fl.clean = true
   ·have hc : learnC o m = (0, clearC o) := by unfold learnC; rw [if_neg (by rw [hck]; simp), if_pos ⟨h4, hcl⟩]
    rw [hc]
    have HD1 := Lib.hid h4
    have HD2 := Lib.hid hcl
    clear hc hck h4 hcl
    go_enter Tryz.func443, Tryz.ntmps443
    go_wp2_with fail
    refine HC.out.mono ?_
    rintro e w1 ⟨rfl, hb⟩
    have HB := Lib.hid (below_thn HBx.out hb)
    have k0 : w1.cell? ⟨w.heap.size, 0, none⟩ = some (.int .i64 m.ty) := (HM0.out.below hb HM0.out.lt).cell 0 _ rfl
    have k5 : w1.cell? ⟨w.heap.size, 5, none⟩ = some (.bool m.fl.clean) := (HM0.out.below hb HM0.out.lt).cell 5 _ rfl
    rw [HD1.out] at k0
    rw [HD2.out] at k5
    clear hb hld
    go_wp2_with fail
    refine (HCl.out _ HB.out).mono ?_
    rintro e w2 ⟨⟨k, rfl⟩, hsay⟩
    have HSay := Lib.hid (HSP.out _ _ _ HB.out hsay)
    clear hsay
    go_wp2_with fail
    go_ret
    exact ⟨rfl, HSay.out⟩
   ·have hc : learnC o m = (0, o) := by unfold learnC; rw [if_neg (by rw [hck]; simp), if_neg (fun e => hcl e.2), if_neg (by omega)]
    rw [hc]
    have HD1 := Lib.hid h4
    have HD2 := Lib.hid hcl
    clear hc hck h4 hcl
    go_enter Tryz.func443, Tryz.ntmps443
    go_wp2_with fail
    refine HC.out.mono ?_
    rintro e w1 ⟨rfl, hb⟩
    have HB := Lib.hid (below_thn HBx.out hb)
    have k0 : w1.cell? ⟨w.heap.size, 0, none⟩ = some (.int .i64 m.ty) := (HM0.out.below hb HM0.out.lt).cell 0 _ rfl
    have k5 : w1.cell? ⟨w.heap.size, 5, none⟩ = some (.bool m.fl.clean) := (HM0.out.below hb HM0.out.lt).cell 5 _ rfl
    rw [HD1.out] at k0
    rw [show m.fl.clean = false from (Bool.not_eq_true _).mp HD2.out] at k5
    clear hb hld
    go_wp2_with fail
    go_ret
    exact ⟨rfl, by rw [HO.out]; exact RegSays.none HR.out HB.out⟩
  ·have d4 : (m.ty == 4) = false := by simpa using h4
   by_cases h10 : m.ty = 10
   ·have hc : learnC o m = learnR o m := by unfold learnC; rw [if_neg (by rw [hck]; simp), if_neg (fun e => h4 e.1), if_pos h10]
    rw [hc]
    have HD1 := Lib.hid h4
    have HD2 := Lib.hid h10
    clear hc hck h4 h10
    go_enter Tryz.func443, Tryz.ntmps443
    go_wp2_with fail
    refine HC.out.mono ?_
    rintro e w1 ⟨rfl, hb⟩
    have HB := Lib.hid (below_thn HBx.out hb)
    have k0 : w1.cell? ⟨w.heap.size, 0, none⟩ = some (.int .i64 m.ty) := (HM0.out.below hb HM0.out.lt).cell 0 _ rfl
    have hld1 := load_msg (HM0.out.below hb HM0.out.lt)
    have k0' := k0
    rw [HD2.out] at k0'
    clear hb hld k0
    go_wp2_with fail
    refine (HLl.out _ HB.out).mono ?_
    rintro e w2 ⟨rfl, hsay⟩
    have HSay := Lib.hid (HSP.out _ _ _ HB.out hsay)
    clear hsay
    go_wp2_with fail
    go_ret
    exact ⟨rfl, HSay.out⟩
   ·have d10 : (m.ty == 10) = false := by simpa using h10
    have hc : learnC o m = (0, o) := by unfold learnC; rw [if_neg (by rw [hck]; simp), if_neg (fun e => h4 e.1), if_neg h10]
    rw [hc]
    have HD1 := Lib.hid h4
    have HD2 := Lib.hid h10
    clear hc hck h4 h10
    go_enter Tryz.func443, Tryz.ntmps443
    go_wp2_with fail
    refine HC.out.mono ?_
    rintro e w1 ⟨rfl, hb⟩
    have HB := Lib.hid (below_thn HBx.out hb)
    have k0 : w1.cell? ⟨w.heap.size, 0, none⟩ = some (.int .i64 m.ty) := (HM0.out.below hb HM0.out.lt).cell 0 _ rfl
    clear hb hld
    go_wp2_with fail
    go_ret
    exact ⟨rfl, by rw [HO.out]; exact RegSays.none HR.out HB.out⟩
 ·have d0 : (checkM m == 0) = false := by simpa using hck
  have d1 : (checkM m != 0) = true := by simpa using hck
  have hc : learnC o m = (checkM m, o) := by unfold learnC; rw [if_pos hck]
  rw [hc]
  clear hc
  go_enter Tryz.func443, Tryz.ntmps443
  go_wp2_with fail
  refine HC.out.mono ?_
  rintro e w1 ⟨rfl, hb⟩
  have HB := Lib.hid (below_thn HBx.out hb)
  clear hb hld
  go_wp2_with fail
  go_ret
  exact ⟨rfl, by rw [HO.out]; exact RegSays.none HR.out HB.out⟩
end Go.Proofs.YtanofjmkkhocaaaGreatDoor
