/- registry: Predefine. -/
import Derived.Test.YtanofjmkkhocaaaGreatDoorTcJ
set_option linter.unusedVariables false
set_option linter.unusedSimpArgs false
set_option maxRecDepth 100000
set_option maxHeartbeats 3200000
namespace Go.Proofs.YtanofjmkkhocaaaGreatDoor
open Go Go.RowKit Go.MapKept
open Go.ChangeMaps (setBlock)
theorem RegSays.keep {w w2 : World} {rb : Nat} {O : Nat → Own} {L : List UInt8 → Option (Nat × Cl)} {n : List UInt8} {cb : Nat} {C : Cl} (h : RegAt w rb O L) (hL : L n = some (cb, C)) (hb : Below w.heap.size w w2) : RegSays w rb O L n (some C) w2 := by
 have := RegSays.none (n := n) h hb
 rw [hL] at this
 exact this
theorem eql_tp (a b : Int) (s t : List UInt8) (f g : Bool) (w : World) : (binOp .eql 69 (.agg #[.int .i64 a, .string ⟨s.toArray⟩, .bool f]) (.agg #[.int .i64 b, .string ⟨t.toArray⟩, .bool g])).run Tryz.prog w = .ok (.bool (decide ((⟨a, s, f⟩ : Tp) = ⟨b, t, g⟩))) w := by
 go_simp
 by_cases h0 : a = b <;> by_cases h1 : s = t <;> by_cases h2 : f = g <;> simp [h0, h1, h2]
theorem rpre_any {w : World} {rb : Nat} {O : Nat → Own} {L : List UInt8 → Option (Nat × Cl)} (h : RegAt w rb O L) (n s : List UInt8) (id : Int) (hs : s.length < 4294967281) :
  Calls Tryz.prog 20 #[.pointer (some ⟨rb, 0, none⟩), .string ⟨n.toArray⟩, .string ⟨s.toArray⟩, .int .i64 id] w fun e w' => e = .returned (.int .i64 (preC ((L n).map (·.2)) s id).1) ∧ RegSays w rb O L n (preC ((L n).map (·.2)) s id).2 w' := by
 have HN := Lib.hid (name_any s hs w)
 have HR := Lib.hid h
 clear h hs
 cases hb : nameB s with
 | false =>
  rw [hb] at HN
  have hc : preC ((L n).map (·.2)) s id = (10, (L n).map (·.2)) := by unfold preC; rw [if_pos hb]
  rw [hc]
  clear hb hc
  go_enter Tryz.func20, Tryz.ntmps20
  go_wp2_with fail
  refine HN.out.mono ?_
  rintro e w1 ⟨rfl, hb⟩
  have HB := Lib.hid hb
  clear hb
  go_wp2_with fail
  go_ret
  exact ⟨rfl, RegSays.none HR.out HB.out⟩
 | true =>
  rw [hb] at HN
  have HNm := Lib.hid hb
  clear hb
  by_cases hid : id < 1 ∨ 65534 < id
  ·have hc : preC ((L n).map (·.2)) s id = (2, (L n).map (·.2)) := by unfold preC; rw [if_neg (by rw [HNm.out]; simp), if_pos hid]
   rw [hc]
   clear hc
   by_cases h1 : id < 1
   ·clear hid
    go_enter Tryz.func20, Tryz.ntmps20
    go_wp2_with fail
    refine HN.out.mono ?_
    rintro e w1 ⟨rfl, hb⟩
    have HB := Lib.hid hb
    clear hb
    go_wp2_with fail
    go_ret
    exact ⟨rfl, RegSays.none HR.out HB.out⟩
   ·have h2 : 65534 < id := hid.resolve_left h1
    clear hid
    go_enter Tryz.func20, Tryz.ntmps20
    go_wp2_with fail
    refine HN.out.mono ?_
    rintro e w1 ⟨rfl, hb⟩
    have HB := Lib.hid hb
    clear hb
    go_wp2_with fail
    go_ret
    exact ⟨rfl, RegSays.none HR.out HB.out⟩
  ·have h1 : ¬ id < 1 := fun e => hid (.inl e)
   have h2 : ¬ 65534 < id := fun e => hid (.inr e)
   have HId := Lib.hid hid
   clear hid
   cases hL : L n with
   | none =>
    have HL := Lib.hid hL
    have HPc := Lib.hid (show preC ((L n).map (·.2)) s id = (0, some (putC newCl ⟨id, s, true⟩)) by
     unfold preC; rw [if_neg (by rw [HNm.out]; simp), if_neg HId.out, hL]; rfl)
    rw [hL] at HPc
    have HT := Lib.hid (show hasT newCl id = false ∧ idOf newCl s = none from ⟨rfl, rfl⟩)
    clear hL
    go_enter Tryz.func20, Tryz.ntmps20
    go_wp2_with fail
    refine HN.out.mono ?_
    rintro e w1 ⟨rfl, hb⟩
    have HB := Lib.hid hb
    obtain ⟨W2, hW2⟩ : ∃ W2, W2 = w1.alloc (.cells #[.int .i64 id, .string ⟨s.toArray⟩, .bool true] 69 (0, 0)) := ⟨_, rfl⟩
    have HW2 := Lib.hid hW2
    have HBW := Lib.hid (show Below w.heap.size w W2 by rw [hW2]; exact below_al HB.out _)
    have HOx := Lib.hid (show Obj? W2 w1.heap.size #[.int .i64 id, .string ⟨s.toArray⟩, .bool true] 69 by rw [hW2]; exact Obj?.new w1 _ _)
    have HRw := Lib.hid (HR.out.below HBW.out)
    have HOn := Lib.hid (show O w1.heap.size = none by
     cases hO : O w1.heap.size with
     | none => rfl
     | some x => have := HR.out.fresh _ (by rw [hO]; simp); have := HB.out.size; omega)
    have HOf := Lib.hid (of_any HRw.out n)
    rw [HL.out] at HOf
    clear hb hW2
    go_wp2_with fail
    rw [← HW2.out]
    refine HOf.out.mono ?_
    rintro e w3 ⟨rfl, hw3⟩
    rw [hw3]
    clear hw3
    unfold ptrL
    go_wp2_with fail
    have HNd := Lib.hid (need_any (w := W2.drew) (HRw.out.kp (S := fun _ => False) (.drew (.refl _ _)) (fun _ _ e => e)) n)
    have x0 : W2.cell? ⟨w1.heap.size, 0, none⟩ = some (.int .i64 id) := HOx.out.cell 0 _ rfl
    have x1 : W2.cell? ⟨w1.heap.size, 1, none⟩ = some (.string ⟨s.toArray⟩) := HOx.out.cell 1 _ rfl
    have x2 : W2.cell? ⟨w1.heap.size, 2, none⟩ = some (.bool true) := HOx.out.cell 2 _ rfl
    rw [HL.out] at HNd
    simp only [Option.map_none, Option.map_some, Option.getD_none, Option.getD_some] at HNd
    go_region_with ((first
     | (go_at_call 38; ((with_reducible refine HNd.out.mono ?_); (rintro r w6 ⟨cb6, O1, rfl, hR6, hK6, hO6⟩; have HO6 := Lib.hid (HOx.out.kp (w := W2) (w' := w6) (((Kq.refl (fun b => O b ≠ none) W2).drew).trans hK6) (fun e => e (HOn.out))); have y0 := HO6.out.cell 0 (.int .i64 id) rfl; have y1 := HO6.out.cell 1 (.string ⟨s.toArray⟩) rfl; have y2 := HO6.out.cell 2 (.bool true) rfl; have HR6 := Lib.hid (And.intro hR6 (And.intro hK6 hO6)); obtain ⟨ib6, ab6, v6, hC6⟩ := hR6.client (updL_same _ _ _); have HC6 := Lib.hid hC6; have HP6 := Lib.hid (cput_any hC6 hR6.fresh ⟨id, s, true⟩ HT.out.1 HT.out.2); unfold Tp.cs at HP6; simp only at HP6; clear hR6 hK6 hO6 hC6)))
     | (go_at_call 40; ((with_reducible refine HP6.out.mono ?_); (rintro r w7 ⟨rfl, hC7, hK7⟩; have HC7 := Lib.hid (And.intro hC7 hK7); clear hC7 hK7)))))
    all_goals
     go_wp2_with fail
     go_ret
     have hz := HR6.out.1.upd (updL_same _ _ _) HC7.out.2 (ExtO.refl n w6 w7 O1) HC7.out.1
     rw [updL_upd] at hz
     rw [HPc.out]
     exact ⟨rfl, O1, _, hz, rfl, (((Kq.of_below HBW.out).drew).trans HR6.out.2.1).then HC7.out.2 (fun i hi e => by rw [HR6.out.2.2 i (Nat.lt_of_lt_of_le hi HBW.out.size)] at e; rw [e]; simp), fun b hb => HR6.out.2.2 b (Nat.lt_of_lt_of_le hb HBW.out.size)⟩
   | some p =>
    obtain ⟨cb, C⟩ := p
    have HL := Lib.hid hL
    obtain ⟨ib, ab, v, hC⟩ := HR.out.client hL
    have HC := Lib.hid hC
    have HPc0 := Lib.hid (show preC ((L n).map (·.2)) s id = (if tpOf C id = some ⟨id, s, true⟩ then (0, some C) else if (idOf C s).isSome ∨ hasT C id = true then (16, some C) else (0, some (putC C ⟨id, s, true⟩))) by
     unfold preC; rw [if_neg (by rw [HNm.out]; simp), if_neg HId.out, hL]; rfl)
    rw [hL] at HPc0
    clear hL hC
    cases hx : lookG (fun x : Tp × Nat => x.1.id) C.all 0 id with
    | some q =>
     obtain ⟨j, t, bo⟩ := q
     have HX := Lib.hid hx
     have HHs := Lib.hid (show hasT C id = true by unfold hasT; rw [hx]; rfl)
     have HTp := Lib.hid (show tpOf C id = some t by unfold tpOf; rw [hx]; rfl)
     clear hx
     by_cases he : (⟨t.id, t.name, t.fx⟩ : Tp) = ⟨id, s, true⟩
     ·have HE := Lib.hid he
      have HPc := Lib.hid (HPc0.out.trans (if_pos (by rw [HTp.out]; exact congrArg some he)))
      clear he
      go_enter Tryz.func20, Tryz.ntmps20
      go_wp2_with fail
      refine HN.out.mono ?_
      rintro e w1 ⟨rfl, hb⟩
      have HB := Lib.hid hb
      obtain ⟨W2, hW2⟩ : ∃ W2, W2 = w1.alloc (.cells #[.int .i64 id, .string ⟨s.toArray⟩, .bool true] 69 (0, 0)) := ⟨_, rfl⟩
      have HW2 := Lib.hid hW2
      have HBW := Lib.hid (show Below w.heap.size w W2 by rw [hW2]; exact below_al HB.out _)
      have HOx := Lib.hid (show Obj? W2 w1.heap.size #[.int .i64 id, .string ⟨s.toArray⟩, .bool true] 69 by rw [hW2]; exact Obj?.new w1 _ _)
      have HRw := Lib.hid (HR.out.below HBW.out)
      have HOf := Lib.hid (of_any HRw.out n)
      rw [HL.out, ptr_some] at HOf
      have HC2 := Lib.hid (HC.out.below HBW.out)
      clear hb hW2
      go_wp2_with fail
      rw [← HW2.out]
      refine HOf.out.mono ?_
      rintro e w3 ⟨rfl, hw3⟩
      rw [hw3]
      clear hw3
      have hl := (look_al HC2.out.all id).2
      have hf : lookG (fun x : Tp × Nat => x.1.id) C.all 0 id = some (j, t, bo) := HX.out
      rw [hf] at hl
      simp only [Option.map_some, Option.map_none, Option.getD_some, Option.getD_none, Option.isSome_some, Option.isSome_none] at hl
      unfold Tp.cs at hl
      obtain ⟨W3, hW3⟩ : ∃ W3, W3 = W2.alloc (.cells #[.int .i64 t.id, .string ⟨t.name.toArray⟩, .bool t.fx] 69 (0, 0)) := ⟨_, rfl⟩
      have HW3 := Lib.hid hW3
      have HB3 := Lib.hid (show Below W2.heap.size W2 W3 by rw [hW3]; exact below_al (Below.refl _ _) _)
      have HC3 := Lib.hid (HC2.out.below HB3.out)
      have k1 : W2.cell? ⟨cb, 1, none⟩ = some (.map (some ab)) := HC2.out.cl.cell 1 _ rfl
      have l3 := tlook_id HC3.out.ids s
      have k0 : W3.cell? ⟨cb, 0, none⟩ = some (.map (some ib)) := HC3.out.cl.cell 0 _ rfl
      have x0 : W3.cell? ⟨w1.heap.size, 0, none⟩ = some (.int .i64 id) := (HOx.out.below HB3.out HOx.out.lt).cell 0 _ rfl
      have x1 : W3.cell? ⟨w1.heap.size, 1, none⟩ = some (.string ⟨s.toArray⟩) := (HOx.out.below HB3.out HOx.out.lt).cell 1 _ rfl
      have x2 : W3.cell? ⟨w1.heap.size, 2, none⟩ = some (.bool true) := (HOx.out.below HB3.out HOx.out.lt).cell 2 _ rfl
      have hq := eql_tp t.id id t.name s t.fx true
      rw [decide_eq_true HE.out] at hq
      have HH := Lib.hid (chas_any HC3.out id)
      rw [HHs.out] at HH
      rw [hW3] at l3 k0 x0 x1 x2
      clear hf hW3
      go_wp2_with fail
      go_ret
      rw [HPc.out]
      exact ⟨rfl, RegSays.keep HR.out HL.out (below_thn HBW.out (by rw [← HW3.out]; exact HB3.out))⟩
     ·have HE := Lib.hid he
      have HPc := Lib.hid (HPc0.out.trans ((if_neg (by rw [HTp.out]; exact fun e => he (Option.some.inj e))).trans (if_pos (.inr HHs.out))))
      clear he
      cases hi : idOf C s with
      | some z =>
       have HI := Lib.hid hi
       clear hi
       go_enter Tryz.func20, Tryz.ntmps20
       go_wp2_with fail
       refine HN.out.mono ?_
       rintro e w1 ⟨rfl, hb⟩
       have HB := Lib.hid hb
       obtain ⟨W2, hW2⟩ : ∃ W2, W2 = w1.alloc (.cells #[.int .i64 id, .string ⟨s.toArray⟩, .bool true] 69 (0, 0)) := ⟨_, rfl⟩
       have HW2 := Lib.hid hW2
       have HBW := Lib.hid (show Below w.heap.size w W2 by rw [hW2]; exact below_al HB.out _)
       have HOx := Lib.hid (show Obj? W2 w1.heap.size #[.int .i64 id, .string ⟨s.toArray⟩, .bool true] 69 by rw [hW2]; exact Obj?.new w1 _ _)
       have HRw := Lib.hid (HR.out.below HBW.out)
       have HOf := Lib.hid (of_any HRw.out n)
       rw [HL.out, ptr_some] at HOf
       have HC2 := Lib.hid (HC.out.below HBW.out)
       clear hb hW2
       go_wp2_with fail
       rw [← HW2.out]
       refine HOf.out.mono ?_
       rintro e w3 ⟨rfl, hw3⟩
       rw [hw3]
       clear hw3
       have hl := (look_al HC2.out.all id).2
       have hf : lookG (fun x : Tp × Nat => x.1.id) C.all 0 id = some (j, t, bo) := HX.out
       rw [hf] at hl
       simp only [Option.map_some, Option.map_none, Option.getD_some, Option.getD_none, Option.isSome_some, Option.isSome_none] at hl
       unfold Tp.cs at hl
       obtain ⟨W3, hW3⟩ : ∃ W3, W3 = W2.alloc (.cells #[.int .i64 t.id, .string ⟨t.name.toArray⟩, .bool t.fx] 69 (0, 0)) := ⟨_, rfl⟩
       have HW3 := Lib.hid hW3
       have HB3 := Lib.hid (show Below W2.heap.size W2 W3 by rw [hW3]; exact below_al (Below.refl _ _) _)
       have HC3 := Lib.hid (HC2.out.below HB3.out)
       have k1 : W2.cell? ⟨cb, 1, none⟩ = some (.map (some ab)) := HC2.out.cl.cell 1 _ rfl
       have l3 := tlook_id HC3.out.ids s
       have k0 : W3.cell? ⟨cb, 0, none⟩ = some (.map (some ib)) := HC3.out.cl.cell 0 _ rfl
       have x0 : W3.cell? ⟨w1.heap.size, 0, none⟩ = some (.int .i64 id) := (HOx.out.below HB3.out HOx.out.lt).cell 0 _ rfl
       have x1 : W3.cell? ⟨w1.heap.size, 1, none⟩ = some (.string ⟨s.toArray⟩) := (HOx.out.below HB3.out HOx.out.lt).cell 1 _ rfl
       have x2 : W3.cell? ⟨w1.heap.size, 2, none⟩ = some (.bool true) := (HOx.out.below HB3.out HOx.out.lt).cell 2 _ rfl
       have hq := eql_tp t.id id t.name s t.fx true
       rw [decide_eq_false HE.out] at hq
       have hix : (lookG (fun x : List UInt8 × Int × Nat => x.1) C.ids 0 s).map (·.2.2.1) = some z := HI.out
       rw [hix] at l3
       clear hix
       have HH := Lib.hid (chas_any HC3.out id)
       rw [HHs.out] at HH
       rw [hW3] at l3 k0 x0 x1 x2
       clear hf hW3
       go_wp2_with fail
       go_ret
       rw [HPc.out]
       exact ⟨rfl, RegSays.keep HR.out HL.out (below_thn HBW.out (by rw [← HW3.out]; exact HB3.out))⟩
      | none =>
       have HI := Lib.hid hi
       clear hi
       go_enter Tryz.func20, Tryz.ntmps20
       go_wp2_with fail
       refine HN.out.mono ?_
       rintro e w1 ⟨rfl, hb⟩
       have HB := Lib.hid hb
       obtain ⟨W2, hW2⟩ : ∃ W2, W2 = w1.alloc (.cells #[.int .i64 id, .string ⟨s.toArray⟩, .bool true] 69 (0, 0)) := ⟨_, rfl⟩
       have HW2 := Lib.hid hW2
       have HBW := Lib.hid (show Below w.heap.size w W2 by rw [hW2]; exact below_al HB.out _)
       have HOx := Lib.hid (show Obj? W2 w1.heap.size #[.int .i64 id, .string ⟨s.toArray⟩, .bool true] 69 by rw [hW2]; exact Obj?.new w1 _ _)
       have HRw := Lib.hid (HR.out.below HBW.out)
       have HOf := Lib.hid (of_any HRw.out n)
       rw [HL.out, ptr_some] at HOf
       have HC2 := Lib.hid (HC.out.below HBW.out)
       clear hb hW2
       go_wp2_with fail
       rw [← HW2.out]
       refine HOf.out.mono ?_
       rintro e w3 ⟨rfl, hw3⟩
       rw [hw3]
       clear hw3
       have hl := (look_al HC2.out.all id).2
       have hf : lookG (fun x : Tp × Nat => x.1.id) C.all 0 id = some (j, t, bo) := HX.out
       rw [hf] at hl
       simp only [Option.map_some, Option.map_none, Option.getD_some, Option.getD_none, Option.isSome_some, Option.isSome_none] at hl
       unfold Tp.cs at hl
       obtain ⟨W3, hW3⟩ : ∃ W3, W3 = W2.alloc (.cells #[.int .i64 t.id, .string ⟨t.name.toArray⟩, .bool t.fx] 69 (0, 0)) := ⟨_, rfl⟩
       have HW3 := Lib.hid hW3
       have HB3 := Lib.hid (show Below W2.heap.size W2 W3 by rw [hW3]; exact below_al (Below.refl _ _) _)
       have HC3 := Lib.hid (HC2.out.below HB3.out)
       have k1 : W2.cell? ⟨cb, 1, none⟩ = some (.map (some ab)) := HC2.out.cl.cell 1 _ rfl
       have l3 := tlook_id HC3.out.ids s
       have k0 : W3.cell? ⟨cb, 0, none⟩ = some (.map (some ib)) := HC3.out.cl.cell 0 _ rfl
       have x0 : W3.cell? ⟨w1.heap.size, 0, none⟩ = some (.int .i64 id) := (HOx.out.below HB3.out HOx.out.lt).cell 0 _ rfl
       have x1 : W3.cell? ⟨w1.heap.size, 1, none⟩ = some (.string ⟨s.toArray⟩) := (HOx.out.below HB3.out HOx.out.lt).cell 1 _ rfl
       have x2 : W3.cell? ⟨w1.heap.size, 2, none⟩ = some (.bool true) := (HOx.out.below HB3.out HOx.out.lt).cell 2 _ rfl
       have hq := eql_tp t.id id t.name s t.fx true
       rw [decide_eq_false HE.out] at hq
       have hix : (lookG (fun x : List UInt8 × Int × Nat => x.1) C.ids 0 s).map (·.2.2.1) = none := HI.out
       rw [hix] at l3
       clear hix
       have HH := Lib.hid (chas_any HC3.out id)
       rw [HHs.out] at HH
       rw [hW3] at l3 k0 x0 x1 x2
       clear hf hW3
       go_wp2_with fail
       rw [← HW3.out]
       refine HH.out.mono ?_
       rintro e w4 ⟨rfl, hb4⟩
       have HB4 := Lib.hid (below_thn HB3.out hb4)
       clear hb4
       go_wp2_with fail
       go_ret
       rw [HPc.out]
       exact ⟨rfl, RegSays.keep HR.out HL.out (below_thn HBW.out HB4.out)⟩
    | none =>
     have HX := Lib.hid hx
     have HHs := Lib.hid (show hasT C id = false by unfold hasT; rw [hx]; rfl)
     have HTp := Lib.hid (show tpOf C id = none by unfold tpOf; rw [hx]; rfl)
     clear hx
     cases hi : idOf C s with
     | some z =>
      have HI := Lib.hid hi
      have HPc := Lib.hid (HPc0.out.trans ((if_neg (by rw [HTp.out]; simp)).trans (if_pos (.inl (by rw [hi]; rfl)))))
      clear hi
      go_enter Tryz.func20, Tryz.ntmps20
      go_wp2_with fail
      refine HN.out.mono ?_
      rintro e w1 ⟨rfl, hb⟩
      have HB := Lib.hid hb
      obtain ⟨W2, hW2⟩ : ∃ W2, W2 = w1.alloc (.cells #[.int .i64 id, .string ⟨s.toArray⟩, .bool true] 69 (0, 0)) := ⟨_, rfl⟩
      have HW2 := Lib.hid hW2
      have HBW := Lib.hid (show Below w.heap.size w W2 by rw [hW2]; exact below_al HB.out _)
      have HOx := Lib.hid (show Obj? W2 w1.heap.size #[.int .i64 id, .string ⟨s.toArray⟩, .bool true] 69 by rw [hW2]; exact Obj?.new w1 _ _)
      have HRw := Lib.hid (HR.out.below HBW.out)
      have HOf := Lib.hid (of_any HRw.out n)
      rw [HL.out, ptr_some] at HOf
      have HC2 := Lib.hid (HC.out.below HBW.out)
      clear hb hW2
      go_wp2_with fail
      rw [← HW2.out]
      refine HOf.out.mono ?_
      rintro e w3 ⟨rfl, hw3⟩
      rw [hw3]
      clear hw3
      have hl := (look_al HC2.out.all id).2
      have hf : lookG (fun x : Tp × Nat => x.1.id) C.all 0 id = none := HX.out
      rw [hf] at hl
      simp only [Option.map_some, Option.map_none, Option.getD_some, Option.getD_none, Option.isSome_some, Option.isSome_none] at hl
      unfold tp0 Tp.cs at hl
      obtain ⟨W3, hW3⟩ : ∃ W3, W3 = W2.alloc (.cells #[.int .i64 0, .string ⟨#[]⟩, .bool false] 69 (0, 0)) := ⟨_, rfl⟩
      have HW3 := Lib.hid hW3
      have HB3 := Lib.hid (show Below W2.heap.size W2 W3 by rw [hW3]; exact below_al (Below.refl _ _) _)
      have HC3 := Lib.hid (HC2.out.below HB3.out)
      have k1 : W2.cell? ⟨cb, 1, none⟩ = some (.map (some ab)) := HC2.out.cl.cell 1 _ rfl
      have l3 := tlook_id HC3.out.ids s
      have k0 : W3.cell? ⟨cb, 0, none⟩ = some (.map (some ib)) := HC3.out.cl.cell 0 _ rfl
      have x0 : W3.cell? ⟨w1.heap.size, 0, none⟩ = some (.int .i64 id) := (HOx.out.below HB3.out HOx.out.lt).cell 0 _ rfl
      have x1 : W3.cell? ⟨w1.heap.size, 1, none⟩ = some (.string ⟨s.toArray⟩) := (HOx.out.below HB3.out HOx.out.lt).cell 1 _ rfl
      have x2 : W3.cell? ⟨w1.heap.size, 2, none⟩ = some (.bool true) := (HOx.out.below HB3.out HOx.out.lt).cell 2 _ rfl
      have hix : (lookG (fun x : List UInt8 × Int × Nat => x.1) C.ids 0 s).map (·.2.2.1) = some z := HI.out
      rw [hix] at l3
      clear hix
      have HH := Lib.hid (chas_any HC3.out id)
      rw [HHs.out] at HH
      rw [hW3] at l3 k0 x0 x1 x2
      clear hf hW3
      go_wp2_with fail
      go_ret
      rw [HPc.out]
      exact ⟨rfl, RegSays.keep HR.out HL.out (below_thn HBW.out (by rw [← HW3.out]; exact HB3.out))⟩
     | none =>
      have HI := Lib.hid hi
      have HT := Lib.hid (And.intro HHs.out hi)
      have HPc := Lib.hid (HPc0.out.trans ((if_neg (by rw [HTp.out]; simp)).trans (if_neg (by rw [hi, HHs.out]; simp))))
      clear hi
      go_enter Tryz.func20, Tryz.ntmps20
      go_wp2_with fail
      refine HN.out.mono ?_
      rintro e w1 ⟨rfl, hb⟩
      have HB := Lib.hid hb
      obtain ⟨W2, hW2⟩ : ∃ W2, W2 = w1.alloc (.cells #[.int .i64 id, .string ⟨s.toArray⟩, .bool true] 69 (0, 0)) := ⟨_, rfl⟩
      have HW2 := Lib.hid hW2
      have HBW := Lib.hid (show Below w.heap.size w W2 by rw [hW2]; exact below_al HB.out _)
      have HOx := Lib.hid (show Obj? W2 w1.heap.size #[.int .i64 id, .string ⟨s.toArray⟩, .bool true] 69 by rw [hW2]; exact Obj?.new w1 _ _)
      have HRw := Lib.hid (HR.out.below HBW.out)
      have HOf := Lib.hid (of_any HRw.out n)
      rw [HL.out, ptr_some] at HOf
      have HC2 := Lib.hid (HC.out.below HBW.out)
      clear hb hW2
      go_wp2_with fail
      rw [← HW2.out]
      refine HOf.out.mono ?_
      rintro e w3 ⟨rfl, hw3⟩
      rw [hw3]
      clear hw3
      have hl := (look_al HC2.out.all id).2
      have hf : lookG (fun x : Tp × Nat => x.1.id) C.all 0 id = none := HX.out
      rw [hf] at hl
      simp only [Option.map_some, Option.map_none, Option.getD_some, Option.getD_none, Option.isSome_some, Option.isSome_none] at hl
      unfold tp0 Tp.cs at hl
      obtain ⟨W3, hW3⟩ : ∃ W3, W3 = W2.alloc (.cells #[.int .i64 0, .string ⟨#[]⟩, .bool false] 69 (0, 0)) := ⟨_, rfl⟩
      have HW3 := Lib.hid hW3
      have HB3 := Lib.hid (show Below W2.heap.size W2 W3 by rw [hW3]; exact below_al (Below.refl _ _) _)
      have HC3 := Lib.hid (HC2.out.below HB3.out)
      have k1 : W2.cell? ⟨cb, 1, none⟩ = some (.map (some ab)) := HC2.out.cl.cell 1 _ rfl
      have l3 := tlook_id HC3.out.ids s
      have k0 : W3.cell? ⟨cb, 0, none⟩ = some (.map (some ib)) := HC3.out.cl.cell 0 _ rfl
      have x0 : W3.cell? ⟨w1.heap.size, 0, none⟩ = some (.int .i64 id) := (HOx.out.below HB3.out HOx.out.lt).cell 0 _ rfl
      have x1 : W3.cell? ⟨w1.heap.size, 1, none⟩ = some (.string ⟨s.toArray⟩) := (HOx.out.below HB3.out HOx.out.lt).cell 1 _ rfl
      have x2 : W3.cell? ⟨w1.heap.size, 2, none⟩ = some (.bool true) := (HOx.out.below HB3.out HOx.out.lt).cell 2 _ rfl
      have hix : (lookG (fun x : List UInt8 × Int × Nat => x.1) C.ids 0 s).map (·.2.2.1) = none := HI.out
      rw [hix] at l3
      clear hix
      have HH := Lib.hid (chas_any HC3.out id)
      rw [HHs.out] at HH
      rw [hW3] at l3 k0 x0 x1 x2
      clear hf hW3
      go_wp2_with fail
      rw [← HW3.out]
      refine HH.out.mono ?_
      rintro e w4 ⟨rfl, hb4⟩
      have HB4 := Lib.hid (below_thn HBW.out (below_thn HB3.out hb4))
      have HOx4 := Lib.hid ((HOx.out.below HB3.out HOx.out.lt).below hb4 (HOx.out.below HB3.out HOx.out.lt).lt)
      have HRw4 := Lib.hid (HR.out.below HB4.out)
      have HOn := Lib.hid (show O w1.heap.size = none by
       cases hO : O w1.heap.size with
       | none => rfl
       | some x => have := HR.out.fresh _ (by rw [hO]; simp); have := HB.out.size; omega)
      clear hb4 l3 k0 x0 x1 x2 hl k1
      go_wp2_with fail
      have HNd := Lib.hid (need_any (w := w4.drew) (HRw4.out.kp (S := fun _ => False) (.drew (.refl _ _)) (fun _ _ e => e)) n)
      have x0 : w4.cell? ⟨w1.heap.size, 0, none⟩ = some (.int .i64 id) := HOx4.out.cell 0 _ rfl
      have x1 : w4.cell? ⟨w1.heap.size, 1, none⟩ = some (.string ⟨s.toArray⟩) := HOx4.out.cell 1 _ rfl
      have x2 : w4.cell? ⟨w1.heap.size, 2, none⟩ = some (.bool true) := HOx4.out.cell 2 _ rfl
      rw [HL.out] at HNd
      simp only [Option.map_none, Option.map_some, Option.getD_none, Option.getD_some] at HNd
      go_region_with ((first
       | (go_at_call 38; ((with_reducible refine HNd.out.mono ?_); (rintro r w6 ⟨cb6, O1, rfl, hR6, hK6, hO6⟩; have HO6 := Lib.hid (HOx4.out.kp (w := w4) (w' := w6) (((Kq.refl (fun b => O b ≠ none) w4).drew).trans hK6) (fun e => e (HOn.out))); have y0 := HO6.out.cell 0 (.int .i64 id) rfl; have y1 := HO6.out.cell 1 (.string ⟨s.toArray⟩) rfl; have y2 := HO6.out.cell 2 (.bool true) rfl; have HR6 := Lib.hid (And.intro hR6 (And.intro hK6 hO6)); obtain ⟨ib6, ab6, v6, hC6⟩ := hR6.client (updL_same _ _ _); have HC6 := Lib.hid hC6; have HP6 := Lib.hid (cput_any hC6 hR6.fresh ⟨id, s, true⟩ HT.out.1 HT.out.2); unfold Tp.cs at HP6; simp only at HP6; clear hR6 hK6 hO6 hC6)))
       | (go_at_call 40; ((with_reducible refine HP6.out.mono ?_); (rintro r w7 ⟨rfl, hC7, hK7⟩; have HC7 := Lib.hid (And.intro hC7 hK7); clear hC7 hK7)))))
      all_goals
       go_wp2_with fail
       go_ret
       have hz := HR6.out.1.upd (updL_same _ _ _) HC7.out.2 (ExtO.refl n w6 w7 O1) HC7.out.1
       rw [updL_upd] at hz
       rw [HPc.out]
       exact ⟨rfl, O1, _, hz, rfl, (((Kq.of_below HB4.out).drew).trans HR6.out.2.1).then HC7.out.2 (fun i hi e => by rw [HR6.out.2.2 i (Nat.lt_of_lt_of_le hi HB4.out.size)] at e; rw [e]; simp), fun b hb => HR6.out.2.2 b (Nat.lt_of_lt_of_le hb HB4.out.size)⟩
end Go.Proofs.YtanofjmkkhocaaaGreatDoor
