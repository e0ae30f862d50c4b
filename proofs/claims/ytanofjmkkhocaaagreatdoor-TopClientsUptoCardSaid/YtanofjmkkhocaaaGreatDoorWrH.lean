/- snwrap: Read. snwrap: Read, behind the limits. snwrap: Read, all ways together; Same; polyglotlaw23: lives. -/
import Derived.Test.YtanofjmkkhocaaaGreatDoorWrG
set_option linter.unusedVariables false
set_option linter.unusedSimpArgs false
set_option maxRecDepth 100000
set_option maxHeartbeats 3200000
namespace Go.Proofs.YtanofjmkkhocaaaGreatDoor
open Go Go.RowKit Go.Shelf
attribute [local go_sem] Oper.semAt_some
attribute [local go_sem ↓] load_Msg store_Msg load_Dg store_Dg
attribute [local irreducible] rowSem rowStore
theorem hops_any (a : Addr) (w : World) : Calls Tryz.prog 444 #[.pointer (some a)] w fun e w' => e = .returned (.func (.func 450) #[] #[.pointer (some ⟨w.heap.size, 0, none⟩)]) ∧ w' = w.alloc (.cells #[.pointer (some a)] 471 (0, 0)) := by
 go_enter Tryz.func444, Tryz.ntmps444
 go_wp2
 go_ret
 exact ⟨rfl, rfl⟩
theorem results_rows2 {P : Program} {fn : Func} {p q : Tmp} {ty tq : TypeId} (h : fn.results = #[.cell p ty, .cell q tq]) (tmps : Array Value) (w : World) (g g2 : Nat) (t : TypeId) (cs : Array Value) (d : TypeDesc) (x : Value)
  (hp : tmps.getD p undef = .pointer (some ⟨g, 0, none⟩)) (hg : Obj? w g cs t)
  (hu : P.underlying ty = some d) (hd : (match d with | .struct _ | .array _ _ => true | _ => false) = true) (hi : (P.info? ty).map (·.size) = some cs.size)
  (hq : tmps.getD q undef = .pointer (some ⟨g2, 0, none⟩)) (hx : (loadVar tq ⟨g2, 0, none⟩).run P w = .ok x w) :
  (results fn tmps).run P w = .ok (.tuple #[.agg cs, x]) w := by
 have e : (results fn tmps).run P w = ((asAddr (tmps.getD p undef)).run P w).andThen fun a w₁ => ((loadVar ty a).run P w₁).andThen fun r w₂ => ((asAddr (tmps.getD q undef)).run P w₂).andThen fun a' w₃ => ((loadVar tq a').run P w₃).andThen fun r' w₄ => .ok (.tuple #[r, r']) w₄ := by
  simp only [results, h]
  simp [Sem.run_bind, Result.andThen]
 rw [e, hp, hq]
 simp [asAddr, Result.andThen, run_loadVar_row w g t ty cs (0, 0) d hg hu hd hi, hx]
theorem load_errno {w : World} {b : Nat} {e : Int} (h : Obj? w b #[.int .i64 e] 58) : (loadVar 58 ⟨b, 0, none⟩).run Tryz.prog w = .ok (.int .i64 e) w := by
 have hc := h.cell 0 _ rfl
 go_simp
abbrev nilV : Value := .slice none 0 0
theorem store_dg {w : World} {b : Nat} {v0 v : Value} {m0 m : Ms} (hv : v.oneCell' = true) (h : Obj? w b (dgCs v0 m0) 119) : (rowStore 119 ⟨b, 0, none⟩ (.agg (dgCs v m))).run Tryz.prog w = .ok () (w.setRow b (dgCs v m)) :=
 rowStore_run w b 119 119 _ _ h infoDg rfl (by have := hv; simp [dgCs, Value.oneCell'] at this ⊢; exact this)
def hopCells (hs : List Hp) : List Value := hs.flatMap fun h => [.int .i64 h.rad, .string ⟨h.node.toArray⟩]
theorem hopCells_at : ∀ (hs : List Hp) (i : Nat) (hi : i < hs.length), (hopCells hs)[i * 2]? = some (.int .i64 hs[i].rad) ∧ (hopCells hs)[i * 2 + 1]? = some (.string ⟨hs[i].node.toArray⟩)
 | h :: hs, 0, _ => ⟨rfl, rfl⟩
 | h :: hs, i + 1, hi => by
  have := hopCells_at hs i (by simpa using hi)
  have e : hopCells (h :: hs) = .int .i64 h.rad :: .string ⟨h.node.toArray⟩ :: hopCells hs := rfl
  rw [e, show (i + 1) * 2 = i * 2 + 1 + 1 by omega]
  exact ⟨by rw [List.getElem?_cons_succ, List.getElem?_cons_succ]; exact this.1, by rw [List.getElem?_cons_succ, List.getElem?_cons_succ]; exact this.2⟩
theorem hopCells_len (hs : List Hp) : (hopCells hs).length = hs.length * 2 := by
 induction hs with
 | nil => rfl
 | cons h hs ih =>
  have e : hopCells (h :: hs) = .int .i64 h.rad :: .string ⟨h.node.toArray⟩ :: hopCells hs := rfl
  rw [e]; simp [ih]; omega
theorem hopsat_of_row {w : World} {base : Nat} {v : Value} {hs : List Hp} (h : w.ownsRow base 155 2 v hs.length (hopCells hs)) (hn : ∀ x ∈ hs, (x.node.length : Int) ≤ 9223372036854775807) (hl : (hs.length : Int) ≤ 9223372036854775807) : HopsAt w v hs := by
 rcases h.2 with ⟨rfl, h0⟩ | ⟨g, cap, cur, rfl, hb, hg, hk, hm, hcs, hx⟩
 ·obtain rfl : hs = [] := List.length_eq_zero_iff.1 h0
  exact hopsat_nil w
 ·refine ⟨_, _, rfl, hn, hl, .inr ⟨g, 0, rfl, (Array.getElem?_eq_some_iff.1 hg).1, fun i hi => ?_⟩⟩
  obtain ⟨a, b⟩ := hopCells_at hs i hi
  have cell : ∀ j u, (hopCells hs)[j]? = some u → w.cell? ⟨g, j, none⟩ = some u := fun j u hj => by
   refine Obj?.cell (cs := cur) hg j u ?_
   rw [← hx] at hj
   have hlt : j < hs.length * 2 := by
    rcases Nat.lt_or_ge j (hs.length * 2) with h1 | h1
    ·exact h1
    ·rw [List.getElem?_eq_none (by simp; omega)] at hj; cases hj
   rw [List.getElem?_take_of_lt hlt] at hj
   simpa using hj
  rw [Nat.zero_add]
  exact ⟨cell _ _ a, cell _ _ b⟩
theorem setCells_grown (b : Nat) : ∀ (vs : List Value) (o : Nat) (w : World), w.grownBy (w.setCells b o vs) (some b)
 | [], o, w => World.grownBy.refl _ _
 | v :: vs, o, w => by
  have h1 := grown_set (World.grownBy.refl w (some b)) (p := ⟨b, o, none⟩) rfl v
  have h2 := setCells_grown b vs (o + 1) (w.setCell ⟨b, o, none⟩ v)
  exact ⟨h2.os.trans h1.os, h2.tape.trans h1.tape, h2.output.trans h1.output, Nat.le_trans h1.size h2.size, fun k hk hne => (h2.block k (Nat.lt_of_lt_of_le hk h1.size) hne).trans (h1.block k hk hne)⟩
def putCells (cs : Array Value) (o : Nat) : List Value → Array Value
 | [] => cs
 | v :: vs => putCells (cs.setIfInBounds o v) (o + 1) vs
theorem Obj?.setCells {b : Nat} {t : TypeId} : ∀ (vs : List Value) (o : Nat) (w : World) (cs : Array Value), Obj? w b cs t → Obj? (w.setCells b o vs) b (putCells cs o vs) t
 | [], o, w, cs, h => h
 | v :: vs, o, w, cs, h => Obj?.setCells vs (o + 1) _ _ (h.set o v)
theorem put_dg (v : Value) (m0 m : Ms) : putCells (dgCs v m0) 1 m.cs.toList = dgCs v m := by kernel_rfl
theorem store_dgmsg {w : World} {b : Nat} {v : Value} {m0 : Ms} (m : Ms) (h : Obj? w b (dgCs v m0) 119) :
  (rowStore 38 ⟨b, 1, none⟩ (.agg m.cs)).run Tryz.prog w = .ok () (w.setCells b 1 m.cs.toList) ∧ Obj? (w.setCells b 1 m.cs.toList) b (dgCs v m) 119 := by
 have s1 : m.cs.size = 16 := by unfold Ms.cs; rfl
 have s2 : (dgCs v m0).size = 17 := by unfold dgCs; rfl
 have hr := run_storeVar_mid (P := Tryz.prog) w b 1 38 m.cs (fun j hj => ⟨by rw [h.cell (1 + j) _ (Array.getElem?_eq_getElem (show 1 + j < (dgCs v m0).size by omega))]; rfl, h.frozen _⟩) infoMs (by simp [Ms.cs, Value.oneCell'])
 rw [store_Msg] at hr
 refine ⟨hr, ?_⟩
 have := Obj?.setCells m.cs.toList 1 w _ h
 rw [put_dg] at this
 exact this
theorem wread_err {w W : World} {b4 b5 : Nat} {v0 : Value} {m0 : Ms} {e0 : Int} (e : Int) (hd : Obj? W b4 (dgCs v0 m0) 119) (he : Obj? W b5 #[.int .i64 e0] 58) (hB : Below w.heap.size w W) (h4 : w.heap.size ≤ b4) (h5 : w.heap.size ≤ b5) (hne : b5 ≠ b4) :
  Obj? ((W.setRow b4 (dgCs nilV ms0)).setCell ⟨b5, 0, none⟩ (.int .i64 e)) b4 (dgCs nilV ms0) 119 ∧ Obj? ((W.setRow b4 (dgCs nilV ms0)).setCell ⟨b5, 0, none⟩ (.int .i64 e)) b5 #[.int .i64 e] 58 ∧
   Below w.heap.size w ((W.setRow b4 (dgCs nilV ms0)).setCell ⟨b5, 0, none⟩ (.int .i64 e)) :=
 ⟨(hd.setRow _).kept (grown_set (World.grownBy.refl _ _) (p := ⟨b5, 0, none⟩) rfl _) (fun h => hne (Option.some.inj h)), (he.setRow_ne hne).set 0 _, (below_row hB h4 _).setCell (p := ⟨b5, 0, none⟩) h5 _⟩
def WReadSaid (w : World) (hs : List Hp) (m : Ms) (E : Int) (e : Ending) (w' : World) : Prop :=
 ∃ v, e = .returned (.tuple #[.agg (dgCs v m), .int .i64 E]) ∧ HopsAt w' v hs ∧ Below w.heap.size w w'
theorem wrapread_lim (s : List UInt8) (hs : (s.length : Int) ≤ 4611686018427380000) (mp md : Int) (w : World) (hmx : Mx w) (h1 : limOk mp md = false) :
  Calls Tryz.prog 441 #[.string ⟨s.toArray⟩, .agg #[.int .i64 mp, .int .i64 md]] w (WReadSaid w (wrapR s mp md).1 (wrapR s mp md).2.1 (wrapR s mp md).2.2) := by
 have e : wrapR s mp md = ([], ms0, 2) := by unfold wrapR; rw [if_pos h1]
 rw [e]
 have HR := Lib.hid (fun w => right_any mp md w)
 rw [h1] at HR
 clear e h1
 have O0 := Obj?.new (w.alloc (.cells #[.int .i64 mp, .int .i64 md] 53 (0, 0))) (dgCs nilV ms0) 119
 rw [World.size_alloc] at O0
 have O1 := O0.alloc (.cells #[.int .i64 0] 58 (0, 0))
 have O2 := Obj?.new ((w.alloc (.cells #[.int .i64 mp, .int .i64 md] 53 (0, 0))).alloc (.cells (dgCs nilV ms0) 119 (0, 0))) #[.int .i64 0] 58
 rw [World.size_alloc, World.size_alloc] at O2
 have hB0 := below_al (below_al (below_al (Below.refl _ w) (.cells #[.int .i64 mp, .int .i64 md] 53 (0, 0))) (.cells (dgCs nilV ms0) 119 (0, 0))) (.cells #[.int .i64 0] 58 (0, 0))
 have HO := Lib.hid (And.intro O1 (And.intro O2 hB0))
 clear O0 O1 O2 hB0
 unfold dgCs ms0 Ms.bare fl0 at HO
 dsimp only at HO
 refine (callsIn_wide (n := 6)).1 ?_
 refine callsIn_of_wp_marks Tryz.func441 rfl trivial ?_ rfl
 simp only [Tryz.ntmps441, List.size_toArray, List.length_cons, List.length_nil, Nat.reduceAdd, Nat.reduceSub, Array.replicate_succ, Array.replicate_zero, List.push_toArray, List.append_toArray, List.nil_append, List.cons_append]
 refine wpIn_wide.2 ?_
 refine wp_hideM fun Q1 hQ1 => ?_
 have HQ1 := Lib.hid hQ1
 clear hQ1
 go_wp2_with fail
 refine (HR.out _).mono ?_
 rintro r w1 ⟨rfl, hb⟩
 have HO1 := Lib.hid (And.intro (HO.out.1.below hb HO.out.1.lt) (And.intro (HO.out.2.1.below hb HO.out.2.1.lt) (HO.out.2.2.trans (hb.mono HO.out.2.2.size))))
 clear hb
 have hst := store_dg (v0 := nilV) (m0 := ms0) (v := nilV) (m := ms0) rfl HO1.out.1
 have ke := ((HO1.out.2.1.setRow_ne (C := dgCs nilV ms0) (g := w.heap.size + 1) (by omega)).cell 0 _ rfl)
 have fe := ((HO1.out.2.1.setRow_ne (C := dgCs nilV ms0) (g := w.heap.size + 1) (by omega)).frozen 0)
 unfold dgCs ms0 Ms.bare fl0 at hst ke fe
 dsimp only at hst ke fe
 go_wp2
 refine HQ1.out _ _ _ ?_
 have hf := wread_err (v0 := nilV) (m0 := ms0) (e0 := 0) 2 HO1.out.1 HO1.out.2.1 HO1.out.2.2 (by omega) (by omega) (by omega)
 exact ⟨_, results_rows2 rfl _ _ (w.heap.size + 1) (w.heap.size + 1 + 1) 119 (dgCs nilV ms0) _ (.int .i64 2) rfl hf.1 Tryz.underlying119 rfl infoDg rfl (load_errno hf.2.1), nilV, rfl, hopsat_nil _, hf.2.2⟩
theorem wrapread_long (s : List UInt8) (hs : (s.length : Int) ≤ 4611686018427380000) (mp md : Int) (w : World) (hmx : Mx w) (h1 : limOk mp md = true) (h2 : mp < (s.length : Int)) :
  Calls Tryz.prog 441 #[.string ⟨s.toArray⟩, .agg #[.int .i64 mp, .int .i64 md]] w (WReadSaid w (wrapR s mp md).1 (wrapR s mp md).2.1 (wrapR s mp md).2.2) := by
 have e : wrapR s mp md = ([], ms0, 4) := by unfold wrapR; rw [if_neg (by simp [h1]), if_pos h2]
 rw [e]
 have HR := Lib.hid (fun w => right_any mp md w)
 rw [h1] at HR
 clear e h1
 have O0 := Obj?.new (w.alloc (.cells #[.int .i64 mp, .int .i64 md] 53 (0, 0))) (dgCs nilV ms0) 119
 rw [World.size_alloc] at O0
 have O1 := O0.alloc (.cells #[.int .i64 0] 58 (0, 0))
 have O2 := Obj?.new ((w.alloc (.cells #[.int .i64 mp, .int .i64 md] 53 (0, 0))).alloc (.cells (dgCs nilV ms0) 119 (0, 0))) #[.int .i64 0] 58
 rw [World.size_alloc, World.size_alloc] at O2
 have hB0 := below_al (below_al (below_al (Below.refl _ w) (.cells #[.int .i64 mp, .int .i64 md] 53 (0, 0))) (.cells (dgCs nilV ms0) 119 (0, 0))) (.cells #[.int .i64 0] 58 (0, 0))
 have HB0 := Lib.hid (((Obj?.new w #[.int .i64 mp, .int .i64 md] 53).alloc (.cells (dgCs nilV ms0) 119 (0, 0))).alloc (.cells #[.int .i64 0] 58 (0, 0)))
 have HO := Lib.hid (And.intro O1 (And.intro O2 hB0))
 clear O0 O1 O2 hB0
 unfold dgCs ms0 Ms.bare fl0 at HO HB0
 dsimp only at HO HB0
 refine (callsIn_wide (n := 6)).1 ?_
 refine callsIn_of_wp_marks Tryz.func441 rfl trivial ?_ rfl
 simp only [Tryz.ntmps441, List.size_toArray, List.length_cons, List.length_nil, Nat.reduceAdd, Nat.reduceSub, Array.replicate_succ, Array.replicate_zero, List.push_toArray, List.append_toArray, List.nil_append, List.cons_append]
 refine wpIn_wide.2 ?_
 refine wp_hideM fun Q1 hQ1 => ?_
 have HQ1 := Lib.hid hQ1
 clear hQ1
 go_wp2_with fail
 refine (HR.out _).mono ?_
 rintro r w1 ⟨rfl, hb⟩
 have kl : w1.cell? ⟨w.heap.size, 0, none⟩ = some (.int .i64 mp) := (HB0.out.below hb HB0.out.lt).cell 0 _ rfl
 have HO1 := Lib.hid (And.intro (HO.out.1.below hb HO.out.1.lt) (And.intro (HO.out.2.1.below hb HO.out.2.1.lt) (HO.out.2.2.trans (hb.mono HO.out.2.2.size))))
 clear hb
 have hst := store_dg (v0 := nilV) (m0 := ms0) (v := nilV) (m := ms0) rfl HO1.out.1
 have ke := ((HO1.out.2.1.setRow_ne (C := dgCs nilV ms0) (g := w.heap.size + 1) (by omega)).cell 0 _ rfl)
 have fe := ((HO1.out.2.1.setRow_ne (C := dgCs nilV ms0) (g := w.heap.size + 1) (by omega)).frozen 0)
 unfold dgCs ms0 Ms.bare fl0 at hst ke fe
 dsimp only at hst ke fe
 go_wp2
 refine HQ1.out _ _ _ ?_
 have hf := wread_err (v0 := nilV) (m0 := ms0) (e0 := 0) 4 HO1.out.1 HO1.out.2.1 HO1.out.2.2 (by omega) (by omega) (by omega)
 exact ⟨_, results_rows2 rfl _ _ (w.heap.size + 1) (w.heap.size + 1 + 1) 119 (dgCs nilV ms0) _ (.int .i64 4) rfl hf.1 Tryz.underlying119 rfl infoDg rfl (load_errno hf.2.1), nilV, rfl, hopsat_nil _, hf.2.2⟩
end Go.Proofs.YtanofjmkkhocaaaGreatDoor
namespace Go.Proofs.YtanofjmkkhocaaaGreatDoor
open Go Go.RowKit Go.Shelf
attribute [local go_sem] Oper.semAt_some
attribute [local go_sem ↓] load_Msg store_Msg load_Dg store_Dg
attribute [local irreducible] rowSem rowStore
theorem infoHop : (Tryz.prog.info? 155).map (fun i => (i.zero, i.size, i.bytes)) = some (some (.agg #[.int .i64 0, .string ⟨#[]⟩]), 2, 24) := by kernel_rfl
def hopsOf (pre : List (Hp × Int)) : List Hp := pre.map (·.1)
def ReadInv (w : World) (n1 b4 b5 bd : Nat) (pre : List (Hp × Int)) (W : World) : Prop :=
 (∀ x ∈ pre, x.2 = 0) ∧ (∃ v, v.oneCell' = true ∧ Obj? W bd (dgCs v ms0) 119 ∧ W.ownsRow n1 155 2 v pre.length (hopCells (hopsOf pre))) ∧
  Obj? W b4 (dgCs nilV ms0) 119 ∧ Obj? W b5 #[.int .i64 0] 58 ∧ n1 ≤ W.heap.size ∧ Below w.heap.size w W
def ReadGone (w : World) (b4 b5 : Nat) (c : Code) (pre : List (Hp × Int)) (W : World) : Prop :=
 c = .ret ∧ ∃ p x, pre = p ++ [x] ∧ (∀ y ∈ p, y.2 = 0) ∧ x.2 ≠ 0 ∧ Obj? W b4 (dgCs nilV ms0) 119 ∧ Obj? W b5 #[.int .i64 x.2] 58 ∧ Below w.heap.size w W
theorem ReadInv.grown {w : World} {n1 b4 b5 bd : Nat} {pre : List (Hp × Int)} {A B : World} {row : Option Nat} (h : ReadInv w n1 b4 b5 bd pre A) (hg : A.grownBy B row) (hw : w.heap.size ≤ A.heap.size)
  (hr : ∀ k, row = some k → w.heap.size ≤ k ∧ k ≠ bd ∧ k ≠ b4 ∧ k ≠ b5 ∧ ∀ o, A.heap[k]? = some o → k < n1 ∨ o.isCells = false) : ReadInv w n1 b4 b5 bd pre B := by
 obtain ⟨h1, ⟨v, hv, hd, hrow⟩, h4, h5, hn, hB⟩ := h
 have ne : ∀ {b : Nat}, (∀ k, row = some k → k ≠ b) → row ≠ some b := fun h e => h _ e rfl
 refine ⟨h1, ⟨v, hv, hd.kept hg (ne fun k e => (hr k e).2.1), hrow.kept hg ?_⟩, h4.kept hg (ne fun k e => (hr k e).2.2.1), h5.kept hg (ne fun k e => (hr k e).2.2.2.1), Nat.le_trans hn hg.size, hB.grown hg hw fun k e => (hr k e).1⟩
 rcases hrow.2 with ⟨rfl, _⟩ | ⟨g, cap, cur, rfl, hb, hgb, _⟩
 ·exact .inl rfl
 ·refine .inr fun e' => ?_
  obtain ⟨-, -, -, -, ho⟩ := hr g (by simpa [Value.ownBlock] using e'.symm)
  rcases ho _ hgb with h | h
  ·omega
  ·cases h
theorem ReadGone.grown {w : World} {b4 b5 : Nat} {c : Code} {pre : List (Hp × Int)} {A B : World} {row : Option Nat} (h : ReadGone w b4 b5 c pre A) (hg : A.grownBy B row) (hw : w.heap.size ≤ A.heap.size)
  (hr : ∀ k, row = some k → w.heap.size ≤ k ∧ k ≠ b4 ∧ k ≠ b5) : ReadGone w b4 b5 c pre B := by
 obtain ⟨hc, p, x, h1, h2, h3, h4, h5, hB⟩ := h
 have ne : ∀ {b : Nat}, (∀ k, row = some k → k ≠ b) → row ≠ some b := fun h e => h _ e rfl
 exact ⟨hc, p, x, h1, h2, h3, h4.kept hg (ne fun k e => (hr k e).2.1), h5.kept hg (ne fun k e => (hr k e).2.2), hB.grown hg hw fun k e => (hr k e).1⟩
theorem setRow_grown (w : World) (b : Nat) (C : Array Value) : w.grownBy (w.setRow b C) (some b) :=
 ⟨rfl, rfl, rfl, Nat.le_of_eq (setRow_size _ _ _).symm, fun k _ hne => setRow_other w b k C (fun e => hne (by rw [e]))⟩
theorem seqR_zero {k : Nat} {s : List UInt8} (h : ∀ x ∈ seqR k s, x.2 = 0) : (hopsR k s).2.2 = 0 ∧ hopsOf (seqR k s) = (hopsR k s).1 := by
 have he : (hopsR k s).2.2 = 0 := by
  by_cases hz : (hopsR k s).2.2 = 0
  ·exact hz
  ·exact h (h0, (hopsR k s).2.2) (by unfold seqR; rw [if_neg hz]; simp)
 refine ⟨he, ?_⟩
 unfold hopsOf seqR
 rw [if_pos he, List.append_nil, List.map_map]
 exact List.map_id _
theorem seqR_stop {k : Nat} {s : List UInt8} {p : List (Hp × Int)} {x : Hp × Int} (h : p ++ [x] <+: seqR k s) (hx : x.2 ≠ 0) : x.2 = (hopsR k s).2.2 := by
 have hm : x ∈ seqR k s := h.subset (by simp)
 unfold seqR at hm
 rcases List.mem_append.1 hm with h1 | h1
 ·obtain ⟨y, -, rfl⟩ := List.mem_map.1 h1
  exact (hx rfl).elim
 ·split at h1
  ·cases h1
  ·rw [List.mem_singleton.1 h1]
theorem HopsAt.put {W : World} {D : Nat} {v : Value} {hs : List Hp} (h : HopsAt W v hs) (hK : W.heap[D]? = some (.deferred (some []))) : HopsAt (W.putObj D (.deferred none)) v hs := by
 obtain ⟨a, cap, rfl, hn, hl, hc⟩ := h
 refine ⟨a, cap, rfl, hn, hl, ?_⟩
 rcases hc with hc | ⟨b, off, rfl, hlt, hc⟩
 ·exact .inl hc
 ·exact .inr ⟨b, off, rfl, by simpa using hlt, fun i hi => ⟨cell_kept (hc i hi).1 (grownBy_putObj' _ D (.deferred none)) (fun r e => by cases e; exact ⟨_, hK, rfl⟩), cell_kept (hc i hi).2 (grownBy_putObj' _ D (.deferred none)) (fun r e => by cases e; exact ⟨_, hK, rfl⟩)⟩⟩
theorem leave_mark {w W : World} {b4 b5 D : Nat} {v : Value} {m : Ms} {E : Int} {hs : List Hp} {tmps : Array Value} (hp : tmps.getD 4 undef = .pointer (some ⟨b4, 0, none⟩)) (hq : tmps.getD 5 undef = .pointer (some ⟨b5, 0, none⟩))
  (hd : Obj? W b4 (dgCs v m) 119) (he : Obj? W b5 #[.int .i64 E] 58) (hB : Below w.heap.size w W) (hH : HopsAt W v hs) (hK : W.heap[D]? = some (.deferred (some []))) (hD : w.heap.size ≤ D) :
  bodyPostM Fence.wide 6 Tryz.prog Tryz.f441 (WReadSaid w hs m E) .ret { tmps := tmps, defers := [{ target := .collected D, args := #[] }] } W := by
 have n4 : b4 ≠ D := fun e => by subst e; rw [show W.heap[b4]? = _ from hd] at hK; cases hK
 have n5 : b5 ≠ D := fun e => by subst e; rw [show W.heap[b5]? = _ from he] at hK; cases hK
 refine ⟨by simp, .inl ⟨_, _, rfl, run_takeDeferred hK, ?_⟩⟩
 refine ⟨_, results_rows2 rfl _ _ b4 b5 119 (dgCs v m) _ (.int .i64 E) hp (show Obj? _ b4 _ _ by unfold Obj?; rw [World.putObj_heap_other n4]; exact hd) Tryz.underlying119 rfl infoDg hq (load_errno (show Obj? _ b5 _ _ by unfold Obj?; rw [World.putObj_heap_other n5]; exact he)), v, rfl, hH.put hK, ?_⟩
 exact hB.trans (belowK_b (w := w) (Nat.le_refl _) W D _ _ hD hK rfl rfl)
theorem keep_err {W : World} {D b4 b5 : Nat} {C : Array Value} {u : Value} {o : Option Obj} (h : W.heap[D]? = o) (h4 : D ≠ b4) (h5 : D ≠ b5) : ((W.setRow b4 C).setCell ⟨b5, 0, none⟩ u).heap[D]? = o := by
 rw [show ((W.setRow b4 C).setCell ⟨b5, 0, none⟩ u).heap[D]? = (W.setRow b4 C).heap[D]? from Below.heap_setCell _ _ _ D (fun e => h5 (by rw [e])), setRow_other W b4 D C h4]
 exact h
theorem row_far {A B : World} {n1 : Nat} {e : TypeId} {sz : Nat} {v : Value} {k : Nat} {xs : List Value} {row : Option Nat} (h : A.ownsRow n1 e sz v k xs) (hg : A.grownBy B row) (hr : ∀ j, row = some j → j < n1) : B.ownsRow n1 e sz v k xs := by
 refine h.kept hg ?_
 rcases h.2 with ⟨rfl, _⟩ | ⟨g, cap, cur, rfl, hb, hgb, _⟩
 ·exact .inl rfl
 ·exact .inr fun e' => by have := hr g (by simpa [Value.ownBlock] using e'.symm); omega
def rdTm (ws bd Bx : Nat) (s : List UInt8) (mp md : Int) (x : Hp × Int) : Array Value :=
 #[.string ⟨s.toArray⟩, .agg #[.int .i64 mp, .int .i64 md], undef, .pointer (some ⟨ws, 0, none⟩), .pointer (some ⟨ws + 1, 0, none⟩), .pointer (some ⟨ws + 1 + 1, 0, none⟩), .pointer (some ⟨bd, 0, none⟩), .pointer (some ⟨bd + 1, 0, none⟩), .pointer (some ⟨Bx, 0, none⟩), .int .i64 x.2, undef, undef, undef,
  .agg #[.int .i64 mp, .int .i64 md], .bool true, .bool false, undef, .string ⟨s.toArray⟩, .int .i64 s.length, .pointer (some ⟨ws, 0, none⟩), .int .i64 mp, .bool false, undef, .string ⟨s.toArray⟩, .func (.func 450) #[] #[.pointer (some ⟨bd + 1 + 1, 0, none⟩)],
  .agg #[.int .i64 x.1.rad, .string ⟨x.1.node.toArray⟩], .int .i64 x.2, undef, undef, undef, undef, undef, undef, undef, undef, undef, undef, undef, undef, undef, undef, undef, undef, undef, undef, undef, undef, undef, undef, undef, undef, undef, undef, undef, undef, undef, undef, undef]
def ReadAt (ws bd n1 : Nat) (s : List UInt8) (mp md : Int) (x : Hp × Int) (a' : Act) (W : World) : Prop :=
 ∃ Bx, n1 ≤ Bx ∧ Obj? W Bx #[.int .i64 x.1.rad, .string ⟨x.1.node.toArray⟩] 155 ∧ a' = { tmps := rdTm ws bd Bx s mp md x, defers := [] }
theorem dg_appended {W w1 : World} {n1 ws bd : Nat} {v v' : Value} {m0 : Ms} {k m : Nat} {xs ys : List Value} {tmp : Obj}
  (hd : Obj? W bd (dgCs v m0) 119) (hbn : bd < n1) (hws : ws ≤ bd) (hrow : W.ownsRow n1 155 2 v k xs) (hn : n1 ≤ W.heap.size)
  (hown' : w1.ownsRow n1 155 2 v' m ys) (hgrow : (W.alloc tmp).grownBy w1 v.ownBlock) :
  Obj? w1 bd (dgCs v m0) 119 ∧ Obj? (w1.setCell ⟨bd, 0, none⟩ v') bd (dgCs v' m0) 119 ∧ (w1.setCell ⟨bd, 0, none⟩ v').ownsRow n1 155 2 v' m ys ∧
   (∀ j, j < n1 → j ≠ bd → (w1.setCell ⟨bd, 0, none⟩ v').heap[j]? = W.heap[j]?) ∧ KeepsOthers W (w1.setCell ⟨bd, 0, none⟩ v') ∧ Below ws W (w1.setCell ⟨bd, 0, none⟩ v') := by
 have hob : ∀ j, v.ownBlock = some j → n1 ≤ j ∧ ∃ o, W.heap[j]? = some o ∧ o.isCells = true := fun j ej => by
  rcases hrow.2 with ⟨rfl, _⟩ | ⟨g, cap, cur, rfl, hb, hgb, _⟩
  ·simp [Value.ownBlock] at ej
  ·obtain rfl : g = j := by simpa [Value.ownBlock] using ej
   exact ⟨hb, _, hgb, rfl⟩
 have hg2 : W.grownBy w1 v.ownBlock := by
  have ha := World.grownBy_alloc W tmp none
  exact ⟨hgrow.os.trans ha.os, hgrow.tape.trans ha.tape, hgrow.output.trans ha.output, Nat.le_trans ha.size hgrow.size, fun j hj hne => (hgrow.block j (Nat.lt_of_lt_of_le hj ha.size) hne).trans (ha.block j hj (by simp))⟩
 have hd1 : Obj? w1 bd (dgCs v m0) 119 := hd.kept hg2 (fun e => by have := (hob bd e).1; omega)
 have hne' : v'.ownBlock ≠ some bd := fun e => by
  rcases hown'.2 with ⟨rfl, _⟩ | ⟨g, cap, cur, rfl, hb, hgb, _⟩
  ·simp [Value.ownBlock] at e
  ·have : g = bd := by simpa [Value.ownBlock] using e
   omega
 refine ⟨hd1, hd1.set 0 v', hown'.kept (grownBy_setCell' w1 bd v') (.inr hne'), fun j hj hne => ?_, ?_, ?_⟩
 ·rw [show (w1.setCell ⟨bd, 0, none⟩ v').heap[j]? = w1.heap[j]? from Below.heap_setCell _ _ _ j (fun e => hne (by rw [e]))]
  exact hg2.block j (by omega) (fun e => by have := (hob j e.symm).1; omega)
 ·exact (KeepsOthers.of_grownBy hg2 fun j o ej hj => by obtain ⟨-, o', h1, h2⟩ := hob j ej; rw [h1] at hj; cases hj; exact h2).trans (KeepsOthers.setCell _ _ _)
 ·exact ((Below.refl ws W).grown hg2 (by have := hd.lt; omega) fun j ej => by have := (hob j ej).1; omega).setCell (p := ⟨bd, 0, none⟩) hws v'
theorem wrapread_go (s : List UInt8) (hs : (s.length : Int) ≤ 4611686018427380000) (mp md : Int) (w : World) (hmx : Mx w) (h1 : limOk mp md = true) (h2 : (s.length : Int) ≤ mp) :
  Calls Tryz.prog 441 #[.string ⟨s.toArray⟩, .agg #[.int .i64 mp, .int .i64 md]] w (WReadSaid w (wrapR s mp md).1 (wrapR s mp md).2.1 (wrapR s mp md).2.2) := by
 have HR := Lib.hid (fun w => right_any mp md w)
 rw [h1] at HR
 have HE := Lib.hid (show wrapR s mp md = if (hopsR 4 s).2.2 ≠ 0 then ([], ms0, (hopsR 4 s).2.2) else if (readM (hopsR 4 s).2.1).2.2 ≠ 0 then ([], ms0, (readM (hopsR 4 s).2.1).2.2)
   else if (readM (hopsR 4 s).2.1).2.1 ≠ ((hopsR 4 s).2.1.length : Int) then ([], ms0, 5) else ((hopsR 4 s).1, (readM (hopsR 4 s).2.1).1, 0) by unfold wrapR; rw [if_neg (by simp [h1]), if_neg (by omega)])
 obtain ⟨RH, hRH⟩ : ∃ x, x = (wrapR s mp md).1 := ⟨_, rfl⟩
 obtain ⟨RM, hRM⟩ : ∃ x, x = (wrapR s mp md).2.1 := ⟨_, rfl⟩
 obtain ⟨RE, hRE⟩ : ∃ x, x = (wrapR s mp md).2.2 := ⟨_, rfl⟩
 have HQ := Lib.hid (And.intro hRH (And.intro hRM hRE))
 rw [← hRH, ← hRM, ← hRE]
 have hmp : mp ≤ 1048576 := by simp only [limOk, decide_eq_true_eq] at h1; omega
 clear h1 hRH hRM hRE
 have O0 := Obj?.new (w.alloc (.cells #[.int .i64 mp, .int .i64 md] 53 (0, 0))) (dgCs nilV ms0) 119
 rw [World.size_alloc] at O0
 have O1 := O0.alloc (.cells #[.int .i64 0] 58 (0, 0))
 have O2 := Obj?.new ((w.alloc (.cells #[.int .i64 mp, .int .i64 md] 53 (0, 0))).alloc (.cells (dgCs nilV ms0) 119 (0, 0))) #[.int .i64 0] 58
 rw [World.size_alloc, World.size_alloc] at O2
 have hB0 := below_al (below_al (below_al (Below.refl _ w) (.cells #[.int .i64 mp, .int .i64 md] 53 (0, 0))) (.cells (dgCs nilV ms0) 119 (0, 0))) (.cells #[.int .i64 0] 58 (0, 0))
 have HB0 := Lib.hid (((Obj?.new w #[.int .i64 mp, .int .i64 md] 53).alloc (.cells (dgCs nilV ms0) 119 (0, 0))).alloc (.cells #[.int .i64 0] 58 (0, 0)))
 have HO := Lib.hid (And.intro O1 (And.intro O2 hB0))
 have HMW := Lib.hid hmx
 have d21 : decide (mp < (s.length : Int)) = false := decide_eq_false (by omega)
 clear O0 O1 O2 hB0 hmx
 unfold dgCs ms0 Ms.bare fl0 at HO HB0
 dsimp only at HO HB0
 obtain ⟨i0, hi, hz0', hz1', hz2'⟩ := info_parts infoHop
 refine (callsIn_wide (n := 6)).1 ?_
 refine callsIn_of_wp_marks Tryz.func441 rfl trivial ?_ rfl
 simp only [Tryz.ntmps441, List.size_toArray, List.length_cons, List.length_nil, Nat.reduceAdd, Nat.reduceSub, Array.replicate_succ, Array.replicate_zero, List.push_toArray, List.append_toArray, List.nil_append, List.cons_append]
 refine wpIn_wide.2 ?_
 refine wp_hideM fun Q1 hQ1 => ?_
 have HQ1 := Lib.hid hQ1
 clear hQ1
 go_wp2_with fail
 refine (HR.out _).mono ?_
 rintro r w1 ⟨rfl, hb⟩
 have kl : w1.cell? ⟨w.heap.size, 0, none⟩ = some (.int .i64 mp) := (HB0.out.below hb HB0.out.lt).cell 0 _ rfl
 have HO1 := Lib.hid (And.intro (HO.out.1.below hb HO.out.1.lt) (And.intro (HO.out.2.1.below hb HO.out.2.1.lt) (HO.out.2.2.trans (hb.mono HO.out.2.2.size))))
 clear hb
 go_wp2_with fail
 refine (hops_any _ _).mono ?_
 rintro r w2 ⟨rfl, rfl⟩
 go_wp2_with fail
 obtain ⟨W0, hW0⟩ : ∃ W0, W0 = ((w1.alloc (.cells (dgCs nilV ms0) 119 (0, 0))).alloc (.cells #[.string ⟨s.toArray⟩] 9 (0, 0))).alloc (.cells #[.pointer (some ⟨w1.heap.size + 1, 0, none⟩)] 471 (0, 0)) := ⟨_, rfl⟩
 have hz1 := HO1.out.2.1.lt
 have hz0 : W0.heap.size = w1.heap.size + 1 + 1 + 1 := by rw [hW0, World.size_alloc, World.size_alloc, World.size_alloc]
 have q1 : Obj? W0 w1.heap.size (dgCs nilV ms0) 119 := by rw [hW0]; exact ((Obj?.new w1 _ _).alloc _).alloc _
 have q2 : Obj? W0 (w1.heap.size + 1) #[.string ⟨s.toArray⟩] 9 := by
  have := (Obj?.new (w1.alloc (.cells (dgCs nilV ms0) 119 (0, 0))) #[.string ⟨s.toArray⟩] 9).alloc (.cells #[.pointer (some ⟨w1.heap.size + 1, 0, none⟩)] 471 (0, 0))
  rw [World.size_alloc] at this
  rw [hW0]; exact this
 have q3 : Obj? W0 (w1.heap.size + 1 + 1) #[.pointer (some ⟨w1.heap.size + 1, 0, none⟩)] 471 := by
  have := Obj?.new ((w1.alloc (.cells (dgCs nilV ms0) 119 (0, 0))).alloc (.cells #[.string ⟨s.toArray⟩] 9 (0, 0))) #[.pointer (some ⟨w1.heap.size + 1, 0, none⟩)] 471
  rw [World.size_alloc, World.size_alloc] at this
  rw [hW0]; exact this
 have q4 : Obj? W0 (w.heap.size + 1) (dgCs nilV ms0) 119 := by rw [hW0]; exact ((Obj?.alloc HO1.out.1 _).alloc _).alloc _
 have q5 : Obj? W0 (w.heap.size + 1 + 1) #[.int .i64 0] 58 := by rw [hW0]; exact ((Obj?.alloc HO1.out.2.1 _).alloc _).alloc _
 have q6 : Below w.heap.size w W0 := by rw [hW0]; exact below_al (below_al (below_al HO1.out.2.2 _) _) _
 have hW0' : ((w1.alloc (.cells #[.slice none 0 0, .int .i64 0, .bool false, .int .i64 0, .bool false, .bool false, .bool false, .int .i64 0, .int .i64 0, .int .i64 0, .int .i64 0, .bool false, .int .i64 0, .int .i64 0, .int .i64 0, .string ⟨#[]⟩, .string ⟨#[]⟩] 119 (0, 0))).alloc (.cells #[.string ⟨s.toArray⟩] 9 (0, 0))).alloc (.cells #[.pointer (some ⟨w1.heap.size + 1, 0, none⟩)] 471 (0, 0)) = W0 := hW0.symm
 rw [hW0']
 obtain ⟨bd, hbd⟩ : ∃ bd, bd = w1.heap.size := ⟨_, rfl⟩
 rw [← hbd] at hz0 hz1 q1 q2 q3 ⊢
 have h40 : w.heap.size + 1 + 1 < bd := hz1
 have hI0 : ReadInv w (bd + 1 + 1 + 1) (w.heap.size + 1) (w.heap.size + 1 + 1) bd [] W0 := ⟨by simp, ⟨nilV, rfl, q1, World.ownsRow_nil _ _ _ _⟩, q4, q5, by omega, q6⟩
 have HI0 := Lib.hid (And.intro hI0 (And.intro q2 q3))
 have HBD := Lib.hid hbd
 clear hbd hW0 hW0' q1 q2 q3 q4 q5 q6 hI0 HO HO1 hz1 kl HB0
 refine (wpIn_wide (n := 6)).1 ?_
 refine wpIn_rangeFunc_boxed rfl (by decide) (gf := 450) (lb := #[.pointer (some ⟨bd + 1 + 1, 0, none⟩)]) rfl trivial (enters_of Tryz.func450 (by kernel_rfl) rfl)
  (hops1_boxed 5 (by decide) (bd + 1 + 1) (bd + 1) (by omega) s hs W0 HI0.out.2.2 HI0.out.2.1) HI0.out.2.1.lt
  (fun xs W l o hl h => ⟨h.1, by unfold Obj?; rw [World.putObj_heap_other (by omega)]; exact h.2⟩) (fun xs W l o hl h => h) (fun h k => h.t k)
  (fun W l o o' hl _ _ _ => ⟨World.putObj_heap_other (by omega), World.putObj_heap_other (by omega)⟩) (Below.refl _ _) (fun _ => rfl)
  (fun pre W => ReadInv w (bd + 1 + 1 + 1) (w.heap.size + 1) (w.heap.size + 1 + 1) bd pre W) (fun c pre W => ReadGone w (w.heap.size + 1) (w.heap.size + 1 + 1) c pre W)
  (fun pre A B row h hg hr => h.grown hg (by have := h.2.2.2.2.2.size; exact this) (fun k e => by obtain ⟨o, ho⟩ := hr k e; exact ⟨by omega, by omega, by omega, by omega, fun o' ho' => .inr (by obtain ⟨o2, h2, h3⟩ := ho; rw [ho'] at h2; cases h2; exact h3)⟩))
  (fun c pre A B row h hg hr => h.grown hg (by obtain ⟨-, p, x, -, -, -, -, -, hB⟩ := h; exact hB.size) (fun k e => by have := (hr k e).1; exact ⟨by omega, by omega, by omega⟩))
  (fun pre A B h hg => h.grown hg h.2.2.2.2.2.size (fun k e => by cases e; exact ⟨by omega, by omega, by omega, by omega, fun o ho => .inl (by omega)⟩))
  (fun c pre A B h hg => h.grown hg (by obtain ⟨-, p, x, -, -, -, -, -, hB⟩ := h; exact hB.size) (fun k e => by cases e; exact ⟨by omega, by omega, by omega⟩))
  HI0.out.1
  (fun x a' W => ReadAt w.heap.size bd (bd + 1 + 1 + 1) s mp md x a' W) (fun x a' _ A B row h hg hr => by
   obtain ⟨Bx, hBx, hb, he⟩ := h
   exact ⟨Bx, hBx, hb.kept hg (fun e => by obtain ⟨-, o, ho, hc⟩ := hr Bx e; rw [show A.heap[Bx]? = _ from hb] at ho; cases ho; cases hc), he⟩) ?assign ?body ?done ?stop
 case assign =>
  intro l pre x W K hI hK
  have hsz := hI.2.2.2.2.2.size
  have hsn := hI.2.2.2.2.1
  gi_wp2
  exact hK _ _ ((KeepsOthers.alloc _ _).from _) ⟨Below.heap_alloc _ _ _ (by omega), Below.heap_alloc _ _ _ (by omega)⟩ (hI.grown (World.grownBy_alloc _ _ none) hsz (fun k e => by cases e)) ⟨W.heap.size, hsn, Obj?.new _ _ _, rfl⟩
 case body =>
  rintro l pre x a' W hl - hI ⟨Bx, hBx, hb, rfl⟩ hlen
  obtain ⟨hz, ⟨v, hv1, hd, hrow⟩, h4, h5, hn, hB⟩ := hI
  unfold rdTm
  have hk0 := hb.cell 0 _ rfl
  have hk1 := hb.cell 1 _ rfl
  by_cases he : x.2 = 0
  ·obtain ⟨⟨rad, node⟩, ex⟩ := x
   simp only at he hk0 hk1
   subst he
   have hkd : W.cell? ⟨bd, 0, none⟩ = some v := hd.cell 0 _ rfl
   have HX := Lib.hid (And.intro hz (And.intro hd (And.intro h4 (And.intro h5 (And.intro hn hB)))))
   have HZ := Lib.hid hz0
   have HH0 := Lib.hid h40
   clear hz hd h4 h5 hB hb hl hz0
   have hc1 : ∀ (j : Nat) (u : Value), [Value.int .i64 rad, Value.string ⟨node.toArray⟩][j]? = some u → (W.alloc (.cells #[.int .i64 rad, .string ⟨node.toArray⟩] 155 (0, 0))).cell? ((⟨W.heap.size, 0, none⟩ : Addr).add j) = some u := fun j u hj => by
    rw [Addr.add_mid, Nat.zero_add]
    exact (Obj?.new W _ _).cell j u (by simpa using hj)
   have hc2 : pre.length + 1 ≤ maxLen := by unfold maxLen; omega
   have hc3 : (pre.length + 1) * 24 ≤ 140737488355328 := by omega
   have hc4 : bd + 1 + 1 + 1 ≤ (W.alloc (.cells #[.int .i64 rad, .string ⟨node.toArray⟩] 155 (0, 0))).heap.size := by rw [World.size_alloc]; have := HX.out.2.2.2.2.1; omega
   have HC1 := Lib.hid hc1
   have HC := Lib.hid (And.intro hc2 (And.intro hc3 hc4))
   clear hc1 hc2 hc3 hc4
   gi_wp2_with (gi_at_builtin; refine wpListIn_append_own _ rfl _ _ 28 rfl (bd + 1 + 1 + 1) 155 i0 (.agg #[.int .i64 0, .string ⟨#[]⟩]) 2 24 Tryz.underlying28 hi hz0' hz1' hz2' rfl (by decide) _ _ _ rfl (hrow.alloc _) ⟨W.heap.size, 0, none⟩ 1 1 [.int .i64 rad, .string ⟨node.toArray⟩] rfl rfl HC1.out (by simp [Value.oneCell']) HC.out.1 HC.out.2.1 HC.out.2.2 ?_; intro v' w2 hown' hgrow _; obtain ⟨g', cap', rfl⟩ := ownsRow_succ hown'; have happ := dg_appended (ws := w.heap.size) HX.out.2.1 (show bd < bd + 1 + 1 + 1 by omega) (by omega) hrow HX.out.2.2.2.2.1 hown' hgrow; have HAPP := Lib.hid happ; have hc1 := HAPP.out.1.cell 0 _ rfl; have hf1 := HAPP.out.1.frozen 0; clear happ hown' hgrow)
   obtain ⟨p1, p2, p3, p4, p5, p6⟩ := HAPP.out
   refine ⟨p5.from _, ⟨p4 _ (by omega) (by omega), p4 _ (by omega) (by omega)⟩, fun y hy => ?_, ⟨_, rfl, p2, ?_⟩, ?_, ?_, ?_, HX.out.2.2.2.2.2.trans p6⟩
   ·rcases List.mem_append.1 hy with h | h
    ·exact HX.out.1 y h
    ·rw [List.mem_singleton.1 h]
   ·rw [List.length_append, List.length_singleton]
    unfold hopsOf at p3 ⊢
    rw [List.map_append]
    unfold hopCells at p3 ⊢
    rw [List.flatMap_append]
    exact p3
   ·unfold Obj?; rw [p4 _ (by have := HH0.out; omega) (by have := HH0.out; omega)]; exact HX.out.2.2.1
   ·unfold Obj?; rw [p4 _ (by have := HH0.out; omega) (by have := HH0.out; omega)]; exact HX.out.2.2.2.1
   ·exact Nat.le_trans HX.out.2.2.2.2.1 p5.size
  ·have d1 : (x.2 != 0) = true := by simpa using he
   have d2 : (x.2 == 0) = false := by simpa using he
   have hst := store_dg (v0 := nilV) (m0 := ms0) (v := nilV) (m := ms0) rfl h4
   have ke := ((h5.setRow_ne (C := dgCs nilV ms0) (g := w.heap.size + 1) (by omega)).cell 0 _ rfl)
   have fe := ((h5.setRow_ne (C := dgCs nilV ms0) (g := w.heap.size + 1) (by omega)).frozen 0)
   have hf := wread_err (v0 := nilV) (m0 := ms0) (e0 := 0) x.2 h4 h5 hB (by omega) (by omega) (by omega)
   have HF := Lib.hid hf
   clear hf
   unfold dgCs ms0 Ms.bare fl0 at hst ke fe
   dsimp only at hst ke fe
   gi_wp2
   exact ⟨(KeepsFrom.of_grownBy (setRow_grown _ _ _) (fun j e => by cases e; omega)).trans ((KeepsOthers.setCell _ _ _).from _), rfl, pre, x, rfl, hz, he, HF.out.1, HF.out.2.1, HF.out.2.2⟩
 case done =>
  rintro D xs W hD ⟨rfl, hx⟩ ⟨hz, ⟨v, hv1, hd, hrow⟩, h4, h5, hn, hB⟩ hK
  obtain ⟨z1, z2⟩ := seqR_zero hz
  obtain ⟨b1, b2, b3⟩ := hopsR_back 4 s z1
  have hll : (seqR 4 s).length = (hopsR 4 s).1.length := by rw [← z2]; unfold hopsOf; rw [List.length_map]
  rw [hll, z2] at hrow
  have hnl : (∀ x ∈ (hopsR 4 s).1, (x.node.length : Int) ≤ 9223372036854775807) ∧ (((hopsR 4 s).1.length : Nat) : Int) ≤ 9223372036854775807 := ⟨fun y hy => by
   have := List.all_eq_true.1 b2 y hy
   simp only [hopOk, decide_eq_true_eq] at this
   omega, by omega⟩
  have hH := hopsat_of_row hrow hnl.1 hnl.2
  have hrl : (hopsR 4 s).2.1.length ≤ s.length := by have := congrArg List.length b3; rw [List.length_append] at this; omega
  have HRd := Lib.hid (msread_any (hopsR 4 s).2.1 (by omega))
  unfold ReadIs at HRd
  have hEE := HE.out
  rw [if_neg (by simp [z1])] at hEE
  obtain ⟨Hs, hHs⟩ : ∃ x, x = (hopsR 4 s).1 := ⟨_, rfl⟩
  obtain ⟨R, hR⟩ : ∃ x, x = (hopsR 4 s).2.1 := ⟨_, rfl⟩
  rw [← hR] at hx HRd hEE hrl
  rw [← hHs] at hH hEE hrow hnl
  have HRW := Lib.hid hrow
  have HNL := Lib.hid hnl
  obtain ⟨m, hm⟩ : ∃ x, x = (readM R).1 := ⟨_, rfl⟩
  obtain ⟨nn, hnn⟩ : ∃ x, x = (readM R).2.1 := ⟨_, rfl⟩
  obtain ⟨er, her⟩ : ∃ x, x = (readM R).2.2 := ⟨_, rfl⟩
  rw [← hm, ← hnn, ← her] at HRd hEE
  have kx := hx.cell 0 _ rfl
  have HP := Lib.hid (And.intro hEE (And.intro hx (And.intro hd (And.intro h4 (And.intro h5 (And.intro hB (And.intro hK (And.intro hH hv1))))))))
  have HD := Lib.hid (And.intro hD hz0)
  clear hEE hx hd h4 h5 hB hK hH hv1 hz hrow hnl z1 z2 b1 b2 b3 hll hHs hR hm hnn her hn hD hz0
  go_wp2_with fail
  refine (HRd.out _ (HMW.out.below HP.out.2.2.2.2.2.1 HMW.out.1)).mono ?_
  rintro r w2 ⟨rfl, hb⟩
  have HP2 := Lib.hid (show Obj? w2 (bd + 1) #[.string ⟨R.toArray⟩] 9 ∧ Obj? w2 bd (dgCs v ms0) 119 ∧ Obj? w2 (w.heap.size + 1) (dgCs nilV ms0) 119 ∧ Obj? w2 (w.heap.size + 1 + 1) #[.int .i64 0] 58 ∧ Below w.heap.size w w2 ∧ w2.heap[D]? = some (.deferred (some [])) ∧ HopsAt w2 v Hs from by
   obtain ⟨-, q1, q2, q3, q4, q5, q6, q7, -⟩ := HP.out
   exact ⟨q1.below hb q1.lt, q2.below hb q2.lt, q3.below hb q3.lt, q4.below hb q4.lt, q5.trans (hb.mono q5.size), (hb.block D (Array.getElem?_eq_some_iff.1 q6).1).trans q6, q7.below hb⟩)
  have HRW2 := Lib.hid (row_far (row_far HRW.out (grown_of_below (row := none) hb) (fun k e => by cases e)) (World.grownBy_alloc w2 (.cells m.cs 38 (0, 0)) none) (fun k e => by cases e))
  clear hb kx
  have hst := store_new w2 m
  have HP3 := Lib.hid (show Obj? (w2.alloc (.cells m.cs 38 (0, 0))) (bd + 1) #[.string ⟨R.toArray⟩] 9 ∧ Obj? (w2.alloc (.cells m.cs 38 (0, 0))) bd (dgCs v ms0) 119 ∧ Obj? (w2.alloc (.cells m.cs 38 (0, 0))) (w.heap.size + 1) (dgCs nilV ms0) 119 ∧ Obj? (w2.alloc (.cells m.cs 38 (0, 0))) (w.heap.size + 1 + 1) #[.int .i64 0] 58 ∧ Below w.heap.size w (w2.alloc (.cells m.cs 38 (0, 0))) ∧ (w2.alloc (.cells m.cs 38 (0, 0))).heap[D]? = some (.deferred (some [])) ∧ HopsAt (w2.alloc (.cells m.cs 38 (0, 0))) v Hs ∧ Obj? (w2.alloc (.cells m.cs 38 (0, 0))) w2.heap.size m.cs 38 from by
   obtain ⟨q1, q2, q3, q4, q5, q6, q7⟩ := HP2.out
   exact ⟨q1.alloc _, q2.alloc _, q3.alloc _, q4.alloc _, below_al q5 _, (Below.heap_alloc _ _ _ (Array.getElem?_eq_some_iff.1 q6).1).trans q6, q7.below (below_al (Below.refl _ _) _), Obj?.new _ _ _⟩)
  obtain ⟨W3, hW3⟩ : ∃ W3, W3 = w2.alloc (.cells m.cs 38 (0, 0)) := ⟨_, rfl⟩
  rw [← hW3] at hst HP3 HRW2
  have HRW3 := HRW2
  clear HRW2
  clear hW3
  have kx := HP3.out.1.cell 0 _ rfl
  by_cases he : er = 0
  ·subst he
   by_cases hnl : nn = (R.length : Int)
   ·have d1 : (nn == (R.length : Int)) = true := by simpa using hnl
    have d2 : (nn != (R.length : Int)) = false := by simpa using hnl
    have hld := load_msgA (A := m.cs) (by unfold Ms.cs; rfl) HP3.out.2.2.2.2.2.2.2
    have hs1 := store_dgmsg (v := v) (m0 := ms0) m HP3.out.2.1
    obtain ⟨hs1, hs2⟩ := hs1
    obtain ⟨W4, hW4⟩ : ∃ W4, W4 = W3.setCells bd 1 m.cs.toList := ⟨_, rfl⟩
    have hg4 : W3.grownBy W4 (some bd) := by rw [hW4]; exact setCells_grown bd _ 1 W3
    rw [← hW4] at hs1 hs2
    have r3 := Obj?.kept HP3.out.2.2.1 hg4 (fun e => by have := Option.some.inj e; omega)
    have r4 := Obj?.kept HP3.out.2.2.2.1 hg4 (fun e => by have := Option.some.inj e; omega)
    have r5 := HP3.out.2.2.2.2.1.grown hg4 (by exact HP3.out.2.2.2.2.1.size) (fun k e => by cases e; omega)
    have r6 : W4.heap[D]? = some (.deferred (some [])) := (hg4.block D (Array.getElem?_eq_some_iff.1 HP3.out.2.2.2.2.2.1).1 (fun e => by have := Option.some.inj e; have := HD.out; omega)).trans HP3.out.2.2.2.2.2.1
    clear hW4
    have hld2 := load_dg hs2
    have hsd := store_dg (v0 := nilV) (m0 := ms0) (v := v) (m := m) HP.out.2.2.2.2.2.2.2.2 r3
    have ke := ((r4.setRow_ne (C := dgCs v m) (g := w.heap.size + 1) (by omega)).cell 0 _ rfl)
    have fe := ((r4.setRow_ne (C := dgCs v m) (g := w.heap.size + 1) (by omega)).frozen 0)
    obtain ⟨rfl, rfl, rfl⟩ : RH = Hs ∧ RM = m ∧ RE = 0 := by
     rw [HQ.out.1, HQ.out.2.1, HQ.out.2.2, HP.out.1, if_neg (by simp), if_neg (by simp [hnl])]
     exact ⟨rfl, rfl, rfl⟩
    have HF := Lib.hid (And.intro (Obj?.kept (r3.setRow (dgCs v RM)) (grown_set (World.grownBy.refl _ _) (p := ⟨w.heap.size + 1 + 1, 0, none⟩) rfl (.int .i64 0)) (fun e => by have := Option.some.inj e; simp at this)) (And.intro ((r4.setRow_ne (C := dgCs v RM) (g := w.heap.size + 1) (by omega)).set 0 (.int .i64 0)) (And.intro ((below_row r5 (show w.heap.size ≤ w.heap.size + 1 by omega) (dgCs v RM)).setCell (p := ⟨w.heap.size + 1 + 1, 0, none⟩) (by show w.heap.size ≤ w.heap.size + 1 + 1; omega) (.int .i64 0)) (keep_err (b4 := w.heap.size + 1) (b5 := w.heap.size + 1 + 1) (C := dgCs v RM) (u := .int .i64 0) r6 (by have := HD.out; omega) (by have := HD.out; omega)))))
    have HR4 := Lib.hid (row_far HRW3.out hg4 (fun k e => by cases e; omega))
    clear r3 r4 r5 r6 hs2 hg4
    unfold dgCs at hsd ke fe hld2
    go_wp2
    refine HQ1.out _ _ _ ?_
    exact leave_mark rfl rfl HF.out.1 HF.out.2.1 HF.out.2.2.1 (hopsat_of_row (row_far (row_far HR4.out (setRow_grown _ _ _) (fun k e => by cases e; omega)) (grown_set (World.grownBy.refl _ _) (p := ⟨w.heap.size + 1 + 1, 0, none⟩) rfl _) (fun k e => by cases e; show w.heap.size + 1 + 1 < _; omega)) HNL.out.1 HNL.out.2) HF.out.2.2.2 (by have := HD.out; omega)
   ·have d1 : (nn == (R.length : Int)) = false := by simpa using hnl
    have d2 : (nn != (R.length : Int)) = true := by simpa using hnl
    have hsd := store_dg (v0 := nilV) (m0 := ms0) (v := nilV) (m := ms0) rfl HP3.out.2.2.1
    have ke := ((HP3.out.2.2.2.1.setRow_ne (C := dgCs nilV ms0) (g := w.heap.size + 1) (by omega)).cell 0 _ rfl)
    have fe := ((HP3.out.2.2.2.1.setRow_ne (C := dgCs nilV ms0) (g := w.heap.size + 1) (by omega)).frozen 0)
    have HF := Lib.hid (wread_err (v0 := nilV) (m0 := ms0) (e0 := 0) 5 HP3.out.2.2.1 HP3.out.2.2.2.1 HP3.out.2.2.2.2.1 (by omega) (by omega) (by omega))
    have HK3 := Lib.hid (keep_err (b4 := w.heap.size + 1) (b5 := w.heap.size + 1 + 1) (C := dgCs nilV ms0) (u := .int .i64 5) HP3.out.2.2.2.2.2.1 (by have := HD.out; omega) (by have := HD.out; omega))
    unfold dgCs ms0 Ms.bare fl0 at hsd ke fe
    dsimp only at hsd ke fe
    obtain ⟨rfl, rfl, rfl⟩ : RH = [] ∧ RM = ms0 ∧ RE = 5 := by
     rw [HQ.out.1, HQ.out.2.1, HQ.out.2.2, HP.out.1, if_neg (by simp), if_pos (by simpa using hnl)]
     exact ⟨rfl, rfl, rfl⟩
    go_wp2
    refine HQ1.out _ _ _ ?_
    exact leave_mark rfl rfl HF.out.1 HF.out.2.1 HF.out.2.2 (hopsat_nil _) HK3.out (by have := HD.out; omega)
  ·have d1 : (er == 0) = false := by simpa using he
   have d2 : (er != 0) = true := by simpa using he
   have hsd := store_dg (v0 := nilV) (m0 := ms0) (v := nilV) (m := ms0) rfl HP3.out.2.2.1
   have ke := ((HP3.out.2.2.2.1.setRow_ne (C := dgCs nilV ms0) (g := w.heap.size + 1) (by omega)).cell 0 _ rfl)
   have fe := ((HP3.out.2.2.2.1.setRow_ne (C := dgCs nilV ms0) (g := w.heap.size + 1) (by omega)).frozen 0)
   have HF := Lib.hid (wread_err (v0 := nilV) (m0 := ms0) (e0 := 0) er HP3.out.2.2.1 HP3.out.2.2.2.1 HP3.out.2.2.2.2.1 (by omega) (by omega) (by omega))
   have HK3 := Lib.hid (keep_err (b4 := w.heap.size + 1) (b5 := w.heap.size + 1 + 1) (C := dgCs nilV ms0) (u := .int .i64 er) HP3.out.2.2.2.2.2.1 (by have := HD.out; omega) (by have := HD.out; omega))
   unfold dgCs ms0 Ms.bare fl0 at hsd ke fe
   dsimp only at hsd ke fe
   obtain ⟨rfl, rfl, rfl⟩ : RH = [] ∧ RM = ms0 ∧ RE = er := by
    rw [HQ.out.1, HQ.out.2.1, HQ.out.2.2, HP.out.1, if_pos he]
    exact ⟨rfl, rfl, rfl⟩
   go_wp2
   refine HQ1.out _ _ _ ?_
   exact leave_mark rfl rfl HF.out.1 HF.out.2.1 HF.out.2.2 (hopsat_nil _) HK3.out (by have := HD.out; omega)
 case stop =>
  rintro D c pre W hD hSp ⟨rfl, p, x, rfl, hz, he, h4, h5, hB⟩ hK
  have hE := seqR_stop hSp he
  obtain ⟨rfl, rfl, rfl⟩ : RH = [] ∧ RM = ms0 ∧ RE = x.2 := by
   rw [HQ.out.1, HQ.out.2.1, HQ.out.2.2, HE.out, if_pos (by rw [← hE]; exact he), hE]
   exact ⟨rfl, rfl, rfl⟩
  refine wpIn_wide.2 ?_
  go_wp2
  refine HQ1.out _ _ _ ?_
  exact leave_mark rfl rfl h4 h5 hB (hopsat_nil _) hK (by omega)
end Go.Proofs.YtanofjmkkhocaaaGreatDoor
namespace Go.Proofs.YtanofjmkkhocaaaGreatDoor
open Go Go.RowKit Go.Shelf
attribute [local go_sem ↓] load_Msg store_Msg load_Dg store_Dg
attribute [local irreducible] rowSem rowStore
theorem wrapread_any (s : List UInt8) (hs : (s.length : Int) ≤ 4611686018427380000) (mp md : Int) (w : World) (hmx : Mx w) :
  Calls Tryz.prog 441 #[.string ⟨s.toArray⟩, .agg #[.int .i64 mp, .int .i64 md]] w (WReadSaid w (wrapR s mp md).1 (wrapR s mp md).2.1 (wrapR s mp md).2.2) := by
 cases h1 : limOk mp md with
 | false => exact wrapread_lim s hs mp md w hmx h1
 | true =>
  by_cases h2 : mp < (s.length : Int)
  ·exact wrapread_long s hs mp md w hmx h1 h2
  ·exact wrapread_go s hs mp md w hmx h1 (by omega)
theorem eql_self (m : Ms) (w : World) : (binOp .eql 38 (.agg m.cs) (.agg m.cs)).run Tryz.prog w = .ok (.bool true) w := by
 unfold Ms.cs
 go_simp
theorem wrapR_small (s : List UInt8) (mp md : Int) : ((wrapR s mp md).2.1.name.length : Int) ≤ 100000 ∧ ((wrapR s mp md).2.1.data.length : Int) ≤ 100000 := by
 unfold wrapR
 repeat' split
 all_goals first | exact readM_small (s := (hopsR 4 s).2.1) rfl | exact ⟨by simp [ms0, Ms.bare], by simp [ms0, Ms.bare]⟩
end Go.Proofs.YtanofjmkkhocaaaGreatDoor
