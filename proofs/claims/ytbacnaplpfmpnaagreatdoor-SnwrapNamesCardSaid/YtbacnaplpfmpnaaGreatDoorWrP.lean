/- snwrap: slices.Clone at hops, Unwrap; (*list).add, Wrap. snwrap: Wrap. -/
import Derived.Test.YtbacnaplpfmpnaaGreatDoorWrH
import Derived.Deep.RegionWith
import Derived.Lib.SliceRun
namespace Go.Proofs.YtbacnaplpfmpnaaGreatDoor
open Go Go.RowKit Go.Shelf
set_option linter.unusedVariables false
set_option linter.unusedSimpArgs false
attribute [local go_sem ↓] load_Msg store_Msg load_Dg store_Dg
attribute [local irreducible] rowSem rowStore

theorem hopsat_cells {w : World} {p : Addr} {cap : Nat} {hs : List Hp} (h : HopsAt w (.slice (some p) hs.length cap) hs) (j : Nat) (u : Value) (hj : (hopCells hs)[j]? = some u) : w.cell? (p.add j) = some u := by
  obtain ⟨a, c, e, hn, hl, hc⟩ := h
  obtain ⟨rfl, rfl⟩ : a = some p ∧ c = cap := by cases e; exact ⟨rfl, rfl⟩
  have hjl : j < (hopCells hs).length := (List.getElem?_eq_some_iff.1 hj).1
  rw [hopCells_len] at hjl
  obtain ⟨b, off, e2, hb, hc2⟩ := hc.resolve_left (fun h0 => by rw [h0] at hjl; simp at hjl)
  clear hc e
  obtain rfl := Option.some.inj e2
  obtain ⟨c0, c1⟩ := hc2 (j / 2) (by omega)
  obtain ⟨d0, d1⟩ := hopCells_at hs (j / 2) (by omega)
  rw [Addr.add_mid]
  rcases (by omega : j = j / 2 * 2 ∨ j = j / 2 * 2 + 1) with h1 | h1
  · rw [h1] at hj ⊢
    rw [d0] at hj
    obtain rfl := Option.some.inj hj
    exact c0
  · rw [h1] at hj ⊢
    rw [d1] at hj
    obtain rfl := Option.some.inj hj
    exact c1
theorem hopCells_one (hs : List Hp) : ∀ u ∈ hopCells hs, u.oneCell' = true := by
  intro u hu
  obtain ⟨h, -, h2⟩ := List.mem_flatMap.1 hu
  simp only [List.mem_cons, List.not_mem_nil, or_false] at h2
  rcases h2 with rfl | rfl <;> rfl
theorem HopsAt.small {w : World} {v : Value} {hs : List Hp} (h : HopsAt w v hs) : (∀ x ∈ hs, (x.node.length : Int) ≤ 9223372036854775807) ∧ (hs.length : Int) ≤ 9223372036854775807 := by
  obtain ⟨a, c, e, hn, hl, hc⟩ := h
  exact ⟨hn, hl⟩
set_option maxRecDepth 100000 in
set_option maxHeartbeats 1600000 in
theorem hopsclone_any {v : Value} {hs : List Hp} {w : World} (hH : HopsAt w v hs) (hl : hs.length ≤ 1000) :
    Calls Tryz.prog 76 #[v] w fun e w' => ∃ v', e = .returned v' ∧ w'.ownsRow w.heap.size 49 2 v' hs.length (hopCells hs) ∧ Below w.heap.size w w' := by
  obtain ⟨i0, hi, hz0, hz1, hz2⟩ := info_parts infoHop
  have q : ∀ (w : World) (a : Option Addr) (n c n' c' : Nat), (binOp .eql 42 (.slice a n c) (.slice none n' c')).run Tryz.prog w = .ok (.bool a.isNone) w := fun w a n c n' c' => Lib.run_eql_slice_nil w _ _ a n c n' c' Tryz.underlying42
  have HHW := Lib.hid hH
  obtain ⟨a, cap, rfl, hn, hll, hc⟩ := hH
  cases a with
  | none =>
    have h0 : hs = [] := by
      rcases hc with h | ⟨b, off, h, -⟩
      · exact h
      · cases h
    subst h0
    clear hc hn hll HHW hl
    go_enter Tryz.func76, Tryz.ntmps76
    go_wp2
    go_ret
    exact ⟨_, rfl, World.ownsRow_nil _ _ _ _, Below.refl _ _⟩
  | some p =>
    have HC := Lib.hid (fun j u h => hopsat_cells HHW.out j u h)
    have HN := Lib.hid (And.intro hn hll)
    have HL := Lib.hid hl
    clear hc hn hll hl
    go_enter Tryz.func76, Tryz.ntmps76
    go_wp2_with (at_builtin; refine wpList_append_own _ rfl _ _ 42 rfl w.heap.size 49 i0 (.agg #[.int .i64 0, .string ⟨#[]⟩]) 2 24 Tryz.underlying42 hi hz0 hz1 hz2 rfl (by decide) _ _ _ rfl (World.ownsRow_made w #[] 0 (Nat.le_refl _) (Nat.zero_le _) rfl) p hs.length cap (hopCells hs) rfl ?qc1 ?qc2 ?qc3 ?qc4 ?qc5 ?qc6 ?_)
    case qc1 => rw [hopCells_len]
    case qc2 => intro j u hj; exact Lib.cell?_alloc_some _ (HC.out j u hj)
    case qc3 => exact hopCells_one hs
    case qc4 => have := HL.out; unfold maxLen; omega
    case qc5 => have := HL.out; omega
    case qc6 => simp
    intro v' w1 hown hgrow hnil
    have HO := Lib.hid (And.intro hown (And.intro hgrow hnil))
    clear hown hgrow hnil
    go_wp2
    go_ret
    obtain ⟨hown, hgrow, hnil⟩ := HO.out
    refine ⟨v', rfl, by simpa using hown, ?_⟩
    exact ((Below.refl _ w).alloc (Nat.le_refl _) _).grown hgrow (by simp) (by intro k hk; simp [Value.ownBlock] at hk; omega)
/-- A slice that a Go program holds. -/
def CapOk (v : Value) : Prop := ∃ a n c, v = .slice a n c ∧ n ≤ c
theorem cap_of_row {w : World} {base n : Nat} {e : TypeId} {sz : Nat} {v : Value} {xs : List Value} (h : w.ownsRow base e sz v n xs) : CapOk v := by
  rcases h.2 with ⟨rfl, -⟩ | ⟨g, cap, cur, rfl, -, -, hle, -⟩
  · exact ⟨none, 0, 0, rfl, Nat.le_refl _⟩
  · exact ⟨_, _, _, rfl, hle⟩
/-- What Unwrap answers. -/
def UnwrapSaid (w : World) (h : Hp) (hs : List Hp) (m : Ms) (is : Bool) (e : Ending) (w' : World) : Prop :=
  ∃ v, e = .returned (.tuple #[.agg #[.int .i64 h.rad, .string ⟨h.node.toArray⟩], .agg (dgCs v m), .bool is]) ∧ HopsAt w' v hs ∧ CapOk v ∧ Below w.heap.size w w'
/-- The hops behind the first one. -/
theorem HopsAt.tail {w : World} {p : Addr} {cap : Nat} {h : Hp} {hs : List Hp} (hH : HopsAt w (.slice (some p) (hs.length + 1) cap) (h :: hs)) (c' : Nat) (q : Addr) (hq : hs ≠ [] → q = p.add 2) : HopsAt w (.slice (some q) hs.length c') hs := by
  obtain ⟨hn, hl⟩ := hH.small
  have hc := fun j u h => hopsat_cells (hs := _ :: _) hH j u h
  refine ⟨_, _, rfl, fun x hx => hn x (List.mem_cons_of_mem _ hx), by simp at hl; omega, ?_⟩
  obtain ⟨a, c, e, -, -, hcc⟩ := hH
  obtain ⟨b, off, e2, hb, -⟩ := hcc.resolve_left (by simp)
  obtain ⟨rfl, rfl⟩ : a = some p ∧ c = cap := by cases e; exact ⟨rfl, rfl⟩
  obtain rfl := Option.some.inj e2
  by_cases h0 : hs = []
  · exact .inl h0
  refine .inr ⟨b, off + 2, by rw [hq h0]; rfl, hb, fun i hi => ?_⟩
  obtain ⟨d0, d1⟩ := hopCells_at hs i hi
  have e : hopCells (h :: hs) = .int .i64 h.rad :: .string ⟨h.node.toArray⟩ :: hopCells hs := rfl
  have e0 := hc (i * 2 + 1 + 1) _ (by rw [e, List.getElem?_cons_succ, List.getElem?_cons_succ]; exact d0)
  have e1 := hc (i * 2 + 1 + 1 + 1) _ (by rw [e, List.getElem?_cons_succ, List.getElem?_cons_succ]; exact d1)
  rw [Addr.add_mid] at e0 e1
  exact ⟨by rw [← e0]; congr 2; omega, by rw [← e1]; congr 2; omega⟩
/-- An append of a slice, as a step of a region that draws its order. -/
theorem step_append_own {P : Program} {w : World} {ops : Array Oper} {o : Oper} {a : Act} {K : Act → World → Prop} {Q : Exit → Act → World → Prop} {E : Prop} (hgd : o.guard = none) (s x : Operand) (t : TypeId)
    (ho : o.op = .call { callee := .builtin .append, args := #[s, x], argTypes := #[t, t] })
    (base : Nat) (e : TypeId) (i : TypeInfo) (z : Value) (size bytes : Nat) (ht : P.underlying t = some (.slice e)) (hi : P.info? e = some i) (hz : i.zero = some z)
    (hsize : i.size = size) (hby : i.bytes = bytes) (hzs : z.cells.size = size) (hsz : 0 < size)
    (v : Value) (n : Nat) (xs : List Value) (hs : a.eval s = v) (hown : w.ownsRow base e size v n xs)
    (ad : Addr) (m c : Nat) (news : List Value) (hx : a.eval x = .slice (some ad) m c) (hl : news.length = m * size) (hnews : ∀ j u, news[j]? = some u → w.cell? (ad.add j) = some u) (h1 : ∀ u ∈ news, u.oneCell' = true)
    (h63 : n + m ≤ maxLen) (hbytes : (n + m) * bytes ≤ 140737488355328) (hbase : base ≤ w.heap.size)
    (h : ∀ v' w', w'.ownsRow base e size v' (n + m) (xs ++ news) → w.grownBy w' v.ownBlock → K (a.put o.dst v') w') :
    if Region.wanted o (yielded ops a.tmps) = true then Oper.wp P o a w K Q else E := by
  have hw : Region.wanted o (yielded ops a.tmps) = true := by simp [Region.wanted, hgd]
  rw [if_pos hw]
  exact wp_append_own w s x t ho base e i z size bytes ht hi hz hsize hby hzs hsz v n xs hs hown ad m c news hx hl hnews h1 h63 hbytes hbase fun v' w' h2 h3 _ => h v' w' h2 h3
theorem hopCells_snoc (hs : List Hp) (h : Hp) : hopCells (hs ++ [h]) = hopCells hs ++ [.int .i64 h.rad, .string ⟨h.node.toArray⟩] := by
  unfold hopCells; rw [List.flatMap_append]; rfl
set_option maxRecDepth 100000 in
set_option maxHeartbeats 1600000 in
theorem listadd_any {w : World} {lb B : Nat} {v : Value} {hs : List Hp} (h : Hp) (hL : Obj? w lb #[v] 93) (hown : w.ownsRow B 49 2 v hs.length (hopCells hs)) (hlB : lb < B) (hB : B ≤ w.heap.size) (hn : hs.length ≤ 1000) :
    Calls Tryz.prog 75 #[.pointer (some ⟨lb, 0, none⟩), .agg #[.int .i64 h.rad, .string ⟨h.node.toArray⟩]] w fun e w' => e = .returned (.tuple #[]) ∧ ∃ v', Obj? w' lb #[v'] 93 ∧ w'.ownsRow B 49 2 v' (hs ++ [h]).length (hopCells (hs ++ [h])) ∧ Kp B lb lb w w' := by
  obtain ⟨i0, hi, hz0, hz1, hz2⟩ := info_parts infoHop
  obtain ⟨rad, node⟩ := h
  have OH := (Obj?.new w #[.int .i64 rad, .string ⟨node.toArray⟩] 49)
  have kh := OH.cells
  have kl := (hL.alloc (.cells #[.int .i64 rad, .string ⟨node.toArray⟩] 49 (0, 0))).cells
  have HL := Lib.hid hL
  have HO := Lib.hid hown
  have hvB : ∀ g, v.ownBlock = some g → B ≤ g := fun g e => (hown.lt g e).1
  have hc1 : ∀ (j : Nat) (u : Value), [Value.int .i64 rad, Value.string ⟨node.toArray⟩][j]? = some u → (((w.alloc (.cells #[.int .i64 rad, .string ⟨node.toArray⟩] 49 (0, 0))).drew).alloc (.cells #[.int .i64 rad, .string ⟨node.toArray⟩] 49 (0, 0))).cell? ((⟨w.heap.size + 1, 0, none⟩ : Addr).add j) = some u := fun j u hj => by
    rw [Addr.add_mid, Nat.zero_add]
    have := (Obj?.new ((w.alloc (.cells #[.int .i64 rad, .string ⟨node.toArray⟩] 49 (0, 0))).drew) #[.int .i64 rad, .string ⟨node.toArray⟩] 49).cell j u (by simpa using hj)
    simpa using this
  have HC1 := Lib.hid hc1
  have hlt := hL.lt
  clear hL hown hc1 OH
  go_enter Tryz.func75, Tryz.ntmps75
  go_wp2_with fail
  go_region_law ((refine step_append_own rfl _ _ _ rfl B 49 i0 (.agg #[.int .i64 0, .string ⟨#[]⟩]) 2 24 Tryz.underlying42 hi hz0 hz1 hz2 rfl (by decide) v hs.length (hopCells hs) (by rfl) (show World.ownsRow (((w.alloc (.cells #[.int .i64 rad, .string ⟨node.toArray⟩] 49 (0, 0))).drew).alloc (.cells #[.int .i64 rad, .string ⟨node.toArray⟩] 49 (0, 0))) B 49 2 v hs.length (hopCells hs) from (show World.ownsRow ((w.alloc (.cells #[.int .i64 rad, .string ⟨node.toArray⟩] 49 (0, 0))).drew) B 49 2 v hs.length (hopCells hs) from HO.out.alloc _).alloc _) ⟨w.heap.size + 1, 0, none⟩ 1 1 [.int .i64 rad, .string ⟨node.toArray⟩] (by rfl) rfl HC1.out (by simp [Value.oneCell']) (by unfold maxLen; omega) (by omega) (by simp; omega) ?_; intro v' w2 hown2 hgrow2; obtain ⟨a2, c2, rfl⟩ := owns_shape (by decide) hown2; have OL2 := Obj?.kept ((show Obj? ((w.alloc (.cells #[.int .i64 rad, .string ⟨node.toArray⟩] 49 (0, 0))).drew) lb #[v] 93 from HL.out.alloc _).alloc (.cells #[.int .i64 rad, .string ⟨node.toArray⟩] 49 (0, 0))) hgrow2 (fun e => by have := hvB lb e; omega); have kl2 := OL2.cell 0 _ rfl; have fl2 := OL2.frozen 0; have HF := Lib.hid (And.intro OL2 (And.intro hown2 hgrow2)); clear OL2 hown2 hgrow2))
  all_goals
    go_wp2
    go_end0
    refine ⟨rfl, _, Obj?.set HF.out.1 0 _, ?_, ?_⟩
    · rw [hopCells_snoc, List.length_append]
      exact World.ownsRow.kept HF.out.2.1 (grown_set (World.grownBy.refl _ (some lb)) (p := ⟨lb, 0, none⟩) rfl _) (.inr fun e => by have := (HF.out.2.1.lt lb e).1; omega)
    · exact (((((Kp.refl B lb lb w).alloc hB _).drew.alloc hB _).trans (Kp.of_row HF.out.2.2 (by simp; omega) hvB)).set (.inl rfl))
theorem results_cells2_tmp {P : Program} {fn : Func} {p q u : Tmp} {ty tq : TypeId} (h : fn.results = #[.cell p ty, .cell q tq, .tmp u]) (tmps : Array Value) (w : World) (a b : Addr) (x y : Value)
    (hp : tmps.getD p undef = .pointer (some a)) (hx : (loadVar ty a).run P w = .ok x w) (hq : tmps.getD q undef = .pointer (some b)) (hy : (loadVar tq b).run P w = .ok y w) :
    (results fn tmps).run P w = .ok (.tuple #[x, y, tmps.getD u undef]) w := by
  have e : (results fn tmps).run P w = ((asAddr (tmps.getD p undef)).run P w).andThen fun a w₁ => ((loadVar ty a).run P w₁).andThen fun r w₂ => ((asAddr (tmps.getD q undef)).run P w₂).andThen fun a' w₃ => ((loadVar tq a').run P w₃).andThen fun r' w₄ => .ok (.tuple #[r, r', tmps.getD u undef]) w₄ := by
    simp only [results, h]
    simp [Sem.run_bind, Result.andThen]
  rw [e, hp, hq]
  simp [asAddr, Result.andThen, hx, hy]
theorem load_hop {w : World} {b : Nat} {t : TypeId} {h : Hp} (ho : Obj? w b #[.int .i64 h.rad, .string ⟨h.node.toArray⟩] t) : (loadVar 49 ⟨b, 0, none⟩).run Tryz.prog w = .ok (.agg #[.int .i64 h.rad, .string ⟨h.node.toArray⟩]) w := by
  have k0 := ho.cell 0 _ rfl
  have k1 := ho.cell 1 _ rfl
  go_simp
set_option maxRecDepth 100000 in
set_option maxHeartbeats 1600000 in
theorem unwrap_none {v : Value} {m : Ms} {w : World} (hH : HopsAt w v []) : Calls Tryz.prog 26 #[.agg (dgCs v m)] w (UnwrapSaid w h0 [] ms0 false) := by
  obtain ⟨a, cap, rfl, -, -, -⟩ := hH
  show Calls Tryz.prog 26 #[.agg (dgCs (.slice a 0 cap) m)] w _
  have OD := ((Obj?.new w (dgCs (.slice a 0 cap) m) 45).alloc (.cells #[.int .i64 0, .string ⟨#[]⟩] 49 (0, 0))).alloc (.cells (dgCs nilV ms0) 45 (0, 0))
  have OH := (Obj?.new (w.alloc (.cells (dgCs (.slice a 0 cap) m) 45 (0, 0))) #[.int .i64 0, .string ⟨#[]⟩] 49).alloc (.cells (dgCs nilV ms0) 45 (0, 0))
  have OR := Obj?.new ((w.alloc (.cells (dgCs (.slice a 0 cap) m) 45 (0, 0))).alloc (.cells #[.int .i64 0, .string ⟨#[]⟩] 49 (0, 0))) (dgCs nilV ms0) 45
  rw [World.size_alloc] at OH OR
  rw [World.size_alloc] at OR
  have HB := Lib.hid (below_al (below_al (below_al (Below.refl _ w) (.cells (dgCs (.slice a 0 cap) m) 45 (0, 0))) (.cells #[.int .i64 0, .string ⟨#[]⟩] 49 (0, 0))) (.cells (dgCs nilV ms0) 45 (0, 0)))
  have kd := OD.cells
  have kh := OH.cells
  have fh := fun j => OH.frozen j
  have hst := store_dg (v0 := nilV) (m0 := ms0) (v := nilV) (m := ms0) rfl OR
  have HO := Lib.hid (And.intro OH OR)
  clear OD OH OR
  unfold dgCs ms0 Ms.bare fl0 at kd kh fh hst
  dsimp only at kd kh fh hst
  unfold dgCs
  go_enter Tryz.func26, Tryz.ntmps26
  go_wp2
  refine bodyPost_ret (results_cells2_tmp rfl _ _ ⟨w.heap.size + 1, 0, none⟩ ⟨w.heap.size + 1 + 1, 0, none⟩ (.agg #[.int .i64 h0.rad, .string ⟨h0.node.toArray⟩]) (.agg (dgCs nilV ms0)) rfl ?_ rfl ?_) rfl ?_
  · exact load_hop (h := h0) (HO.out.1.setRow_ne (by omega))
  · rw [load_Dg]; exact load_dg (HO.out.2.setRow _)
  · exact ⟨nilV, rfl, hopsat_nil _, ⟨none, 0, 0, rfl, Nat.le_refl _⟩, below_row HB.out (by omega) _⟩
theorem hop_tail {b off cap n : Nat} {h : Hp} {hs : List Hp} (hn : n = hs.length) (hc : n + 1 ≤ cap) : ∃ (q : Addr) (c' : Nat), n ≤ c' ∧ (∀ W : World, (Instr.slice 42 (.slice (some ⟨b, off, none⟩) (n + 1) cap) (some (.int .i64 1)) none none).run Tryz.prog W = .ok (.slice (some q) n c') W) ∧
    ∀ W : World, HopsAt W (.slice (some ⟨b, off, none⟩) (n + 1) cap) (h :: hs) → HopsAt W (.slice (some q) n c') hs := by
  have ht : Tryz.prog.underlying 42 = some (.slice (Tryz.prog.elem 42)) := by kernel_rfl
  have hz : ∀ w, (Go.sizeOf (Tryz.prog.elem 42)).run Tryz.prog w = .ok 2 w := by intro w; kernel_rfl
  subst hn
  refine ⟨if cap = 1 then ⟨b, off, none⟩ else (⟨b, off, none⟩ : Addr).add 2, cap - 1, by omega, fun W => ?_, fun W hW => ?_⟩
  · rw [run_slice_l W 42 _ (hs.length + 1) cap ht .i64 1 (by omega) (by omega), hz]
    by_cases h1 : cap = 1
    · simp [Result.andThen, sliced, h1]
    · simp [Result.andThen, sliced, h1, Addr.add]
  · refine HopsAt.tail hW _ _ (fun h0 => ?_)
    have := List.length_pos_iff.2 h0
    rw [if_neg (by omega)]
theorem HopsAt.one {w : World} {v : Value} {hs : List Hp} (h : HopsAt w v hs) : v.oneCell' = true := by
  obtain ⟨a, cap, rfl, -⟩ := h
  rfl
set_option maxRecDepth 100000 in
set_option maxHeartbeats 1600000 in
theorem unwrap_some {v : Value} {h : Hp} {hs : List Hp} {m : Ms} {w : World} (hH : HopsAt w v (h :: hs)) (hcap : CapOk v) (hl : hs.length ≤ 1000) : Calls Tryz.prog 26 #[.agg (dgCs v m)] w (UnwrapSaid w h hs m true) := by
  have HHW := Lib.hid hH
  obtain ⟨a, cap, rfl, hn, hll, hc⟩ := hH
  obtain ⟨b, off, rfl, hlt, hc2⟩ := hc.resolve_left (by simp)
  obtain ⟨c0, c1⟩ := hc2 0 (by simp)
  simp only [Nat.zero_mul, Nat.add_zero, List.getElem_cons_zero] at c0 c1
  have hcp : hs.length + 1 ≤ cap := by obtain ⟨a', n', c', e, hle⟩ := hcap; cases e; simpa using hle
  obtain ⟨N, hN⟩ : ∃ N, N = hs.length := ⟨_, rfl⟩
  obtain ⟨q, cq, hcq, hsl, htl⟩ := hop_tail (b := b) (off := off) (h := h) hN (by omega : N + 1 ≤ cap)
  have HTL := Lib.hid htl
  rw [List.length_cons, ← hN] at HHW ⊢
  have HN := Lib.hid (show N ≤ 1000 by omega)
  have HL := Lib.hid hl
  have OD := ((Obj?.new w (dgCs (.slice (some ⟨b, off, none⟩) (N + 1) cap) m) 45).alloc (.cells #[.int .i64 0, .string ⟨#[]⟩] 49 (0, 0))).alloc (.cells (dgCs nilV ms0) 45 (0, 0))
  have OH := (Obj?.new (w.alloc (.cells (dgCs (.slice (some ⟨b, off, none⟩) (N + 1) cap) m) 45 (0, 0))) #[.int .i64 0, .string ⟨#[]⟩] 49).alloc (.cells (dgCs nilV ms0) 45 (0, 0))
  have OR := Obj?.new ((w.alloc (.cells (dgCs (.slice (some ⟨b, off, none⟩) (N + 1) cap) m) 45 (0, 0))).alloc (.cells #[.int .i64 0, .string ⟨#[]⟩] 49 (0, 0))) (dgCs nilV ms0) 45
  rw [World.size_alloc] at OH OR
  rw [World.size_alloc] at OR
  have hB := below_al (below_al (below_al (Below.refl _ w) (.cells (dgCs (.slice (some ⟨b, off, none⟩) (N + 1) cap) m) 45 (0, 0))) (.cells #[.int .i64 0, .string ⟨#[]⟩] 49 (0, 0))) (.cells (dgCs nilV ms0) 45 (0, 0))
  have kd := OD.cells
  have HO := Lib.hid (And.intro OD (And.intro OH (And.intro OR hB)))
  have d1 : ((N : Int) + 1 == 0) = false := by simp; omega
  have HC := Lib.hid (And.intro c0 (And.intro c1 hlt))
  clear OD OH OR hc hc2 hn hll htl hcap hN hl c0 c1 hB
  unfold dgCs ms0 Ms.bare fl0 at kd
  dsimp only at kd
  unfold dgCs
  go_enter Tryz.func26, Tryz.ntmps26
  go_upto_region 3 with fail
  obtain ⟨W1, hW1⟩ : ∃ W1, W1 = ((w.alloc (.cells (dgCs (.slice (some ⟨b, off, none⟩) (N + 1) cap) m) 45 (0, 0))).alloc (.cells #[.int .i64 0, .string ⟨#[]⟩] 49 (0, 0))).alloc (.cells (dgCs nilV ms0) 45 (0, 0)) := ⟨_, rfl⟩
  rw [← hW1] at HO
  have hW1' := hW1.symm
  unfold dgCs ms0 Ms.bare fl0 nilV at hW1'
  unfold nilV at kd
  dsimp only at hW1' kd
  rw [hW1'] at kd ⊢
  clear hW1 hW1'
  have c0 := (HO.out.2.2.2.cell (p := ⟨b, off, none⟩) HC.out.2.2).trans HC.out.1
  have c1 := (HO.out.2.2.2.cell (p := ⟨b, off + 1, none⟩) HC.out.2.2).trans HC.out.2.1
  have HHA := Lib.hid (HTL.out W1.drew (HHW.out.below (below_drewM HO.out.2.2.2)))
  have HD := Lib.hid (show Obj? W1.drew w.heap.size (dgCs (.slice (some ⟨b, off, none⟩) (N + 1) cap) m) 45 from HO.out.1)
  have HHp := Lib.hid (show Obj? W1.drew (w.heap.size + 1) #[.int .i64 0, .string ⟨#[]⟩] 49 from HO.out.2.1)
  have HRs := Lib.hid (show Obj? W1.drew (w.heap.size + 1 + 1) (dgCs nilV ms0) 45 from HO.out.2.2.1)
  have HBd := Lib.hid (show Below w.heap.size w W1.drew from below_drewM HO.out.2.2.2)
  have hldm := load_dgmsg (v := .slice (some ⟨b, off, none⟩) (N + 1) cap) (m := m) HD.out
  unfold Ms.cs at hldm
  have HNE := Lib.hid (show some (w.heap.size + 1) ≠ some (w.heap.size + 1 + 1) ∧ some (w.heap.size + 1) ≠ some w.heap.size by constructor <;> (intro e; have := Option.some.inj e; omega))
  have HSM := Lib.hid (HHA.out).small
  have HLT := Lib.hid (Nat.lt_of_lt_of_le HC.out.2.2 HBd.out.size)
  go_region_law ((go_simp; go_at_call 76; ((with_reducible refine (hopsclone_any HHA.out HL.out).mono ?_); (rintro r w2 ⟨v', rfl, hR, hb⟩; obtain ⟨a2, cap2, rfl⟩ := owns_shape (by decide) hR; have OD2 := HD.out.below hb HD.out.lt; have OH2 := HHp.out.below hb HHp.out.lt; have OR2 := HRs.out.below hb HRs.out.lt; have kd2 := OD2.cell 0 (.slice (some ⟨b, off, none⟩) (N + 1) cap) rfl; have hldm2 := load_dgmsg (v := .slice (some ⟨b, off, none⟩) (N + 1) cap) (m := m) OD2; have e0 := (hb.cell (p := ⟨b, off, none⟩) HLT.out).trans c0; have e1 := (hb.cell (p := ⟨b, off + 1, none⟩) HLT.out).trans c1; have kh2 := OH2.cells; have fh2 := fun j => OH2.frozen j; have g3 := grown_set (grown_set (World.grownBy.refl w2 (some (w.heap.size + 1))) (p := ⟨w.heap.size + 1, 0, none⟩) rfl (.int .i64 h.rad)) (p := ⟨w.heap.size + 1, 1, none⟩) rfl (.string ⟨h.node.toArray⟩); have OR3 := OR2.kept g3 HNE.out.1; have hst := store_dg (v0 := nilV) (m0 := ms0) (v := .slice a2 hs.length cap2) (m := m) rfl OR3; have hldm3 := load_dgmsg (v := .slice (some ⟨b, off, none⟩) (N + 1) cap) (m := m) (OD2.kept g3 HNE.out.2); unfold dgCs at hst; unfold Ms.cs at hldm2 hldm3; have HF := Lib.hid (And.intro ((OH2.set 0 (.int .i64 h.rad)).set 1 (.string ⟨h.node.toArray⟩)) (And.intro OR3 (And.intro hR (And.intro g3 hb)))); clear OD2 OH2 OR2 OR3 g3 hR hb))))
  all_goals
    obtain ⟨q1, q2, q3, q4, q5⟩ := HF.out
    go_wp2
    refine bodyPost_ret (results_cells2_tmp rfl _ _ ⟨w.heap.size + 1, 0, none⟩ ⟨w.heap.size + 1 + 1, 0, none⟩ (.agg #[.int .i64 h.rad, .string ⟨h.node.toArray⟩]) (.agg (dgCs (.slice a2 hs.length cap2) m)) rfl ?_ rfl ?_) rfl ?_
    · exact load_hop (h := h) (Obj?.setRow_ne q1 (by omega))
    · rw [load_Dg]; exact load_dg (Obj?.setRow q2 _)
    · exact ⟨_, rfl, hopsat_of_row (row_far (row_far q3 q4 (fun j e => by obtain rfl := Option.some.inj e; exact HHp.out.lt)) (setRow_grown _ _ _) (fun j e => by obtain rfl := Option.some.inj e; exact HRs.out.lt)) HSM.out.1 HSM.out.2, cap_of_row q3, below_row (HBd.out.trans (q5.mono HBd.out.size) |>.grown q4 (Nat.le_trans HBd.out.size q5.size) (by intro j e; cases e; omega)) (by omega) _⟩
theorem store_newdg (w : World) (v : Value) (m : Ms) (hv : v.oneCell' = true) : (rowStore 45 ⟨w.heap.size, 0, none⟩ (.agg (dgCs v m))).run Tryz.prog (w.alloc (.cells #[.slice none 0 0, .int .i64 0, .bool false, .int .i64 0, .bool false, .bool false, .bool false, .int .i64 0, .int .i64 0, .int .i64 0, .int .i64 0, .bool false, .int .i64 0, .int .i64 0, .int .i64 0, .string ⟨#[]⟩, .string ⟨#[]⟩] 45 (0, 0))) = .ok () (w.alloc (.cells (dgCs v m) 45 (0, 0))) := by
  have h := store_dg (v0 := nilV) (m0 := ms0) (v := v) (m := m) hv (Obj?.new w (dgCs nilV ms0) 45)
  rw [World.setRow_alloc_new] at h
  exact h
theorem new_kept {A B : World} {C : Array Value} {t : TypeId} (hb : Below ((A.alloc (.cells C t (0, 0))).drew).heap.size ((A.alloc (.cells C t (0, 0))).drew) B) : Obj? B A.heap.size C t :=
  Obj?.below (show Obj? ((A.alloc (.cells C t (0, 0))).drew) A.heap.size C t from Obj?.new A C t) hb (by show A.heap.size < (A.alloc _).heap.size; rw [World.size_alloc]; omega)
theorem new_below {A B : World} {C : Array Value} {t : TypeId} (hb : Below ((A.alloc (.cells C t (0, 0))).drew).heap.size ((A.alloc (.cells C t (0, 0))).drew) B) : Below A.heap.size A B :=
  ((below_al (Below.refl _ A) (.cells C t (0, 0))).trans ((below_grown (quiet_grown ⟨1, rfl⟩ none)).mono (by rw [World.size_alloc]; omega))).trans (hb.mono (by show A.heap.size ≤ (A.alloc _).heap.size; rw [World.size_alloc]; omega))
end Go.Proofs.YtbacnaplpfmpnaaGreatDoor
namespace Go.Proofs.YtbacnaplpfmpnaaGreatDoor
open Go Go.RowKit Go.Shelf
set_option linter.unusedVariables false
set_option linter.unusedSimpArgs false
attribute [local go_sem ↓] load_Msg store_Msg load_Dg store_Dg
attribute [local irreducible] rowSem rowStore

/-- What Wrap answers. -/
def WrapSaid (w : World) (hs : List Hp) (m : Ms) (E : Int) (e : Ending) (w' : World) : Prop :=
  ∃ v, e = .returned (.tuple #[.agg (dgCs v m), .int .i64 E]) ∧ HopsAt w' v hs ∧ w'.ownsRow w.heap.size 49 2 v hs.length (hopCells hs) ∧ Below w.heap.size w w'
theorem row_mono {w : World} {base base' : Nat} {e : TypeId} {sz : Nat} {v : Value} {n : Nat} {xs : List Value} (h : w.ownsRow base e sz v n xs) (hb : base' ≤ base) : w.ownsRow base' e sz v n xs := by
  rcases h with ⟨h0, ⟨rfl, h1⟩ | ⟨g, cap, cur, rfl, h2, h3⟩⟩
  · exact ⟨h0, .inl ⟨rfl, h1⟩⟩
  · exact ⟨h0, .inr ⟨g, cap, cur, rfl, Nat.le_trans hb h2, h3⟩⟩
/-- The worlds at a call of Wrap: the hop, the datagram, the result. -/
theorem wrap_world (h : Hp) (v : Value) (m : Ms) (w : World) : ∃ W0, ((w.alloc (.cells #[.int .i64 h.rad, .string ⟨h.node.toArray⟩] 49 (0, 0))).alloc (.cells (dgCs v m) 45 (0, 0))).alloc (.cells (dgCs nilV ms0) 45 (0, 0)) = W0 ∧
    Obj? W0 w.heap.size #[.int .i64 h.rad, .string ⟨h.node.toArray⟩] 49 ∧ Obj? W0 (w.heap.size + 1) (dgCs v m) 45 ∧ Obj? W0 (w.heap.size + 1 + 1) (dgCs nilV ms0) 45 ∧ Below w.heap.size w W0 := by
  refine ⟨_, rfl, ((Obj?.new w _ _).alloc _).alloc _, ?_, ?_, below_al (below_al (below_al (Below.refl _ w) _) _) _⟩
  · have := (Obj?.new (w.alloc (.cells #[.int .i64 h.rad, .string ⟨h.node.toArray⟩] 49 (0, 0))) (dgCs v m) 45).alloc (.cells (dgCs nilV ms0) 45 (0, 0))
    rw [World.size_alloc] at this
    exact this
  · have := Obj?.new ((w.alloc (.cells #[.int .i64 h.rad, .string ⟨h.node.toArray⟩] 49 (0, 0))).alloc (.cells (dgCs v m) 45 (0, 0))) (dgCs nilV ms0) 45
    rw [World.size_alloc, World.size_alloc] at this
    exact this
set_option maxRecDepth 100000 in
set_option maxHeartbeats 1600000 in
theorem wrap_bad (h : Hp) {v : Value} {hs : List Hp} {m : Ms} {w : World} (hn : (h.node.length : Int) ≤ 9223372036854775807) (hH : HopsAt w v hs) (hk : hopOk h = false) :
    Calls Tryz.prog 25 #[.agg #[.int .i64 h.rad, .string ⟨h.node.toArray⟩], .agg (dgCs v m)] w (WrapSaid w [] ms0 2) := by
  obtain ⟨W0, hW0, O1, O2, O3, hB⟩ := wrap_world h v m w
  have HHR := Lib.hid (fun w => hopright_any h hn w)
  rw [hk] at HHR
  have HO := Lib.hid (And.intro O2 (And.intro O3 hB))
  have k1 := O1.cells
  unfold dgCs ms0 Ms.bare fl0 nilV at hW0
  dsimp only at hW0
  clear O1 O2 O3 hB hk hH
  unfold dgCs
  go_enter Tryz.func25, Tryz.ntmps25
  go_upto_region 1 with fail
  (try rw [hW0])
  clear hW0
  go_wp2_with fail
  refine (HHR.out _).mono ?_
  rintro r w1 ⟨rfl, hb⟩
  have hst := store_dg (v0 := nilV) (m0 := ms0) (v := nilV) (m := ms0) rfl (HO.out.2.1.below hb HO.out.2.1.lt)
  have HF := Lib.hid (And.intro ((HO.out.2.1.below hb HO.out.2.1.lt).setRow (dgCs nilV ms0)) (below_row (HO.out.2.2.trans (hb.mono HO.out.2.2.size)) (by omega : w.heap.size ≤ w.heap.size + 1 + 1) (dgCs nilV ms0)))
  clear hb
  unfold dgCs ms0 Ms.bare fl0 nilV at hst
  dsimp only at hst
  go_wp2
  (try simp only [Exit.inBlock, Exit.then])
  refine bodyPost_ret (results_row_tmp rfl _ _ _ _ _ _ rfl HF.out.1 Tryz.underlying45 rfl infoDg) rfl ?_
  exact ⟨nilV, rfl, hopsat_nil _, World.ownsRow_nil _ _ _ _, HF.out.2⟩
set_option maxRecDepth 100000 in
set_option maxHeartbeats 1600000 in
theorem wrap_full (h : Hp) {v : Value} {hs : List Hp} {m : Ms} {w : World} (hn : (h.node.length : Int) ≤ 9223372036854775807) (hH : HopsAt w v hs) (hk : hopOk h = true) (h4 : 4 ≤ hs.length) :
    Calls Tryz.prog 25 #[.agg #[.int .i64 h.rad, .string ⟨h.node.toArray⟩], .agg (dgCs v m)] w (WrapSaid w [] ms0 12) := by
  obtain ⟨W0, hW0, O1, O2, O3, hB⟩ := wrap_world h v m w
  have HHR := Lib.hid (fun w => hopright_any h hn w)
  rw [hk] at HHR
  have HO := Lib.hid (And.intro O2 (And.intro O3 hB))
  have k1 := O1.cells
  unfold dgCs ms0 Ms.bare fl0 nilV at hW0
  dsimp only at hW0
  obtain ⟨a, cap, rfl, -, -, -⟩ := hH
  have d4 : (4 : Int) ≤ hs.length := by omega
  clear O1 O2 O3 hB hk h4
  unfold dgCs
  go_enter Tryz.func25, Tryz.ntmps25
  go_upto_region 1 with fail
  (try rw [hW0])
  clear hW0
  go_wp2_with fail
  refine (HHR.out _).mono ?_
  rintro r w1 ⟨rfl, hb⟩
  have O2 := HO.out.1.below hb HO.out.1.lt
  have kd := O2.cells
  unfold dgCs at kd
  have hst := store_dg (v0 := nilV) (m0 := ms0) (v := nilV) (m := ms0) rfl (HO.out.2.1.below hb HO.out.2.1.lt)
  have HF := Lib.hid (And.intro ((HO.out.2.1.below hb HO.out.2.1.lt).setRow (dgCs nilV ms0)) (below_row (HO.out.2.2.trans (hb.mono HO.out.2.2.size)) (by omega : w.heap.size ≤ w.heap.size + 1 + 1) (dgCs nilV ms0)))
  clear hb O2
  unfold dgCs ms0 Ms.bare fl0 nilV at hst
  dsimp only at hst
  go_wp2
  (try simp only [Exit.inBlock, Exit.then])
  refine bodyPost_ret (results_row_tmp rfl _ _ _ _ _ _ rfl HF.out.1 Tryz.underlying45 rfl infoDg) rfl ?_
  exact ⟨nilV, rfl, hopsat_nil _, World.ownsRow_nil _ _ _ _, HF.out.2⟩
/-- The list while it is put together. -/
def WrapInv (lb : Nat) (W5 : World) (h : Hp) (hs : List Hp) (k : Nat) (wr : World) : Prop :=
  ∃ v, Obj? wr lb #[v] 93 ∧ wr.ownsRow (lb + 1) 49 2 v (h :: hs.take k).length (hopCells (h :: hs.take k)) ∧ Kp (lb + 1) lb lb W5 wr
set_option maxRecDepth 100000 in
set_option maxHeartbeats 3200000 in
theorem wrap_ok (h : Hp) {v : Value} {hs : List Hp} {m : Ms} {w : World} (hn : (h.node.length : Int) ≤ 9223372036854775807) (hH : HopsAt w v hs) (hk : hopOk h = true) (h4 : hs.length < 4) :
    Calls Tryz.prog 25 #[.agg #[.int .i64 h.rad, .string ⟨h.node.toArray⟩], .agg (dgCs v m)] w (WrapSaid w (h :: hs) m 0) := by
  obtain ⟨W0, hW0, O1, O2, O3, hB⟩ := wrap_world h v m w
  have HHR := Lib.hid (fun w => hopright_any h hn w)
  rw [hk] at HHR
  have HO := Lib.hid (And.intro O2 (And.intro O3 (And.intro O1 hB)))
  have k1 := O1.cells
  unfold dgCs ms0 Ms.bare fl0 nilV at hW0
  dsimp only at hW0
  have HHW := Lib.hid hH
  have HSM := Lib.hid hH.small
  have HN0 := Lib.hid hn
  obtain ⟨a, cap, rfl, -, -, -⟩ := hH
  obtain ⟨N, hN⟩ : ∃ N, N = hs.length := ⟨_, rfl⟩
  rw [← hN] at HHW h4 hW0 HO ⊢
  have HN := Lib.hid hN
  have d4 : ¬ (4 : Int) ≤ N := by omega
  have hN4 : N < 4 := h4
  clear O1 O2 O3 hB hk h4 hN hn
  unfold dgCs
  go_enter Tryz.func25, Tryz.ntmps25
  refine wp_hide fun Q1 hQ1 => ?_
  have HQ1 := Lib.hid hQ1
  clear hQ1
  go_upto_region 1 with fail
  (try rw [hW0])
  clear hW0
  go_wp2_with fail
  refine (HHR.out _).mono ?_
  rintro r w1 ⟨rfl, hb⟩
  have O1 := HO.out.2.2.1.below hb HO.out.2.2.1.lt
  have O2 := HO.out.1.below hb HO.out.1.lt
  have kh := O1.cells
  have kd := O2.cells
  have kh1 := (O1.alloc (.cells #[.slice none 0 0] 93 (0, 0))).cells
  have kd1 := (O2.alloc (.cells #[.slice none 0 0] 93 (0, 0))).cells
  unfold dgCs at kd kd1
  have HO1 := Lib.hid (And.intro O2 (And.intro (HO.out.2.1.below hb HO.out.2.1.lt) (HO.out.2.2.2.trans (hb.mono HO.out.2.2.2.size))))
  clear hb O1 O2
  have HLA := Lib.hid (listadd_any (w := w1.alloc (.cells #[.slice none 0 0] 93 (0, 0))) (lb := w1.heap.size) (B := w1.heap.size + 1) (v := nilV) (hs := []) h (Obj?.new _ _ _) (World.ownsRow_nil _ _ _ _) (by omega) (by simp) (by simp))
  have HO5 := Lib.hid (show Obj? (w1.alloc (.cells #[.slice none 0 0] 93 (0, 0))) (w.heap.size + 1) (dgCs (.slice a N cap) m) 45 ∧ Obj? (w1.alloc (.cells #[.slice none 0 0] 93 (0, 0))) (w.heap.size + 1 + 1) (dgCs nilV ms0) 45 ∧ Below w.heap.size w (w1.alloc (.cells #[.slice none 0 0] 93 (0, 0))) from ⟨HO1.out.1.alloc _, HO1.out.2.1.alloc _, below_al HO1.out.2.2 _⟩)
  have HLT := Lib.hid (show w.heap.size + 1 + 1 < w1.heap.size from HO1.out.2.1.lt)
  go_wp2_with fail
  refine HLA.out.mono ?_
  rintro r w2 ⟨rfl, v1, hL, hown, hk⟩
  have HI := Lib.hid (show WrapInv w1.heap.size (w1.alloc (.cells #[.slice none 0 0] 93 (0, 0))) h hs 0 w2 from ⟨v1, hL, hown, hk⟩)
  have kd2 := (hk.obj HO5.out.1 (by have := HLT.out; omega) (by have := HLT.out; omega) (by have := HLT.out; omega)).cells
  unfold dgCs at kd2
  clear hL hown hk kh1 kd1 kh kd
  obtain ⟨lb, hlb⟩ : ∃ lb, lb = w1.heap.size := ⟨_, rfl⟩
  obtain ⟨W5, hW5⟩ : ∃ W5, W5 = w1.alloc (.cells #[.slice none 0 0] 93 (0, 0)) := ⟨_, rfl⟩
  rw [← hlb] at HI HLT ⊢
  rw [← hW5] at HI HO5
  have HW5 := Lib.hid (show W5.heap.size = lb + 1 by rw [hW5, World.size_alloc, hlb])
  clear hlb hW5 HLA
  go_wp2
  go_loopw [26, 9] (fun i _ wr => ∃ k : Nat, k ≤ N ∧ i = .int .i64 k ∧ Hid (WrapInv lb W5 h hs k wr)) (fun i _ _ => N - (intOf i).toNat)
  case atStart => exact ⟨0, Nat.zero_le _, rfl, HI⟩
  case round =>
    obtain ⟨k, hk, rfl, HV⟩ := hrel
    by_cases hlt : k < N
    · obtain ⟨v, hL, hown, hkp⟩ := HV.out
      have hks : k < hs.length := by rw [← HN.out]; exact hlt
      have hBw : Below w.heap.size w wr := HO5.out.2.2.trans (hkp.to_below (by have := HLT.out; omega) (by have := HLT.out; omega) (by have := HLT.out; omega))
      obtain ⟨b, off, rfl, hbl, c0, c1⟩ := hopat_cell (HHW.out.below hBw) k hks
      have hst := List.take_succ_eq_append_getElem hks
      obtain ⟨x, hx⟩ : ∃ x, x = hs[k] := ⟨_, rfl⟩
      rw [← hx] at c0 c1 hst
      have hki : (k : Int) < N := by omega
      have hB5 : lb + 1 ≤ wr.heap.size := by have := hkp.size; rw [HW5.out] at this; exact this
      have HLB := Lib.hid (listadd_any (w := wr.alloc (.cells #[.int .i64 x.rad, .string ⟨x.node.toArray⟩] 49 (0, 0))) (lb := lb) (B := lb + 1) (v := v) (hs := h :: hs.take k) x (hL.alloc _) (hown.alloc _) (by omega) (by rw [World.size_alloc]; omega) (by simp; omega))
      have HK := Lib.hid (And.intro hkp (And.intro hst hB5))
      have d0 : decide ((k : Int) < N) = true := decide_eq_true hki
      clear hL hown hkp hst hx hB5 hBw HV
      go_wp2_with fail
      refine HLB.out.mono ?_
      rintro r w3 ⟨rfl, v3, hL3, hown3, hk3⟩
      have HJ := Lib.hid (show WrapInv lb W5 h hs (k + 1) w3 from ⟨v3, hL3, by rw [HK.out.2.1]; exact hown3, (HK.out.1.alloc (by rw [HW5.out]; omega) _).trans hk3⟩)
      clear hL3 hown3 hk3
      go_wp2
      go_roundw
      case rel => exact ⟨k + 1, by omega, by go_num, HJ⟩
      case measure => simp [intOf]; omega
    · obtain rfl : k = N := by omega
      obtain ⟨v, hL, hown, hkp⟩ := HV.out
      have htk : hs.take k = hs := by rw [HN.out]; exact List.take_length
      rw [htk] at hown
      obtain ⟨a2, c2, rfl⟩ := owns_shape (by decide) hown
      have kl := hL.cell 0 _ rfl
      have O2 := hkp.obj HO5.out.1 (by have := HLT.out; omega) (by have := HLT.out; omega) (by have := HLT.out; omega)
      have O3 := hkp.obj HO5.out.2.1 (by have := HLT.out; omega) (by have := HLT.out; omega) (by have := HLT.out; omega)
      have hldm := load_dgmsg O2
      have hst := store_dg (v0 := nilV) (m0 := ms0) (v := .slice a2 (h :: hs).length c2) (m := m) rfl O3
      rw [List.length_cons] at hst
      have HB := Lib.hid (below_row (HO5.out.2.2.trans (hkp.to_below (by have := HLT.out; omega) (by have := HLT.out; omega) (by have := HLT.out; omega))) (by omega : w.heap.size ≤ w.heap.size + 1 + 1) (dgCs (.slice a2 (h :: hs).length c2) m))
      have HR := Lib.hid (And.intro hown O3)
      have d0 : ¬ ((k : Int) < k) := by omega
      unfold dgCs at hst
      unfold Ms.cs at hldm
      clear hL hown hkp O2 O3 htk HV
      go_wp2
      refine HQ1.out _ _ _ ?_
      (try simp only [Exit.inBlock, Exit.then])
      refine bodyPost_ret (results_row_tmp rfl _ _ _ _ _ _ rfl (HR.out.2.setRow _) Tryz.underlying45 rfl infoDg) rfl ?_
      have hrow := row_far HR.out.1 (setRow_grown wr (w.heap.size + 1 + 1) (dgCs (.slice a2 (h :: hs).length c2) m)) (fun j e => by obtain rfl := Option.some.inj e; have := HLT.out; omega)
      refine ⟨_, rfl, hopsat_of_row hrow (fun y hy => ?_) ?_, row_mono hrow (by have := HLT.out; omega), HB.out⟩
      · rcases List.mem_cons.1 hy with rfl | h1
        · exact HN0.out
        · exact HSM.out.1 y h1
      · have := HSM.out.2; have := HN.out; simp only [List.length_cons]; omega
theorem wrap_said (h : Hp) {v : Value} {hs : List Hp} {m : Ms} {w : World} (hn : (h.node.length : Int) ≤ 9223372036854775807) (hH : HopsAt w v hs) :
    Calls Tryz.prog 25 #[.agg #[.int .i64 h.rad, .string ⟨h.node.toArray⟩], .agg (dgCs v m)] w (if hopOk h = false then WrapSaid w [] ms0 2 else if 4 ≤ hs.length then WrapSaid w [] ms0 12 else WrapSaid w (h :: hs) m 0) := by
  cases hk : hopOk h with
  | false => rw [if_pos rfl]; exact wrap_bad h hn hH hk
  | true =>
    rw [if_neg (by simp)]
    by_cases h4 : 4 ≤ hs.length
    · rw [if_pos h4]; exact wrap_full h hn hH hk h4
    · rw [if_neg h4]; exact wrap_ok h hn hH hk (by omega)
end Go.Proofs.YtbacnaplpfmpnaaGreatDoor
