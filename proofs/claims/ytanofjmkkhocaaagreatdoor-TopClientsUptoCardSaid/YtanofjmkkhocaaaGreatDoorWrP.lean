/- snwrap: slices.Clone at hops, Unwrap; (*list).add, Wrap. snwrap: Wrap. -/
import Derived.Test.YtanofjmkkhocaaaGreatDoorWrH
import Derived.Deep.RegionWith
import Derived.Lib.SliceRun
set_option linter.unusedVariables false
set_option linter.unusedSimpArgs false
set_option maxRecDepth 100000
set_option maxHeartbeats 1600000
namespace Go.Proofs.YtanofjmkkhocaaaGreatDoor
open Go Go.RowKit Go.Shelf
attribute [local go_sem ↓] load_Msg store_Msg load_Dg store_Dg
attribute [local irreducible] rowSem rowStore
theorem hopsat_cells {w : World} {p : Addr} {cap : Nat} {hs : List Hp} (h : HopsAt w (.slice (some p) hs.length cap) hs) (j : Nat) (u : Value) (hj : (hopCells hs)[j]? = some u) : w.cell? (p.add j) = some u := by
 obtain ⟨a, c, e, hn, hl, hc⟩ := h
 obtain ⟨rfl, rfl⟩ : a = some p ∧ c = cap := by cases e; exact ⟨rfl, rfl⟩
 have hjl : j < (hopCells hs).length := (List.getElem?_eq_some_iff.1 hj).1
 rw [hopCells_len] at hjl
 obtain ⟨b, off, e2, hb, hc2⟩ := hc.resolve_left (fun h0 => by rw [h0] at hjl; simp at hjl)
 clear hc e
 obtain rfl := Option.some.inj e2
 obtain ⟨c0, c1⟩ := hc2 (j / 2) (by omega)
 obtain ⟨d0, d1⟩ := hopCells_at hs (j / 2) (by omega)
 rw [Addr.add_mid]
 rcases (by omega : j = j / 2 * 2 ∨ j = j / 2 * 2 + 1) with h1 | h1
 ·rw [h1] at hj ⊢
  rw [d0] at hj
  obtain rfl := Option.some.inj hj
  exact c0
 ·rw [h1] at hj ⊢
  rw [d1] at hj
  obtain rfl := Option.some.inj hj
  exact c1
theorem hopCells_one (hs : List Hp) : ∀ u ∈ hopCells hs, u.oneCell' = true := by
 intro u hu
 obtain ⟨h, -, h2⟩ := List.mem_flatMap.1 hu
 simp only [List.mem_cons, List.not_mem_nil, or_false] at h2
 rcases h2 with rfl | rfl <;> rfl
theorem HopsAt.small {w : World} {v : Value} {hs : List Hp} (h : HopsAt w v hs) : (∀ x ∈ hs, (x.node.length : Int) ≤ 9223372036854775807) ∧ (hs.length : Int) ≤ 9223372036854775807 := by
 obtain ⟨a, c, e, hn, hl, hc⟩ := h
 exact ⟨hn, hl⟩
theorem hopsclone_any {v : Value} {hs : List Hp} {w : World} (hH : HopsAt w v hs) (hl : hs.length ≤ 1000) :
  Calls Tryz.prog 195 #[v] w fun e w' => ∃ v', e = .returned v' ∧ w'.ownsRow w.heap.size 155 2 v' hs.length (hopCells hs) ∧ Below w.heap.size w w' := by
 obtain ⟨i0, hi, hz0, hz1, hz2⟩ := info_parts infoHop
 have q : ∀ (w : World) (a : Option Addr) (n c n' c' : Nat), (binOp .eql 28 (.slice a n c) (.slice none n' c')).run Tryz.prog w = .ok (.bool a.isNone) w := fun w a n c n' c' => Lib.run_eql_slice_nil w _ _ a n c n' c' Tryz.underlying28
 have HHW := Lib.hid hH
 obtain ⟨a, cap, rfl, hn, hll, hc⟩ := hH
 cases a with
 | none =>
  have h0 : hs = [] := by
   rcases hc with h | ⟨b, off, h, -⟩
   ·exact h
   ·cases h
  subst h0
  clear hc hn hll HHW hl
  go_enter Tryz.func195, Tryz.ntmps195
  go_wp2
  go_ret
  exact ⟨_, rfl, World.ownsRow_nil _ _ _ _, Below.refl _ _⟩
 | some p =>
  have HC := Lib.hid (fun j u h => hopsat_cells HHW.out j u h)
  have HN := Lib.hid (And.intro hn hll)
  have HL := Lib.hid hl
  clear hc hn hll hl
  go_enter Tryz.func195, Tryz.ntmps195
  go_wp2_with (at_builtin; refine wpList_append_own _ rfl _ _ 28 rfl w.heap.size 155 i0 (.agg #[.int .i64 0, .string ⟨#[]⟩]) 2 24 Tryz.underlying28 hi hz0 hz1 hz2 rfl (by decide) _ _ _ rfl (World.ownsRow_made w #[] 0 (Nat.le_refl _) (Nat.zero_le _) rfl) p hs.length cap (hopCells hs) rfl ?qc1 ?qc2 ?qc3 ?qc4 ?qc5 ?qc6 ?_)
  case qc1 => rw [hopCells_len]
  case qc2 => intro j u hj; exact Lib.cell?_alloc_some _ (HC.out j u hj)
  case qc3 => exact hopCells_one hs
  case qc4 => have := HL.out; unfold maxLen; omega
  case qc5 => have := HL.out; omega
  case qc6 => simp
  intro v' w1 hown hgrow hnil
  have HO := Lib.hid (And.intro hown (And.intro hgrow hnil))
  clear hown hgrow hnil
  go_wp2
  go_ret
  obtain ⟨hown, hgrow, hnil⟩ := HO.out
  refine ⟨v', rfl, by simpa using hown, ?_⟩
  exact ((Below.refl _ w).alloc (Nat.le_refl _) _).grown hgrow (by simp) (by intro k hk; simp [Value.ownBlock] at hk; omega)
theorem HopsAt.tail {w : World} {p : Addr} {cap : Nat} {h : Hp} {hs : List Hp} (hH : HopsAt w (.slice (some p) (hs.length + 1) cap) (h :: hs)) (c' : Nat) (q : Addr) (hq : hs ≠ [] → q = p.add 2) : HopsAt w (.slice (some q) hs.length c') hs := by
 obtain ⟨hn, hl⟩ := hH.small
 have hc := fun j u h => hopsat_cells (hs := _ :: _) hH j u h
 refine ⟨_, _, rfl, fun x hx => hn x (List.mem_cons_of_mem _ hx), by simp at hl; omega, ?_⟩
 obtain ⟨a, c, e, -, -, hcc⟩ := hH
 obtain ⟨b, off, e2, hb, -⟩ := hcc.resolve_left (by simp)
 obtain ⟨rfl, rfl⟩ : a = some p ∧ c = cap := by cases e; exact ⟨rfl, rfl⟩
 obtain rfl := Option.some.inj e2
 by_cases h0 : hs = []
 ·exact .inl h0
 refine .inr ⟨b, off + 2, by rw [hq h0]; rfl, hb, fun i hi => ?_⟩
 obtain ⟨d0, d1⟩ := hopCells_at hs i hi
 have e : hopCells (h :: hs) = .int .i64 h.rad :: .string ⟨h.node.toArray⟩ :: hopCells hs := rfl
 have e0 := hc (i * 2 + 1 + 1) _ (by rw [e, List.getElem?_cons_succ, List.getElem?_cons_succ]; exact d0)
 have e1 := hc (i * 2 + 1 + 1 + 1) _ (by rw [e, List.getElem?_cons_succ, List.getElem?_cons_succ]; exact d1)
 rw [Addr.add_mid] at e0 e1
 exact ⟨by rw [← e0]; congr 2; omega, by rw [← e1]; congr 2; omega⟩
theorem HopsAt.one {w : World} {v : Value} {hs : List Hp} (h : HopsAt w v hs) : v.oneCell' = true := by
 obtain ⟨a, cap, rfl, -⟩ := h
 rfl
theorem store_newdg (w : World) (v : Value) (m : Ms) (hv : v.oneCell' = true) : (rowStore 119 ⟨w.heap.size, 0, none⟩ (.agg (dgCs v m))).run Tryz.prog (w.alloc (.cells #[.slice none 0 0, .int .i64 0, .bool false, .int .i64 0, .bool false, .bool false, .bool false, .int .i64 0, .int .i64 0, .int .i64 0, .int .i64 0, .bool false, .int .i64 0, .int .i64 0, .int .i64 0, .string ⟨#[]⟩, .string ⟨#[]⟩] 119 (0, 0))) = .ok () (w.alloc (.cells (dgCs v m) 119 (0, 0))) := by
 have h := store_dg (v0 := nilV) (m0 := ms0) (v := v) (m := m) hv (Obj?.new w (dgCs nilV ms0) 119)
 rw [World.setRow_alloc_new] at h
 exact h
end Go.Proofs.YtanofjmkkhocaaaGreatDoor
namespace Go.Proofs.YtanofjmkkhocaaaGreatDoor
open Go Go.RowKit Go.Shelf
attribute [local go_sem ↓] load_Msg store_Msg load_Dg store_Dg
attribute [local irreducible] rowSem rowStore
end Go.Proofs.YtanofjmkkhocaaaGreatDoor
