/- The heap of free ids: Pop and Push, the slice's own and the heap's. registry: a client's least free id, put; Register. registry: Register, Predefine. -/
import Derived.Test.YtanofjmkkhocaaaGreatDoorTcG
import Derived.Maps.AppendAt
import Derived.OwnWalk
import Derived.Test.YtanofjmkkhocaaaGreatDoorTopW
set_option linter.unusedVariables false
set_option linter.unusedSimpArgs false
set_option maxRecDepth 100000
set_option maxHeartbeats 3200000
namespace Go.Proofs.YtanofjmkkhocaaaGreatDoor
open Go Go.RowKit Go.MapKept
theorem tinfoInt : (Tryz.prog.info? 3).map (fun i => (i.zero, i.size, i.bytes)) = some (some (.int .i64 0), 1, 8) := by kernel_rfl
theorem assert_int (x : Int) (W : World) : (Instr.typeAssert (.iface 3 (.int .i64 x)) 20 3 true).run Tryz.prog W = .ok (.tuple #[.int .i64 x, .bool true]) W := by kernel_rfl
theorem RowI.cut {w : World} {g n cap : Nat} {l : List Int} (h : RowI w g n cap l) (m : Nat) (hm : m ≤ n) : RowI w g m cap (l.take m) := by
 have hl := h.len
 rcases h.2 with ⟨h', _⟩ | ⟨g', cap', cur, h', hb, hg, h1, h2, h3, h4⟩
 ·simp at h'
 ·simp only [Value.slice.injEq, Option.some.injEq, Addr.mk.injEq, and_true, true_and] at h'
  obtain ⟨rfl, rfl⟩ := h'
  refine ⟨by rw [intsV_len, List.length_take]; omega, .inr ⟨g, cap, cur, rfl, hb, hg, by omega, h2, h3, ?_⟩⟩
  rw [← intsV_take, ← h4, List.take_take]
  congr 1
  omega
theorem ClAt.slot2 {w : World} {O : Nat → Own} {n : List UInt8} {cb ib ab : Nat} {v v' : Value} {C : Cl} {l : List Int} (h : ClAt w O n cb ib ab v C) (hr : w.ownsRow 0 3 1 v' l.length (intsV l)) (ho : ∀ k, v'.ownBlock = some k → O k = some (some n)) :
  ClAt (w.setCell ⟨cb, 2, none⟩ v') O n cb ib ab v' { C with back := l } ∧ Kq (fun b => O b = some (some n)) w (w.setCell ⟨cb, 2, none⟩ v') := by
 have hK : Kq (fun b => b = cb) w (w.setCell ⟨cb, 2, none⟩ v') := (Kq.refl (fun b => b = cb) w).set (p := ⟨cb, 2, none⟩) (.inl rfl) v'
 have hne : ∀ k, v'.ownBlock = some k → k ≠ cb := by
  rintro k hk rfl
  obtain ⟨cur, hg⟩ := row_block hr hk
  have h1 := h.cl
  unfold Obj? at h1
  rw [hg] at h1
  simp at h1
 exact ⟨⟨h.cl.set 2 v', hK.at h.ids (Ne.symm h.ne_ci), hK.at h.all (Ne.symm h.ne_ca), row_kp hr hK (fun b hb => hne b hb), ⟨h.wf.ids, h.wf.born, h.wf.old, h.wf.least, h.wf.most⟩, h.ne, h.oc, h.oi, h.oa, ho⟩, hK.mono (fun i _ e => by subst e; exact h.oc)⟩
theorem fpop_any {w : World} {O : Nat → Own} {n : List UInt8} {cb ib ab g k cap : Nat} {C : Cl} (h : ClAt w O n cb ib ab (.slice (some ⟨g, 0, none⟩) k cap) C) (hk : 0 < C.back.length) :
  Calls Tryz.prog 457 #[.pointer (some ⟨cb, 2, none⟩)] w fun e w' => e = .returned (.iface 3 (.int .i64 (C.back.getD (C.back.length - 1) 0))) ∧ ClAt w' O n cb ib ab (.slice (some ⟨g, 0, none⟩) (C.back.length - 1) cap) { C with back := C.back.take (C.back.length - 1) } ∧ Kq (fun b => O b = some (some n)) w w' := by
 obtain rfl := h.k_eq
 have hrow : RowI w g C.back.length cap C.back := h.back
 have hcap := hrow.cap
 have k2 := h.cl.cell 2 (.slice (some ⟨g, 0, none⟩) C.back.length cap) rfl
 have f2 := h.cl.frozen 2
 have c1 := hrow.cell (C.back.length - 1) (by omega)
 have HE := Lib.hid (h.slot2 (v' := .slice (some ⟨g, 0, none⟩) (C.back.length - 1) cap) (l := C.back.take (C.back.length - 1)) (by have := hrow.cut (C.back.length - 1) (by omega); rw [List.length_take, Nat.min_eq_left (by omega)]; exact this) (fun k e => h.ob k e))
 obtain ⟨x, hx⟩ : ∃ x, x = C.back.getD (C.back.length - 1) 0 := ⟨_, rfl⟩
 rw [← hx] at c1 ⊢
 obtain ⟨N, hN⟩ : ∃ N, C.back.length = N + 1 := ⟨C.back.length - 1, by omega⟩
 rw [hN] at k2 c1 hcap HE ⊢
 rw [show N + 1 - 1 = N by rfl] at c1 HE ⊢
 have hm : maxLen = 9223372036854775807 := rfl
 have e1 : wrap64 (N : Int) = N := by have := hcap.1; have := hcap.2; rw [hm] at this; unfold wrap64; omega
 have i1 : (N : Int) < ((N + 1 : Nat) : Int) := by omega
 have i2 : (N : Int) ≤ cap := by have := hcap.1; omega
 have i3 : (0 : Int) ≤ N := by omega
 have i4 : (N : Int).toNat = N := by omega
 clear h hrow hcap hx hN hk hm
 go_enter Tryz.func457, Tryz.ntmps457
 go_wp2_with fail
 go_ret
 exact ⟨rfl, HE.out⟩
theorem run_append_blk {P : Program} (w : World) (t ty e : TypeId) (i : TypeInfo) (z : Value) (size bytes : Nat) (ht : P.underlying t = some (.slice e)) (hi : P.info? e = some i) (hz : i.zero = some z)
  (hsize : i.size = size) (hby : i.bytes = bytes) (hzs : z.cells.size = size) (hsz : 0 < size)
  (v : Value) (n : Nat) (xs : List Value) (hown : w.ownsRow 0 e size v n xs)
  (a : Addr) (m c : Nat) (hm0 : 0 < m) (news : List Value) (hl : news.length = m * size) (hnews : ∀ j u, news[j]? = some u → w.cell? (a.add j) = some u) (h1 : ∀ u ∈ news, u.oneCell' = true)
  (h63 : n + m ≤ maxLen) (hbytes : (n + m) * bytes ≤ 140737488355328) :
  ∃ g cap w', (Builtin.append_ #[t, t] ty #[v, .slice (some a) m c]).run P w = .ok (.slice (some ⟨g, 0, none⟩) (n + m) cap) w' ∧ w'.ownsRow 0 e size (.slice (some ⟨g, 0, none⟩) (n + m) cap) (n + m) (xs ++ news) ∧ w.grownBy w' v.ownBlock ∧ (v.ownBlock = some g ∨ (w.heap.size ≤ g ∧ g < w'.heap.size)) := by
 have shape : ∀ {w' : World} {v' : Value}, w'.ownsRow 0 e size v' (n + m) (xs ++ news) → ∃ g cap, v' = .slice (some ⟨g, 0, none⟩) (n + m) cap ∧ g < w'.heap.size := by
  intro w' v' h
  rcases h.2 with ⟨-, h'⟩ | ⟨g, cap, cur, rfl, -, hg, -⟩
  ·omega
  ·exact ⟨g, cap, rfl, lt_of_heap hg⟩
 rcases hown.2 with ⟨rfl, rfl⟩ | ⟨g, cap, cur, rfl, hbg, hg, hnc, hcm, hcs, htake⟩
 ·have hx : xs = [] := List.eq_nil_of_length_eq_zero (by simpa using hown.1)
  subst hx
  obtain ⟨v', w', hr, h2, h3, h4⟩ := run_append_own (P := P) w w.heap.size t ty e i z size bytes ht hi hz hsize hby hzs hsz (.slice none 0 0) 0 [] (World.ownsRow_nil _ _ _ _) a m c news hl hnews h1 h63 hbytes (Nat.le_refl _)
  rcases h2.2 with ⟨-, h'⟩ | ⟨g, cap, cur, rfl, hb, hg, hrest⟩
  ·omega
  ·exact ⟨g, cap, w', hr, ⟨h2.1, .inr ⟨g, cap, cur, rfl, Nat.zero_le _, hg, hrest⟩⟩, h3, .inr ⟨hb, lt_of_heap hg⟩⟩
 ·by_cases hroom : n + m ≤ cap
  ·obtain ⟨w', hr, h2, h3⟩ := run_append_fits (P := P) w 0 t ty e i size ht hi hsize g n cap xs hown a m c news hl hnews h1 hroom
   exact ⟨g, cap, w', hr, h2, h3, .inl rfl⟩
  ·obtain ⟨v', w', hr, h2, h3, h4⟩ := run_append_own (P := P) w 0 t ty e i z size bytes ht hi hz hsize hby hzs hsz _ n xs hown a m c news hl hnews h1 h63 hbytes (Nat.zero_le _)
   have hsmall : n + m ≤ 9223372036854775807 := by simp only [maxLen] at h63; omega
   subst hsize
   subst hby
   have holds : ∀ j u, xs[j]? = some u → w.cell? ((⟨g, 0, none⟩ : Addr).add j) = some u := hown.cells (g := g) rfl
   have hr2 := run_append_grow (P := P) w t ty e i z ht hi hz ⟨g, 0, none⟩ n cap xs hown.1 holds a m c news hl hnews (by omega) (by omega) (growslice_fits (by omega) hbytes)
   rw [hr] at hr2
   obtain ⟨rfl, rfl⟩ := Result.ok.inj hr2
   exact ⟨_, _, _, hr, h2, h3, .inr ⟨Nat.le_refl _, by simp⟩⟩
theorem wpList_append_blk {P : Program} (w : World) {ops : Array Oper} {rest : List Oper} {o : Oper} {a : Act} {Q : Exit → Act → World → Prop} (hgd : o.guard = none) (s x : Operand) (t : TypeId)
  (ho : o.op = .call { callee := .builtin .append, args := #[s, x], argTypes := #[t, t] })
  (e : TypeId) (i : TypeInfo) (z : Value) (size bytes : Nat) (ht : P.underlying t = some (.slice e)) (hi : P.info? e = some i) (hz : i.zero = some z)
  (hsize : i.size = size) (hby : i.bytes = bytes) (hzs : z.cells.size = size) (hsz : 0 < size)
  (v : Value) (n : Nat) (xs : List Value) (hs : a.eval s = v) (hown : w.ownsRow 0 e size v n xs)
  (ad : Addr) (m c : Nat) (hm0 : 0 < m) (news : List Value) (hx : a.eval x = .slice (some ad) m c) (hl : news.length = m * size) (hnews : ∀ j u, news[j]? = some u → w.cell? (ad.add j) = some u) (h1 : ∀ u ∈ news, u.oneCell' = true)
  (h63 : n + m ≤ maxLen) (hbytes : (n + m) * bytes ≤ 140737488355328)
  (h : ∀ g cap w', w'.ownsRow 0 e size (.slice (some ⟨g, 0, none⟩) (n + m) cap) (n + m) (xs ++ news) → w.grownBy w' v.ownBlock → (v.ownBlock = some g ∨ (w.heap.size ≤ g ∧ g < w'.heap.size)) → wpList P ops Q rest (a.put o.dst (.slice (some ⟨g, 0, none⟩) (n + m) cap)) w') : wpList P ops Q (o :: rest) a w :=
 wpList_plain hgd fun _ hK => by
  obtain ⟨g, cap, w', hr, h2, h3, h4⟩ := run_append_blk (P := P) w t o.type e i z size bytes ht hi hz hsize hby hzs hsz v n xs hown ad m c hm0 news hl hnews h1 h63 hbytes
  unfold Oper.wp execOp
  simp only [ho, resolve, invoke, builtin, Sem.run_bind, Sem.run_pure, Result.andThen_ok, List.map_toArray, List.map_cons, List.map_nil, hs, hx, hr]
  exact hK _ _ (h g cap w' h2 h3 h4)
theorem row_shape {w : World} {e : TypeId} {z n : Nat} {v : Value} {xs : List Value} (h : w.ownsRow 0 e z v n xs) : ∃ a cap, v = .slice a n cap := by
 rcases h.2 with ⟨rfl, rfl⟩ | ⟨g, cap, cur, rfl, -⟩
 ·exact ⟨_, _, rfl⟩
 ·exact ⟨_, _, rfl⟩
def ownG (O : Nat → Own) (n : List UInt8) (g : Nat) : Nat → Own := fun b => if b = g then some (some n) else O b
theorem ClAt.pushed {w w1 : World} {O : Nat → Own} {n : List UInt8} {cb ib ab g k cap : Nat} {v : Value} {C : Cl} {l : List Int} (h : ClAt w O n cb ib ab v C) (hfr : ∀ b, O b ≠ none → b < w.heap.size) (hK : Kq (fun b => v.ownBlock = some b) w w1)
  (hr : w1.ownsRow 0 3 1 (.slice (some ⟨g, 0, none⟩) k cap) k (intsV l)) (hk : k = l.length) (hb : v.ownBlock = some g ∨ (w.heap.size ≤ g ∧ g < w1.heap.size)) :
  ClAt (w1.setCell ⟨cb, 2, none⟩ (.slice (some ⟨g, 0, none⟩) k cap)) (ownG O n g) n cb ib ab (.slice (some ⟨g, 0, none⟩) k cap) { C with back := l } ∧ ExtO n w (w1.setCell ⟨cb, 2, none⟩ (.slice (some ⟨g, 0, none⟩) k cap)) O (ownG O n g) ∧ Kq (fun b => O b = some (some n)) w (w1.setCell ⟨cb, 2, none⟩ (.slice (some ⟨g, 0, none⟩) k cap)) := by
 subst hk
 have hsz : (w1.setCell ⟨cb, 2, none⟩ (.slice (some ⟨g, 0, none⟩) l.length cap)).heap.size = w1.heap.size := by simp [World.setCell]
 have hcl1 := h.cl.kp hK (fun e => (h.row_ne e).1 rfl)
 have hid1 := hK.at h.ids (fun e => (h.row_ne e).2.1 rfl)
 have hal1 := hK.at h.all (fun e => (h.row_ne e).2.2 rfl)
 have hK2 : Kq (fun b => b = cb) w1 (w1.setCell ⟨cb, 2, none⟩ (.slice (some ⟨g, 0, none⟩) l.length cap)) := (Kq.refl (fun b => b = cb) w1).set (p := ⟨cb, 2, none⟩) (.inl rfl) _
 have hgc : g ≠ cb := by
  rintro rfl
  obtain ⟨cur, hg⟩ := row_block hr (k := g) rfl
  unfold Obj? at hcl1
  rw [hg] at hcl1
  simp at hcl1
 obtain ⟨l1, l2, l3, l4⟩ := h.lt
 have hold : ∀ b, b < w.heap.size → ownG O n g b = O b := by
  intro b hlt
  unfold ownG
  split
  ·rename_i e
   subst e
   rcases hb with e | e
   ·exact (h.ob _ e).symm
   ·omega
  ·rfl
 refine ⟨⟨hcl1.set 2 _, hK2.at hid1 (Ne.symm h.ne_ci), hK2.at hal1 (Ne.symm h.ne_ca), row_kp hr hK2 (fun b e => by cases e; exact hgc), ⟨h.wf.ids, h.wf.born, h.wf.old, h.wf.least, h.wf.most⟩, h.ne, (hold _ l1).trans h.oc, (hold _ l2).trans h.oi, (hold _ l3).trans h.oa, fun b e => by cases e; exact if_pos rfl⟩, ?_, ?_⟩
 ·intro b
  by_cases e : b = g
  ·subst e
   rcases hb with e | ⟨e1, e2⟩
   ·exact .inl (hold _ (l4 _ e))
   ·exact .inr ⟨e1, by rw [hsz]; exact e2, if_pos rfl⟩
  ·exact .inl (if_neg e)
 ·exact (hK.mono (fun i _ e => h.ob i e)).then hK2 (fun i _ e => by subst e; exact h.oc)
theorem fpush_any {w : World} {O : Nat → Own} {n : List UInt8} {cb ib ab : Nat} {v : Value} {C : Cl} (h : ClAt w O n cb ib ab v C) (hfr : ∀ b, O b ≠ none → b < w.heap.size) (hw : C.back.length ≤ 1000000000) (x : Int) :
  Calls Tryz.prog 458 #[.pointer (some ⟨cb, 2, none⟩), .iface 3 (.int .i64 x)] w fun e w' => e = .returned (.tuple #[]) ∧ ∃ g cap O', ClAt w' O' n cb ib ab (.slice (some ⟨g, 0, none⟩) (C.back.length + 1) cap) { C with back := C.back ++ [x] } ∧ ExtO n w w' O O' ∧ Kq (fun b => O b = some (some n)) w w' := by
 obtain ⟨i0, hi, hz0, hz1, hz2⟩ := info_parts tinfoInt
 obtain ⟨va, vc, hv⟩ := row_shape h.back
 have k2 := h.cl.cell 2 v rfl
 have f2 := h.cl.frozen 2
 have HC := Lib.hid h
 have HF := Lib.hid hfr
 have hown : (w.alloc (.cells #[.int .i64 x] 3)).ownsRow 0 3 1 v C.back.length (intsV C.back) := h.back.alloc _
 rw [hv] at k2 hown
 have hm : maxLen = 9223372036854775807 := rfl
 clear h hfr
 have hta := assert_int
 go_enter Tryz.func458, Tryz.ntmps458
 go_wp2_with (at_builtin; refine wpList_append_blk _ rfl _ _ 109 rfl 3 i0 (.int .i64 0) 1 8 Tryz.underlying109 hi hz0 hz1 hz2 rfl (by decide) _ _ _ rfl hown ⟨w.heap.size, 0, none⟩ 1 1 (by decide) [.int .i64 x] rfl rfl (cell_one_new _ _ _) (by simp [Value.oneCell']) (by rw [hm]; omega) (by omega) ?_; intro g cap w1 hown1 hgrow1 hblk1; have HK1 := Lib.hid (show Kq (fun b => v.ownBlock = some b) w w1 from ((Kq.refl _ w).alloc _).grown hgrow1 (fun b e => .inl (by rw [hv]; exact e))); have HO1 := Lib.hid (HC.out.cl.kp HK1.out (fun e => (HC.out.row_ne e).1 rfl)); have k3 := HO1.out.cell 2 v rfl; have f3 := HO1.out.frozen 2; have HP := Lib.hid (HC.out.pushed HF.out HK1.out (l := C.back ++ [x]) (by rw [← intsV_app]; exact hown1) (by simp) (by rw [hv]; exact hblk1.imp id (fun e => ⟨by have := e.1; simp at this; omega, e.2⟩)));  rw [hv] at k3; clear hown1 hgrow1 hblk1)
 go_end0
 exact ⟨rfl, g, cap, _, HP.out⟩
theorem hpop_any {w : World} {O : Nat → Own} {n : List UInt8} {cb ib ab : Nat} {v : Value} {C : Cl} (h : ClAt w O n cb ib ab v C) (hk : 0 < C.back.length) (hw : C.back.length ≤ 1000000000) :
  Calls Tryz.prog 61 #[hpV cb] w fun e w' => e = .returned (.iface 3 (.int .i64 (popH C.back).1)) ∧ ∃ v', ClAt w' O n cb ib ab v' { C with back := (popH C.back).2 } ∧ Kq (fun b => O b = some (some n)) w w' := by
 obtain ⟨va, vc, hv⟩ := row_shape h.back
 obtain ⟨g, rfl⟩ : ∃ g, va = some ⟨g, 0, none⟩ := by
  rcases h.back.2 with ⟨h', h2⟩ | ⟨g, cap, cur, h', -⟩
  ·omega
  ·rw [hv] at h'; simp at h'; exact ⟨g, h'.1⟩
 subst hv
 obtain ⟨N, hN⟩ : ∃ N, C.back.length = N + 1 := ⟨C.back.length - 1, by omega⟩
 have k2 := h.cl.cell 2 (.slice (some ⟨g, 0, none⟩) C.back.length vc) rfl
 have hml := meth_len k2
 have hms := meth_swap k2
 have HLen := Lib.hid (flen_any (.slice (some ⟨g, 0, none⟩) C.back.length vc) (some ⟨g, 0, none⟩) C.back.length vc rfl w)
 have hrow : RowI w g C.back.length vc C.back := h.back
 have HSw := Lib.hid (fswap_any hrow 0 N (by omega) (by omega))
 have HC := Lib.hid h
 have HW := Lib.hid hw
 have HN := Lib.hid hN
 rw [hN] at hml hms HLen HSw
 have e1 : wrap64 (N : Int) = N := by unfold wrap64; omega
 clear h hw hk k2 hrow hN
 go_enter Tryz.func61, Tryz.ntmps61
 refine wp_hide fun Q1 hQ1 => ?_
 have HQ1 := Lib.hid hQ1
 clear hQ1
 go_wp2_with fail
 refine HLen.out.mono ?_
 rintro e w1 ⟨rfl, rfl⟩
 go_wp2_with fail
 refine HSw.out.mono ?_
 rintro e w2 ⟨rfl, hr, hg⟩
 have HC2 := Lib.hid (HC.out.swap (swL_len C.back 0 N) hg (by rw [HN.out]; exact hr))
 have HD := Lib.hid (down_any HC2.out.1 (by simp only [swL_len]; exact HW.out) C.back.length N (by simp only [swL_len]; rw [HN.out]; omega) (by rw [HN.out]; omega))
 clear hr hg hml hms
 go_wp2_with fail
 refine HD.out.mono ?_
 rintro e w3 ⟨⟨b, rfl⟩, hC3, hK3⟩
 have HC3 := Lib.hid (And.intro hC3 (HC2.out.2.trans hK3))
 have hmp := meth_pop w3 ⟨cb, 2, none⟩
 have HP := Lib.hid (fpop_any HC3.out.1 (by simp only [dnL_len, swL_len]; rw [HN.out]; omega))
 clear hC3 hK3
 go_wp2_with fail
 refine HP.out.mono ?_
 rintro e w4 ⟨rfl, hC4, hK4⟩
 have HC4 := Lib.hid (And.intro hC4 (HC3.out.2.trans hK4))
 clear hC4 hK4
 go_wp2_with fail
 refine HQ1.out _ _ _ ?_
 go_ret
 have hlen : (dnL C.back.length (swL C.back 0 N) 0 N).length = C.back.length := by simp [dnL_len, swL_len]
 have hs : sunkH C.back = dnL C.back.length (swL C.back 0 N) 0 N := by unfold sunkH; rw [HN.out]; rfl
 refine ⟨?_, .slice (some ⟨g, 0, none⟩) (C.back.length - 1) vc, ?_, HC4.out.2⟩
 ·exact congrArg (fun z => Ending.returned (.iface 3 (.int .i64 z))) (show (dnL C.back.length (swL C.back 0 N) 0 N).getD ((dnL C.back.length (swL C.back 0 N) 0 N).length - 1) 0 = (popH C.back).1 by unfold popH; rw [hlen, hs])
 ·have := HC4.out.1
  simp only [hlen] at this
  simp only [popH, hs]
  exact this
theorem hpush_any {w : World} {O : Nat → Own} {n : List UInt8} {cb ib ab : Nat} {v : Value} {C : Cl} (h : ClAt w O n cb ib ab v C) (hfr : ∀ b, O b ≠ none → b < w.heap.size) (hw : C.back.length ≤ 1000000000) (x : Int) :
  Calls Tryz.prog 449 #[hpV cb, .iface 3 (.int .i64 x)] w fun e w' => e = .returned (.tuple #[]) ∧ ∃ v' O', ClAt w' O' n cb ib ab v' { C with back := pushH C.back x } ∧ ExtO n w w' O O' ∧ Kq (fun b => O b = some (some n)) w w' := by
 have hmp := meth_push w ⟨cb, 2, none⟩
 have HP := Lib.hid (fpush_any h hfr hw x)
 have HW := Lib.hid hw
 have HFr := Lib.hid hfr
 clear h hw hfr
 go_enter Tryz.func449, Tryz.ntmps449
 refine wp_hide fun Q1 hQ1 => ?_
 have HQ1 := Lib.hid hQ1
 clear hQ1
 go_wp2_with fail
 refine HP.out.mono ?_
 rintro e w1 ⟨rfl, g, cap, O', hC, hE, hK⟩
 have HC := Lib.hid (And.intro hC (And.intro hE hK))
 have k2 := hC.cl.cell 2 (.slice (some ⟨g, 0, none⟩) (C.back.length + 1) cap) rfl
 have hml := meth_len k2
 have HLen := Lib.hid (flen_any (.slice (some ⟨g, 0, none⟩) (C.back.length + 1) cap) (some ⟨g, 0, none⟩) (C.back.length + 1) cap rfl w1)
 have e1 : wrap64 (C.back.length : Int) = C.back.length := by have := HW.out; unfold wrap64; omega
 have HU := Lib.hid (up_any hC (C.back.length + 1) C.back.length (by simp) (by omega))
 clear hC hE hK k2
 go_wp2_with fail
 refine HLen.out.mono ?_
 rintro e w2 ⟨rfl, rfl⟩
 go_wp2_with fail
 refine HU.out.mono ?_
 rintro e w3 ⟨rfl, hC3, hK3⟩
 have HC3 := Lib.hid (And.intro hC3 hK3)
 clear hC3 hK3
 go_wp2_with fail
 refine HQ1.out _ _ _ ?_
 go_end0
 refine ⟨rfl, _, O', HC3.out.1, ?_, HC.out.2.2.then HC3.out.2 ?_⟩
 ·intro b
  rcases HC.out.2.1 b with h1 | ⟨h1, h2, h3⟩
  ·exact .inl h1
  ·exact .inr ⟨h1, Nat.lt_of_lt_of_le h2 HC3.out.2.size, h3⟩
 ·intro i hi e
  rw [← HC.out.2.1.old i hi]
  exact e
end Go.Proofs.YtanofjmkkhocaaaGreatDoor
namespace Go.Proofs.YtanofjmkkhocaaaGreatDoor
open Go Go.RowKit Go.MapKept
open Go.ChangeMaps (setBlock)
theorem ClAt.slot3 {w : World} {O : Nat → Own} {n : List UInt8} {cb ib ab : Nat} {v : Value} {C : Cl} (h : ClAt w O n cb ib ab v C) (m : Int) (h1 : 1 ≤ m) (h2 : m ≤ 65535) :
  ClAt (w.setCell ⟨cb, 3, none⟩ (.int .i64 m)) O n cb ib ab v { C with next := m } ∧ Kq (fun b => O b = some (some n)) w (w.setCell ⟨cb, 3, none⟩ (.int .i64 m)) := by
 have hK : Kq (fun b => b = cb) w (w.setCell ⟨cb, 3, none⟩ (.int .i64 m)) := (Kq.refl (fun b => b = cb) w).set (p := ⟨cb, 3, none⟩) (.inl rfl) _
 exact ⟨⟨h.cl.set 3 _, hK.at h.ids (Ne.symm h.ne_ci), hK.at h.all (Ne.symm h.ne_ca), row_kp h.back hK (fun b hb => (h.row_ne hb).1), ⟨h.wf.ids, h.wf.born, h.wf.old, h1, h2⟩, h.ne, h.oc, h.oi, h.oa, h.ob⟩, hK.mono (fun i _ e => by subst e; exact h.oc)⟩
theorem leastB_zero {h : Int → Bool} {f : Nat} {l : List Int} (hl : l.length = 0) : leastB h f l = (none, l) := by
 cases f with
 | zero => rfl
 | succ f => rw [leastB, if_pos hl]
theorem leastB_had {h : Int → Bool} {f : Nat} {l : List Int} (hl : l.length ≠ 0) (hh : h (popH l).1 = true) : leastB h (f + 1) l = leastB h f (popH l).2 := by
 rw [leastB, if_neg hl, if_pos hh]
theorem leastB_free {h : Int → Bool} {f : Nat} {l : List Int} (hl : l.length ≠ 0) (hh : h (popH l).1 = false) : leastB h (f + 1) l = (some (popH l).1, (popH l).2) := by
 rw [leastB, if_neg hl, hh]; rfl
theorem leastN_full {h : Int → Bool} {f : Nat} {n : Int} (hn : 65534 < n) : leastN h f n = (0, n) := by
 cases f with
 | zero => rfl
 | succ f => rw [leastN, if_pos hn]
theorem leastN_had {h : Int → Bool} {f : Nat} {n : Int} (hn : ¬ 65534 < n) (hh : h n = true) : leastN h (f + 1) n = leastN h f (n + 1) := by
 rw [leastN, if_neg hn, if_pos hh]
theorem leastN_free {h : Int → Bool} {f : Nat} {n : Int} (hn : ¬ 65534 < n) (hh : h n = false) : leastN h (f + 1) n = (n, n + 1) := by
 rw [leastN, if_neg hn, hh]; rfl
theorem least_any {w : World} {O : Nat → Own} {n : List UInt8} {cb ib ab : Nat} {v : Value} {C : Cl} (h : ClAt w O n cb ib ab v C) (hw : C.back.length ≤ 1000000000) :
  Calls Tryz.prog 39 #[.pointer (some ⟨cb, 0, none⟩)] w fun e w' => e = .returned (.int .i64 (leastC C).1) ∧ ∃ v', ClAt w' O n cb ib ab v' (leastC C).2 ∧ Kq (fun b => O b = some (some n)) w w' := by
 have HC := Lib.hid h
 have HW := Lib.hid hw
 have hta := assert_int
 clear h hw
 go_enter Tryz.func39, Tryz.ntmps39
 refine wp_hide fun Q1 hQ1 => ?_
 have HQ1 := Lib.hid hQ1
 clear hQ1
 go_wp2_with fail
 go_loopg [] (C.back.length + 1) (fun gk wr => ∃ (l : List Int) (v' : Value), Hid (l.length < gk ∧ l.length ≤ C.back.length ∧ leastB (hasT C) C.back.length C.back = leastB (hasT C) l.length l ∧ ClAt wr O n cb ib ab v' { C with back := l } ∧ Kq (fun b => O b = some (some n)) w wr))
 case atStart => exact ⟨C.back, v, Lib.hid ⟨by omega, Nat.le_refl _, rfl, HC.out, Kq.refl _ _⟩⟩
 case round =>
  obtain ⟨l, v', HR⟩ := hrel
  obtain ⟨va, vc, hv⟩ := row_shape HR.out.2.2.2.1.back
  have HV := Lib.hid hv
  have k2 := HR.out.2.2.2.1.cl.cell 2 (.slice va l.length vc) (by rw [hv]; rfl)
  clear hv
  by_cases hl : 0 < l.length
  ·have hl1 : (0 : Int) < l.length := by omega
   have HL := Lib.hid hl
   have HP := Lib.hid (hpop_any HR.out.2.2.2.1 hl (by have := HR.out.2.1; have := HW.out; simp only; omega))
   clear hl
   go_wp2_with fail
   refine HP.out.mono ?_
   rintro e w1 ⟨rfl, v1, hC1, hK1⟩
   have HC1 := Lib.hid (And.intro hC1 (HR.out.2.2.2.2.trans hK1))
   have HH := Lib.hid (chas_any hC1 (popH l).1)
   clear hC1 hK1
   cases hx : hasT C (popH l).1 with
   | true =>
    have hx2 : hasT { C with back := (popH l).2 } (popH l).1 = true := hx
    rw [hx2] at HH
    have HX := Lib.hid hx
    clear hx hx2
    go_wp2_with fail
    refine HH.out.mono ?_
    rintro e w2 ⟨rfl, hb⟩
    have HC2 := Lib.hid (And.intro (HC1.out.1.below hb) (HC1.out.2.below hb))
    clear hb
    go_wp2_with fail
    go_roundg (gk - 1)
    case measure => have := HR.out.1; have := HL.out; omega
    case rel =>
     have h1 := popH_len l
     refine ⟨(popH l).2, v1, Lib.hid ⟨?_, ?_, ?_, HC2.out.1, HC2.out.2⟩⟩
     ·have := HR.out.1; have := HL.out; omega
     ·have := HR.out.2.1; omega
     ·rw [HR.out.2.2.1]
      have := HL.out
      obtain ⟨f, hf⟩ : ∃ f, l.length = f + 1 := ⟨l.length - 1, by omega⟩
      rw [h1]
      conv => lhs; rw [hf]
      rw [leastB_had (by omega) HX.out, hf]
      rfl
   | false =>
    have hx2 : hasT { C with back := (popH l).2 } (popH l).1 = false := hx
    rw [hx2] at HH
    have HX := Lib.hid hx
    clear hx hx2
    go_wp2_with fail
    refine HH.out.mono ?_
    rintro e w2 ⟨rfl, hb⟩
    have HC2 := Lib.hid (And.intro (HC1.out.1.below hb) (HC1.out.2.below hb))
    clear hb
    go_wp2_with fail
    refine HQ1.out _ _ _ ?_
    go_ret
    have hB : leastB (hasT C) C.back.length C.back = (some (popH l).1, (popH l).2) := by
     rw [HR.out.2.2.1]
     have := HL.out
     obtain ⟨f, hf⟩ : ∃ f, l.length = f + 1 := ⟨l.length - 1, by omega⟩
     conv => lhs; rw [hf]
     rw [leastB_free (by omega) HX.out]
    have hc : leastC C = ((popH l).1, { C with back := (popH l).2 }) := by unfold leastC; rw [hB]
    rw [hc]
    exact ⟨rfl, v1, HC2.out.1, HC2.out.2⟩
  ·have hl0 : l.length = 0 := by omega
   have hl1 : ¬ (0 : Int) < l.length := by omega
   have HB := Lib.hid (show leastC C = ((leastN (hasT C) (65535 - C.next).toNat C.next).1, { C with back := l, next := (leastN (hasT C) (65535 - C.next).toNat C.next).2 }) by
    have hB : leastB (hasT C) C.back.length C.back = (none, l) := by rw [HR.out.2.2.1, leastB_zero hl0]
    unfold leastC; rw [hB])
   have HZ := Lib.hid HR.out.2.2.2
   clear hl hl0
   go_wp2_with fail
   go_loopg [] (65536 - C.next).toNat (fun g2 w2 => ∃ (m : Int) (f : Nat), Hid (1 ≤ m ∧ m ≤ 65535 ∧ m + f = 65535 ∧ (f < g2) ∧ leastN (hasT C) (65535 - C.next).toNat C.next = leastN (hasT C) f m ∧ ClAt w2 O n cb ib ab v' { C with back := l, next := m } ∧ Kq (fun b => O b = some (some n)) w w2))
   case atStart => exact ⟨C.next, (65535 - C.next).toNat, Lib.hid ⟨HC.out.wf.least, HC.out.wf.most, by have := HC.out.wf.most; omega, by have := HC.out.wf.most; omega, rfl, HZ.out.1, HZ.out.2⟩⟩
   case round =>
    obtain ⟨m, f, HM⟩ := hrel
    have k3 := HM.out.2.2.2.2.2.1.cl.cell 3 (.int .i64 m) rfl
    have f3 := HM.out.2.2.2.2.2.1.cl.frozen 3
    by_cases hm : m ≤ 65534
    ·have hw3 : wrap64 (m + 1) = m + 1 := by have := HM.out.1; unfold wrap64; omega
     have HC3 := Lib.hid (HM.out.2.2.2.2.2.1.slot3 (m + 1) (by have := HM.out.1; omega) (by omega))
     have HH := Lib.hid (chas_any HC3.out.1 m)
     have HMm := Lib.hid hm
     cases hx : hasT C m with
     | true =>
      have hx2 : hasT { ids := C.ids, idc := C.idc, all := C.all, alc := C.alc, back := l, next := m + 1 } m = true := hx
      rw [hx2] at HH
      have HX := Lib.hid hx
      clear hx hx2
      go_wp2_with fail
      refine HH.out.mono ?_
      rintro e w3 ⟨rfl, hb⟩
      have HC4 := Lib.hid (And.intro (HC3.out.1.below hb) ((HM.out.2.2.2.2.2.2.trans HC3.out.2).below hb))
      clear hb
      go_wp2_with fail
      go_roundg (gk - 1)
      case measure => have := HM.out.2.2.2.1; omega
      case rel =>
       refine ⟨m + 1, f - 1, Lib.hid ⟨?_, ?_, ?_, ?_, ?_, HC4.out.1, HC4.out.2⟩⟩
       ·have := HM.out.1; omega
       ·have := HMm.out; omega
       ·have := HM.out.2.2.1; have := HMm.out; omega
       ·have := HM.out.2.2.1; have := HM.out.2.2.2.1; have := HMm.out; omega
       ·obtain ⟨f2, rfl⟩ : ∃ f2, f = f2 + 1 := ⟨f - 1, by have := HM.out.2.2.1; have := HMm.out; omega⟩
        rw [HM.out.2.2.2.2.1, leastN_had (by have := HMm.out; omega) HX.out]
        rfl
     | false =>
      have hx2 : hasT { ids := C.ids, idc := C.idc, all := C.all, alc := C.alc, back := l, next := m + 1 } m = false := hx
      rw [hx2] at HH
      have HX := Lib.hid hx
      clear hx hx2
      go_wp2_with fail
      refine HH.out.mono ?_
      rintro e w3 ⟨rfl, hb⟩
      have HC4 := Lib.hid (And.intro (HC3.out.1.below hb) ((HM.out.2.2.2.2.2.2.trans HC3.out.2).below hb))
      clear hb
      go_wp2_with fail
      refine HQ1.out _ _ _ ?_
      go_ret
      have hN : leastN (hasT C) (65535 - C.next).toNat C.next = (m, m + 1) := by
       obtain ⟨f2, rfl⟩ : ∃ f2, f = f2 + 1 := ⟨f - 1, by have := HM.out.2.2.1; have := HMm.out; omega⟩
       rw [HM.out.2.2.2.2.1, leastN_free (by have := HMm.out; omega) HX.out]
      rw [HB.out, hN]
      exact ⟨rfl, v', HC4.out.1, HC4.out.2⟩
    ·go_wp2_with fail
     refine HQ1.out _ _ _ ?_
     go_ret
     have hN : leastN (hasT C) (65535 - C.next).toNat C.next = (0, m) := by
      rw [HM.out.2.2.2.2.1, leastN_full (by omega)]
     rw [HB.out, hN]
     exact ⟨rfl, v', HM.out.2.2.2.2.2.1, HM.out.2.2.2.2.2.2⟩
theorem heap_setB {w : World} {b : Nat} {o : Obj} (h : b < w.heap.size) : (setBlock w b o).heap[b]? = some o := by
 show (w.heap.setIfInBounds b _)[b]? = _
 rw [Array.getElem?_setIfInBounds_self_of_lt h]
theorem idOf_none {C : Cl} {n : List UInt8} (h : idOf C n = none) : lookG (fun x : List UInt8 × Int × Nat => x.1) C.ids 0 n = none := by
 unfold idOf at h
 simpa using h
theorem hasT_none {C : Cl} {id : Int} (h : hasT C id = false) : lookG (fun x : Tp × Nat => x.1.id) C.all 0 id = none := by
 unfold hasT at h
 simpa using h
theorem cput_any {w : World} {O : Nat → Own} {n : List UInt8} {cb ib ab : Nat} {v : Value} {C : Cl} (h : ClAt w O n cb ib ab v C) (hfr : ∀ b, O b ≠ none → b < w.heap.size) (t : Tp) (hT : hasT C t.id = false) (hN : idOf C t.name = none) :
  Calls Tryz.prog 40 #[.pointer (some ⟨cb, 0, none⟩), .agg t.cs] w fun e w' => e = .returned (.tuple #[]) ∧ ClAt w' O n cb ib ab v (putC C t) ∧ Kq (fun b => O b = some (some n)) w w' := by
 obtain ⟨id, name, fx⟩ := t
 simp only at hT hN
 obtain ⟨W1, hW1⟩ : ∃ W1, W1 = (w.alloc (.cells #[.int .i64 id, .string ⟨name.toArray⟩, .bool fx] 69 (0, 0))).drew := ⟨_, rfl⟩
 have HB1 := Lib.hid (show Below w.heap.size w W1 by rw [hW1]; exact Below.drew (below_al (Below.refl _ w) _))
 have HO1 := Lib.hid (show Obj? W1 w.heap.size #[.int .i64 id, .string ⟨name.toArray⟩, .bool fx] 69 by rw [hW1]; exact Obj?.new w _ _)
 have HC1 := Lib.hid (h.below HB1.out)
 have hins := ins_id HC1.out.ids name id (idOf_none hN)
 obtain ⟨W2, hW2⟩ : ∃ W2, W2 = setBlock W1 ib (mapG idE (C.ids ++ [(name, id, C.idc)]) (C.idc + 1)) := ⟨_, rfl⟩
 have HK2 := Lib.hid (show Kq (fun b => b = ib) W1 W2 by rw [hW2]; exact (Kq.refl (fun b => b = ib) W1).setB (r := ib) (.inl rfl) _)
 rw [← hW2] at hins
 have hbx : w.heap.size ≠ ib := fun e => by have := h.lt.2.1; omega
 have HO2 := Lib.hid (HO1.out.kp HK2.out hbx)
 have HC2 := Lib.hid (show Obj? W2 cb #[.map (some ib), .map (some ab), v, .int .i64 C.next] 111 ∧ W2.heap[ab]? = some (mapG alE C.all C.alc) ∧ W2.heap[ib]? = some (mapG idE (C.ids ++ [(name, id, C.idc)]) (C.idc + 1)) from ⟨HC1.out.cl.kp HK2.out h.ne_ci, HK2.out.at HC1.out.all (Ne.symm h.ne), by rw [hW2]; exact heap_setB (lt_of_heap HC1.out.ids)⟩)
 have hins2 := ins_al (w := W2.drew) (b := ab) (c := C.alc) HC2.out.2.1 ⟨id, name, fx⟩ (hasT_none hT)
 have k0 : W1.cell? ⟨cb, 0, none⟩ = some (.map (some ib)) := HC1.out.cl.cell 0 (.map (some ib)) rfl
 have b0 : W1.cell? ⟨w.heap.size, 0, none⟩ = some (.int .i64 id) := HO1.out.cell 0 _ rfl
 have b1 : W1.cell? ⟨w.heap.size, 1, none⟩ = some (.string ⟨name.toArray⟩) := HO1.out.cell 1 _ rfl
 have k1 : W2.cell? ⟨cb, 1, none⟩ = some (.map (some ab)) := HC2.out.1.cell 1 (.map (some ab)) rfl
 have d0 : W2.cell? ⟨w.heap.size, 0, none⟩ = some (.int .i64 id) := HO2.out.cell 0 _ rfl
 have d1 : W2.cell? ⟨w.heap.size, 1, none⟩ = some (.string ⟨name.toArray⟩) := HO2.out.cell 1 _ rfl
 have d2 : W2.cell? ⟨w.heap.size, 2, none⟩ = some (.bool fx) := HO2.out.cell 2 _ rfl
 unfold Tp.cs at hins2
 have HH := Lib.hid h
 have HT := Lib.hid (And.intro hT hN)
 have HW2 := Lib.hid hW2
 unfold Tp.cs
 simp only at hins2 ⊢
 clear h hT hN hbx hW2
 subst hW1
 go_enter Tryz.func40, Tryz.ntmps40
 go_wp2_with fail
 go_region
 go_wp2_with fail
 go_region
 go_wp2_with fail
 go_end0
 have HK3 : Kq (fun b => b = ab) W2 (setBlock W2.drew ab (mapG alE (C.all ++ [(⟨id, name, fx⟩, C.alc)]) (C.alc + 1))) := ((Kq.refl (fun b => b = ab) W2).drew).setB (r := ab) (.inl rfl) _
 have l := HH.out.lt
 refine ⟨rfl, ⟨HC2.out.1.kp HK3 HH.out.ne_ca, HK3.at HC2.out.2.2 HH.out.ne, heap_setB (lt_of_heap HC2.out.2.1), row_kp (row_kp HC1.out.back HK2.out (fun b hb => (HH.out.row_ne hb).2.1)) HK3 (fun b hb => (HH.out.row_ne hb).2.2), wf_put HH.out.wf HT.out.1, HH.out.ne, HH.out.oc, HH.out.oi, HH.out.oa, HH.out.ob⟩, ?_⟩
 exact ((Kq.of_below HB1.out).then HK2.out (fun i _ e => by subst e; exact HH.out.oi)).then HK3 (fun i _ e => by subst e; exact HH.out.oa)
end Go.Proofs.YtanofjmkkhocaaaGreatDoor
namespace Go.Proofs.YtanofjmkkhocaaaGreatDoor
open Go Go.RowKit Go.MapKept
open Go.ChangeMaps (setBlock)
theorem getB_wt (o : Option Cl) : (o.getD newCl).back.length ≤ wtO o := by
 have := wt_getD o
 unfold wtC at this
 omega
theorem RegAt.client {w : World} {rb : Nat} {O : Nat → Own} {L : List UInt8 → Option (Nat × Cl)} (h : RegAt w rb O L) {n : List UInt8} {cb : Nat} {C : Cl} (hL : L n = some (cb, C)) : ∃ ib ab v, ClAt w O n cb ib ab v C := by
 obtain ⟨mb, es, ec, hR⟩ := h
 obtain ⟨-, -, ib, ab, v, -, hC⟩ := hR.yes n cb C hL
 exact ⟨ib, ab, v, hC⟩
theorem RegAt.upd {w w' : World} {rb : Nat} {O O' : Nat → Own} {L : List UInt8 → Option (Nat × Cl)} {n : List UInt8} {cb ib ab : Nat} {v : Value} {C C' : Cl} (h : RegAt w rb O L) (hL : L n = some (cb, C)) (k : Kq (fun b => O b = some (some n)) w w') (hO : ExtO n w w' O O') (hC : ClAt w' O' n cb ib ab v C') : RegAt w' rb O' (updL L n (some (cb, C'))) := by
 obtain ⟨mb, es, ec, hR⟩ := h
 exact (hR.upd hL k hO hC).at
theorem RegSays.none {w w' : World} {rb : Nat} {O : Nat → Own} {L : List UInt8 → Option (Nat × Cl)} {n : List UInt8} (h : RegAt w rb O L) (hb : Below w.heap.size w w') : RegSays w rb O L n ((L n).map (·.2)) w' :=
 ⟨O, L n, by rw [updL_self]; exact h.below hb, rfl, .of_below hb, fun _ _ => rfl⟩
theorem rreg_any {w : World} {rb : Nat} {O : Nat → Own} {L : List UInt8 → Option (Nat × Cl)} (h : RegAt w rb O L) (n s : List UInt8) (hs : s.length < 4294967281) (hw : wtO ((L n).map (·.2)) ≤ 1000000000) :
  Calls Tryz.prog 18 #[.pointer (some ⟨rb, 0, none⟩), .string ⟨n.toArray⟩, .string ⟨s.toArray⟩] w fun e w' => e = .returned (.tuple #[.int .i64 (regC ((L n).map (·.2)) s).1.1, .bool (regC ((L n).map (·.2)) s).1.2.1, .int .i64 (regC ((L n).map (·.2)) s).1.2.2]) ∧ RegSays w rb O L n (regC ((L n).map (·.2)) s).2 w' := by
 have HN := Lib.hid (name_any s hs w)
 have HR := Lib.hid h
 obtain ⟨o, ho⟩ : ∃ o, o = (L n).map (·.2) := ⟨_, rfl⟩
 have HO := Lib.hid ho
 have HW := Lib.hid hw
 rw [← ho] at HW ⊢
 clear h hs hw ho
 cases hb : nameB s with
 | false =>
  rw [hb] at HN
  have hc : regC o s = ((0, false, 10), o) := by unfold regC; rw [if_pos hb]
  rw [hc]
  clear hb hc
  go_enter Tryz.func18, Tryz.ntmps18
  go_wp2_with fail
  refine HN.out.mono ?_
  rintro e w1 ⟨rfl, hb⟩
  have HB := Lib.hid hb
  clear hb
  go_wp2_with fail
  go_ret3
  exact ⟨rfl, by rw [HO.out]; exact RegSays.none HR.out HB.out⟩
 | true =>
  rw [hb] at HN
  have HNm := Lib.hid hb
  clear hb
  go_enter Tryz.func18, Tryz.ntmps18
  refine wp_hide fun Q1 hQ1 => ?_
  have HQ1 := Lib.hid hQ1
  clear hQ1
  go_wp2_with fail
  refine HN.out.mono ?_
  rintro e w1 ⟨rfl, hb⟩
  have HB := Lib.hid hb
  have HR1 := Lib.hid (HR.out.below hb)
  have HNd := Lib.hid (need_any HR1.out n)
  clear hb
  go_wp2_with fail
  refine HNd.out.mono ?_
  rintro e w2 ⟨cb, O1, rfl, hR2, hK2, hO2⟩
  rw [← HO.out] at hR2
  obtain ⟨C0, hC0⟩ : ∃ C0, C0 = o.getD newCl := ⟨_, rfl⟩
  have HC0 := Lib.hid hC0
  rw [← hC0] at hR2
  have HR2 := Lib.hid (And.intro hR2 (And.intro ((Kq.of_below HB.out).then hK2 (fun i _ e => e)) (fun b (hlt : b < w.heap.size) => hO2 b (Nat.lt_of_lt_of_le hlt HB.out.size))))
  obtain ⟨ib, ab, v, hC⟩ := hR2.client (updL_same _ _ _)
  have HC := Lib.hid hC
  have hl := tlook_id hC.ids s
  have k0 := hC.cl.cell 0 (.map (some ib)) rfl
  have HBk := Lib.hid (show C0.back.length ≤ 1000000000 by rw [hC0]; exact Nat.le_trans (getB_wt o) HW.out)
  clear hR2 hK2 hO2 hC hC0
  cases hx : idOf C0 s with
  | some id =>
   have hx2 : (lookG (fun x : List UInt8 × Int × Nat => x.1) C0.ids 0 s).map (·.2.2.1) = some id := hx
   rw [hx2] at hl
   have HX := Lib.hid hx
   clear hx hx2
   go_wp2_with fail
   refine HQ1.out _ _ _ ?_
   go_ret3
   have hc : regC o s = ((id, false, 0), some C0) := by unfold regC; rw [if_neg (by rw [HNm.out]; simp), ← HC0.out, HX.out]
   rw [hc]
   exact ⟨rfl, O1, _, HR2.out.1, rfl, HR2.out.2.1, HR2.out.2.2⟩
  | none =>
   have hx2 : (lookG (fun x : List UInt8 × Int × Nat => x.1) C0.ids 0 s).map (·.2.2.1) = none := hx
   rw [hx2] at hl
   have HX := Lib.hid hx
   clear hx hx2
   have HL := Lib.hid (least_any HC.out HBk.out)
   have HS := Lib.hid (leastC_spec HC.out.wf)
   have HA := Lib.hid (leastC_all C0)
   go_wp2_with fail
   refine HL.out.mono ?_
   rintro e w3 ⟨rfl, v3, hC3, hK3⟩
   have HC3 := Lib.hid (And.intro hC3 hK3)
   have HK3 := Lib.hid (HR2.out.2.1.then hK3 (fun i hi e => by rw [HR2.out.2.2 i hi] at e; rw [e]; simp))
   have HR3 := Lib.hid (HR2.out.1.upd (updL_same _ _ _) hK3 (ExtO.refl n w2 w3 O1) hC3)
   clear hC3 hK3
   by_cases h0 : (leastC C0).1 = 0
   ·have H0 := Lib.hid h0
    rw [h0]
    clear h0
    go_wp2_with fail
    refine HQ1.out _ _ _ ?_
    go_ret3
    have hc : regC o s = ((0, false, 12), some (leastC C0).2) := by unfold regC; rw [if_neg (by rw [HNm.out]; simp), ← HC0.out, HX.out]; simp only; rw [if_pos H0.out]
    rw [hc]
    have := HR3.out
    rw [updL_upd] at this
    exact ⟨rfl, O1, _, this, rfl, HK3.out, HR2.out.2.2⟩
   ·have H0 := Lib.hid h0
    have d0 : ((leastC C0).1 == 0) = false := by simpa using h0
    have HP := Lib.hid (cput_any HC3.out.1 (fun b hb => Nat.lt_of_lt_of_le (HR2.out.1.fresh b hb) HC3.out.2.size) ⟨(leastC C0).1, s, false⟩ (by
     have := HS.out.2 H0.out
     unfold hasT at this ⊢
     rw [HA.out.1]; exact this) (by
     have := HX.out
     unfold idOf at this ⊢
     rw [HA.out.2.2.1]; exact this))
    obtain ⟨id, hid⟩ : ∃ id, id = (leastC C0).1 := ⟨_, rfl⟩
    have HId := Lib.hid hid
    rw [← hid] at d0 HP ⊢
    unfold Tp.cs at HP
    simp only at HP
    clear h0 hid
    go_wp2_with fail
    refine HP.out.mono ?_
    rintro e w4 ⟨rfl, hC4, hK4⟩
    have HC4 := Lib.hid (And.intro hC4 hK4)
    clear hC4 hK4
    go_wp2_with fail
    refine HQ1.out _ _ _ ?_
    go_ret3
    have hc : regC o s = ((id, true, 0), some (putC (leastC C0).2 ⟨id, s, false⟩)) := by unfold regC; rw [if_neg (by rw [HNm.out]; simp), ← HC0.out, HX.out]; simp only; rw [if_neg H0.out, HId.out]
    rw [hc]
    have := HR3.out.upd (updL_same _ _ _) HC4.out.2 (ExtO.refl n w3 w4 O1) HC4.out.1
    rw [updL_upd, updL_upd] at this
    exact ⟨rfl, O1, _, this, rfl, HK3.out.then HC4.out.2 (fun i hi e => by rw [HR2.out.2.2 i hi] at e; rw [e]; simp), HR2.out.2.2⟩
end Go.Proofs.YtanofjmkkhocaaaGreatDoor
