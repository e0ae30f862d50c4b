/- topic: Within. -/
import Derived.Test.YthifcodiphglaaaDoorTopN
namespace Go.Proofs.YthifcodiphglaaaDoor
open Go.RowKit
set_option linter.unusedVariables false

theorem infoStr : (Tryd.prog.info? 9).map (fun i => (i.zero, i.size, i.bytes)) = some (some (.string ByteArray.empty), 1, 16) := by kernel_rfl
theorem str_one_new (w : World) (s : List UInt8) (t : TypeId) : ∀ (j : Nat) u, [Value.string ⟨s.toArray⟩][j]? = some u → (w.alloc (.cells #[.string ⟨s.toArray⟩] t (0, 0))).cell? ((⟨w.heap.size, 0, none⟩ : Addr).add j) = some u := by
  intro j u h
  match j, h with
  | 0, h => cases h; simp [Addr.add]
  | j + 1, h => simp at h
theorem cellsS_set (l : List (List UInt8)) (k : Nat) (s : List UInt8) : (cellsS l).setIfInBounds k (.string ⟨s.toArray⟩) = cellsS (l.set k s) := by
  unfold cellsS
  apply Array.ext'
  simp [List.map_set]
theorem cellsS_at {l : List (List UInt8)} {k : Nat} {s : List UInt8} (h : l[k]? = some s) : (cellsS l)[k]? = some (.string ⟨s.toArray⟩) := by simp [cellsS, h]
theorem cellsS_size (l : List (List UInt8)) : (cellsS l).size = l.length := by simp [cellsS]

/-- The names made as far as k. -/
def upto (n : List (List UInt8)) (k : Nat) : List (List UInt8) := madeL (n.take k) ++ n.drop k
theorem upto_zero (n : List (List UInt8)) : upto n 0 = n := rfl
theorem upto_len (n : List (List UInt8)) (k : Nat) (hk : k ≤ n.length) : (upto n k).length = n.length := by simp [upto, madeL]; omega
theorem upto_all (n : List (List UInt8)) : upto n n.length = madeL n := by simp [upto]
theorem upto_at {n : List (List UInt8)} {k : Nat} {s : List UInt8} (h : n[k]? = some s) : (upto n k)[k]? = some s := by
  have hk : k < n.length := (List.getElem?_eq_some_iff.1 h).1
  unfold upto
  rw [List.getElem?_append_right (by simp [madeL]; omega)]
  simp [madeL, show min k n.length = k by omega, h]
theorem upto_next {n : List (List UInt8)} {k : Nat} {s : List UInt8} (h : n[k]? = some s) : (upto n k).set k (if s = [43] then freshL else s) = upto n (k + 1) := by
  have hk : k < n.length := (List.getElem?_eq_some_iff.1 h).1
  have hs : n[k] = s := (List.getElem?_eq_some_iff.1 h).2
  unfold upto
  rw [List.set_append_right _ _ (by simp [madeL]; omega)]
  have e : k - (madeL (n.take k)).length = 0 := by simp [madeL]; omega
  rw [e, List.drop_eq_getElem_cons hk, List.set_cons_zero, List.take_succ_eq_append_getElem hk, hs]
  simp [madeL]
theorem upto_keep {n : List (List UInt8)} {k : Nat} {s : List UInt8} (h : n[k]? = some s) (h43 : s ≠ [43]) : upto n k = upto n (k + 1) := by
  rw [← upto_next h, if_neg h43]
  have hk : k < (upto n k).length := (List.getElem?_eq_some_iff.1 (upto_at h)).1
  have := (List.getElem?_eq_some_iff.1 (upto_at h)).2
  conv => lhs; rw [← List.set_getElem_self hk, this]
theorem mem_upto_le {a l : List UInt8} {k : Nat} (h : l ∈ upto (splitS a) k) : l.length ≤ a.length + 2 := by
  unfold upto at h
  rcases List.mem_append.1 h with h | h
  · obtain ⟨x, hx, rfl⟩ := List.mem_map.1 h
    split
    · simp [freshL]
    · have := mem_split_le (List.mem_of_mem_take hx); omega
  · have := mem_split_le (List.mem_of_mem_drop h); omega

set_option maxRecDepth 100000 in
set_option maxHeartbeats 800000 in
theorem within_no (a b : List UInt8) (ha : a.length < 4294967281) (hb : b.length < 4294967281) (h : filterB a = false ∨ filterB b = false) (w : World) (hm : Mx w) :
    Calls Tryd.prog 10 #[.string ⟨a.toArray⟩, .string ⟨b.toArray⟩] w fun e w' => e = .returned (.bool (withinB a b)) ∧ Below w.heap.size w w' := by
  cases h1 : filterB a with
  | false =>
    have H := Lib.hid (And.intro h1 (show withinB a b = false by unfold withinB; rw [h1]; rfl))
    rw [H.out.2]
    clear h1 h
    go_enter Tryd.func10, Tryd.ntmps10
    go_wp2_with fail
    refine (filter_any a ha _ hm).mono ?_
    rintro e w1 ⟨rfl, hb1⟩
    rw [H.out.1]
    go_wp2
    go_ret
    exact ⟨rfl, hb1⟩
  | true =>
    have h2 : filterB b = false := by rcases h with h | h; rw [h1] at h; cases h; exact h
    have H := Lib.hid (And.intro h1 (And.intro h2 (show withinB a b = false by unfold withinB; rw [h1, h2]; rfl)))
    rw [H.out.2.2]
    clear h1 h2 h
    go_enter Tryd.func10, Tryd.ntmps10
    go_wp2_with fail
    refine (filter_any a ha _ hm).mono ?_
    rintro e w1 ⟨rfl, hb1⟩
    rw [H.out.1]
    go_wp2_with fail
    refine (filter_any b hb _ (hm.next hb1)).mono ?_
    rintro e w2 ⟨rfl, hb2⟩
    rw [H.out.2.1]
    go_wp2
    go_ret
    exact ⟨rfl, hb1.trans (hb2.mono hb1.size)⟩

/-- What the loop leaves, round by round. -/
def WRel (w : World) (b1 b2 : Nat) (F n : List (List UInt8)) (M : Nat) (i : Value) (wr : World) : Prop :=
  ∃ k, k ≤ M ∧ i = .int .i64 k ∧ Below w.heap.size w wr ∧ Obj? wr b1 (cellsS F) 9 ∧ Obj? wr b2 (cellsS (upto n k)) 9

set_option maxRecDepth 100000 in
set_option maxHeartbeats 1600000 in
theorem within_flat (a b : List UInt8) (ha : a.length < 4294967281) (hb : b.length < 4294967281) (h1 : filterB a = true) (h2 : filterB b = true) (hd : deepB (splitS a) = false) (w : World) (hm : Mx w) :
    Calls Tryd.prog 10 #[.string ⟨a.toArray⟩, .string ⟨b.toArray⟩] w fun e w' => e = .returned (.bool (withinB a b)) ∧ Below w.heap.size w w' := by
  obtain ⟨F, hF⟩ : ∃ F, F = splitS b := ⟨_, rfl⟩
  obtain ⟨n, hn⟩ : ∃ n, n = splitS a := ⟨_, rfl⟩
  have hW : withinB a b = coversL F (madeL n) := by unfold withinB withinL; rw [h1, h2, hF, hn, hd]; rfl
  rw [← hn] at hd
  have hn0 : n ≠ [] := by rw [hn]; exact splitS_ne a
  have hF0 : F ≠ [] := by rw [hF]; exact splitS_ne b
  obtain ⟨N, hN⟩ : ∃ N, N = n.length := ⟨_, rfl⟩
  obtain ⟨K, hK⟩ : ∃ K, K = F.length := ⟨_, rfl⟩
  have hNl : (N : Int) ≤ 4294967281 := by have := len_split_le a; rw [hN, hn]; omega
  have hKl : (K : Int) ≤ 4294967281 := by have := len_split_le b; rw [hK, hF]; omega
  have hN1 : (1 : Int) ≤ (N : Int) := by rw [hN]; have := List.length_pos_iff.2 hn0; omega
  obtain ⟨z, hz⟩ : ∃ z, n.getLast? = some z := ⟨n.getLast hn0, by simp [List.getLast?_eq_some_getLast hn0]⟩
  have hz35 : (z == [35]) = false := by unfold deepB at hd; rw [hz] at hd; simpa using hd
  have hzat : n[N - 1]? = some z := by rw [hN, ← List.getLast?_eq_getElem?]; exact hz
  have LA := Lib.hid (fun W (hM : Mx W) => by have := levels_any a ha W hM; rw [← hn, ← hN] at this; exact this)
  have LB := Lib.hid (fun W (hM : Mx W) => by have := levels_any b hb W hM; rw [← hF, ← hK] at this; exact this)
  have H := Lib.hid (And.intro h1 (And.intro h2 (And.intro hW (And.intro hN (And.intro hzat (And.intro hn (And.intro hF (And.intro hK (And.intro hn0 hF0)))))))))
  rw [hW]
  clear h1 h2 hW hN hzat hn hF hK hn0 hF0 hd hz
  have hidx : ((N : Int) - 1).toNat = N - 1 := by omega
  go_enter Tryd.func10, Tryd.ntmps10
  go_wp2_with fail
  refine (filter_any a ha _ hm).mono ?_
  rintro e w1 ⟨rfl, hb1⟩
  rw [H.out.1]
  go_wp2_with fail
  refine (filter_any b hb _ (hm.next hb1)).mono ?_
  rintro e w2 ⟨rfl, hb2⟩
  rw [H.out.2.1]
  have hB2 := hb1.trans (hb2.mono hb1.size)
  have hm2 := hm.next hB2
  go_wp2_with fail
  refine (LB.out _ hm2).mono ?_
  rintro e w3 ⟨rfl, rfl⟩
  have hm3 := hm2.next (below_al1 (w := w2) (o := .cells (cellsS F) 9 (0, 0)))
  go_wp2_with fail
  refine (LA.out _ hm3).mono ?_
  rintro e w4 ⟨rfl, rfl⟩
  have O1 := (Obj?.new w2 (cellsS F) 9).alloc (.cells (cellsS n) 9 (0, 0))
  have O2 := Obj?.new (w2.alloc (.cells (cellsS F) 9 (0, 0))) (cellsS n) 9
  rw [World.size_alloc] at O2
  have hB4 := below_alT (below_alT hB2 (.cells (cellsS F) 9 (0, 0))) (.cells (cellsS n) 9 (0, 0))
  have kz := O2.cell (N - 1) _ (cellsS_at H.out.2.2.2.2.1)
  obtain ⟨w4, hw4⟩ : ∃ w4, w4 = (w2.alloc (.cells (cellsS F) 9 (0, 0))).alloc (.cells (cellsS n) 9 (0, 0)) := ⟨_, rfl⟩
  rw [← hw4] at O1 O2 hB4 kz ⊢
  have hble : w.heap.size ≤ w2.heap.size := hB2.size
  have HO := Lib.hid (And.intro O1 O2)
  clear hw4 O1 O2
  go_wp2
  go_loopw [36] (fun i wr => WRel w w2.heap.size (w2.heap.size + 1) F n N i wr) (fun i _ => N - (intOf i).toNat)
  case atStart => exact ⟨0, Nat.zero_le _, rfl, hB4, HO.out.1, by rw [upto_zero]; exact HO.out.2⟩
  case round =>
    clear kz
    obtain ⟨k, hk, rfl, hB, P1, P2⟩ := hrel
    by_cases hlt : k < N
    · have hkl : k < n.length := by have := H.out.2.2.2.1; omega
      obtain ⟨s, hse⟩ : ∃ s, n[k]? = some s := ⟨_, List.getElem?_eq_getElem hkl⟩
      have kk := P2.cell k _ (cellsS_at (upto_at hse))
      have kf := P2.frozen k
      have HP := Lib.hid (And.intro P1 P2)
      by_cases h43 : s = [43]
      · subst h43
        have hnx := upto_next hse
        rw [if_pos rfl] at hnx
        have hset := cellsS_set (upto n k) k freshL
        rw [hnx] at hset
        have HN := Lib.hid hset
        clear hse hnx hset P1 P2
        go_wp2
        go_roundw
        case rel =>
          refine ⟨k + 1, by omega, by go_num, hB.setCell (by show w.heap.size ≤ w2.heap.size + 1; omega) _, ?_, ?_⟩
          · exact HP.out.1.kept (row := some (w2.heap.size + 1)) (grown_set (World.grownBy.refl _ _) rfl _) (by simp)
          · have := HP.out.2.set k (.string ⟨freshL.toArray⟩)
            rw [HN.out] at this
            exact this
        case measure => simp [intOf]; omega
      · have h43' : (s == [43]) = false := by simpa using h43
        have hnx := upto_keep hse h43
        have HN := Lib.hid hnx
        clear hse hnx h43 P1 P2
        go_wp2
        go_roundw
        case rel => exact ⟨k + 1, by omega, by go_num, hB, HP.out.1, by rw [← HN.out]; exact HP.out.2⟩
        case measure => simp [intOf]; omega
    · obtain rfl : k = N := by omega
      have hL : (madeL n).length = k := by have := H.out.2.2.2.1; simp [madeL]; omega
      have P3 : Row wr (w2.heap.size + 1) 0 (madeL n) := by have e := upto_all n; rw [← H.out.2.2.2.1] at e; rw [e] at P2; exact Row.of_obj P2
      have hmn : madeL n ≠ [] := by intro e; rw [e] at hL; simp at hL; omega
      have C := covers_any F (madeL n) H.out.2.2.2.2.2.2.2.2.2 hmn w2.heap.size 0 K (w2.heap.size + 1) 0 k (by rw [← H.out.2.2.2.2.2.2.2.1]; exact Nat.le_refl _) (by rw [hL]; exact Nat.le_refl _) (by rw [← H.out.2.2.2.2.2.2.2.1]; omega) (by rw [hL]; omega) (fun x hx => by rw [H.out.2.2.2.2.2.1] at hx; rw [← upto_all] at hx; have := mem_upto_le hx; omega) wr (Row.of_obj P1) P3
      rw [hL, ← H.out.2.2.2.2.2.2.2.1] at C
      have HC := Lib.hid C
      clear C hL hmn P1 P2 P3
      go_wp2_with fail
      refine HC.out.mono ?_
      rintro e w5 ⟨rfl, q, rfl⟩
      go_wp2
      go_ret
      exact ⟨rfl, hB.trans ((below_drewNT (Below.refl _ _) q).mono hB.size)⟩

/-- An append behind a guard that lets it by. -/
theorem wpList_append_own_g {P : Program} (w : World) {ops : Array Oper} {rest : List Oper} {o : Oper} {a : Act} {Q : Exit → Act → World → Prop} (hgd : Region.wanted o (yielded ops a.tmps) = true) (s x : Operand) (t : TypeId)
    (ho : o.op = .call { callee := .builtin .append, args := #[s, x], argTypes := #[t, t] })
    (base : Nat) (e : TypeId) (i : TypeInfo) (z : Value) (size bytes : Nat) (ht : P.underlying t = some (.slice e)) (hi : P.info? e = some i) (hz : i.zero = some z)
    (hsize : i.size = size) (hby : i.bytes = bytes) (hzs : z.cells.size = size) (hsz : 0 < size)
    (v : Value) (n : Nat) (xs : List Value) (hs : a.eval s = v) (hown : w.ownsRow base e size v n xs)
    (ad : Addr) (m c : Nat) (news : List Value) (hx : a.eval x = .slice (some ad) m c) (hl : news.length = m * size) (hnews : ∀ j u, news[j]? = some u → w.cell? (ad.add j) = some u) (h1 : ∀ u ∈ news, u.oneCell' = true)
    (h63 : n + m ≤ maxLen) (hbytes : (n + m) * bytes ≤ 140737488355328) (hbase : base ≤ w.heap.size)
    (h : ∀ v' w', w'.ownsRow base e size v' (n + m) (xs ++ news) → w.grownBy w' v.ownBlock → (v' = .slice none 0 0 ↔ v = .slice none 0 0 ∧ m = 0) → wpList P ops Q rest (a.put o.dst v') w') : wpList P ops Q (o :: rest) a w :=
  wpList_step fun K hK => by
    rw [if_pos hgd]
    exact wp_append_own w s x t ho base e i z size bytes ht hi hz hsize hby hzs hsz v n xs hs hown ad m c news hx hl hnews h1 h63 hbytes hbase fun v' w' h2 h3 h4 => hK _ _ (h v' w' h2 h3 h4)
theorem Row.of_own {w : World} {base g k cap : Nat} {t : TypeId} {l : List (List UInt8)} (h : w.ownsRow base t 1 (.slice (some ⟨g, 0, none⟩) k cap) k (l.map fun s => Value.string ⟨s.toArray⟩)) : Row w g 0 l ∧ l.length = k ∧ k ≤ cap := by
  have hl : l.length = k := by have := h.1; simpa using this
  rcases h.2 with ⟨h', _⟩ | ⟨g', cap', cur, h', hb, hg, hc, _⟩
  · cases h'
  · simp only [Value.slice.injEq, Option.some.injEq, Addr.mk.injEq, and_true, true_and] at h'
    obtain ⟨rfl, rfl⟩ := h'
    refine ⟨⟨(Array.getElem?_eq_some_iff.1 hg).1, fun j s hj => ?_⟩, hl, hc⟩
    have hjl := (List.getElem?_eq_some_iff.1 hj).1
    have := h.cellAt j (by omega)
    rw [Nat.zero_add, this]
    simp [hj]
theorem own_of_obj {w : World} {b base M : Nat} {t : TypeId} {l : List (List UInt8)} (h : Obj? w b (cellsS l) t) (hM : M ≤ l.length) (hb : base ≤ b) (hl : l.length ≤ maxLen) : w.ownsRow base t 1 (.slice (some ⟨b, 0, none⟩) M l.length) M ((l.take M).map fun s => Value.string ⟨s.toArray⟩) := by
  refine ⟨by simp; omega, .inr ⟨b, l.length, cellsS l, rfl, hb, h, hM, hl, by simp [cellsS_size], ?_⟩⟩
  simp [cellsS, List.map_take]
/-- covers, over a row of the call's own. -/
theorem covers_own {w : World} {base g cap k b K : Nat} {F l : List (List UInt8)} (hF : F ≠ []) (hK : K = F.length) (hKl : (K : Int) ≤ 4294967281) (hkl : (k : Int) ≤ 4294967290) (hk : 0 < k) (hs : ∀ x ∈ l, x.length ≤ 4294967290) (hr : Row w b 0 F)
    (h : w.ownsRow base 9 1 (.slice (some ⟨g, 0, none⟩) k cap) k (l.map fun s => Value.string ⟨s.toArray⟩)) :
    Calls Tryd.prog 23 #[.slice (some ⟨b, 0, none⟩) K K, .slice (some ⟨g, 0, none⟩) k cap] w fun e w' => e = .returned (.bool (coversL F l)) ∧ ∃ q, w' = w.drewN q := by
  obtain ⟨h1, h2, h3⟩ := Row.of_own h
  subst hK
  subst h2
  exact covers_any F l hF (by intro e; rw [e] at hk; simp at hk) b 0 _ g 0 cap (Nat.le_refl _) h3 (by omega) (by omega) (fun x hx => by have := hs x hx; omega) w hr h1

set_option maxRecDepth 100000 in
set_option maxHeartbeats 3200000 in
theorem within_deep (a b : List UInt8) (ha : a.length < 4294967281) (hb : b.length < 4294967281) (h1 : filterB a = true) (h2 : filterB b = true) (hd : deepB (splitS a) = true) (w : World) (hm : Mx w) :
    Calls Tryd.prog 10 #[.string ⟨a.toArray⟩, .string ⟨b.toArray⟩] w fun e w' => e = .returned (.bool (withinB a b)) ∧ Below w.heap.size w w' := by
  obtain ⟨F, hF⟩ : ∃ F, F = splitS b := ⟨_, rfl⟩
  obtain ⟨n, hn⟩ : ∃ n, n = splitS a := ⟨_, rfl⟩
  obtain ⟨L0, hL0⟩ : ∃ L0, L0 = madeL n.dropLast := ⟨_, rfl⟩
  have hW : withinB a b = ((L0.isEmpty || coversL F L0) && coversL F (L0 ++ [freshL]) && coversL F (L0 ++ [freshL] ++ [freshL])) := by unfold withinB withinL; rw [h1, h2, hd, ← hF, ← hn, ← hL0, List.append_assoc]; rfl
  rw [← hn] at hd
  have hn0 : n ≠ [] := by rw [hn]; exact splitS_ne a
  have hF0 : F ≠ [] := by rw [hF]; exact splitS_ne b
  obtain ⟨N, hN⟩ : ∃ N, N = n.length := ⟨_, rfl⟩
  obtain ⟨M, hM⟩ : ∃ M, M = N - 1 := ⟨_, rfl⟩
  obtain ⟨K, hK⟩ : ∃ K, K = F.length := ⟨_, rfl⟩
  have hNl : (N : Int) ≤ 4294967281 := by have := len_split_le a; rw [hN, hn]; omega
  have hKl : (K : Int) ≤ 4294967281 := by have := len_split_le b; rw [hK, hF]; omega
  have hN1 : (1 : Int) ≤ (N : Int) := by rw [hN]; have := List.length_pos_iff.2 hn0; omega
  have hz : n.getLast? = some [35] := by unfold deepB at hd; simpa using hd
  have hzat : n[N - 1]? = some [35] := by rw [hN, ← List.getLast?_eq_getElem?]; exact hz
  have hML : L0.length = M := by rw [hL0, hM, hN]; simp [madeL]
  have hup : (upto n M).take M = L0 := by
    unfold upto
    have : (madeL (n.take M)).length = M := by simp [madeL]; omega
    rw [List.take_left' this, hL0, List.dropLast_eq_take, hM, hN]
  have hL0s : ∀ x ∈ L0, x.length ≤ a.length + 2 := fun x hx => by rw [← hup, hn] at hx; exact mem_upto_le (List.mem_of_mem_take hx)
  have hMN : M + 1 = N := by omega
  have hsl : ∀ W, (Instr.slice 28 (.slice (some ⟨w.heap.size, 0, none⟩) N N) none (some (.int .i64 ((N : Int) - 1))) none).run Tryd.prog W = (Instr.slice 28 (.slice (some ⟨w.heap.size, 0, none⟩) N N) none (some (.int .i64 ((N : Int) - 1))) none).run Tryd.prog W := fun _ => rfl
  have LA := Lib.hid (fun W (hM : Mx W) => by have := levels_any a ha W hM; rw [← hn, ← hN] at this; exact this)
  have LB := Lib.hid (fun W (hM : Mx W) => by have := levels_any b hb W hM; rw [← hF, ← hK] at this; exact this)
  have HX := Lib.hid (And.intro hN (And.intro hzat (And.intro hn (And.intro hF (And.intro hK (And.intro hn0 hF0))))))
  have HL := Lib.hid (And.intro hML (And.intro hup hL0s))
  have H := Lib.hid (And.intro h1 h2)
  have HM := Lib.hid (And.intro hMN hM)
  have hidx : ((N : Int) - 1).toNat = M := by omega
  obtain ⟨R, hR⟩ : ∃ R, R = withinB a b := ⟨_, rfl⟩
  rw [← hR] at hW ⊢
  have HWB := Lib.hid hW
  clear hR h1 h2 hW hN hzat hn hF hK hn0 hF0 hd hz hML hup hL0s hL0 hMN hsl
  have hMl : (M : Int) ≤ 4294967281 := by omega
  have hsl : ∀ (W : World) (g : Nat), (Instr.slice 28 (.slice (some ⟨g, 0, none⟩) N N) none (some (.int .i64 ((N : Int) - 1))) none).run Tryd.prog W = .ok (.slice (some ⟨g, 0, none⟩) M N) W := fun W g => by
    have ht : Tryd.prog.underlying 28 = some (.slice (Tryd.prog.elem 28)) := by kernel_rfl
    have hz : ∀ w, (Go.sizeOf (Tryd.prog.elem 28)).run Tryd.prog w = .ok 1 w := by intro w; kernel_rfl
    rw [run_slice_h W 28 _ N N ht .i64 _ (by omega) (by omega), hz, hidx]
    simp [Result.andThen, sliced, show N ≠ 0 by omega, Addr.add]
  clear hM
  obtain ⟨i0, hi, hz0, hz1, hz2⟩ := info_parts infoStr
  have HI := Lib.hid (And.intro hi (And.intro hz0 (And.intro hz1 hz2)))
  clear hi hz0 hz1 hz2
  go_enter Tryd.func10, Tryd.ntmps10
  go_wp2_with fail
  refine (filter_any a ha _ hm).mono ?_
  rintro e w1 ⟨rfl, hb1⟩
  rw [H.out.1]
  go_wp2_with fail
  refine (filter_any b hb _ (hm.next hb1)).mono ?_
  rintro e w2 ⟨rfl, hb2⟩
  rw [H.out.2]
  have hB2 := hb1.trans (hb2.mono hb1.size)
  have hm2 := hm.next hB2
  go_wp2_with fail
  refine (LB.out _ hm2).mono ?_
  rintro e w3 ⟨rfl, rfl⟩
  have hm3 := hm2.next (below_al1 (w := w2) (o := .cells (cellsS F) 9 (0, 0)))
  go_wp2_with fail
  refine (LA.out _ hm3).mono ?_
  rintro e w4 ⟨rfl, rfl⟩
  have O1 := (Obj?.new w2 (cellsS F) 9).alloc (.cells (cellsS n) 9 (0, 0))
  have O2 := Obj?.new (w2.alloc (.cells (cellsS F) 9 (0, 0))) (cellsS n) 9
  rw [World.size_alloc] at O2
  have hB4 := below_alT (below_alT hB2 (.cells (cellsS F) 9 (0, 0))) (.cells (cellsS n) 9 (0, 0))
  have kz := O2.cell (N - 1) _ (cellsS_at HX.out.2.1)
  rw [show N - 1 = M from by have := HM.out; omega] at kz
  obtain ⟨w4, hw4⟩ : ∃ w4, w4 = (w2.alloc (.cells (cellsS F) 9 (0, 0))).alloc (.cells (cellsS n) 9 (0, 0)) := ⟨_, rfl⟩
  rw [← hw4] at O1 O2 hB4 kz ⊢
  have hble : w.heap.size ≤ w2.heap.size := hB2.size
  have HO := Lib.hid (And.intro O1 O2)
  clear hw4 O1 O2
  go_wp2
  go_loopw [36] (fun i wr => WRel w w2.heap.size (w2.heap.size + 1) F n M i wr) (fun i _ => M - (intOf i).toNat)
  case atStart => exact ⟨0, Nat.zero_le _, rfl, hB4, HO.out.1, by rw [upto_zero]; exact HO.out.2⟩
  case round =>
    clear kz hsl
    obtain ⟨k, hk, rfl, hB, P1, P2⟩ := hrel
    by_cases hlt : k < M
    · have hkl : k < n.length := by have := HX.out.1; have := HM.out; omega
      obtain ⟨s, hse⟩ : ∃ s, n[k]? = some s := ⟨_, List.getElem?_eq_getElem hkl⟩
      have kk := P2.cell k _ (cellsS_at (upto_at hse))
      have kf := P2.frozen k
      have HP := Lib.hid (And.intro P1 P2)
      by_cases h43 : s = [43]
      · subst h43
        have hnx := upto_next hse
        rw [if_pos rfl] at hnx
        have hset := cellsS_set (upto n k) k freshL
        rw [hnx] at hset
        have HN := Lib.hid hset
        clear hse hnx hset P1 P2
        go_wp2
        go_roundw
        case rel =>
          refine ⟨k + 1, by omega, by go_num, hB.setCell (by show w.heap.size ≤ w2.heap.size + 1; omega) _, ?_, ?_⟩
          · exact HP.out.1.kept (row := some (w2.heap.size + 1)) (grown_set (World.grownBy.refl _ _) rfl _) (by simp)
          · have := HP.out.2.set k (.string ⟨freshL.toArray⟩)
            rw [HN.out] at this
            exact this
        case measure => simp [intOf]; omega
      · have h43' : (s == [43]) = false := by simpa using h43
        have hnx := upto_keep hse h43
        have HN := Lib.hid hnx
        clear hse hnx h43 P1 P2
        go_wp2
        go_roundw
        case rel => exact ⟨k + 1, by omega, by go_num, hB, HP.out.1, by rw [← HN.out]; exact HP.out.2⟩
        case measure => simp [intOf]; omega
    · obtain rfl : k = M := by omega
      have hul := upto_len n k (by have := HX.out.1; have := HM.out; omega)
      rw [← HX.out.1] at hul
      have own0 := own_of_obj (base := w2.heap.size + 1) (M := k) P2 (by rw [hul]; have := HM.out; omega) (Nat.le_refl _) (by rw [hul]; unfold maxLen; omega)
      rw [hul, HL.out.2.1] at own0
      have hMs : ∀ x ∈ L0, x.length ≤ 4294967290 := fun x hx => by have := HL.out.2.2 x hx; omega
      have HMs := Lib.hid hMs
      have HP := Lib.hid (And.intro P1 P2)
      have HW := Lib.hid own0
      clear P1 P2 own0 hul hMs
      have hsz2 : w2.heap.size + 2 ≤ wr.heap.size := by have := HP.out.2.lt; omega
      by_cases h0 : k = 0
      · have hemp : L0.isEmpty = true := by have := HL.out.1; rw [h0] at this; simpa using this
        have hd0 : decide (0 < k) = false := by simp; omega
        have HG := Lib.hid (show (L0.isEmpty || coversL F L0) = true by rw [hemp]; rfl)
        have HH0 := Lib.hid (And.intro h0 hemp)
        clear h0 hemp
        obtain ⟨hi, hz0, hz1, hz2⟩ := HI.out
        have hown := HW.out
        go_wp2_with (at_builtin; refine wpList_append_own _ rfl _ _ 28 rfl (w2.heap.size + 1) 9 i0 (.string ByteArray.empty) 1 16 Tryd.underlying28 hi hz0 hz1 hz2 rfl (by decide) _ _ _ rfl (hown.alloc _) ⟨wr.heap.size, 0, none⟩ 1 1 [.string ⟨#[43, 43]⟩] rfl rfl (str_one_new _ _ _) (by simp [Value.oneCell']) (by unfold maxLen; omega) (by omega) (by simp; omega) ?_; intro v1 wa hown1 hgrow1 _)
        obtain ⟨g1, c1, rfl⟩ := owns_succ hown1
        have hBa : Below w.heap.size w wa := (hB.alloc hB.size _).grown hgrow1 (by have := hB.size; simp; omega) (fun k e => Nat.le_trans (by omega) (hown.lt k e).1)
        have PA : Obj? wa w2.heap.size (cellsS F) 9 := (HP.out.1.alloc _).kept hgrow1 (by show (some (w2.heap.size + 1) : Option Nat) ≠ some w2.heap.size; simp)
        rw [show (L0.map fun s => Value.string ⟨s.toArray⟩) ++ [Value.string ⟨#[43, 43]⟩] = (L0 ++ [freshL]).map fun s => Value.string ⟨s.toArray⟩ by simp [freshL]] at hown1
        have C2 := Lib.hid (covers_own HX.out.2.2.2.2.2.2 HX.out.2.2.2.2.1 hKl (by omega) (Nat.succ_pos _) (fun x hx => by rcases List.mem_append.1 hx with hx | hx; exact HMs.out x hx; simp [freshL] at hx; rw [hx]; decide) (Row.of_obj PA) hown1)
        have hsza : wr.heap.size + 1 ≤ wa.heap.size := by have := hgrow1.size; simpa using this
        have hg1 : w2.heap.size + 1 ≤ g1 := (hown1.lt g1 rfl).1
        have HPA := Lib.hid PA
        have HWA := Lib.hid hown1
        clear hgrow1 hown hown1 PA
        cases hc2 : coversL F (L0 ++ [freshL]) with
        | false =>
          have HC2 := Lib.hid hc2
          clear hc2 hi hz0 hz1 hz2
          refine C2.out.mono ?_
          rintro e w6 ⟨rfl, q2, rfl⟩
          rw [HC2.out]
          go_wp2
          go_ret
          exact ⟨ret_val (congrArg Value.bool (by rw [HWB.out, HC2.out]; simp)), hBa.trans ((below_drewNT (Below.refl _ _) q2).mono hBa.size)⟩
        | true =>
          have HC2 := Lib.hid hc2
          clear hc2
          refine C2.out.mono ?_
          rintro e w6 ⟨rfl, q2, rfl⟩
          rw [HC2.out]
          have hBb : Below w.heap.size w (wa.drewN q2) := hBa.trans ((below_drewNT (Below.refl _ _) q2).mono hBa.size)
          have hown := (show (wa.drewN q2).ownsRow (w2.heap.size + 1) 9 1 (.slice (some ⟨g1, 0, none⟩) (k + 1) c1) (k + 1) ((L0 ++ [freshL]).map fun s => Value.string ⟨s.toArray⟩) from HWA.out)
          have hszb : wr.heap.size + 1 ≤ (wa.drewN q2).heap.size := hsza
          obtain ⟨wb, hwb⟩ : ∃ wb, wb = wa.drewN q2 := ⟨_, rfl⟩
          have HPB := Lib.hid (show Obj? wb w2.heap.size (cellsS F) 9 by rw [hwb]; exact HPA.out)
          rw [← hwb] at hBb hown hszb ⊢
          clear hwb
          go_wp2_with (at_builtin; refine wpList_append_own_g _ rfl _ _ 28 rfl (w2.heap.size + 1) 9 i0 (.string ByteArray.empty) 1 16 Tryd.underlying28 hi hz0 hz1 hz2 rfl (by decide) _ _ _ rfl (hown.alloc _) ⟨wb.heap.size, 0, none⟩ 1 1 [.string ⟨#[43, 43]⟩] rfl rfl (str_one_new _ _ _) (by simp [Value.oneCell']) (by unfold maxLen; omega) (by omega) (by simp; omega) ?_; intro v3 wc hown3 hgrow3 _)
          obtain ⟨g3, c3, rfl⟩ := owns_succ hown3
          have hBc : Below w.heap.size w wc := (hBb.alloc hBb.size _).grown hgrow3 (by have := hBb.size; simp; omega) (fun k e => Nat.le_trans (by omega) (hown.lt k e).1)
          have PC : Obj? wc w2.heap.size (cellsS F) 9 := (HPB.out.alloc _).kept hgrow3 (by show (some g1 : Option Nat) ≠ some w2.heap.size; simp; omega)
          rw [show ((L0 ++ [freshL]).map fun s => Value.string ⟨s.toArray⟩) ++ [Value.string ⟨#[43, 43]⟩] = (L0 ++ [freshL] ++ [freshL]).map fun s => Value.string ⟨s.toArray⟩ by simp [freshL]] at hown3
          have C3 := Lib.hid (covers_own HX.out.2.2.2.2.2.2 HX.out.2.2.2.2.1 hKl (by omega) (Nat.succ_pos _) (fun x hx => by rcases List.mem_append.1 hx with hx | hx; rcases List.mem_append.1 hx with hx | hx; exact HMs.out x hx; simp [freshL] at hx; rw [hx]; decide; simp [freshL] at hx; rw [hx]; decide) (Row.of_obj PC) hown3)
          clear hgrow3 hown hown3 PC hi hz0 hz1 hz2
          refine C3.out.mono ?_
          rintro e w7 ⟨rfl, q3, rfl⟩
          go_wp2
          go_ret
          exact ⟨ret_val (congrArg Value.bool (by rw [HWB.out, HG.out, HC2.out]; simp)), hBc.trans ((below_drewNT (Below.refl _ _) q3).mono hBc.size)⟩
      · have hemp : L0.isEmpty = false := by
          have := HL.out.1
          cases L0 with
          | nil => simp at this; omega
          | cons _ _ => rfl
        have hd0 : decide (0 < k) = true := by simp; omega
        have hk0 : 0 < k := by omega
        have C1 := Lib.hid (covers_own HX.out.2.2.2.2.2.2 HX.out.2.2.2.2.1 hKl (by omega) hk0 HMs.out (Row.of_obj HP.out.1) HW.out)
        have HH0 := Lib.hid (And.intro h0 hemp)
        clear h0 hemp
        cases hc1 : coversL F L0 with
        | false =>
          have HC1 := Lib.hid hc1
          clear hc1
          go_wp2_with fail
          refine C1.out.mono ?_
          rintro e w5 ⟨rfl, q, rfl⟩
          rw [HC1.out]
          go_wp2
          go_ret
          exact ⟨ret_val (congrArg Value.bool (by rw [HWB.out, HH0.out.2, HC1.out]; rfl)), hB.trans ((below_drewNT (Below.refl _ _) q).mono hB.size)⟩
        | true =>
          have HG := Lib.hid (show (L0.isEmpty || coversL F L0) = true by rw [hc1]; simp)
          have HC1 := Lib.hid hc1
          clear hc1
          go_wp2_with fail
          refine C1.out.mono ?_
          rintro e w5 ⟨rfl, q, rfl⟩
          rw [HC1.out]
          replace hB : Below w.heap.size w (wr.drewN q) := hB.trans ((below_drewNT (Below.refl _ _) q).mono hB.size)
          replace HP := Lib.hid (show Obj? (wr.drewN q) w2.heap.size (cellsS F) 9 ∧ Obj? (wr.drewN q) (w2.heap.size + 1) (cellsS (upto n k)) 9 from HP.out)
          replace HW := Lib.hid (show (wr.drewN q).ownsRow (w2.heap.size + 1) 9 1 (.slice (some ⟨w2.heap.size + 1, 0, none⟩) k N) k (L0.map fun s => Value.string ⟨s.toArray⟩) from HW.out)
          replace hsz2 : w2.heap.size + 2 ≤ (wr.drewN q).heap.size := hsz2
          obtain ⟨wr, hwr⟩ : ∃ wr', wr' = wr.drewN q := ⟨_, rfl⟩
          rw [← hwr] at hB HP HW hsz2 ⊢
          clear hwr C1
          obtain ⟨hi, hz0, hz1, hz2⟩ := HI.out
          have hown := HW.out
          go_wp2_with (at_builtin; refine wpList_append_own _ rfl _ _ 28 rfl (w2.heap.size + 1) 9 i0 (.string ByteArray.empty) 1 16 Tryd.underlying28 hi hz0 hz1 hz2 rfl (by decide) _ _ _ rfl (hown.alloc _) ⟨wr.heap.size, 0, none⟩ 1 1 [.string ⟨#[43, 43]⟩] rfl rfl (str_one_new _ _ _) (by simp [Value.oneCell']) (by unfold maxLen; omega) (by omega) (by simp; omega) ?_; intro v1 wa hown1 hgrow1 _)
          obtain ⟨g1, c1, rfl⟩ := owns_succ hown1
          have hBa : Below w.heap.size w wa := (hB.alloc hB.size _).grown hgrow1 (by have := hB.size; simp; omega) (fun k e => Nat.le_trans (by omega) (hown.lt k e).1)
          have PA : Obj? wa w2.heap.size (cellsS F) 9 := (HP.out.1.alloc _).kept hgrow1 (by show (some (w2.heap.size + 1) : Option Nat) ≠ some w2.heap.size; simp)
          rw [show (L0.map fun s => Value.string ⟨s.toArray⟩) ++ [Value.string ⟨#[43, 43]⟩] = (L0 ++ [freshL]).map fun s => Value.string ⟨s.toArray⟩ by simp [freshL]] at hown1
          have C2 := Lib.hid (covers_own HX.out.2.2.2.2.2.2 HX.out.2.2.2.2.1 hKl (by omega) (Nat.succ_pos _) (fun x hx => by rcases List.mem_append.1 hx with hx | hx; exact HMs.out x hx; simp [freshL] at hx; rw [hx]; decide) (Row.of_obj PA) hown1)
          have hsza : wr.heap.size + 1 ≤ wa.heap.size := by have := hgrow1.size; simpa using this
          have hg1 : w2.heap.size + 1 ≤ g1 := (hown1.lt g1 rfl).1
          have HPA := Lib.hid PA
          have HWA := Lib.hid hown1
          clear hgrow1 hown hown1 PA
          cases hc2 : coversL F (L0 ++ [freshL]) with
          | false =>
            have HC2 := Lib.hid hc2
            clear hc2 hi hz0 hz1 hz2
            refine C2.out.mono ?_
            rintro e w6 ⟨rfl, q2, rfl⟩
            rw [HC2.out]
            go_wp2
            go_ret
            exact ⟨ret_val (congrArg Value.bool (by rw [HWB.out, HC2.out]; simp)), hBa.trans ((below_drewNT (Below.refl _ _) q2).mono hBa.size)⟩
          | true =>
            have HC2 := Lib.hid hc2
            clear hc2
            refine C2.out.mono ?_
            rintro e w6 ⟨rfl, q2, rfl⟩
            rw [HC2.out]
            have hBb : Below w.heap.size w (wa.drewN q2) := hBa.trans ((below_drewNT (Below.refl _ _) q2).mono hBa.size)
            have hown := (show (wa.drewN q2).ownsRow (w2.heap.size + 1) 9 1 (.slice (some ⟨g1, 0, none⟩) (k + 1) c1) (k + 1) ((L0 ++ [freshL]).map fun s => Value.string ⟨s.toArray⟩) from HWA.out)
            have hszb : wr.heap.size + 1 ≤ (wa.drewN q2).heap.size := hsza
            obtain ⟨wb, hwb⟩ : ∃ wb, wb = wa.drewN q2 := ⟨_, rfl⟩
            have HPB := Lib.hid (show Obj? wb w2.heap.size (cellsS F) 9 by rw [hwb]; exact HPA.out)
            rw [← hwb] at hBb hown hszb ⊢
            clear hwb
            go_wp2_with (at_builtin; refine wpList_append_own_g _ rfl _ _ 28 rfl (w2.heap.size + 1) 9 i0 (.string ByteArray.empty) 1 16 Tryd.underlying28 hi hz0 hz1 hz2 rfl (by decide) _ _ _ rfl (hown.alloc _) ⟨wb.heap.size, 0, none⟩ 1 1 [.string ⟨#[43, 43]⟩] rfl rfl (str_one_new _ _ _) (by simp [Value.oneCell']) (by unfold maxLen; omega) (by omega) (by simp; omega) ?_; intro v3 wc hown3 hgrow3 _)
            obtain ⟨g3, c3, rfl⟩ := owns_succ hown3
            have hBc : Below w.heap.size w wc := (hBb.alloc hBb.size _).grown hgrow3 (by have := hBb.size; simp; omega) (fun k e => Nat.le_trans (by omega) (hown.lt k e).1)
            have PC : Obj? wc w2.heap.size (cellsS F) 9 := (HPB.out.alloc _).kept hgrow3 (by show (some g1 : Option Nat) ≠ some w2.heap.size; simp; omega)
            rw [show ((L0 ++ [freshL]).map fun s => Value.string ⟨s.toArray⟩) ++ [Value.string ⟨#[43, 43]⟩] = (L0 ++ [freshL] ++ [freshL]).map fun s => Value.string ⟨s.toArray⟩ by simp [freshL]] at hown3
            have C3 := Lib.hid (covers_own HX.out.2.2.2.2.2.2 HX.out.2.2.2.2.1 hKl (by omega) (Nat.succ_pos _) (fun x hx => by rcases List.mem_append.1 hx with hx | hx; rcases List.mem_append.1 hx with hx | hx; exact HMs.out x hx; simp [freshL] at hx; rw [hx]; decide; simp [freshL] at hx; rw [hx]; decide) (Row.of_obj PC) hown3)
            clear hgrow3 hown hown3 PC hi hz0 hz1 hz2
            refine C3.out.mono ?_
            rintro e w7 ⟨rfl, q3, rfl⟩
            go_wp2
            go_ret
            exact ⟨ret_val (congrArg Value.bool (by rw [HWB.out, HG.out, HC2.out]; simp)), hBc.trans ((below_drewNT (Below.refl _ _) q3).mono hBc.size)⟩

theorem within_any (a b : List UInt8) (ha : a.length < 4294967281) (hb : b.length < 4294967281) (w : World) (hm : Mx w) :
    Calls Tryd.prog 10 #[.string ⟨a.toArray⟩, .string ⟨b.toArray⟩] w fun e w' => e = .returned (.bool (withinB a b)) ∧ Below w.heap.size w w' := by
  cases h1 : filterB a with
  | false => exact within_no a b ha hb (.inl h1) w hm
  | true =>
  cases h2 : filterB b with
  | false => exact within_no a b ha hb (.inr h2) w hm
  | true =>
  cases hd : deepB (splitS a) with
  | false => exact within_flat a b ha hb h1 h2 hd w hm
  | true => exact within_deep a b ha hb h1 h2 hd w hm
end Go.Proofs.YthifcodiphglaaaDoor
