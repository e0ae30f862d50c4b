/- UstringHalves: the walk. -/
import Derived.Test.YtcfeombnobgplaaUstR
import Derived.Test.YtcfeombnobgplaaUstC
import Derived.Test.YtcfeombnobgplaaUstJ
import Derived.Test.YtcfeombnobgplaaOctL
import Derived.Deep.RegionHeld3
namespace Go.Proofs.Ytcfeombnobgplaa
open Go.RowKit

theorem rcells_at : ∀ (l : List (Nat × Nat)) (k : Nat) (x : Nat × Nat), l[k]? = some x → (rcells l)[k * 2]? = some (.int .i64 (x.1 : Int)) ∧ (rcells l)[k * 2 + 1]? = some (.int .i32 (x.2 : Int))
  | [], k, x, h => by simp at h
  | y :: l, 0, x, h => by simp at h; subst h; exact ⟨rfl, rfl⟩
  | y :: l, k + 1, x, h => by
    simp only [List.getElem?_cons_succ] at h
    have := rcells_at l k x h
    have e1 : (k + 1) * 2 = k * 2 + 1 + 1 := by omega
    have e2 : rcells (y :: l) = .int .i64 (y.1 : Int) :: .int .i32 (y.2 : Int) :: rcells l := rfl
    rw [e1, e2]
    simp only [List.getElem?_cons_succ]
    exact this
/-- The cells of a slice of runes. -/
theorem rune_cell {w : World} {base g cap : Nat} {l : List (Nat × Nat)} (h : w.ownsRow base 48 2 (.slice (some ⟨g, 0, none⟩) l.length cap) l.length (rcells l)) (k : Nat) (x : Nat × Nat) (hk : l[k]? = some x) :
    w.cell? ⟨g, k * 2, none⟩ = some (.int .i64 (x.1 : Int)) ∧ w.cell? ⟨g, k * 2 + 1, none⟩ = some (.int .i32 (x.2 : Int)) := by
  obtain ⟨h1, h2⟩ := rcells_at l k x hk
  have hlt : k < l.length := by
    rcases Nat.lt_or_ge k l.length with h | h
    · exact h
    · rw [List.getElem?_eq_none h] at hk; cases hk
  rw [h.cellAt (k * 2) (by omega), h.cellAt (k * 2 + 1) (by omega)]
  exact ⟨h1, h2⟩

/-- law03.next, the last. -/
theorem next_last (a : Option Addr) (n cap k : Nat) (h : ¬ k + 1 < n) (hk : k ≤ 100000) (e : Int) (w : World) : Calls Try.prog 37 #[.slice a n cap, .int .i64 k, .int .i64 e] w fun r w' => r = .returned (.int .i64 e) ∧ w = w' := by
  have h2 : ¬ (k : Int) + 1 < (n : Int) := by omega
  go_enter Try.func37, Try.ntmps37
  go_wp2
  go_ret
  exact ⟨rfl, rfl⟩
theorem next_more (g n cap k : Nat) (h : k + 1 < n) (hn : n ≤ 100000) (e : Int) (q : Int) (w : World) (hc : w.cell? ⟨g, (k + 1) * 2, none⟩ = some (.int .i64 q)) :
    Calls Try.prog 37 #[.slice (some ⟨g, 0, none⟩) n cap, .int .i64 k, .int .i64 e] w fun r w' => r = .returned (.int .i64 q) ∧ w = w' := by
  have h2 : (k : Int) + 1 < (n : Int) := by omega
  go_enter Try.func37, Try.ntmps37
  go_wp2
  go_ret
  exact ⟨rfl, rfl⟩

set_option maxRecDepth 100000 in
set_option maxHeartbeats 3200000 in
theorem ustringHalves_walk (t : List UInt8) (ht : (t.length : Int) ≤ 9223372036854775807) (at_ : Int) (w : World) :
    Calls Try.prog 6 #[.string ⟨t.toArray⟩, .int .i64 at_] w fun e w' => e = .returned (.bool true) ∧ Below w.heap.size w w' := by
  by_cases h1 : 1000 < t.length
  · go_enter Try.func6, Try.ntmps6
    go_wp2_with fail
    refine (lives03 _).mono ?_
    rintro r w1 ⟨rfl, hB1⟩
    go_wp2
    go_ret
    exact ⟨rfl, hB1⟩
  have hvl := vend_le t
  have hrl := rn_le t 0
  have hbv : (badI t = -1 ∧ vend t = t.length ∧ vld t = true) ∨ (0 ≤ badI t ∧ badI t = (vend t : Int) ∧ vend t < t.length ∧ vld t = false) := by
    rw [vld_of (by omega)]
    unfold badI vend
    cases hb : bd t with
    | none => exact .inl ⟨rfl, rfl, rfl⟩
    | some p => exact .inr ⟨by simp, rfl, bd_lt t p hb, rfl⟩
  go_enter Try.func6, Try.ntmps6
  go_wp2_with fail
  refine (lives03 _).mono ?_
  rintro r w1 ⟨rfl, hB1⟩
  go_wp2_with fail
  refine (lawRunes_any t (by omega) _).mono ?_
  rintro r w2 ⟨v, rfl, hrow, hb⟩
  have hB2 := hB1.trans (hb.mono hB1.size)
  clear hb
  obtain ⟨R, hR⟩ : ∃ R, R = rn 0 t := ⟨_, rfl⟩
  rw [← hR] at hrow hrl
  have HR := Lib.hid hR
  clear hR
  obtain ⟨va, cap, rfl⟩ := owns_shape (by decide) hrow
  have HRow := Lib.hid hrow
  go_wp2_with fail
  refine (bad_any t ht _).mono ?_
  rintro r w3 ⟨rfl, hb3⟩
  have hB3 := hB2.trans (hb3.mono hB2.size)
  go_wp2_with fail
  refine (valid_any t ht _).mono ?_
  rintro r w4 ⟨rfl, hb4⟩
  have hB4 := hB3.trans (hb4.mono hB3.size)
  have hrow4 := (hrow.kept (row := none) (grown_below hb3 none) (by cases va <;> simp [Value.ownBlock])).kept (row := none) (grown_below hb4 none) (by cases va <;> simp [Value.ownBlock])
  clear hrow hb3 hb4
  by_cases h0 : R.length = 0
  · have hR0 : R = [] := List.length_eq_zero_iff.1 h0
    have hv0 : vend t = 0 := by
      have hh := HR.out
      rw [hR0] at hh
      apply vend_off
      cases ho : off t with
      | true => rfl
      | false => rw [rn_on 0 ho] at hh; cases hh
    have hd : ((R.length : Int) == 0) = true := by simp [h0]
    rcases hbv with ⟨q1, q2, q3⟩ | ⟨q1, q2, q3, q4⟩
    · have ht0 : (t.length : Int) = 0 := by omega
      have hd2 : ((t.length : Int) == 0) = true := by simp [ht0]
      rw [q1, q3]
      clear ht0 q1 q2 q3 hR0 h0
      go_wp2
      go_ret
      exact ⟨rfl, hB4⟩
    · have hz : badI t = 0 := by omega
      rw [q4]
      have HQ := Lib.hid (And.intro q2 (And.intro q4 hv0))
      rw [hz]
      have HZ := Lib.hid hz
      have ht1 : ¬ (t.length : Int) ≤ 0 := by omega
      clear hz q1 q2 q3 q4 hv0 hR0 h0 hvl
      have hne : ¬ t = [] := fun e => ht1 (by simp [e])
      go_wp2
      go_ret
      exact ⟨rfl, hB4⟩
  · have hd : ((R.length : Int) == 0) = false := beq_eq_false_iff_ne.2 (by omega)
    have hrow5 := hrow4
    obtain ⟨n', hn'⟩ : ∃ n', R.length = n' + 1 := ⟨R.length - 1, by omega⟩
    rw [hn'] at hrow5
    obtain ⟨g, cap', hvs⟩ := owns_succ hrow5
    rw [← hn'] at hvs
    cases hvs
    clear hrow5 hn'
    have hgl : g < w4.heap.size := (hrow4.lt g rfl).2
    obtain ⟨k, hk⟩ : ∃ k : Nat, at_ % (R.length : Int) = (k : Int) := ⟨(at_ % (R.length : Int)).toNat, by have := Int.emod_nonneg at_ (show (R.length : Int) ≠ 0 by omega); omega⟩
    have hkn : k < R.length := by have := Int.emod_lt_of_pos at_ (show (0 : Int) < (R.length : Int) by omega); omega
    have hh := half t k (by rw [← HR.out]; exact hkn)
    rw [← HR.out] at hh
    obtain ⟨p, c, z, p1, p2, p3, p4, p5, p6, p7, p8, p9, p10, p11⟩ := hh
    obtain ⟨c0, c1⟩ := rune_cell hrow4 k _ p1
    simp only at c0 c1
    have hpl : p + z ≤ t.length := by omega
    have ha1 : vld (t.take p) = true := by rw [vld_of (by simp; omega), p3]; rfl
    have hb1 : vld ((t.take (vend t)).drop p) = true := by rw [vld_of (by simp; omega), p5]; rfl
    have ha2 : cnt (t.take p) = k := by unfold cnt; rw [ha1, if_pos rfl, p4]
    have hb2 : (cnt ((t.take (vend t)).drop p) : Int) = (R.length : Int) - k := by unfold cnt; rw [hb1, if_pos rfl, p6]; omega
    have hv1 : vld (t.drop p) = vld t := by
      rw [vld_of (by simp; omega), vld_of (by omega)]
      cases h1 : bd t with
      | none => rw [p7.1 h1]
      | some q =>
        cases h2 : bd (t.drop p) with
        | none => rw [p7.2 h2] at h1; cases h1
        | some q2 => rfl
    have henc : Utf8.encode (c : Int) = ⟨((t.drop p).take z).toArray⟩ := by have := encode_pt (t.drop p) p9; rw [p8] at this; exact this
    have hx1 : (ByteArray.mk t.toArray).extract 0 p = ByteArray.mk (t.take p).toArray := by rw [ByteArray.extract_mk]; simp
    have hx2 : (ByteArray.mk t.toArray).extract p (vend t) = ByteArray.mk ((t.take (vend t)).drop p).toArray := by rw [ByteArray.extract_mk, List.drop_take]
    have hx3 : (ByteArray.mk t.toArray).extract p (p + z) = ByteArray.mk ((t.drop p).take z).toArray := by rw [ByteArray.extract_mk, show p + z - p = z by omega]
    have hx4 : (ByteArray.mk t.toArray).extract p t.length = ByteArray.mk (t.drop p).toArray := pos_drop
    obtain ⟨pz, hpz⟩ : ∃ pz, pz = p + z := ⟨_, rfl⟩
    rw [← hpz] at hx3 hpl p11
    have hpz1 : p ≤ pz := by omega
    have p10' : ∀ q : Nat × Nat, R[k + 1]? = some q → q.1 = pz := fun q h => by rw [hpz]; exact p10 q h
    have hnext : (k + 1 < R.length ∧ ∃ q : Nat × Nat, R[k + 1]? = some q ∧ q.1 = pz) ∨ (¬ k + 1 < R.length ∧ vend t = pz) := by
      rcases Nat.lt_or_ge (k + 1) R.length with h | h
      · exact .inl ⟨h, _, List.getElem?_eq_getElem h, p10' _ (List.getElem?_eq_getElem h)⟩
      · exact .inr ⟨by omega, p11 (List.getElem?_eq_none h)⟩
    have hcell : ∀ W, Below w4.heap.size w4 W → W.cell? ⟨g, k * 2, none⟩ = some (.int .i64 (p : Int)) ∧ W.cell? ⟨g, k * 2 + 1, none⟩ = some (.int .i32 (c : Int)) := fun W h => ⟨(h.cell (p := ⟨g, k * 2, none⟩) hgl).trans c0, (h.cell (p := ⟨g, k * 2 + 1, none⟩) hgl).trans c1⟩
    have hval : ∀ (l : List UInt8) (b : Bool), l.length ≤ t.length → vld l = b → ∀ W, Below w4.heap.size w4 W → Calls Try.prog 22 #[.string ⟨l.toArray⟩] W fun e w' => e = .returned (.bool b) ∧ Below w4.heap.size w4 w' := fun l b hl hv W h => (valid_any l (by omega) W).mono fun _ _ ⟨he, hb⟩ => ⟨by rw [he, hv], h.trans (hb.mono h.size)⟩
    have hcnt : ∀ (l : List UInt8) (x : Int), l.length ≤ t.length → (cnt l : Int) = x → ∀ W, Below w4.heap.size w4 W → Calls Try.prog 23 #[.string ⟨l.toArray⟩] W fun e w' => e = .returned (.int .i64 x) ∧ Below w4.heap.size w4 w' := fun l x hl hv W h => (count_any l (by omega) W).mono fun _ _ ⟨he, hb⟩ => ⟨by rw [he, hv], h.trans (hb.mono h.size)⟩
    clear p10' hpz
    rcases hbv with ⟨q1, q2, q3⟩ | ⟨q1, q2, q3, q4⟩
    · rw [q2, List.take_length] at hb1 hb2
      rw [q2] at p2
      have hVa := Lib.hid (hval (t.take p) true (by simp; omega) ha1)
      have hVc := Lib.hid (hval (t.drop p) true (by simp) hb1)
      have hVt := Lib.hid (hval t true (by omega) q3)
      have hCa := Lib.hid (hcnt (t.take p) k (by simp; omega) (by rw [ha2]))
      have hCb := Lib.hid (hcnt (t.drop p) ((R.length : Int) - k) (by simp) hb2)
      have hC := Lib.hid hcell
      have hN : ∀ W, Below w4.heap.size w4 W → Calls Try.prog 37 #[.slice (some ⟨g, 0, none⟩) R.length cap, .int .i64 k, .int .i64 (t.length : Int)] W fun r w' => r = .returned (.int .i64 (pz : Int)) ∧ W = w' := by
        intro W h
        rcases hnext with ⟨hk1, q, hq, hqp⟩ | ⟨hk1, hqp⟩
        · obtain ⟨d0, _⟩ := rune_cell hrow4 (k + 1) _ hq
          rw [hqp] at d0
          exact next_more g R.length cap k hk1 (by omega) _ _ W ((h.cell (p := ⟨g, (k + 1) * 2, none⟩) hgl).trans d0)
        · have he : (t.length : Int) = (pz : Int) := by omega
          rw [he]
          exact next_last _ _ _ k hk1 (by omega) _ W
      have hN := Lib.hid hN
      rw [q1, q3]
      have HK := Lib.hid (And.intro hk (And.intro q2 hvl))
      clear hval hcnt ha1 ha2 hb1 hb2 hv1 q1 q3 p1 p3 p4 p5 p6 p7 p8 p9 p10 p11 hx2 hcell h0 hrow4 hk q2 hvl hnext
      have HX := Lib.hid (And.intro hx1 (And.intro hx3 (And.intro hx4 henc)))
      have HC0 := Lib.hid (And.intro c0 c1)
      clear hx1 hx3 hx4 henc c0 c1
      go_wp2_with fail
      refine (pick_any at_ R.length (by omega) (by omega) _).mono ?_
      rintro r w ⟨rfl, rfl⟩
      rw [HK.out.1]
      go_wp2_with fail
      obtain ⟨c0, c1⟩ := HC0.out
      obtain ⟨hx1, -, hx4, -⟩ := HX.out
      have b1 : (0 : Int) ≤ (k : Int) := by omega
      have b2 : (k : Int) < (R.length : Int) := by omega
      go_quiet (fail)
      clear hx1 hx4 c0 c1
      obtain ⟨-, hx3, hx4, henc⟩ := HX.out
      go_wp2_with fail
      have hB0 : Below w4.heap.size w4 (w4.drewN nq).drew := below_grown (quiet_grown ⟨nq + 1, rfl⟩ none)
      have hB00 : Below w4.heap.size w4 (w4.drewN (nq + 1)) := hB0
      have hS0 := hC.out _ hB0
      have b3 : (0 : Int) ≤ (p : Int) := by omega
      have b4 : (p : Int) ≤ (pz : Int) := by omega
      have b5 : (pz : Int) ≤ (t.length : Int) := by omega
      have b6 : IntKind.i64.wrap ((R.length : Int) - (k : Int)) = (R.length : Int) - (k : Int) := by rw [IntKind.wrap_i64]; omega
      have b7 : (p : Int) ≤ (t.length : Int) := by omega
      go_region_held3 (fun W => Below w4.heap.size w4 W ∧ W.cell? ⟨g, k * 2, none⟩ = some (.int .i64 (p : Int)) ∧ W.cell? ⟨g, k * 2 + 1, none⟩ = some (.int .i32 (c : Int)))
        ((first | exact ⟨by assumption, hC.out _ (by assumption)⟩ | assumption))
        ((go_split_ands; first
          | (go_at_call 22; ((with_reducible refine (hVa.out _ (by assumption)).mono ?_); (rintro e w' ⟨rfl, hb⟩)))
          | (go_at_call 22; ((with_reducible refine (hVc.out _ (by assumption)).mono ?_); (rintro e w' ⟨rfl, hb⟩)))
          | (go_at_call 22; ((with_reducible refine (hVt.out _ (by assumption)).mono ?_); (rintro e w' ⟨rfl, hb⟩)))
          | (go_at_call 23; ((with_reducible refine (hCa.out _ (by assumption)).mono ?_); (rintro e w' ⟨rfl, hb⟩)))
          | (go_at_call 23; ((with_reducible refine (hCb.out _ (by assumption)).mono ?_); (rintro e w' ⟨rfl, hb⟩)))
          | (go_at_call 37; ((with_reducible refine (hN.out _ (by assumption)).mono ?_); (rintro e w' ⟨rfl, rfl⟩)))))
      go_wp2
      go_ret
      exact ⟨rfl, hB4.trans (Below.mono (by assumption) hB4.size)⟩
    · obtain ⟨E, hE⟩ : ∃ E, E = vend t := ⟨_, rfl⟩
      rw [← hE] at hb1 hb2 hx2 p2
      have hVa := Lib.hid (hval (t.take p) true (by simp; omega) ha1)
      have hVc := Lib.hid (hval ((t.take E).drop p) true (by simp; omega) hb1)
      have hVt := Lib.hid (hval t false (by omega) q4)
      have hVd := Lib.hid (hval (t.drop p) false (by simp) (by rw [hv1, q4]))
      have hCa := Lib.hid (hcnt (t.take p) k (by simp; omega) (by rw [ha2]))
      have hCb := Lib.hid (hcnt ((t.take E).drop p) ((R.length : Int) - k) (by simp; omega) hb2)
      have hC := Lib.hid hcell
      have hN : ∀ W, Below w4.heap.size w4 W → Calls Try.prog 37 #[.slice (some ⟨g, 0, none⟩) R.length cap, .int .i64 k, .int .i64 (E : Int)] W fun r w' => r = .returned (.int .i64 (pz : Int)) ∧ W = w' := by
        intro W h
        rcases hnext with ⟨hk1, q, hq, hqp⟩ | ⟨hk1, hqp⟩
        · obtain ⟨d0, _⟩ := rune_cell hrow4 (k + 1) _ hq
          rw [hqp] at d0
          exact next_more g R.length cap k hk1 (by omega) _ _ W ((h.cell (p := ⟨g, (k + 1) * 2, none⟩) hgl).trans d0)
        · have he : (E : Int) = (pz : Int) := by omega
          rw [he]
          exact next_last _ _ _ k hk1 (by omega) _ W
      have hN := Lib.hid hN
      have hz : badI t = (E : Int) := by omega
      have b8 : (p : Int) ≤ (E : Int) := by omega
      have b9 : (E : Int) ≤ (t.length : Int) := by omega
      have b10 : ¬ (t.length : Int) ≤ (E : Int) := by omega
      rw [hz, q4]
      have HK := Lib.hid (And.intro hk (And.intro hE (And.intro hz hvl)))
      clear hval hcnt ha1 ha2 hb1 hb2 hv1 q1 q2 q3 q4 p1 p3 p4 p5 p6 p7 p8 p9 p10 p11 hcell h0 hrow4 hk hE hz hvl hnext
      have HX := Lib.hid (And.intro hx1 (And.intro hx2 (And.intro hx3 (And.intro hx4 henc))))
      have HC0 := Lib.hid (And.intro c0 c1)
      clear hx1 hx2 hx3 hx4 henc c0 c1
      go_wp2_with fail
      refine (pick_any at_ R.length (by omega) (by omega) _).mono ?_
      rintro r w ⟨rfl, rfl⟩
      rw [HK.out.1]
      go_wp2_with fail
      obtain ⟨c0, c1⟩ := HC0.out
      obtain ⟨hx1, hx2, -, -, -⟩ := HX.out
      have b1 : (0 : Int) ≤ (k : Int) := by omega
      have b2 : (k : Int) < (R.length : Int) := by omega
      go_quiet (fail)
      clear hx1 hx2 c0 c1
      obtain ⟨-, -, hx3, hx4, henc⟩ := HX.out
      go_wp2_with fail
      have hB0 : Below w4.heap.size w4 (w4.drewN nq).drew := below_grown (quiet_grown ⟨nq + 1, rfl⟩ none)
      have hB00 : Below w4.heap.size w4 (w4.drewN (nq + 1)) := hB0
      have hS0 := hC.out _ hB0
      have b3 : (0 : Int) ≤ (p : Int) := by omega
      have b4 : (p : Int) ≤ (pz : Int) := by omega
      have b5 : (pz : Int) ≤ (t.length : Int) := by omega
      have b6 : IntKind.i64.wrap ((R.length : Int) - (k : Int)) = (R.length : Int) - (k : Int) := by rw [IntKind.wrap_i64]; omega
      have b7 : (p : Int) ≤ (t.length : Int) := by omega
      go_region_held3 (fun W => Below w4.heap.size w4 W ∧ W.cell? ⟨g, k * 2, none⟩ = some (.int .i64 (p : Int)) ∧ W.cell? ⟨g, k * 2 + 1, none⟩ = some (.int .i32 (c : Int)))
        ((first | exact ⟨by assumption, hC.out _ (by assumption)⟩ | assumption))
        ((go_split_ands; first
          | (go_at_call 22; ((with_reducible refine (hVa.out _ (by assumption)).mono ?_); (rintro e w' ⟨rfl, hb⟩)))
          | (go_at_call 22; ((with_reducible refine (hVc.out _ (by assumption)).mono ?_); (rintro e w' ⟨rfl, hb⟩)))
          | (go_at_call 22; ((with_reducible refine (hVt.out _ (by assumption)).mono ?_); (rintro e w' ⟨rfl, hb⟩)))
          | (go_at_call 22; ((with_reducible refine (hVd.out _ (by assumption)).mono ?_); (rintro e w' ⟨rfl, hb⟩)))
          | (go_at_call 23; ((with_reducible refine (hCa.out _ (by assumption)).mono ?_); (rintro e w' ⟨rfl, hb⟩)))
          | (go_at_call 23; ((with_reducible refine (hCb.out _ (by assumption)).mono ?_); (rintro e w' ⟨rfl, hb⟩)))
          | (go_at_call 37; ((with_reducible refine (hN.out _ (by assumption)).mono ?_); (rintro e w' ⟨rfl, rfl⟩)))))
      go_wp2
      go_ret
      exact ⟨rfl, hB4.trans (Below.mono (by assumption) hB4.size)⟩
end Go.Proofs.Ytcfeombnobgplaa
