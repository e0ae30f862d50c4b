/- OctetScript: the walk. -/
import Derived.Test.YtcfeombnobgplaaOctL
import Derived.Test.YtcfeombnobgplaaOctR
import Derived.Test.YtcfeombnobgplaaOpen
namespace Go.Proofs.Ytcfeombnobgplaa
open Go.RowKit

/-- A slice of pairs of integers. -/
def Pairs (w : World) (a : Option Addr) (len : Nat) : Prop :=
  len ≤ maxLen ∧ (len = 0 ∨ ∃ b off, a = some ⟨b, off, none⟩ ∧ b < w.heap.size ∧ ∀ j, j < len → ∃ p q : Int, w.cell? ⟨b, off + j * 2, none⟩ = some (.int .i64 p) ∧ w.cell? ⟨b, off + j * 2 + 1, none⟩ = some (.int .i64 q))

theorem pairs_of_trod {H : Type} {enc : TypeId × Value → H} {w : World} {a : Option Addr} {len cap : Nat} {d : DataW H} {p : List MemPlace}
    (h : DataW.Trod enc Try.prog w 0 (fun _ => true) true 66 (.slice a len cap) d p) : Pairs w a len := by
  obtain ⟨h1, h2⟩ := fields_at Try.underlying66 Try.underlying70 (by kernel_rfl) (by kernel_rfl) (by decide) h
  refine ⟨h1, ?_⟩
  rcases h2 with h2 | ⟨b, off, rfl, hb, h2⟩
  · exact .inl h2
  · refine .inr ⟨b, off, rfl, hb, fun j hj => ?_⟩
    obtain ⟨v0, y0, n0, hc0, hy0⟩ := h2 j hj 0 _ rfl
    obtain ⟨v1, y1, n1, hc1, hy1⟩ := h2 j hj 1 _ rfl
    obtain ⟨x0, e0, _, _⟩ := DataW.trod_int Try.underlying3 hy0
    obtain ⟨x1, e1, _, _⟩ := DataW.trod_int Try.underlying3 hy1
    simp only [List.cons.injEq, and_true] at e0 e1
    subst e0 e1
    exact ⟨x0, x1, hc0, hc1⟩

set_option maxRecDepth 100000 in
set_option maxHeartbeats 1600000 in
theorem octetScript_walk (t : List UInt8) (a : Option Addr) (len cap : Nat) (w0 : World) (hz : Pairs w0 a len) :
    Calls Try.prog 12 #[.string ⟨t.toArray⟩, .slice a len cap] w0 fun e w' => e = .returned (.bool true) ∧ Below w0.heap.size w0 w' := by
  obtain ⟨hlm, hz⟩ := hz
  unfold maxLen at hlm
  by_cases h200 : 200 < t.length
  · go_enter Try.func12, Try.ntmps12
    go_wp2_with fail
    refine (lives01 _).mono ?_
    rintro r w1 ⟨rfl, hB1⟩
    go_wp2
    go_ret
    exact ⟨rfl, hB1⟩
  by_cases h60 : 60 < len
  · go_enter Try.func12, Try.ntmps12
    go_wp2_with fail
    refine (lives01 _).mono ?_
    rintro r w1 ⟨rfl, hB1⟩
    go_wp2
    go_ret
    exact ⟨rfl, hB1⟩
  have ht : (t.length : Int) ≤ 4611686018427387904 := by omega
  have ht' : (t.length : Int) ≤ 9223372036854775807 := by omega
  go_enter Try.func12, Try.ntmps12
  go_wp2_with fail
  refine (lives01 _).mono ?_
  rintro r w1 ⟨rfl, hB1⟩
  go_wp2_with fail
  refine (new_any t _).mono ?_
  rintro r w2 ⟨bc, rfl, hbc, Cc, hg⟩
  have hB2 := hB1.trans ((below_grown hg).mono hB1.size)
  have Lc : w0.heap.size ≤ bc := Nat.le_trans hB1.size hbc
  have Nc := Obj?.lt Cc
  clear hg
  go_wp2_with fail
  refine (rnew_any t _).mono ?_
  rintro r w3 ⟨bo, rfl, hbo, Co, hg⟩
  have hB3 := hB2.trans ((below_grown hg).mono hB2.size)
  have Lo : w0.heap.size ≤ bo := Nat.le_trans hB2.size hbo
  replace Cc := Cc.kept hg (by simp)
  have hne : bc < bo := by omega
  clear hg
  go_wp2_with fail
  go_loopw [7] (fun x wr => ∃ (j i : Nat) (e : Int), j ≤ len ∧ x = .int .i64 j ∧ i ≤ t.length ∧ Cur wr bc t i e ∧ RCur wr bo t i e ∧ Below w0.heap.size w0 wr) (fun x _ => len - (intOf x).toNat)
  case atStart => exact ⟨0, 0, 0, Nat.zero_le _, rfl, Nat.zero_le _, Cc, Co, hB3⟩
  case round =>
    clear Cc Co hB1 hB2 hB3
    obtain ⟨j, i, e, hj, rfl, hi, C, O, hB⟩ := hrel
    by_cases hlt : j < len
    · rcases hz with hz | ⟨b, off, rfl, hb, hz⟩
      · omega
      obtain ⟨p, n, hp0, hn0⟩ := hz j hlt
      have hp1 := (hB.cell (p := ⟨b, off + j * 2, none⟩) hb).trans hp0
      have hn1 := (hB.cell (p := ⟨b, off + j * 2 + 1, none⟩) hb).trans hn0
      have HZ := Lib.hid hz
      clear hz hp0 hn0
      go_wp2_with fail
      refine (pick_any p 4 (by omega) (by omega) wr).mono ?_
      rintro r w ⟨rfl, rfl⟩
      have hp4 : p % 4 = 0 ∨ p % 4 = 1 ∨ p % 4 = 2 ∨ p % 4 = 3 := by omega
      have hi2 := takeI_le (e := e) (n := n) hi
      rcases hp4 with hp | hp | hp | hp
      all_goals
        rw [hp]
        clear hp hp1 hn1
      · go_wp2_with fail
        refine (take_any C n hi ht').mono ?_
        rintro r w4 ⟨rfl, K, hg⟩
        replace hB := hB.grown hg hB.size (fun j e => by cases e; exact Lc)
        replace O := O.kept hg (by simp; omega)
        clear hg C
        go_wp2_with fail
        refine (rtake_any O n hi ht).mono ?_
        rintro r w5 ⟨rfl, Q, hg⟩
        replace hB := hB.grown hg hB.size (fun j e => by cases e; exact Lo)
        replace K := K.kept hg (by simp; omega)
        clear hg O
        have hs1 : takeI t i e n ≤ t.length := hi2
        generalize takeI t i e n = i2 at *
        generalize takeE t i e n = e2 at *
        obtain ⟨q0, q1, q2, q3, q4⟩ := Q.cells
        go_wp2_with fail
        go_quiet (first
          | (go_at_call 50; exact quiet_left (at_any (w := w5.drewN _) (Obj?.drewN K _)))
          | (go_at_call 46; exact quiet_more (left_any (w := w5.drewN _) (Obj?.drewN K _) hs1 ht'))
          | (go_at_call 58; exact quiet_more (rleft_any (w := w5.drewN _) (Obj?.drewN Q _) hs1 ht))
          | (go_at_call 48; exact quiet_more (rest_any (w := w5.drewN _) (Obj?.drewN K _) hs1 ht'))
          | (go_at_call 59; exact quiet_more (rrest_any (w := w5.drewN _) (Obj?.drewN Q _) hs1 ht))
          | (go_at_call 45; exact quiet_left (err_any (w := w5.drewN _) (Obj?.drewN K _))))
        go_wp2
        go_roundw
        case rel => exact ⟨j + 1, _, _, by omega, by go_num, hs1, K, Q, below_drewN hB _⟩
        case measure => simp [intOf]; omega
      · go_wp2_with fail
        refine (number_any C n hi ht').mono ?_
        rintro r w4 ⟨rfl, K, hg⟩
        replace hB := hB.grown hg hB.size (fun j e => by cases e; exact Lc)
        replace O := O.kept hg (by simp; omega)
        clear hg C
        go_wp2_with fail
        refine (rnumber_any O n hi ht).mono ?_
        rintro r w5 ⟨rfl, Q, hg⟩
        replace hB := hB.grown hg hB.size (fun j e => by cases e; exact Lo)
        replace K := K.kept hg (by simp; omega)
        clear hg O
        have hs1 : takeI t i e n ≤ t.length := hi2
        generalize takeI t i e n = i2 at *
        generalize takeE t i e n = e2 at *
        obtain ⟨q0, q1, q2, q3, q4⟩ := Q.cells
        go_wp2_with fail
        go_quiet (first
          | (go_at_call 50; exact quiet_left (at_any (w := w5.drewN _) (Obj?.drewN K _)))
          | (go_at_call 46; exact quiet_more (left_any (w := w5.drewN _) (Obj?.drewN K _) hs1 ht'))
          | (go_at_call 58; exact quiet_more (rleft_any (w := w5.drewN _) (Obj?.drewN Q _) hs1 ht))
          | (go_at_call 48; exact quiet_more (rest_any (w := w5.drewN _) (Obj?.drewN K _) hs1 ht'))
          | (go_at_call 59; exact quiet_more (rrest_any (w := w5.drewN _) (Obj?.drewN Q _) hs1 ht))
          | (go_at_call 45; exact quiet_left (err_any (w := w5.drewN _) (Obj?.drewN K _))))
        go_wp2
        go_roundw
        case rel => exact ⟨j + 1, _, _, by omega, by go_num, hs1, K, Q, below_drewN hB _⟩
        case measure => simp [intOf]; omega
      · go_wp2_with fail
        refine (peek_any C n hi ht').mono ?_
        rintro r w4 ⟨rfl, hq⟩
        have hg := quiet_grown hq none
        replace hB := hB.grown hg hB.size (by simp)
        replace O := O.kept hg (by simp)
        have K := C.kept hg (by simp)
        clear hg hq C
        go_wp2_with fail
        refine (rpeek_any O n hi ht).mono ?_
        rintro r w5 ⟨rfl, hq⟩
        have hg := quiet_grown hq none
        replace hB := hB.grown hg hB.size (by simp)
        have Q := O.kept hg (by simp)
        replace K := K.kept hg (by simp)
        clear hg hq O
        have hs1 : i ≤ t.length := hi
        obtain ⟨q0, q1, q2, q3, q4⟩ := Q.cells
        go_wp2_with fail
        go_quiet (first
          | (go_at_call 50; exact quiet_left (at_any (w := w5.drewN _) (Obj?.drewN K _)))
          | (go_at_call 46; exact quiet_more (left_any (w := w5.drewN _) (Obj?.drewN K _) hs1 ht'))
          | (go_at_call 58; exact quiet_more (rleft_any (w := w5.drewN _) (Obj?.drewN Q _) hs1 ht))
          | (go_at_call 48; exact quiet_more (rest_any (w := w5.drewN _) (Obj?.drewN K _) hs1 ht'))
          | (go_at_call 59; exact quiet_more (rrest_any (w := w5.drewN _) (Obj?.drewN Q _) hs1 ht))
          | (go_at_call 45; exact quiet_left (err_any (w := w5.drewN _) (Obj?.drewN K _))))
        go_wp2
        go_roundw
        case rel => exact ⟨j + 1, _, _, by omega, by go_num, hs1, K, Q, below_drewN hB _⟩
        case measure => simp [intOf]; omega
      · go_wp2_with fail
        refine (fail_any C n).mono ?_
        rintro r w4 ⟨rfl, K, hg⟩
        replace hB := hB.grown hg hB.size (fun j e => by cases e; exact Lc)
        replace O := O.kept hg (by simp; omega)
        clear hg C
        go_wp2_with fail
        refine (rfail_any O n).mono ?_
        rintro r w5 ⟨rfl, Q, hg⟩
        replace hB := hB.grown hg hB.size (fun j e => by cases e; exact Lo)
        replace K := K.kept hg (by simp; omega)
        clear hg O
        have hs1 : i ≤ t.length := hi
        generalize failE e n = e2 at *
        obtain ⟨q0, q1, q2, q3, q4⟩ := Q.cells
        go_wp2_with fail
        go_quiet (first
          | (go_at_call 50; exact quiet_left (at_any (w := w5.drewN _) (Obj?.drewN K _)))
          | (go_at_call 46; exact quiet_more (left_any (w := w5.drewN _) (Obj?.drewN K _) hs1 ht'))
          | (go_at_call 58; exact quiet_more (rleft_any (w := w5.drewN _) (Obj?.drewN Q _) hs1 ht))
          | (go_at_call 48; exact quiet_more (rest_any (w := w5.drewN _) (Obj?.drewN K _) hs1 ht'))
          | (go_at_call 59; exact quiet_more (rrest_any (w := w5.drewN _) (Obj?.drewN Q _) hs1 ht))
          | (go_at_call 45; exact quiet_left (err_any (w := w5.drewN _) (Obj?.drewN K _))))
        go_wp2
        go_roundw
        case rel => exact ⟨j + 1, _, _, by omega, by go_num, hs1, K, Q, below_drewN hB _⟩
        case measure => simp [intOf]; omega
    · go_wp2
      go_ret
      exact ⟨rfl, hB⟩
end Go.Proofs.Ytcfeombnobgplaa
