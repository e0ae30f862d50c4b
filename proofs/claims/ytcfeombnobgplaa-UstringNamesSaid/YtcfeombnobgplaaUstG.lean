/- The reference of chapter 3: Count, Text, Binary, ReadBinary, Read; equal lists of runes. -/
import Derived.Test.YtcfeombnobgplaaUstF
import Derived.Test.YtcfeombnobgplaaUstR
namespace Go.Proofs.Ytcfeombnobgplaa
open Go.RowKit
set_option linter.unusedVariables false

def textF (l : List UInt8) : List UInt8 × Int := if vld l then (frm l, 0) else ([], 6)
def binF (l : List UInt8) : List UInt8 × Int := if l.length ≤ 65535 then (frm l, 0) else ([], 2)
theorem text_any (l : List UInt8) (hl : (l.length : Int) ≤ 9223372036854775807) (w : World) :
    Calls Try.prog 60 #[.string ⟨l.toArray⟩] w fun e w' => e = .returned (.tuple #[.string ⟨(textF l).1.toArray⟩, .int .i64 (textF l).2]) ∧ Below w.heap.size w w' := by
  unfold textF
  cases h : vld l with
  | true => exact text_yes l h w
  | false => exact text_no l hl h w
theorem binary_any (l : List UInt8) (w : World) :
    Calls Try.prog 62 #[.string ⟨l.toArray⟩] w fun e w' => e = .returned (.tuple #[.string ⟨(binF l).1.toArray⟩, .int .i64 (binF l).2]) ∧ Below w.heap.size w w' := by
  unfold binF
  by_cases h : l.length ≤ 65535
  · rw [if_pos h]; exact binary_yes l h w
  · rw [if_neg h]
    exact (binary_no l h w).mono fun _ _ ⟨a, b⟩ => ⟨a, b ▸ Below.refl _ _⟩

set_option maxHeartbeats 800000 in
theorem rcount_any (t : List UInt8) (ht : t.length ≤ 100000) (w : World) :
    Calls Try.prog 72 #[.string ⟨t.toArray⟩] w fun e w' => e = .returned (.int .i64 (cnt t)) ∧ Below w.heap.size w w' := by
  cases hv : vld t with
  | false =>
    have HC := Lib.hid (show cnt t = 0 by unfold cnt; rw [hv]; rfl)
    have HV := Lib.hid hv
    clear hv
    go_enter Try.func72, Try.ntmps72
    go_wp2_with fail
    refine (rvalid_any t (by omega) _).mono ?_
    rintro e w1 ⟨rfl, rfl⟩
    rw [HV.out]
    go_wp2
    go_ret
    exact ⟨by rw [HC.out]; rfl, Below.refl _ _⟩
  | true =>
    have HC := Lib.hid (show cnt t = (rn 0 t).length by unfold cnt; rw [hv]; rfl)
    have HV := Lib.hid hv
    clear hv
    go_enter Try.func72, Try.ntmps72
    go_wp2_with fail
    refine (rvalid_any t (by omega) _).mono ?_
    rintro e w1 ⟨rfl, rfl⟩
    rw [HV.out]
    go_wp2_with fail
    refine (rrunes_any t ht _).mono ?_
    rintro e w1 ⟨v, rfl, hown, hB⟩
    obtain ⟨a, cap, rfl⟩ := owns_shape (by decide) hown
    clear hown
    go_wp2
    go_ret
    exact ⟨by rw [HC.out]; rfl, hB⟩
set_option maxHeartbeats 800000 in
theorem rtext_any (l : List UInt8) (hl : l.length ≤ 100000) (w : World) :
    Calls Try.prog 66 #[.string ⟨l.toArray⟩] w fun e w' => e = .returned (.tuple #[.string ⟨(textF l).1.toArray⟩, .int .i64 (textF l).2]) ∧ Below w.heap.size w w' := by
  have h2 := length_putL l.length 2
  have hap : (ByteArray.mk (putL l.length 2).toArray) ++ ByteArray.mk l.toArray = ByteArray.mk (frm l).toArray := ByteArray.mk_append_mk _ _
  have hsz : (putL l.length 2).length ≤ 2 := by rw [h2]; omega
  clear h2
  cases hv : vld l with
  | false =>
    rw [show textF l = ([], 6) by unfold textF; rw [hv]; rfl]
    have HV := Lib.hid hv
    clear hv hap
    go_enter Try.func66, Try.ntmps66
    go_wp2_with fail
    refine (rvalid_any l (by omega) _).mono ?_
    rintro e w1 ⟨rfl, rfl⟩
    rw [HV.out]
    go_wp2
    go_ret2
    exact ⟨rfl, Below.refl _ _⟩
  | true =>
    rw [show textF l = (frm l, 0) by unfold textF; rw [hv]; rfl]
    have HV := Lib.hid hv
    clear hv
    go_enter Try.func66, Try.ntmps66
    go_wp2_with fail
    refine (rvalid_any l (by omega) _).mono ?_
    rintro e w1 ⟨rfl, rfl⟩
    rw [HV.out]
    go_wp2_with fail
    refine (rput_any _ _ _).mono ?_
    rintro e w1 ⟨rfl, hb⟩
    go_wp2
    go_ret2
    exact ⟨rfl, hb⟩
set_option maxHeartbeats 800000 in
theorem rbinary_any (l : List UInt8) (hl : l.length ≤ 100000) (w : World) :
    Calls Try.prog 67 #[.string ⟨l.toArray⟩] w fun e w' => e = .returned (.tuple #[.string ⟨(binF l).1.toArray⟩, .int .i64 (binF l).2]) ∧ Below w.heap.size w w' := by
  have h2 := length_putL l.length 2
  have hap : (ByteArray.mk (putL l.length 2).toArray) ++ ByteArray.mk l.toArray = ByteArray.mk (frm l).toArray := ByteArray.mk_append_mk _ _
  have hsz : (putL l.length 2).length ≤ 2 := by rw [h2]; omega
  clear h2
  by_cases h : l.length ≤ 65535
  · rw [show binF l = (frm l, 0) by unfold binF; rw [if_pos h]]
    go_enter Try.func67, Try.ntmps67
    go_wp2_with fail
    refine (rput_any _ _ _).mono ?_
    rintro e w1 ⟨rfl, hb⟩
    go_wp2
    go_ret2
    exact ⟨rfl, hb⟩
  · rw [show binF l = ([], 2) by unfold binF; rw [if_neg h]]
    clear hap
    go_enter Try.func67, Try.ntmps67
    go_wp2
    go_ret2
    exact ⟨rfl, Below.refl _ _⟩

set_option maxRecDepth 100000 in
set_option maxHeartbeats 800000 in
theorem rrdB_any (t : List UInt8) (ht : (t.length : Int) ≤ 4611686018427380000) (w : World) :
    Calls Try.prog 69 #[.string ⟨t.toArray⟩] w fun e w' => e = .returned (.tuple #[.string ⟨(rdB t).1.toArray⟩, .int .i64 (rdB t).2.1, .int .i64 (rdB t).2.2]) ∧ w = w' := by
  by_cases h1 : t.length < 2
  · rw [show rdB t = ([], 0, 3) by unfold rdB; rw [if_pos h1]]
    go_enter Try.func69, Try.ntmps69
    go_wp2
    go_ret3
    exact ⟨rfl, rfl⟩
  · have hx : (ByteArray.mk t.toArray).extract 0 2 = ByteArray.mk (t.take 2).toArray := by rw [ByteArray.extract_mk]; simp
    have hr := getB_two (t.take 2) (by simp; omega)
    have hg : getL (t.take 2) = getB (t.take 2) := by unfold getL; rw [show (t.take 2).length - 8 = 0 by simp; omega, List.drop_zero]
    have hR : rdB t = if (t.length : Int) - 2 < getB (t.take 2) then ([], 0, 3) else ((t.drop 2).take (getB (t.take 2)).toNat, 2 + (getB (t.take 2)).toNat, 0) := by unfold rdB; rw [if_neg h1]
    obtain ⟨n, hn⟩ : ∃ n : Nat, getB (t.take 2) = (n : Int) := ⟨(getB (t.take 2)).toNat, by omega⟩
    rw [hn] at hr hg hR
    rw [Int.toNat_natCast] at hR
    have HG := Lib.hid (And.intro hg (And.intro hn hR))
    have hl2 : ((t.take 2).length : Int) ≤ 4611686018427387904 := by simp; omega
    clear hg hn hR
    by_cases h2 : (t.length : Int) - 2 < (n : Int)
    · rw [show rdB t = ([], 0, 3) by rw [HG.out.2.2, if_pos h2]]
      go_enter Try.func69, Try.ntmps69
      go_wp2_with fail
      refine (rget_any (t.take 2) hl2 _).mono ?_
      rintro e w1 ⟨rfl, rfl⟩
      rw [HG.out.1]
      clear hx
      go_wp2
      go_ret3
      exact ⟨rfl, rfl⟩
    · rw [show rdB t = ((t.drop 2).take n, 2 + n, 0) by rw [HG.out.2.2, if_neg h2]]
      go_enter Try.func69, Try.ntmps69
      go_wp2_with fail
      refine (rget_any (t.take 2) hl2 _).mono ?_
      rintro e w1 ⟨rfl, rfl⟩
      rw [HG.out.1]
      clear hx
      go_wp2
      go_ret3
      refine ⟨?_, rfl⟩
      have hx2 : (ByteArray.mk t.toArray).extract 2 (2 + n) = ByteArray.mk ((t.drop 2).take n).toArray := by rw [ByteArray.extract_mk, show 2 + n - 2 = n by omega]
      simp [hx2]
set_option maxRecDepth 100000 in
set_option maxHeartbeats 800000 in
theorem rrdT_any (t : List UInt8) (ht : (t.length : Int) ≤ 4611686018427380000) (w : World) :
    Calls Try.prog 68 #[.string ⟨t.toArray⟩] w fun e w' => e = .returned (.tuple #[.string ⟨(rdT t).1.toArray⟩, .int .i64 (rdT t).2.1, .int .i64 (rdT t).2.2]) ∧ w = w' := by
  have hlen := (rdB_len t).1
  have hT : rdT t = if (rdB t).2.2 = 0 ∧ vld (rdB t).1 = false then ([], 0, 6) else rdB t := rfl
  have herr := rdB_err t
  obtain ⟨X, hX⟩ : ∃ X, X = rdB t := ⟨_, rfl⟩
  rw [← hX] at hlen hT herr
  obtain ⟨x1, x2, x3⟩ := X
  simp only at hlen hT herr
  rw [hT]
  have HX := Lib.hid (And.intro hX hT)
  clear hX hT
  by_cases h0 : x3 = 0
  · subst h0
    clear herr
    cases hv : vld x1 with
    | true =>
      rw [if_neg (by simp)]
      have HV := Lib.hid hv
      clear hv
      go_enter Try.func68, Try.ntmps68
      go_wp2_with fail
      refine (rrdB_any t ht _).mono ?_
      rintro e w1 ⟨rfl, rfl⟩
      rw [← HX.out.1]
      go_wp2_with fail
      refine (rvalid_any x1 (by omega) _).mono ?_
      rintro e w2 ⟨rfl, rfl⟩
      rw [HV.out]
      go_wp2
      go_ret3
      exact ⟨rfl, rfl⟩
    | false =>
      rw [if_pos ⟨rfl, rfl⟩]
      have HV := Lib.hid hv
      clear hv
      go_enter Try.func68, Try.ntmps68
      go_wp2_with fail
      refine (rrdB_any t ht _).mono ?_
      rintro e w1 ⟨rfl, rfl⟩
      rw [← HX.out.1]
      go_wp2_with fail
      refine (rvalid_any x1 (by omega) _).mono ?_
      rintro e w2 ⟨rfl, rfl⟩
      rw [HV.out]
      go_wp2
      go_ret3
      exact ⟨rfl, rfl⟩
  · rw [if_neg (fun h => h0 h.1)]
    obtain ⟨q1, rfl, rfl⟩ : x3 = 3 ∧ x1 = [] ∧ x2 = 0 := by
      rcases herr with h | h
      · exact absurd h h0
      · exact h
    subst q1
    clear h0
    go_enter Try.func68, Try.ntmps68
    go_wp2_with fail
    refine (rrdB_any t ht _).mono ?_
    rintro e w1 ⟨rfl, rfl⟩
    rw [← HX.out.1]
    go_wp2
    go_ret3
    exact ⟨rfl, rfl⟩

theorem rcells_get : ∀ (l : List (Nat × Nat)) (k : Nat) (x : Nat × Nat), l[k]? = some x → (rcells l)[k * 2]? = some (.int .i64 (x.1 : Int)) ∧ (rcells l)[k * 2 + 1]? = some (.int .i32 (x.2 : Int))
  | [], k, x, h => by simp at h
  | y :: l, 0, x, h => by simp at h; subst h; exact ⟨rfl, rfl⟩
  | y :: l, k + 1, x, h => by
    simp only [List.getElem?_cons_succ] at h
    have := rcells_get l k x h
    have e1 : (k + 1) * 2 = k * 2 + 1 + 1 := by omega
    have e2 : rcells (y :: l) = .int .i64 (y.1 : Int) :: .int .i32 (y.2 : Int) :: rcells l := rfl
    rw [e1, e2]
    simp only [List.getElem?_cons_succ]
    exact this
/-- The cells of a slice of runes. -/
theorem rune_get {w : World} {base g cap : Nat} {l : List (Nat × Nat)} (h : w.ownsRow base 48 2 (.slice (some ⟨g, 0, none⟩) l.length cap) l.length (rcells l)) (k : Nat) (x : Nat × Nat) (hk : l[k]? = some x) :
    w.cell? ⟨g, k * 2, none⟩ = some (.int .i64 (x.1 : Int)) ∧ w.cell? ⟨g, k * 2 + 1, none⟩ = some (.int .i32 (x.2 : Int)) := by
  obtain ⟨h1, h2⟩ := rcells_get l k x hk
  have hlt : k < l.length := by
    rcases Nat.lt_or_ge k l.length with h | h
    · exact h
    · rw [List.getElem?_eq_none h] at hk; cases hk
  rw [h.cellAt (k * 2) (by omega), h.cellAt (k * 2 + 1) (by omega)]
  exact ⟨h1, h2⟩

/-- The runes of a slice, cell by cell. -/
def RuneAt (w : World) (a : Option Addr) (R : List (Nat × Nat)) : Prop := R = [] ∨ ∃ g, a = some ⟨g, 0, none⟩ ∧ ∀ (k : Nat) (x : Nat × Nat), R[k]? = some x → w.cell? ⟨g, k * 2, none⟩ = some (.int .i64 (x.1 : Int)) ∧ w.cell? ⟨g, k * 2 + 1, none⟩ = some (.int .i32 (x.2 : Int))
theorem RuneAt.of_own {w : World} {base cap : Nat} {a : Option Addr} {R : List (Nat × Nat)} (h : w.ownsRow base 48 2 (.slice a R.length cap) R.length (rcells R)) : RuneAt w a R := by
  rcases Nat.eq_zero_or_pos R.length with h0 | h0
  · exact .inl (List.length_eq_zero_iff.1 h0)
  · right
    obtain ⟨n, hn⟩ : ∃ n, R.length = n + 1 := ⟨R.length - 1, by omega⟩
    have h2 := h
    rw [hn] at h2
    obtain ⟨g, cap', hv⟩ := owns_succ h2
    rw [← hn] at hv
    cases hv
    exact ⟨g, rfl, fun k x hk => rune_get h k x hk⟩
theorem lt_of_cell {w : World} {g o : Nat} {v : Value} (h : w.cell? ⟨g, o, none⟩ = some v) : g < w.heap.size := by
  rcases Nat.lt_or_ge g w.heap.size with h6 | h6
  · exact h6
  · simp [World.cell?, Array.getElem?_eq_none h6] at h
theorem RuneAt.below {w w' : World} {a : Option Addr} {R : List (Nat × Nat)} (h : RuneAt w a R) (hb : Below w.heap.size w w') : RuneAt w' a R := by
  rcases h with h | ⟨g, h1, h2⟩
  · exact .inl h
  · refine .inr ⟨g, h1, fun k x hk => ?_⟩
    obtain ⟨c1, c2⟩ := h2 k x hk
    exact ⟨(hb.cell (p := ⟨g, k * 2, none⟩) (lt_of_cell c1)).trans c1, (hb.cell (p := ⟨g, k * 2 + 1, none⟩) (lt_of_cell c1)).trans c2⟩
set_option maxRecDepth 100000 in
set_option maxHeartbeats 1600000 in
theorem sameRune_yes (a b : Option Addr) (ca cb : Nat) (R : List (Nat × Nat)) (hR : R.length ≤ 100000) (w : World) (hA : RuneAt w a R) (hB : RuneAt w b R) :
    Calls Try.prog 65 #[.slice a R.length ca, .slice b R.length cb] w fun e w' => e = .returned (.bool true) ∧ ∃ n, w' = w.drewN n := by
  rcases Nat.eq_zero_or_pos R.length with h0 | h0
  · have hz : (R.length : Int) ≤ 0 := by omega
    go_enter Try.func65, Try.ntmps65
    go_wp2
    go_loopw [5] (fun i wr => i = .int .i64 0 ∧ wr = w) (fun _ _ => 0)
    case atStart => exact ⟨rfl, rfl⟩
    case round =>
      obtain ⟨rfl, rfl⟩ := hrel
      go_wp2
      go_ret
      exact ⟨rfl, 0, rfl⟩
  · have hne : R ≠ [] := fun e => by rw [e] at h0; simp at h0
    obtain ⟨g1, rfl, c1⟩ := hA.resolve_left hne
    obtain ⟨g2, rfl, c2⟩ := hB.resolve_left hne
    have C1 := Lib.hid c1
    have C2 := Lib.hid c2
    clear c1 c2 hne
    go_enter Try.func65, Try.ntmps65
    go_wp2
    go_loopw [5] (fun i wr => ∃ k m : Nat, k ≤ R.length ∧ i = .int .i64 k ∧ wr = w.drewN m) (fun i _ => R.length - (intOf i).toNat)
    case atStart => exact ⟨0, 0, Nat.zero_le _, rfl, rfl⟩
    case round =>
      obtain ⟨k, m, hk, rfl, rfl⟩ := hrel
      by_cases hlt : k < R.length
      · obtain ⟨x1, y1⟩ := C1.out k R[k] (List.getElem?_eq_getElem hlt)
        obtain ⟨x2, y2⟩ := C2.out k R[k] (List.getElem?_eq_getElem hlt)
        obtain ⟨r1, hr1⟩ : ∃ r1, r1 = R[k].1 := ⟨_, rfl⟩
        obtain ⟨r2, hr2⟩ : ∃ r2, r2 = R[k].2 := ⟨_, rfl⟩
        rw [← hr1] at x1 x2
        rw [← hr2] at y1 y2
        have b1 : (0 : Int) ≤ (k : Int) := by omega
        have b2 : (k : Int) < (R.length : Int) := by omega
        clear hr1 hr2
        go_wp2
        go_quiet (fail)
        go_wp2
        go_roundw
        case rel => exact ⟨k + 1, _, by omega, by go_num, rfl⟩
        case measure => simp [intOf]; omega
      · obtain rfl : k = R.length := by omega
        go_wp2
        go_ret
        exact ⟨rfl, _, rfl⟩
end Go.Proofs.Ytcfeombnobgplaa
