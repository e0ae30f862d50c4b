/- snmsg: Read, all ways together; Codes. polyglotlaw22.lives; MaxLen at a row's first world. -/
import Derived.Test.YtbacnaplpfmpnaaDoorMsW
import Derived.Shelf.Vars
namespace Go.Proofs.YtbacnaplpfmpnaaDoor
open Go.RowKit
set_option linter.unusedVariables false
set_option linter.unusedSimpArgs false

theorem snTail_err (k h l : Int) (he : (snTail k h l).2.2.2 ≠ 0) : snTail k h l = (0, 0, 0, (snTail k h l).2.2.2) := by
  unfold snTail at *
  split
  · rfl
  · split
    · rfl
    · rename_i h1 h2
      rw [if_neg h1, if_neg h2] at he
      exact (he rfl).elim
theorem snR_err (t : List UInt8) (he : (snR t).2.2.2 ≠ 0) : snR t = (0, 0, 0, (snR t).2.2.2) := by
  unfold snR at *
  split
  · rfl
  rename_i h1
  rw [if_neg h1] at he
  split
  · rename_i h2
    rw [if_pos h2] at he
    split
    · rfl
    · rename_i h3
      rw [if_neg h3] at he
      exact snTail_err _ _ _ he
  · rename_i h2
    rw [if_neg h2] at he
    split
    · rfl
    · rename_i h3
      rw [if_neg h3] at he
      exact snTail_err _ _ _ he
theorem known_kindM {k : Int} (h : knownK k = true) (h2 : k ≠ 254) : kindM k = true := by
  rw [← msgB_kindM]
  unfold msgB
  rw [h]; simpa using h2
theorem kindM_254 {k : Int} (h : kindM k = true) : k ≠ 254 := by
  have h1 := (msgB_kindM k).trans h
  unfold msgB at h1
  simp only [Bool.and_eq_true, decide_eq_true_eq] at h1
  exact h1.2
theorem readP_i (p : Pt) (t : List UInt8) (s : Rd) (hi : s.i ≤ t.length) : (readP p t s).i ≤ t.length := by
  have h1 := fun n => takeI_le (t := t) (i := s.i) (e := s.e) (n := n) hi
  cases p
  case will =>
    simp only [readP]
    split
    · exact hi
    · have h2 : (rdFlags t s).i ≤ t.length := by unfold rdFlags; split <;> exact h1 1
      unfold rdName rdFail
      simp only
      split <;> split <;> first | exact Nat.le_refl _ | exact h2
  case topic =>
    simp only [readP]
    split
    · unfold rdName; simp only; split
      · exact Nat.le_refl _
      · exact hi
    · exact h1 2
  case protocol => simp only [readP]; split <;> exact h1 1
  case duration => simp only [readP]; split <;> first | exact hi | exact h1 2
  case flags => simp only [readP]; unfold rdFlags; split <;> exact h1 1
  case name => simp only [readP]; unfold rdName; simp only; split <;> first | exact Nat.le_refl _ | exact hi
  case data => simp only [readP]; split <;> first | exact Nat.le_refl _ | exact hi
  case gateway => exact h1 1
  case radius => exact h1 1
  case code => exact h1 1
  case time => exact h1 2
  case id => exact h1 2
  case msg => exact h1 2
theorem readAll_i (k : Int) (t : List UInt8) (s : Rd) (hi : s.i ≤ t.length) : (readAll k t s).i ≤ t.length := by
  unfold readAll
  generalize layoutF k = ps
  induction ps generalizing s with
  | nil => exact hi
  | cons p r ih => exact ih (readP p t s) (readP_i p t s hi)
/-- What Read answers of a message that is there whole. -/
theorem readM_go {t : List UInt8} {k : Int} {h l : Nat} (hs : snR t = (k, (h : Int), (l : Int), 0)) (hk : k ≠ 254) (hl : l ≤ t.length) :
    readM t = if readE (readAll k (bodyL t h l) (rd0 k)) (bodyL t h l).length = 0 then ((readAll k (bodyL t h l) (rd0 k)).m, (l : Int), 0) else (ms0, 0, readE (readAll k (bodyL t h l) (rd0 k)) (bodyL t h l).length) := by
  unfold readM
  rw [hs]
  simp only
  rw [if_neg (by simp), if_neg hk, if_neg (by omega)]
  simp only [Int.toNat_natCast]
theorem msread_any (t : List UInt8) (ht : (t.length : Int) ≤ 4611686018427380000) : ReadIs t (readM t).1 (readM t).2.1 (readM t).2.2 := by
  rcases snR_cases t with he | ⟨k, h, l, hs, hkn, hhl, hl65, hht, -⟩
  · have e1 := snR_err t he
    have e2 : readM t = (ms0, 0, (snR t).2.2.2) := by unfold readM; rw [if_pos he]
    rw [e2]
    exact msread_err t ht _ e1 he
  by_cases hk : k = 254
  · subst hk
    have e2 : readM t = (ms0, 0, 8) := by unfold readM; rw [hs]; rfl
    rw [e2]
    exact msread_enc t ht h l hs
  by_cases hl : t.length < l
  · have e2 : readM t = (ms0, 0, 3) := by unfold readM; rw [hs]; simp only; rw [if_neg (by simp), if_neg hk, if_pos (by omega)]
    rw [e2]
    exact msread_short t ht k h l hs hk hl
  have hl' : l ≤ t.length := by omega
  have hkm := known_kindM hkn hk
  rw [readM_go hs hk hl']
  have hxi := readAll_i k (bodyL t h l) (rd0 k) (Nat.zero_le _)
  obtain ⟨X, hX⟩ : ∃ X, X = readAll k (bodyL t h l) (rd0 k) := ⟨_, rfl⟩
  rw [← hX] at hxi ⊢
  unfold readE
  by_cases h0 : X.e = 0
  · rw [if_pos h0]
    by_cases h1 : X.i < (bodyL t h l).length
    · rw [if_pos h1, if_neg (by decide)]
      exact msread_left t ht k h l hs hkm hhl hl65 hl' X hX h0 h1
    · rw [if_neg h1]
      have h2 : X.i = (bodyL t h l).length := by omega
      by_cases h3 : checkM X.m = 0
      · rw [if_pos h3]
        exact msread_ok t ht k h l hs hkm hhl hl65 hl' X hX h0 h2 h3
      · rw [if_neg h3]
        exact msread_chk t ht k h l hs hkm hhl hl65 hl' X hX h0 h2 h3
  · rw [if_neg h0]
    by_cases h3 : X.e = 3
    · rw [if_pos h3, if_neg (by decide)]
      exact msread_bad3 t ht k h l hs hkm hhl hl65 hl' X hX h3
    · rw [if_neg h3, if_neg h0]
      exact msread_bade t ht k h l hs hkm hhl hl65 hl' X hX h0 h3

/-- All types of messages below n. -/
def kindsBelow (n : Nat) : List Int := ((List.range n).map fun (k : Nat) => (k : Int)).filter kindM
theorem kindsBelow_succ (n : Nat) : kindsBelow (n + 1) = if kindM n = true then kindsBelow n ++ [(n : Int)] else kindsBelow n := by
  unfold kindsBelow
  rw [List.range_succ, List.map_append, List.filter_append]
  by_cases h : kindM n = true
  · rw [if_pos h]; simp [h]
  · rw [if_neg h]; simp [h]
def allKinds : List Int := [0, 1, 2, 4, 5, 6, 7, 8, 9, 10, 11, 12, 13, 14, 15, 16, 18, 19, 20, 21, 22, 23, 24, 26, 27, 28, 29]
theorem kindsBelow_all : kindsBelow 254 = allKinds := by decide +kernel
theorem kindsBelow_len (n : Nat) : (kindsBelow n).length ≤ n := by
  unfold kindsBelow
  refine Nat.le_trans (List.length_filter_le _ _) ?_
  simp
theorem infoInt : (Tryd.prog.info? 3).map (fun i => (i.zero, i.size, i.bytes)) = some (some (.int .i64 0), 1, 8) := by kernel_rfl
set_option maxRecDepth 100000 in
set_option maxHeartbeats 1600000 in
theorem codes_any (w : World) : Calls Tryd.prog 19 #[] w fun r w' => ∃ v, r = .returned v ∧ w'.ownsRow w.heap.size 3 1 v allKinds.length (allKinds.map (Value.int .i64)) ∧ Below w.heap.size w w' := by
  obtain ⟨i0, hi, hz0, hz1, hz2⟩ := info_parts infoInt
  go_enter Tryd.func19, Tryd.ntmps19
  go_wp2
  go_loopw [1, 3] (fun v i wr => ∃ n : Nat, n ≤ 254 ∧ i = .int .i64 n ∧ wr.ownsRow w.heap.size 3 1 v (kindsBelow n).length ((kindsBelow n).map (Value.int .i64)) ∧ Below w.heap.size w wr) (fun _ i _ => (254 - intOf i).toNat)
  case atStart => exact ⟨0, by omega, rfl, World.ownsRow_nil _ _ _ _, Below.refl _ _⟩
  case round =>
    obtain ⟨n, hn, rfl, hown, hB⟩ := hrel
    obtain ⟨L, hL⟩ : ∃ L, L = kindsBelow n := ⟨_, rfl⟩
    have hlen : L.length ≤ n := by rw [hL]; exact kindsBelow_len n
    rw [← hL] at hown
    by_cases hlt : n < 254
    · have d1 : decide ((n : Int) < 254) = true := by simp; omega
      have Hs := Lib.hid (And.intro (kindsBelow_succ n) hL)
      clear hL
      cases hk : kindM n with
      | true =>
        go_wp2_with fail
        refine (message_any n _).mono ?_
        rintro r w1 ⟨rfl, rfl⟩
        rw [hk]
        have HK := Lib.hid hk
        clear hk
        go_wp2_with (at_builtin; refine wpList_append_own _ rfl _ _ 43 rfl w.heap.size 3 i0 (.int .i64 0) 1 8 Tryd.underlying43 hi hz0 hz1 hz2 rfl (by decide) _ _ _ rfl (hown.alloc _) ⟨wr.heap.size, 0, none⟩ 1 1 [.int .i64 n] rfl rfl (cell_one_new _ _ _) (by simp [Value.oneCell']) (by unfold maxLen; omega) (by omega) (by have := hB.size; simp; omega) ?_; intro v' w1 hown1 hgrow _)
        have hB2 : Below w.heap.size w w1 := below_append hB hown hgrow
        go_roundw
        case rel => exact ⟨n + 1, by omega, by go_num, by rw [Hs.out.1, if_pos HK.out, ← Hs.out.2]; simpa using hown1, hB2⟩
        case measure => simp [intOf]; omega
      | false =>
        go_wp2_with fail
        refine (message_any n _).mono ?_
        rintro r w1 ⟨rfl, rfl⟩
        rw [hk]
        have HK := Lib.hid hk
        clear hk
        go_wp2
        go_roundw
        case rel => exact ⟨n + 1, by omega, by go_num, by rw [Hs.out.1, if_neg (by simp [HK.out]), ← Hs.out.2]; exact hown, hB⟩
        case measure => simp [intOf]; omega
    · obtain rfl : n = 254 := by omega
      rw [kindsBelow_all] at hL
      subst hL
      have HO := Lib.hid (And.intro hown hB)
      clear hown hB
      go_wp2
      go_ret
      exact ⟨_, rfl, HO.out.1, HO.out.2⟩
end Go.Proofs.YtbacnaplpfmpnaaDoor
namespace Go.Proofs.YtbacnaplpfmpnaaDoor
open Go.RowKit
set_option linter.unusedVariables false
set_option linter.unusedSimpArgs false
attribute [local go_sem ↓] load_Msg store_Msg

theorem mx_of_shaped {w : World} (h : w.ShapedOpen Tryd.prog) : Mx w := by
  obtain ⟨m, hm⟩ := cell_of_shapedOpen_int (g := 0) (t := 3) (k := .i64) (zero := #[.int .i64 0]) h (of_decide_eq_true (by kernel_rfl)) (by kernel_rfl) rfl (by kernel_rfl) (by kernel_rfl) (by kernel_rfl)
  refine ⟨?_, m, hm⟩
  rcases Nat.eq_zero_or_pos w.heap.size with h0 | h0
  · simp [World.cell?, Array.size_eq_zero_iff.1 h0] at hm
  · exact h0
def regM : Ms := ⟨10, fl0, 0, 0, 0, false, 1, 2, 0, [97, 98], []⟩
theorem regM_bytes : bytesM regM = ([8, 10, 0, 1, 0, 2, 97, 98], 0) := by decide +kernel
set_option maxRecDepth 100000 in
theorem register_any (w : World) : Calls Tryd.prog 29 #[] w fun r w' => r = .returned (.agg regM.cs) ∧ Below w.heap.size w w' := by
  have hst := rowStore_run (P := Tryd.prog) (w.alloc (.cells #[.int .i64 0, .bool false, .int .i64 0, .bool false, .bool false, .bool false, .int .i64 0, .int .i64 0, .int .i64 0, .int .i64 0, .bool false, .int .i64 0, .int .i64 0, .int .i64 0, .string ⟨#[]⟩, .string ⟨#[]⟩] 25 (0, 0))) w.heap.size 25 25 _ #[.int .i64 10, .bool false, .int .i64 0, .bool false, .bool false, .bool false, .int .i64 0, .int .i64 0, .int .i64 0, .int .i64 0, .bool false, .int .i64 1, .int .i64 2, .int .i64 0, .string ⟨#[97, 98]⟩, .string ⟨#[]⟩] (Obj?.new _ _ _) infoMs rfl (by simp [Value.oneCell'])
  rw [World.setRow_alloc_new] at hst
  go_enter Tryd.func29, Tryd.ntmps29
  go_wp2
  (try simp only [Exit.inBlock, Exit.then])
  refine bodyPost_ret (results_row1 rfl _ _ _ _ _ _ rfl (Obj?.new _ _ _) Tryd.underlying25 rfl infoMs) rfl ?_
  exact ⟨rfl, below_al (Below.refl _ _) _⟩
set_option maxRecDepth 100000 in
theorem lives22 (w : World) (hm : Mx w) : Calls Tryd.prog 9 #[] w fun e w' => e = .returned (.bool true) ∧ Below w.heap.size w w' := by
  have H := Lib.hid (fun w hm => msbytes_any regM (by decide) (by decide) w hm)
  rw [regM_bytes] at H
  have HR := Lib.hid register_any
  unfold Ms.cs regM fl0 at H HR
  go_enter Tryd.func9, Tryd.ntmps9
  go_wp2_with fail
  refine (HR.out _).mono ?_
  rintro r w1 ⟨rfl, hb⟩
  go_wp2_with fail
  refine (H.out _ (hm.next hb)).mono ?_
  rintro r w2 ⟨rfl, hb2⟩
  go_wp2
  go_ret
  exact ⟨rfl, hb.trans (hb2.mono hb.size)⟩
end Go.Proofs.YtbacnaplpfmpnaaDoor
