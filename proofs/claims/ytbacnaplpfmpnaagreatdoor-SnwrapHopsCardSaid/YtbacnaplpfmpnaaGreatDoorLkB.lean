/- snmsg: Read, all ways together; Codes. polyglotlaw22.lives; MaxLen at a row's first world. snmsg, plain: what is written is read, truncated it is too short, what is read is written the same (P22.1 to P22.3). No program. -/
import Derived.Test.YtbacnaplpfmpnaaGreatDoorMsW
import Derived.Shelf.Vars
namespace Go.Proofs.YtbacnaplpfmpnaaGreatDoor
open Go.RowKit
set_option linter.unusedVariables false
set_option linter.unusedSimpArgs false

theorem snTail_err (k h l : Int) (he : (snTail k h l).2.2.2 ≠ 0) : snTail k h l = (0, 0, 0, (snTail k h l).2.2.2) := by
  unfold snTail at *
  split
  · rfl
  · split
    · rfl
    · rename_i h1 h2
      rw [if_neg h1, if_neg h2] at he
      exact (he rfl).elim
theorem snR_err (t : List UInt8) (he : (snR t).2.2.2 ≠ 0) : snR t = (0, 0, 0, (snR t).2.2.2) := by
  unfold snR at *
  split
  · rfl
  rename_i h1
  rw [if_neg h1] at he
  split
  · rename_i h2
    rw [if_pos h2] at he
    split
    · rfl
    · rename_i h3
      rw [if_neg h3] at he
      exact snTail_err _ _ _ he
  · rename_i h2
    rw [if_neg h2] at he
    split
    · rfl
    · rename_i h3
      rw [if_neg h3] at he
      exact snTail_err _ _ _ he
theorem known_kindM {k : Int} (h : knownK k = true) (h2 : k ≠ 254) : kindM k = true := by
  rw [← msgB_kindM]
  unfold msgB
  rw [h]; simpa using h2
theorem kindM_254 {k : Int} (h : kindM k = true) : k ≠ 254 := by
  have h1 := (msgB_kindM k).trans h
  unfold msgB at h1
  simp only [Bool.and_eq_true, decide_eq_true_eq] at h1
  exact h1.2
theorem readP_i (p : Pt) (t : List UInt8) (s : Rd) (hi : s.i ≤ t.length) : (readP p t s).i ≤ t.length := by
  have h1 := fun n => takeI_le (t := t) (i := s.i) (e := s.e) (n := n) hi
  cases p
  case will =>
    simp only [readP]
    split
    · exact hi
    · have h2 : (rdFlags t s).i ≤ t.length := by unfold rdFlags; split <;> exact h1 1
      unfold rdName rdFail
      simp only
      split <;> split <;> first | exact Nat.le_refl _ | exact h2
  case topic =>
    simp only [readP]
    split
    · unfold rdName; simp only; split
      · exact Nat.le_refl _
      · exact hi
    · exact h1 2
  case protocol => simp only [readP]; split <;> exact h1 1
  case duration => simp only [readP]; split <;> first | exact hi | exact h1 2
  case flags => simp only [readP]; unfold rdFlags; split <;> exact h1 1
  case name => simp only [readP]; unfold rdName; simp only; split <;> first | exact Nat.le_refl _ | exact hi
  case data => simp only [readP]; split <;> first | exact Nat.le_refl _ | exact hi
  case gateway => exact h1 1
  case radius => exact h1 1
  case code => exact h1 1
  case time => exact h1 2
  case id => exact h1 2
  case msg => exact h1 2
theorem readAll_i (k : Int) (t : List UInt8) (s : Rd) (hi : s.i ≤ t.length) : (readAll k t s).i ≤ t.length := by
  unfold readAll
  generalize layoutF k = ps
  induction ps generalizing s with
  | nil => exact hi
  | cons p r ih => exact ih (readP p t s) (readP_i p t s hi)
/-- What Read answers of a message that is there whole. -/
theorem readM_go {t : List UInt8} {k : Int} {h l : Nat} (hs : snR t = (k, (h : Int), (l : Int), 0)) (hk : k ≠ 254) (hl : l ≤ t.length) :
    readM t = if readE (readAll k (bodyL t h l) (rd0 k)) (bodyL t h l).length = 0 then ((readAll k (bodyL t h l) (rd0 k)).m, (l : Int), 0) else (ms0, 0, readE (readAll k (bodyL t h l) (rd0 k)) (bodyL t h l).length) := by
  unfold readM
  rw [hs]
  simp only
  rw [if_neg (by simp), if_neg hk, if_neg (by omega)]
  simp only [Int.toNat_natCast]
theorem msread_any (t : List UInt8) (ht : (t.length : Int) ≤ 4611686018427380000) : ReadIs t (readM t).1 (readM t).2.1 (readM t).2.2 := by
  rcases snR_cases t with he | ⟨k, h, l, hs, hkn, hhl, hl65, hht, -⟩
  · have e1 := snR_err t he
    have e2 : readM t = (ms0, 0, (snR t).2.2.2) := by unfold readM; rw [if_pos he]
    rw [e2]
    exact msread_err t ht _ e1 he
  by_cases hk : k = 254
  · subst hk
    have e2 : readM t = (ms0, 0, 8) := by unfold readM; rw [hs]; rfl
    rw [e2]
    exact msread_enc t ht h l hs
  by_cases hl : t.length < l
  · have e2 : readM t = (ms0, 0, 3) := by unfold readM; rw [hs]; simp only; rw [if_neg (by simp), if_neg hk, if_pos (by omega)]
    rw [e2]
    exact msread_short t ht k h l hs hk hl
  have hl' : l ≤ t.length := by omega
  have hkm := known_kindM hkn hk
  rw [readM_go hs hk hl']
  have hxi := readAll_i k (bodyL t h l) (rd0 k) (Nat.zero_le _)
  obtain ⟨X, hX⟩ : ∃ X, X = readAll k (bodyL t h l) (rd0 k) := ⟨_, rfl⟩
  rw [← hX] at hxi ⊢
  unfold readE
  by_cases h0 : X.e = 0
  · rw [if_pos h0]
    by_cases h1 : X.i < (bodyL t h l).length
    · rw [if_pos h1, if_neg (by decide)]
      exact msread_left t ht k h l hs hkm hhl hl65 hl' X hX h0 h1
    · rw [if_neg h1]
      have h2 : X.i = (bodyL t h l).length := by omega
      by_cases h3 : checkM X.m = 0
      · rw [if_pos h3]
        exact msread_ok t ht k h l hs hkm hhl hl65 hl' X hX h0 h2 h3
      · rw [if_neg h3]
        exact msread_chk t ht k h l hs hkm hhl hl65 hl' X hX h0 h2 h3
  · rw [if_neg h0]
    by_cases h3 : X.e = 3
    · rw [if_pos h3, if_neg (by decide)]
      exact msread_bad3 t ht k h l hs hkm hhl hl65 hl' X hX h3
    · rw [if_neg h3, if_neg h0]
      exact msread_bade t ht k h l hs hkm hhl hl65 hl' X hX h0 h3

/-- All types of messages below n. -/
def kindsBelow (n : Nat) : List Int := ((List.range n).map fun (k : Nat) => (k : Int)).filter kindM
theorem kindsBelow_succ (n : Nat) : kindsBelow (n + 1) = if kindM n = true then kindsBelow n ++ [(n : Int)] else kindsBelow n := by
  unfold kindsBelow
  rw [List.range_succ, List.map_append, List.filter_append]
  by_cases h : kindM n = true
  · rw [if_pos h]; simp [h]
  · rw [if_neg h]; simp [h]
def allKinds : List Int := [0, 1, 2, 4, 5, 6, 7, 8, 9, 10, 11, 12, 13, 14, 15, 16, 18, 19, 20, 21, 22, 23, 24, 26, 27, 28, 29]
theorem kindsBelow_all : kindsBelow 254 = allKinds := by decide +kernel
theorem kindsBelow_len (n : Nat) : (kindsBelow n).length ≤ n := by
  unfold kindsBelow
  refine Nat.le_trans (List.length_filter_le _ _) ?_
  simp
theorem infoInt : (Tryz.prog.info? 3).map (fun i => (i.zero, i.size, i.bytes)) = some (some (.int .i64 0), 1, 8) := by kernel_rfl
set_option maxRecDepth 100000 in
set_option maxHeartbeats 1600000 in
theorem codes_any (w : World) : Calls Tryz.prog 21 #[] w fun r w' => ∃ v, r = .returned v ∧ w'.ownsRow w.heap.size 3 1 v allKinds.length (allKinds.map (Value.int .i64)) ∧ Below w.heap.size w w' := by
  obtain ⟨i0, hi, hz0, hz1, hz2⟩ := info_parts infoInt
  go_enter Tryz.func21, Tryz.ntmps21
  go_wp2
  go_loopw [1, 3] (fun v i wr => ∃ n : Nat, n ≤ 254 ∧ i = .int .i64 n ∧ wr.ownsRow w.heap.size 3 1 v (kindsBelow n).length ((kindsBelow n).map (Value.int .i64)) ∧ Below w.heap.size w wr) (fun _ i _ => (254 - intOf i).toNat)
  case atStart => exact ⟨0, by omega, rfl, World.ownsRow_nil _ _ _ _, Below.refl _ _⟩
  case round =>
    obtain ⟨n, hn, rfl, hown, hB⟩ := hrel
    obtain ⟨L, hL⟩ : ∃ L, L = kindsBelow n := ⟨_, rfl⟩
    have hlen : L.length ≤ n := by rw [hL]; exact kindsBelow_len n
    rw [← hL] at hown
    by_cases hlt : n < 254
    · have d1 : decide ((n : Int) < 254) = true := by simp; omega
      have Hs := Lib.hid (And.intro (kindsBelow_succ n) hL)
      clear hL
      cases hk : kindM n with
      | true =>
        go_wp2_with fail
        refine (message_any n _).mono ?_
        rintro r w1 ⟨rfl, rfl⟩
        rw [hk]
        have HK := Lib.hid hk
        clear hk
        go_wp2_with (at_builtin; refine wpList_append_own _ rfl _ _ 39 rfl w.heap.size 3 i0 (.int .i64 0) 1 8 Tryz.underlying39 hi hz0 hz1 hz2 rfl (by decide) _ _ _ rfl (hown.alloc _) ⟨wr.heap.size, 0, none⟩ 1 1 [.int .i64 n] rfl rfl (cell_one_new _ _ _) (by simp [Value.oneCell']) (by unfold maxLen; omega) (by omega) (by have := hB.size; simp; omega) ?_; intro v' w1 hown1 hgrow _)
        have hB2 : Below w.heap.size w w1 := below_append hB hown hgrow
        go_roundw
        case rel => exact ⟨n + 1, by omega, by go_num, by rw [Hs.out.1, if_pos HK.out, ← Hs.out.2]; simpa using hown1, hB2⟩
        case measure => simp [intOf]; omega
      | false =>
        go_wp2_with fail
        refine (message_any n _).mono ?_
        rintro r w1 ⟨rfl, rfl⟩
        rw [hk]
        have HK := Lib.hid hk
        clear hk
        go_wp2
        go_roundw
        case rel => exact ⟨n + 1, by omega, by go_num, by rw [Hs.out.1, if_neg (by simp [HK.out]), ← Hs.out.2]; exact hown, hB⟩
        case measure => simp [intOf]; omega
    · obtain rfl : n = 254 := by omega
      rw [kindsBelow_all] at hL
      subst hL
      have HO := Lib.hid (And.intro hown hB)
      clear hown hB
      go_wp2
      go_ret
      exact ⟨_, rfl, HO.out.1, HO.out.2⟩
end Go.Proofs.YtbacnaplpfmpnaaGreatDoor
namespace Go.Proofs.YtbacnaplpfmpnaaGreatDoor
open Go.RowKit
set_option linter.unusedVariables false
set_option linter.unusedSimpArgs false
attribute [local go_sem ↓] load_Msg store_Msg

theorem mx_of_shaped {w : World} (h : w.ShapedOpen Tryz.prog) : Mx w := by
  obtain ⟨m, hm⟩ := cell_of_shapedOpen_int (g := 0) (t := 3) (k := .i64) (zero := #[.int .i64 0]) h (of_decide_eq_true (by kernel_rfl)) (by kernel_rfl) rfl (by kernel_rfl) (by kernel_rfl) (by kernel_rfl)
  refine ⟨?_, m, hm⟩
  rcases Nat.eq_zero_or_pos w.heap.size with h0 | h0
  · simp [World.cell?, Array.size_eq_zero_iff.1 h0] at hm
  · exact h0
def regM : Ms := ⟨10, fl0, 0, 0, 0, false, 1, 2, 0, [97, 98], []⟩
theorem regM_bytes : bytesM regM = ([8, 10, 0, 1, 0, 2, 97, 98], 0) := by decide +kernel
set_option maxRecDepth 100000 in
theorem register_any (w : World) : Calls Tryz.prog 42 #[] w fun r w' => r = .returned (.agg regM.cs) ∧ Below w.heap.size w w' := by
  have hst := rowStore_run (P := Tryz.prog) (w.alloc (.cells #[.int .i64 0, .bool false, .int .i64 0, .bool false, .bool false, .bool false, .int .i64 0, .int .i64 0, .int .i64 0, .int .i64 0, .bool false, .int .i64 0, .int .i64 0, .int .i64 0, .string ⟨#[]⟩, .string ⟨#[]⟩] 25 (0, 0))) w.heap.size 25 25 _ #[.int .i64 10, .bool false, .int .i64 0, .bool false, .bool false, .bool false, .int .i64 0, .int .i64 0, .int .i64 0, .int .i64 0, .bool false, .int .i64 1, .int .i64 2, .int .i64 0, .string ⟨#[97, 98]⟩, .string ⟨#[]⟩] (Obj?.new _ _ _) infoMs rfl (by simp [Value.oneCell'])
  rw [World.setRow_alloc_new] at hst
  go_enter Tryz.func42, Tryz.ntmps42
  go_wp2
  (try simp only [Exit.inBlock, Exit.then])
  refine bodyPost_ret (results_row1 rfl _ _ _ _ _ _ rfl (Obj?.new _ _ _) Tryz.underlying25 rfl infoMs) rfl ?_
  exact ⟨rfl, below_al (Below.refl _ _) _⟩
set_option maxRecDepth 100000 in
theorem lives22 (w : World) (hm : Mx w) : Calls Tryz.prog 8 #[] w fun e w' => e = .returned (.bool true) ∧ Below w.heap.size w w' := by
  have H := Lib.hid (fun w hm => msbytes_any regM (by decide) (by decide) w hm)
  rw [regM_bytes] at H
  have HR := Lib.hid register_any
  unfold Ms.cs regM fl0 at H HR
  go_enter Tryz.func8, Tryz.ntmps8
  go_wp2_with fail
  refine (HR.out _).mono ?_
  rintro r w1 ⟨rfl, hb⟩
  go_wp2_with fail
  refine (H.out _ (hm.next hb)).mono ?_
  rintro r w2 ⟨rfl, hb2⟩
  go_wp2
  go_ret
  exact ⟨rfl, hb.trans (hb2.mono hb.size)⟩
end Go.Proofs.YtbacnaplpfmpnaaGreatDoor
namespace Go.Proofs.YtbacnaplpfmpnaaGreatDoor
open Go.RowKit
set_option linter.unusedVariables false
set_option linter.unusedSimpArgs false

theorem bytesM_ok {m : Ms} (h : checkM m = 0) : bytesM m = (snS m.ty (restL m).length ++ restL m, 0) := by unfold bytesM; rw [if_pos h]
theorem bytesM_no {m : Ms} (h : checkM m ≠ 0) : bytesM m = ([], checkM m) := by unfold bytesM; rw [if_neg h]
theorem bytesM_e (m : Ms) : (bytesM m).2 = checkM m := by
  by_cases h : checkM m = 0
  · rw [bytesM_ok h, h]
  · rw [bytesM_no h]
theorem readAll_write {m : Ms} (hg : MsGood m) : readAll m.ty (restL m) (rd0 m.ty) = ⟨m, (restL m).length, 0⟩ := by
  have hr := rng_of hg.fits (may_flok hg.may)
  have h := read_fold m hr (layoutF m.ty) false (Ms.bare m.ty fl0) [] (layout_tail _) (fun h => by cases h)
  rw [List.nil_append, ← restL_cat] at h
  unfold readAll rd0
  rw [show (0 : Nat) = ([] : List UInt8).length from rfl, h, copy_all hg.kind hg.fits hg.may hg.will]
theorem body_app (a b c : List UInt8) : bodyL (a ++ (b ++ c)) a.length (b.length + a.length) = b := by
  unfold bodyL
  rw [List.drop_left, Nat.add_sub_cancel, List.take_left]
theorem readM_bytes {m : Ms} (h : checkM m = 0) (more : List UInt8) : readM ((bytesM m).1 ++ more) = (m, ((bytesM m).1.length : Int), 0) := by
  have hg := (check_iff m).1 h
  obtain ⟨z1, z2, z3, z4⟩ := snB_zero hg.head
  rw [bytesM_ok h]
  simp only
  have hs := snR_snS m.ty (restL m).length z1 z2 z3 (restL m ++ more)
  rw [← List.append_assoc] at hs
  have hl : ((restL m).length : Int) + ((snS m.ty (restL m).length).length : Int) = (((restL m).length + (snS m.ty (restL m).length).length : Nat) : Int) := by push_cast; rfl
  rw [hl] at hs
  rw [readM_go hs (kindM_254 hg.kind) (by simp; omega), List.append_assoc, body_app, readAll_write hg]
  have hE : readE ⟨m, (restL m).length, 0⟩ (restL m).length = 0 := by unfold readE; rw [if_pos rfl, if_neg (Nat.lt_irrefl _), h]
  rw [hE, if_pos rfl, List.length_append, Nat.add_comm]
theorem bytesM_len (m : Ms) : (bytesM m).1.length ≤ 65535 := by
  by_cases h : checkM m = 0
  · have hg := (check_iff m).1 h
    obtain ⟨z1, z2, z3, z4⟩ := snB_zero hg.head
    rw [bytesM_ok h]
    simp only [List.length_append]
    have := snS_len_le m.ty (restL m).length
    omega
  · rw [bytesM_no h]; exact Nat.zero_le _
theorem snR_cut (k n : Int) (hk : knownK k = true) (h0 : 0 ≤ n) (h : n ≤ 65531) (j : Nat) (hj : j < (snS k n).length) : snR ((snS k n).take j) = (0, 0, 0, 3) := by
  rcases Int.lt_or_le 253 n with h1 | h1
  · obtain ⟨a, b, c, e, -, -⟩ := snS_long k n hk h1 h
    rw [e] at hj ⊢
    have e1 : ∀ r : List UInt8, num (1 :: r) 0 1 = 1 := fun r => getB_one 1
    simp at hj
    rcases (by omega : j = 0 ∨ j = 1 ∨ j = 2 ∨ j = 3) with rfl | rfl | rfl | rfl
    · rfl
    all_goals
      simp only [List.take_succ_cons, List.take_zero]
      unfold snR
      rw [e1, if_neg (by simp), if_pos rfl, if_pos (by simp)]
  · obtain ⟨a, c, e, e1, e2⟩ := snS_short k n hk h0 h1
    rw [e] at hj ⊢
    have e3 : num [a] 0 1 = a.toNat := getB_one a
    simp at hj
    rcases (by omega : j = 0 ∨ j = 1) with rfl | rfl
    · rfl
    · simp only [List.take_succ_cons, List.take_zero]
      unfold snR
      rw [e3, if_neg (by simp), if_neg (by omega), if_pos (by simp)]
theorem readM_cut {m : Ms} (h : checkM m = 0) (j : Nat) (hj : j < (bytesM m).1.length) : readM ((bytesM m).1.take j) = (ms0, 0, 3) := by
  have hg := (check_iff m).1 h
  obtain ⟨z1, z2, z3, z4⟩ := snB_zero hg.head
  rw [bytesM_ok h] at hj ⊢
  simp only at hj ⊢
  rw [List.length_append] at hj
  by_cases h1 : j < (snS m.ty (restL m).length).length
  · rw [List.take_append_of_le_length (Nat.le_of_lt h1)]
    have e := snR_cut m.ty (restL m).length z1 z2 z3 j h1
    unfold readM
    rw [e]
    rfl
  · have e : (snS m.ty (restL m).length ++ restL m).take j = snS m.ty (restL m).length ++ (restL m).take (j - (snS m.ty (restL m).length).length) := by
      rw [List.take_append]
      rw [List.take_of_length_le (by omega)]
    rw [e]
    have hs := snR_snS m.ty (restL m).length z1 z2 z3 ((restL m).take (j - (snS m.ty (restL m).length).length))
    unfold readM
    rw [hs]
    simp only
    rw [if_neg (by simp), if_neg (kindM_254 hg.kind), if_pos (by simp; omega)]

/-! What is read is written the same. -/
theorem takeE_zero {t : List UInt8} {i : Nat} {e n : Int} (h : takeE t i e n = 0) : e = 0 ∧ hasB t i n = true := by
  unfold takeE at h
  by_cases hc : e = 0 ∧ hasB t i n = false
  · rw [if_pos hc] at h; cases h
  · rw [if_neg hc] at h
    exact ⟨h, by cases hb : hasB t i n with | true => rfl | false => exact (hc ⟨h, hb⟩).elim⟩
theorem putL_getL (l : List UInt8) (n : Int) (hn : (n = 1 ∧ l.length = 1) ∨ (n = 2 ∧ l.length = 2)) : putL (getL l) n = l := by
  have h1 := putB_getB l (by omega)
  have e : getL l = getB l := by unfold getL; rw [show l.length - 8 = 0 by omega]; rfl
  rw [e]
  rcases hn with ⟨rfl, h⟩ | ⟨rfl, h⟩
  · rw [h] at h1; exact h1
  · rw [h] at h1; exact h1
theorem num_back {t : List UInt8} {i : Nat} {e n : Int} (hn : n = 1 ∨ n = 2) (h : takeE t i e n = 0) : e = 0 ∧ t.drop i = putL (getL (takeS t i e n)) n ++ t.drop (takeI t i e n) := by
  obtain ⟨h1, h2⟩ := takeE_zero h
  refine ⟨h1, ?_⟩
  have hh : 0 ≤ n ∧ n ≤ (t.length : Int) - i := by simpa [hasB] using h2
  unfold takeS takeI
  rw [if_pos ⟨h1, h2⟩, if_pos ⟨h1, h2⟩, putL_getL _ _ (by rcases hn with rfl | rfl <;> simp <;> omega)]
  rw [← List.drop_drop, List.take_append_drop]
theorem flags_back {t : List UInt8} {s : Rd} (h : (rdFlags t s).e = 0) : s.e = 0 ∧ t.drop s.i = putL (flagV (rdFlags t s).m.fl).1 1 ++ t.drop (rdFlags t s).i := by
  unfold rdFlags at h ⊢
  by_cases hc : takeE t s.i s.e 1 = 0
  · rw [if_pos hc] at h ⊢
    simp only at h ⊢
    obtain ⟨h1, h2⟩ := num_back (.inl rfl) hc
    refine ⟨h1, ?_⟩
    have hok : rfOk (rdNum t s 1) = true := by
      unfold rfE at h
      cases hk : rfOk (rdNum t s 1) with
      | true => rfl
      | false => rw [hk] at h; cases h
    rw [rf_flag' _ hok]
    exact h2
  · rw [if_neg hc] at h
    exact (hc h).elim
theorem back_part (p : Pt) (t : List UInt8) (s : Rd) (hi : s.i ≤ t.length) (he : (readP p t s).e = 0) (hw : p = .will → s.m.name = []) :
    s.e = 0 ∧ t.drop s.i = writeP p (readP p t s).m ++ t.drop (readP p t s).i := by
  have nm : ∀ v : Rd, (rdName t v).e = 0 → v.e = 0 ∧ (rdName t v).m.name = t.drop v.i ∧ (rdName t v).i = t.length := by
    intro v h
    have h0 : v.e = 0 := h
    refine ⟨h0, ?_, ?_⟩
    · unfold rdName rdTxt; simp only; rw [if_pos h0]
    · unfold rdName; simp only; rw [if_pos h0]
  have dl : t.drop t.length = [] := List.drop_length
  cases p
  case gateway => exact num_back (.inl rfl) he
  case radius => exact num_back (.inl rfl) he
  case code => exact num_back (.inl rfl) he
  case time => exact num_back (.inr rfl) he
  case id => exact num_back (.inr rfl) he
  case msg => exact num_back (.inr rfl) he
  case name =>
    obtain ⟨h1, h2, h3⟩ := nm s he
    refine ⟨h1, ?_⟩
    show t.drop s.i = (rdName t s).m.name ++ t.drop (rdName t s).i
    rw [h2, h3, dl, List.append_nil]
  case data =>
    have h0 : s.e = 0 := he
    refine ⟨h0, ?_⟩
    simp only [readP, writeP, rdTxt]
    rw [if_pos h0, if_pos h0, dl, List.append_nil]
  case flags => exact flags_back he
  case protocol =>
    simp only [readP] at he ⊢
    by_cases h1 : rdNum t s 1 = 1
    · rw [if_pos h1] at he ⊢
      obtain ⟨a, b⟩ := num_back (.inl rfl) he
      refine ⟨a, ?_⟩
      simp only [writeP]
      have h1' : getL (takeS t s.i s.e 1) = 1 := h1
      rw [h1'] at b
      exact b
    · rw [if_neg h1] at he
      unfold rdFail at he
      simp only at he
      by_cases h2 : takeE t s.i s.e 1 = 0
      · rw [if_pos h2] at he; cases he
      · rw [if_neg h2] at he; exact (h2 he).elim
  case will =>
    simp only [readP] at he ⊢
    by_cases h1 : t.length - s.i = 0
    · rw [if_pos h1] at he ⊢
      refine ⟨he, ?_⟩
      simp only [writeP]
      rw [if_pos (hw rfl)]
      rfl
    · rw [if_neg h1] at he ⊢
      obtain ⟨h2, h3, h4⟩ := nm _ he
      by_cases h5 : t.length - (rdFlags t s).i = 0
      · rw [if_pos h5] at h2
        unfold rdFail at h2
        simp only at h2
        by_cases h6 : (rdFlags t s).e = 0
        · rw [if_pos h6] at h2; cases h2
        · rw [if_neg h6] at h2; exact (h6 h2).elim
      · rw [if_neg h5] at h2 h3 h4 ⊢
        obtain ⟨h6, h7⟩ := flags_back h2
        refine ⟨h6, ?_⟩
        have hne : t.drop (rdFlags t s).i ≠ [] := by
          intro h
          have := congrArg List.length h
          simp at this
          omega
        have hw2 : writeP .will (rdName t (rdFlags t s)).m = putL (flagV (rdFlags t s).m.fl).1 1 ++ t.drop (rdFlags t s).i := by
          simp only [writeP]
          rw [h3, if_neg hne]
          rfl
        rw [hw2, h4, dl, List.append_nil]
        exact h7
  case topic =>
    simp only [readP] at he ⊢
    by_cases h1 : s.m.fl.typ = 0
    · rw [if_pos h1] at he ⊢
      obtain ⟨h2, h3, h4⟩ := nm s he
      refine ⟨h2, ?_⟩
      have hw2 : writeP .topic (rdName t s).m = t.drop s.i := by
        simp only [writeP]
        rw [show (rdName t s).m.fl = s.m.fl from rfl, if_pos h1, h3]
      rw [hw2, h4, dl, List.append_nil]
    · rw [if_neg h1] at he ⊢
      obtain ⟨a, b⟩ := num_back (.inr rfl) he
      refine ⟨a, ?_⟩
      simp only [writeP]
      rw [if_neg h1]
      exact b
  case duration =>
    simp only [readP] at he ⊢
    by_cases h1 : t.length - s.i = 0
    · rw [if_pos h1] at he ⊢
      refine ⟨he, ?_⟩
      simp [writeP]
    · rw [if_neg h1] at he ⊢
      obtain ⟨a, b⟩ := num_back (.inr rfl) he
      refine ⟨a, ?_⟩
      simp only [writeP]
      exact b
def fldW : Pt → List Nat
  | .gateway => [0] | .radius => [1] | .code => [2] | .time => [3] | .id => [4] | .msg => [5] | .name => [6] | .data => [7] | .flags => [8] | .protocol => [] | .will => [6, 8] | .topic => [8, 6, 4] | .duration => [3, 9]
def fldR : Pt → List Nat
  | .gateway => [0] | .radius => [1] | .code => [2] | .time => [3] | .id => [4] | .msg => [5] | .name => [6] | .data => [7] | .flags => [8] | .protocol => [] | .will => [6, 8] | .topic => [6, 4] | .duration => [3, 9]
def indep (p q : Pt) : Bool := (fldW p).all fun x => !(fldR q).contains x
theorem readP_frame (q : Pt) (t : List UInt8) (s : Rd) :
    (0 ∉ fldR q → (readP q t s).m.gw = s.m.gw) ∧ (1 ∉ fldR q → (readP q t s).m.rad = s.m.rad) ∧ (2 ∉ fldR q → (readP q t s).m.code = s.m.code) ∧ (3 ∉ fldR q → (readP q t s).m.time = s.m.time) ∧
    (4 ∉ fldR q → (readP q t s).m.tid = s.m.tid) ∧ (5 ∉ fldR q → (readP q t s).m.mid = s.m.mid) ∧ (6 ∉ fldR q → (readP q t s).m.name = s.m.name) ∧ (7 ∉ fldR q → (readP q t s).m.data = s.m.data) ∧
    (8 ∉ fldR q → (readP q t s).m.fl = s.m.fl) ∧ (9 ∉ fldR q → (readP q t s).m.timed = s.m.timed) := by
  cases q <;> simp only [readP, fldR, rdName, rdFlags, rdFail] <;> (repeat' split) <;> simp
theorem indep_write (p q : Pt) (t : List UInt8) (s : Rd) (h : indep p q = true) : writeP p (readP q t s).m = writeP p s.m := by
  obtain ⟨h0, h1, h2, h3, h4, h5, h6, h7, h8, h9⟩ := readP_frame q t s
  cases p <;> simp [indep, fldW] at h <;> simp only [writeP] <;> simp [*]
def sepOk : List Pt → Bool
  | [] => true
  | p :: r => r.all (indep p) && r.all (fun q => match q with | .will => false | _ => true) && sepOk r
theorem fold_write (p : Pt) (t : List UInt8) : ∀ (ps : List Pt) (s : Rd), ps.all (indep p) = true → writeP p (ps.foldl (fun s p => readP p t s) s).m = writeP p s.m
  | [], s, _ => rfl
  | q :: r, s, h => by
    simp only [List.all_cons, Bool.and_eq_true] at h
    rw [List.foldl_cons, fold_write p t r _ h.2, indep_write p q t s h.1]
theorem fold_err (t : List UInt8) : ∀ (ps : List Pt) (s : Rd), s.i ≤ t.length → sepOk ps = true → (s.m.name = [] ∨ Pt.will ∉ ps) → (ps.foldl (fun s p => readP p t s) s).e = 0 →
    s.e = 0 ∧ t.drop s.i = catW ps (ps.foldl (fun s p => readP p t s) s).m ++ t.drop (ps.foldl (fun s p => readP p t s) s).i
  | [], s, hi, _, _, he => ⟨he, rfl⟩
  | p :: r, s, hi, hs, hw, he => by
    simp only [sepOk, Bool.and_eq_true] at hs
    obtain ⟨⟨s1, s2⟩, s3⟩ := hs
    have hnw : Pt.will ∉ r := by
      intro hm
      have := List.all_eq_true.1 s2 _ hm
      cases this
    rw [List.foldl_cons] at he ⊢
    obtain ⟨a, b⟩ := fold_err t r (readP p t s) (readP_i p t s hi) s3 (.inr hnw) he
    obtain ⟨c, d⟩ := back_part p t s hi a (by
      intro hp
      rcases hw with h | h
      · exact h
      · rw [hp] at h; exact (h (List.mem_cons_self ..)).elim)
    refine ⟨c, ?_⟩
    show t.drop s.i = (writeP p _ ++ catW r _) ++ _
    rw [d, b, fold_write p t r _ s1, List.append_assoc]
theorem ite_sep {c : Prop} [Decidable c] {a b : List Pt} (ha : sepOk a = true) (hb : sepOk b = true) : sepOk (if c then a else b) = true := by split <;> assumption
theorem layout_sep (k : Int) : sepOk (layoutF k) = true := by
  unfold layoutF
  repeat' (refine ite_sep ?_ ?_)
  all_goals rfl
theorem readAll_back {k : Int} {u : List UInt8} (he : (readAll k u (rd0 k)).e = 0) (hi : (readAll k u (rd0 k)).i = u.length) : restL (readAll k u (rd0 k)).m = u := by
  have hk := (readAll_keeps k u (rd0 k) (Nat.zero_le _) (Nat.zero_le _)).1
  have h := fold_err u (layoutF k) (rd0 k) (Nat.zero_le _) (layout_sep k) (.inl rfl) he
  rw [restL_cat, hk]
  have h2 := h.2
  have hi' : ((layoutF k).foldl (fun s p => readP p u s) (rd0 k)).i = u.length := hi
  rw [hi', List.drop_length, List.append_nil] at h2
  exact h2.symm
/-- A header that is read is written the same. -/
theorem snS_back {t : List UInt8} {k : Int} {h l : Nat} (hhl : h ≤ l) (hht : h ≤ t.length)
    (hx : (h = 2 ∧ k = num t 1 1 ∧ (l : Int) = num t 0 1 ∧ (l : Int) ≠ 1) ∨ (h = 4 ∧ 258 ≤ l ∧ k = num t 3 1 ∧ (l : Int) = num t 1 2 ∧ num t 0 1 = 1)) : snS k ((l - h : Nat) : Int) = t.take h := by
  have p1 : ∀ a : UInt8, putL (a.toNat : Int) 1 = [a] := fun a => by
    have := putL_getL [a] 1 (.inl ⟨rfl, rfl⟩)
    have e : getL [a] = a.toNat := getB_one a
    rw [e] at this; exact this
  rcases hx with ⟨rfl, e1, e2, e3⟩ | ⟨rfl, e0, e1, e2, e3⟩
  · match t, hht with
    | a :: c :: r, _ =>
      have n0 : num (a :: c :: r) 0 1 = a.toNat := getB_one a
      have n1 : num (a :: c :: r) 1 1 = c.toNat := getB_one c
      rw [n1] at e1
      rw [n0] at e2
      have := a.toNat_lt
      unfold snS
      rw [if_pos (by omega), show (((l - 2 : Nat) : Int) + 2) = a.toNat by omega, e1, p1, p1]
      rfl
  · match t, hht with
    | z :: a :: b :: c :: r, _ =>
      have n0 : num (z :: a :: b :: c :: r) 0 1 = z.toNat := getB_one z
      have n1 : num (z :: a :: b :: c :: r) 1 2 = getL [a, b] := rfl
      have n3 : num (z :: a :: b :: c :: r) 3 1 = c.toNat := getB_one c
      rw [n3] at e1
      rw [n1] at e2
      rw [n0] at e3
      unfold snS
      have hz : (1 : Int) = z.toNat := e3.symm
      rw [if_neg (by omega), show (((l - 4 : Nat) : Int) + 4) = getL [a, b] by omega, e1, p1, putL_getL [a, b] 2 (.inr ⟨rfl, rfl⟩), show putL 1 1 = [z] by have := p1 z; rw [← hz] at this; exact this]
      rfl
theorem readM_back {s : List UInt8} (he : (readM s).2.2 = 0) : checkM (readM s).1 = 0 ∧ (readM s).2.1 ≤ s.length ∧ 0 ≤ (readM s).2.1 ∧ bytesM (readM s).1 = (s.take (readM s).2.1.toNat, 0) := by
  rcases snR_cases s with hs | ⟨k, h, l, hs, hkn, hhl, hl65, hht, hx⟩
  · unfold readM at he; rw [if_pos hs] at he; exact (hs he).elim
  by_cases hk : k = 254
  · unfold readM at he; rw [hs] at he; simp only at he; rw [if_neg (by simp), if_pos hk] at he; cases he
  by_cases hl : s.length < l
  · unfold readM at he; rw [hs] at he; simp only at he; rw [if_neg (by simp), if_neg hk, if_pos (by omega)] at he; cases he
  have hl' : l ≤ s.length := by omega
  rw [readM_go hs hk hl'] at he ⊢
  have hxi := readAll_i k (bodyL s h l) (rd0 k) (Nat.zero_le _)
  have hty := (readAll_keeps k (bodyL s h l) (rd0 k) (Nat.zero_le _) (Nat.zero_le _)).1
  by_cases h0 : readE (readAll k (bodyL s h l) (rd0 k)) (bodyL s h l).length = 0
  · rw [if_pos h0]
    simp only
    unfold readE at h0
    by_cases h1 : (readAll k (bodyL s h l) (rd0 k)).e = 0
    · rw [if_pos h1] at h0
      by_cases h2 : (readAll k (bodyL s h l) (rd0 k)).i < (bodyL s h l).length
      · rw [if_pos h2] at h0; cases h0
      · rw [if_neg h2] at h0
        have hb := readAll_back h1 (by omega)
        refine ⟨h0, by omega, by omega, ?_⟩
        have hul : (bodyL s h l).length = l - h := by unfold bodyL; simp; omega
        rw [bytesM_ok h0, hb, hty, hul]
        show (snS k _ ++ _, _) = _
        rw [snS_back hhl hht hx, Int.toNat_natCast]
        congr 1
        unfold bodyL
        rw [show l = h + (l - h) by omega, List.take_add, Nat.add_sub_cancel_left]
    · rw [if_neg h1] at h0
      by_cases h2 : (readAll k (bodyL s h l) (rd0 k)).e = 3
      · rw [if_pos h2] at h0; cases h0
      · rw [if_neg h2] at h0; exact (h1 h0).elim
  · rw [if_neg h0] at he
    exact (h0 he).elim
theorem readM_small {s : List UInt8} {X : Ms} {n E : Int} (h : readM s = (X, n, E)) : (X.name.length : Int) ≤ 100000 ∧ (X.data.length : Int) ≤ 100000 := by
  rcases snR_cases s with hs | ⟨k, i, l, hs, hkn, hhl, hl65, hht, hx⟩
  · unfold readM at h; rw [if_pos hs] at h; obtain ⟨rfl, -⟩ := Prod.mk.inj h; decide
  by_cases hk : k = 254
  · unfold readM at h; rw [hs] at h; simp only at h; rw [if_neg (by simp), if_pos hk] at h; obtain ⟨rfl, -⟩ := Prod.mk.inj h; decide
  by_cases hl : s.length < l
  · unfold readM at h; rw [hs] at h; simp only at h; rw [if_neg (by simp), if_neg hk, if_pos (by omega)] at h; obtain ⟨rfl, -⟩ := Prod.mk.inj h; decide
  rw [readM_go hs hk (by omega)] at h
  have hul : (bodyL s i l).length = l - i := by unfold bodyL; simp; omega
  obtain ⟨a, b, c⟩ := readAll_keeps k (bodyL s i l) (rd0 k) (Nat.zero_le _) (Nat.zero_le _)
  split at h
  · obtain ⟨rfl, -⟩ := Prod.mk.inj h
    constructor <;> omega
  · obtain ⟨rfl, -⟩ := Prod.mk.inj h; decide
theorem bytesM_pos {m : Ms} (h : checkM m = 0) : 0 < (bytesM m).1.length := by
  rw [bytesM_ok h]
  simp only [List.length_append]
  have h1 := snS_len m.ty (restL m).length
  rcases Int.lt_or_le 253 ((restL m).length : Int) with h2 | h2
  · have := h1.2 h2; omega
  · have := h1.1 h2; omega
theorem readM_no {s : List UInt8} (he : (readM s).2.2 ≠ 0) : (readM s).1 = ms0 ∧ (readM s).2.1 = 0 := by
  unfold readM at he ⊢
  split
  · exact ⟨rfl, rfl⟩
  rename_i h1
  rw [if_neg h1] at he
  split
  · exact ⟨rfl, rfl⟩
  rename_i h2
  rw [if_neg h2] at he
  split
  · exact ⟨rfl, rfl⟩
  rename_i h3
  rw [if_neg h3] at he
  simp only at he ⊢
  split
  · rename_i h4
    rw [if_pos h4] at he; exact (he rfl).elim
  · exact ⟨rfl, rfl⟩
end Go.Proofs.YtbacnaplpfmpnaaGreatDoor
