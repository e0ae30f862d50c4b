/- snmsg: Read, all ways together; Codes. polyglotlaw22.lives; MaxLen at a row's first world. snmsg, plain: what is written is read, truncated it is too short, what is read is written the same (P22.1 to P22.3). No program. snwrap, plain: what is written, what is read. No program. -/
import Derived.Test.YtanofjmkkhocaaaGreatDoorMsW
import Derived.Shelf.Vars
set_option linter.unusedVariables false
set_option linter.unusedSimpArgs false
namespace Go.Proofs.YtanofjmkkhocaaaGreatDoor
open Go.RowKit
theorem snTail_err (k h l : Int) (he : (snTail k h l).2.2.2 ≠ 0) : snTail k h l = (0, 0, 0, (snTail k h l).2.2.2) := by
 unfold snTail at *
 split
 ·rfl
 ·split
  ·rfl
  ·rename_i h1 h2
   rw [if_neg h1, if_neg h2] at he
   exact (he rfl).elim
theorem snR_err (t : List UInt8) (he : (snR t).2.2.2 ≠ 0) : snR t = (0, 0, 0, (snR t).2.2.2) := by
 unfold snR at *
 split
 ·rfl
 rename_i h1
 rw [if_neg h1] at he
 split
 ·rename_i h2
  rw [if_pos h2] at he
  split
  ·rfl
  ·rename_i h3
   rw [if_neg h3] at he
   exact snTail_err _ _ _ he
 ·rename_i h2
  rw [if_neg h2] at he
  split
  ·rfl
  ·rename_i h3
   rw [if_neg h3] at he
   exact snTail_err _ _ _ he
theorem known_kindM {k : Int} (h : knownK k = true) (h2 : k ≠ 254) : kindM k = true := by
 rw [← msgB_kindM]
 unfold msgB
 rw [h]; simpa using h2
theorem readP_i (p : Pt) (t : List UInt8) (s : Rd) (hi : s.i ≤ t.length) : (readP p t s).i ≤ t.length := by
 have h1 := fun n => takeI_le (t := t) (i := s.i) (e := s.e) (n := n) hi
 cases p
 case will =>
  simp only [readP]
  split
  ·exact hi
  ·have h2 : (rdFlags t s).i ≤ t.length := by unfold rdFlags; split <;> exact h1 1
   unfold rdName rdFail
   simp only
   split <;> split <;> first | exact Nat.le_refl _ | exact h2
 case topic =>
  simp only [readP]
  split
  ·unfold rdName; simp only; split
   ·exact Nat.le_refl _
   ·exact hi
  ·exact h1 2
 case protocol => simp only [readP]; split <;> exact h1 1
 case duration => simp only [readP]; split <;> first | exact hi | exact h1 2
 case flags => simp only [readP]; unfold rdFlags; split <;> exact h1 1
 case name => simp only [readP]; unfold rdName; simp only; split <;> first | exact Nat.le_refl _ | exact hi
 case data => simp only [readP]; split <;> first | exact Nat.le_refl _ | exact hi
 case gateway => exact h1 1
 case radius => exact h1 1
 case code => exact h1 1
 case time => exact h1 2
 case id => exact h1 2
 case msg => exact h1 2
theorem readAll_i (k : Int) (t : List UInt8) (s : Rd) (hi : s.i ≤ t.length) : (readAll k t s).i ≤ t.length := by
 unfold readAll
 generalize layoutF k = ps
 induction ps generalizing s with
 | nil => exact hi
 | cons p r ih => exact ih (readP p t s) (readP_i p t s hi)
theorem readM_go {t : List UInt8} {k : Int} {h l : Nat} (hs : snR t = (k, (h : Int), (l : Int), 0)) (hk : k ≠ 254) (hl : l ≤ t.length) :
  readM t = if readE (readAll k (bodyL t h l) (rd0 k)) (bodyL t h l).length = 0 then ((readAll k (bodyL t h l) (rd0 k)).m, (l : Int), 0) else (ms0, 0, readE (readAll k (bodyL t h l) (rd0 k)) (bodyL t h l).length) := by
 unfold readM
 rw [hs]
 simp only
 rw [if_neg (by simp), if_neg hk, if_neg (by omega)]
 simp only [Int.toNat_natCast]
theorem msread_any (t : List UInt8) (ht : (t.length : Int) ≤ 4611686018427380000) : ReadIs t (readM t).1 (readM t).2.1 (readM t).2.2 := by
 rcases snR_cases t with he | ⟨k, h, l, hs, hkn, hhl, hl65, hht, -⟩
 ·have e1 := snR_err t he
  have e2 : readM t = (ms0, 0, (snR t).2.2.2) := by unfold readM; rw [if_pos he]
  rw [e2]
  exact msread_err t ht _ e1 he
 by_cases hk : k = 254
 ·subst hk
  have e2 : readM t = (ms0, 0, 8) := by unfold readM; rw [hs]; rfl
  rw [e2]
  exact msread_enc t ht h l hs
 by_cases hl : t.length < l
 ·have e2 : readM t = (ms0, 0, 3) := by unfold readM; rw [hs]; simp only; rw [if_neg (by simp), if_neg hk, if_pos (by omega)]
  rw [e2]
  exact msread_short t ht k h l hs hk hl
 have hl' : l ≤ t.length := by omega
 have hkm := known_kindM hkn hk
 rw [readM_go hs hk hl']
 have hxi := readAll_i k (bodyL t h l) (rd0 k) (Nat.zero_le _)
 obtain ⟨X, hX⟩ : ∃ X, X = readAll k (bodyL t h l) (rd0 k) := ⟨_, rfl⟩
 rw [← hX] at hxi ⊢
 unfold readE
 by_cases h0 : X.e = 0
 ·rw [if_pos h0]
  by_cases h1 : X.i < (bodyL t h l).length
  ·rw [if_pos h1, if_neg (by decide)]
   exact msread_left t ht k h l hs hkm hhl hl65 hl' X hX h0 h1
  ·rw [if_neg h1]
   have h2 : X.i = (bodyL t h l).length := by omega
   by_cases h3 : checkM X.m = 0
   ·rw [if_pos h3]
    exact msread_ok t ht k h l hs hkm hhl hl65 hl' X hX h0 h2 h3
   ·rw [if_neg h3]
    exact msread_chk t ht k h l hs hkm hhl hl65 hl' X hX h0 h2 h3
 ·rw [if_neg h0]
  by_cases h3 : X.e = 3
  ·rw [if_pos h3, if_neg (by decide)]
   exact msread_bad3 t ht k h l hs hkm hhl hl65 hl' X hX h3
  ·rw [if_neg h3, if_neg h0]
   exact msread_bade t ht k h l hs hkm hhl hl65 hl' X hX h0 h3
end Go.Proofs.YtanofjmkkhocaaaGreatDoor
namespace Go.Proofs.YtanofjmkkhocaaaGreatDoor
open Go.RowKit
attribute [local go_sem ↓] load_Msg store_Msg
theorem mx_of_shaped {w : World} (h : w.ShapedOpen Tryz.prog) : Mx w := by
 obtain ⟨m, hm⟩ := cell_of_shapedOpen_int (g := 0) (t := 3) (k := .i64) (zero := #[.int .i64 0]) h (of_decide_eq_true (by kernel_rfl)) (by kernel_rfl) rfl (by kernel_rfl) (by kernel_rfl) (by kernel_rfl)
 refine ⟨?_, m, hm⟩
 rcases Nat.eq_zero_or_pos w.heap.size with h0 | h0
 ·simp [World.cell?, Array.size_eq_zero_iff.1 h0] at hm
 ·exact h0
end Go.Proofs.YtanofjmkkhocaaaGreatDoor
namespace Go.Proofs.YtanofjmkkhocaaaGreatDoor
open Go.RowKit
theorem bytesM_ok {m : Ms} (h : checkM m = 0) : bytesM m = (snS m.ty (restL m).length ++ restL m, 0) := by unfold bytesM; rw [if_pos h]
theorem bytesM_no {m : Ms} (h : checkM m ≠ 0) : bytesM m = ([], checkM m) := by unfold bytesM; rw [if_neg h]
theorem bytesM_len (m : Ms) : (bytesM m).1.length ≤ 65535 := by
 by_cases h : checkM m = 0
 ·have hg := (check_iff m).1 h
  obtain ⟨z1, z2, z3, z4⟩ := snB_zero hg.head
  rw [bytesM_ok h]
  simp only [List.length_append]
  have := snS_len_le m.ty (restL m).length
  omega
 ·rw [bytesM_no h]; exact Nat.zero_le _
theorem putL_getL (l : List UInt8) (n : Int) (hn : (n = 1 ∧ l.length = 1) ∨ (n = 2 ∧ l.length = 2)) : putL (getL l) n = l := by
 have h1 := putB_getB l (by omega)
 have e : getL l = getB l := by unfold getL; rw [show l.length - 8 = 0 by omega]; rfl
 rw [e]
 rcases hn with ⟨rfl, h⟩ | ⟨rfl, h⟩
 ·rw [h] at h1; exact h1
 ·rw [h] at h1; exact h1
theorem readM_small {s : List UInt8} {X : Ms} {n E : Int} (h : readM s = (X, n, E)) : (X.name.length : Int) ≤ 100000 ∧ (X.data.length : Int) ≤ 100000 := by
 rcases snR_cases s with hs | ⟨k, i, l, hs, hkn, hhl, hl65, hht, hx⟩
 ·unfold readM at h; rw [if_pos hs] at h; obtain ⟨rfl, -⟩ := Prod.mk.inj h; decide
 by_cases hk : k = 254
 ·unfold readM at h; rw [hs] at h; simp only at h; rw [if_neg (by simp), if_pos hk] at h; obtain ⟨rfl, -⟩ := Prod.mk.inj h; decide
 by_cases hl : s.length < l
 ·unfold readM at h; rw [hs] at h; simp only at h; rw [if_neg (by simp), if_neg hk, if_pos (by omega)] at h; obtain ⟨rfl, -⟩ := Prod.mk.inj h; decide
 rw [readM_go hs hk (by omega)] at h
 have hul : (bodyL s i l).length = l - i := by unfold bodyL; simp; omega
 obtain ⟨a, b, c⟩ := readAll_keeps k (bodyL s i l) (rd0 k) (Nat.zero_le _) (Nat.zero_le _)
 split at h
 ·obtain ⟨rfl, -⟩ := Prod.mk.inj h
  constructor <;> omega
 ·obtain ⟨rfl, -⟩ := Prod.mk.inj h; decide
end Go.Proofs.YtanofjmkkhocaaaGreatDoor
namespace Go.Proofs.YtanofjmkkhocaaaGreatDoor
open Go.RowKit
structure Hp where
 rad : Int
 node : List UInt8
deriving DecidableEq
def hopOk (h : Hp) : Bool := decide (0 ≤ h.rad ∧ h.rad ≤ 3 ∧ 1 ≤ h.node.length ∧ h.node.length ≤ 32)
def hopL (h : Hp) : List UInt8 := putL (3 + h.node.length) 1 ++ putL 254 1 ++ putL h.rad 1 ++ h.node
def hopsL (hs : List Hp) : List UInt8 := hs.flatMap hopL
def limOk (mp md : Int) : Bool := decide (16 ≤ mp ∧ mp ≤ 1048576 ∧ 0 ≤ md ∧ md ≤ 32)
def wrapB (hs : List Hp) (m : Ms) (mp md : Int) : List UInt8 × Int :=
 if limOk mp md = false then ([], 2) else if 4 < hs.length then ([], 12) else if hs.all hopOk = false then ([], 2)
 else if (bytesM m).2 ≠ 0 then ([], (bytesM m).2) else if mp < ((hopsL hs ++ (bytesM m).1).length : Int) then ([], 4) else (hopsL hs ++ (bytesM m).1, 0)
def hopE (k : Nat) (s : List UInt8) : Int :=
 if k = 0 then 12 else if (snR s).2.1 ≠ 2 ∨ (snR s).2.2.1 ≤ 3 ∨ 35 < (snR s).2.2.1 then 5 else if (s.length : Int) < (snR s).2.2.1 then 3 else if 3 < num s 2 1 then 5 else 0
def hopOf (s : List UInt8) : Hp := ⟨num s 2 1, (s.take (snR s).2.2.1.toNat).drop 3⟩
def hopsR : Nat → List UInt8 → List Hp × List UInt8 × Int
 | k, s => if (snR s).2.2.2 ≠ 0 then ([], s, (snR s).2.2.2) else if (snR s).1 ≠ 254 then ([], s, 0) else if hopE k s ≠ 0 then ([], s, hopE k s)
  else match k with
  | 0 => ([], s, 12)
  | k + 1 => (hopOf s :: (hopsR k (s.drop (snR s).2.2.1.toNat)).1, (hopsR k (s.drop (snR s).2.2.1.toNat)).2)
def wrapR (s : List UInt8) (mp md : Int) : List Hp × Ms × Int :=
 if limOk mp md = false then ([], ms0, 2) else if mp < (s.length : Int) then ([], ms0, 4)
 else if (hopsR 4 s).2.2 ≠ 0 then ([], ms0, (hopsR 4 s).2.2)
 else if (readM (hopsR 4 s).2.1).2.2 ≠ 0 then ([], ms0, (readM (hopsR 4 s).2.1).2.2)
 else if (readM (hopsR 4 s).2.1).2.1 ≠ ((hopsR 4 s).2.1.length : Int) then ([], ms0, 5)
 else ((hopsR 4 s).1, (readM (hopsR 4 s).2.1).1, 0)
theorem hopsR_err {k : Nat} {s : List UInt8} (h : (snR s).2.2.2 ≠ 0) : hopsR k s = ([], s, (snR s).2.2.2) := by cases k <;> (unfold hopsR; rw [if_pos h])
theorem hopsR_end {k : Nat} {s : List UInt8} (h : (snR s).2.2.2 = 0) (h1 : (snR s).1 ≠ 254) : hopsR k s = ([], s, 0) := by cases k <;> (unfold hopsR; rw [if_neg (by rw [h]; simp), if_pos h1])
theorem hopsR_bad {k : Nat} {s : List UInt8} (h : (snR s).2.2.2 = 0) (h1 : (snR s).1 = 254) (h2 : hopE k s ≠ 0) : hopsR k s = ([], s, hopE k s) := by cases k <;> (unfold hopsR; rw [if_neg (by rw [h]; simp), if_neg (by rw [h1]; simp), if_pos h2])
theorem hopsR_go {k : Nat} {s : List UInt8} (h : (snR s).2.2.2 = 0) (h1 : (snR s).1 = 254) (h2 : hopE (k + 1) s = 0) :
  hopsR (k + 1) s = (hopOf s :: (hopsR k (s.drop (snR s).2.2.1.toNat)).1, (hopsR k (s.drop (snR s).2.2.1.toNat)).2) := by
 rw [hopsR, if_neg (by rw [h]; simp), if_neg (by rw [h1]; simp), if_neg (by rw [h2]; simp)]
theorem hopL_form {h : Hp} (hk : hopOk h = true) : ∃ a r : UInt8, hopL h = a :: 254 :: r :: h.node ∧ (a.toNat : Int) = 3 + h.node.length ∧ (r.toNat : Int) = h.rad := by
 simp only [hopOk, decide_eq_true_eq] at hk
 obtain ⟨h1, h2, h3, h4⟩ := hk
 obtain ⟨a, e1, e2⟩ := put_one (3 + h.node.length) (by omega) (by omega)
 obtain ⟨r, e3, e4⟩ := put_one h.rad h1 (by omega)
 have e5 : putL 254 1 = [254] := by decide
 exact ⟨a, r, by unfold hopL; rw [e1, e3, e5]; rfl, e2, e4⟩
theorem hopL_len {h : Hp} (hk : hopOk h = true) : (hopL h).length = 3 + h.node.length := by
 obtain ⟨a, r, e, -, -⟩ := hopL_form hk
 rw [e]; simp; omega
theorem hopsL_cons (h : Hp) (hs : List Hp) : hopsL (h :: hs) = hopL h ++ hopsL hs := rfl
theorem hop_back {s : List UInt8} (h : (snR s).2.2.2 = 0) (h1 : (snR s).1 = 254) {k : Nat} (h2 : hopE k s = 0) : hopOk (hopOf s) = true ∧ s = hopL (hopOf s) ++ s.drop (snR s).2.2.1.toNat := by
 rcases snR_cases s with he | ⟨k', i, l, hs, hkn, hhl, hl65, hht, hx⟩
 ·exact (he h).elim
 rw [hs] at h1 ⊢
 simp only at h1
 subst h1
 unfold hopE at h2
 rw [hs] at h2
 simp only at h2
 by_cases hk : k = 0
 ·rw [if_pos hk] at h2; cases h2
 rw [if_neg hk] at h2
 by_cases h3 : (i : Int) ≠ 2 ∨ (l : Int) ≤ 3 ∨ 35 < (l : Int)
 ·rw [if_pos h3] at h2; cases h2
 rw [if_neg h3] at h2
 by_cases h5 : (s.length : Int) < l
 ·rw [if_pos h5] at h2; cases h2
 rw [if_neg h5] at h2
 by_cases h6 : 3 < num s 2 1
 ·rw [if_pos h6] at h2; cases h2
 have hi : i = 2 := by omega
 subst hi
 have hx1 : 254 = num s 1 1 ∧ (l : Int) = num s 0 1 := by
  rcases hx with ⟨-, a, b, -⟩ | ⟨a, -⟩
  ·exact ⟨a, b⟩
  ·omega
 have hn := num_one s 2
 have hnode : (hopOf s).node.length = l - 3 := by unfold hopOf; rw [hs]; simp; omega
 have hrad : (hopOf s).rad = num s 2 1 := rfl
 have ok : hopOk (hopOf s) = true := by
  simp only [hopOk, decide_eq_true_eq]
  rw [hnode, hrad]
  omega
 refine ⟨ok, ?_⟩
 have p1 : ∀ x : UInt8, putL (x.toNat : Int) 1 = [x] := fun x => by have := putL_getL [x] 1 (.inl ⟨rfl, rfl⟩); rwa [show getL [x] = (x.toNat : Int) from getB_one x] at this
 match s, (by omega : 3 < s.length) with
 | a :: b :: c :: r, _ =>
  have n0 : num (a :: b :: c :: r) 0 1 = a.toNat := getB_one a
  have n1 : num (a :: b :: c :: r) 1 1 = b.toNat := getB_one b
  have n2 : num (a :: b :: c :: r) 2 1 = c.toNat := getB_one c
  rw [n0, n1] at hx1
  have e1 : putL (3 + ((hopOf (a :: b :: c :: r)).node.length : Int)) 1 = [a] := by
   rw [hnode, show (3 : Int) + ((l - 3 : Nat) : Int) = a.toNat by omega, p1]
  have e2 : putL 254 1 = [b] := by rw [hx1.1, p1]
  have e3 : putL (hopOf (a :: b :: c :: r)).rad 1 = [c] := by rw [hrad, n2, p1]
  unfold hopL
  rw [e1, e2, e3]
  have e4 : (hopOf (a :: b :: c :: r)).node = r.take (l - 3) := by
   unfold hopOf
   rw [hs]
   simp only [Int.toNat_natCast]
   rw [show l = (l - 3) + 3 by omega]
   simp only [List.take_succ_cons, List.drop_succ_cons, List.drop_zero, Nat.add_sub_cancel]
  rw [e4]
  simp only [Int.toNat_natCast]
  rw [show l = (l - 3) + 3 by omega]
  simp only [List.drop_succ_cons, Nat.add_sub_cancel]
  simp
theorem hopsR_back : ∀ (k : Nat) (s : List UInt8), (hopsR k s).2.2 = 0 → (hopsR k s).1.length ≤ k ∧ (hopsR k s).1.all hopOk = true ∧ s = hopsL (hopsR k s).1 ++ (hopsR k s).2.1
 | k, s, h => by
  by_cases h1 : (snR s).2.2.2 ≠ 0
  ·rw [hopsR_err h1] at h; exact (h1 h).elim
  have h1 : (snR s).2.2.2 = 0 := by simpa using h1
  by_cases h2 : (snR s).1 ≠ 254
  ·rw [hopsR_end h1 h2]; exact ⟨Nat.zero_le _, rfl, rfl⟩
  have h2 : (snR s).1 = 254 := by simpa using h2
  by_cases h3 : hopE k s ≠ 0
  ·rw [hopsR_bad h1 h2 h3] at h; exact (h3 h).elim
  have h3 : hopE k s = 0 := by simpa using h3
  match k, h, h3 with
  | 0, h, h3 => unfold hopE at h3; rw [if_pos rfl] at h3; cases h3
  | k + 1, h, h3 =>
   rw [hopsR_go h1 h2 h3] at h ⊢
   simp only at h ⊢
   obtain ⟨i1, i2, i3⟩ := hopsR_back k _ h
   obtain ⟨b1, b2⟩ := hop_back h1 h2 h3
   refine ⟨by simp; exact i1, by simp only [List.all_cons, Bool.and_eq_true]; exact ⟨b1, i2⟩, ?_⟩
   rw [hopsL_cons, List.append_assoc, ← i3]
   exact b2
end Go.Proofs.YtanofjmkkhocaaaGreatDoor
