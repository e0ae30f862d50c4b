/- snwrap, plain: what is written, what is read. No program. -/
import Derived.Test.YtbacnaplpfmpnaaGreatDoorLkB
namespace Go.Proofs.YtbacnaplpfmpnaaGreatDoor
open Go.RowKit
set_option linter.unusedVariables false
set_option linter.unusedSimpArgs false

structure Hp where
  rad : Int
  node : List UInt8
deriving DecidableEq
def hopOk (h : Hp) : Bool := decide (0 ≤ h.rad ∧ h.rad ≤ 3 ∧ 1 ≤ h.node.length ∧ h.node.length ≤ 32)
def hopL (h : Hp) : List UInt8 := putL (3 + h.node.length) 1 ++ putL 254 1 ++ putL h.rad 1 ++ h.node
def hopsL (hs : List Hp) : List UInt8 := hs.flatMap hopL
def limOk (mp md : Int) : Bool := decide (16 ≤ mp ∧ mp ≤ 1048576 ∧ 0 ≤ md ∧ md ≤ 32)
def wrapB (hs : List Hp) (m : Ms) (mp md : Int) : List UInt8 × Int :=
  if limOk mp md = false then ([], 2) else if 4 < hs.length then ([], 12) else if hs.all hopOk = false then ([], 2)
  else if (bytesM m).2 ≠ 0 then ([], (bytesM m).2) else if mp < ((hopsL hs ++ (bytesM m).1).length : Int) then ([], 4) else (hopsL hs ++ (bytesM m).1, 0)
/-- One hop's error; k hops are still allowed. -/
def hopE (k : Nat) (s : List UInt8) : Int :=
  if k = 0 then 12 else if (snR s).2.1 ≠ 2 ∨ (snR s).2.2.1 ≤ 3 ∨ 35 < (snR s).2.2.1 then 5 else if (s.length : Int) < (snR s).2.2.1 then 3 else if 3 < num s 2 1 then 5 else 0
def hopOf (s : List UInt8) : Hp := ⟨num s 2 1, (s.take (snR s).2.2.1.toNat).drop 3⟩
def hopsR : Nat → List UInt8 → List Hp × List UInt8 × Int
  | k, s => if (snR s).2.2.2 ≠ 0 then ([], s, (snR s).2.2.2) else if (snR s).1 ≠ 254 then ([], s, 0) else if hopE k s ≠ 0 then ([], s, hopE k s)
    else match k with
    | 0 => ([], s, 12)
    | k + 1 => (hopOf s :: (hopsR k (s.drop (snR s).2.2.1.toNat)).1, (hopsR k (s.drop (snR s).2.2.1.toNat)).2)
def wrapR (s : List UInt8) (mp md : Int) : List Hp × Ms × Int :=
  if limOk mp md = false then ([], ms0, 2) else if mp < (s.length : Int) then ([], ms0, 4)
  else if (hopsR 4 s).2.2 ≠ 0 then ([], ms0, (hopsR 4 s).2.2)
  else if (readM (hopsR 4 s).2.1).2.2 ≠ 0 then ([], ms0, (readM (hopsR 4 s).2.1).2.2)
  else if (readM (hopsR 4 s).2.1).2.1 ≠ ((hopsR 4 s).2.1.length : Int) then ([], ms0, 5)
  else ((hopsR 4 s).1, (readM (hopsR 4 s).2.1).1, 0)
theorem hopsR_err {k : Nat} {s : List UInt8} (h : (snR s).2.2.2 ≠ 0) : hopsR k s = ([], s, (snR s).2.2.2) := by cases k <;> (unfold hopsR; rw [if_pos h])
theorem hopsR_end {k : Nat} {s : List UInt8} (h : (snR s).2.2.2 = 0) (h1 : (snR s).1 ≠ 254) : hopsR k s = ([], s, 0) := by cases k <;> (unfold hopsR; rw [if_neg (by rw [h]; simp), if_pos h1])
theorem hopsR_bad {k : Nat} {s : List UInt8} (h : (snR s).2.2.2 = 0) (h1 : (snR s).1 = 254) (h2 : hopE k s ≠ 0) : hopsR k s = ([], s, hopE k s) := by cases k <;> (unfold hopsR; rw [if_neg (by rw [h]; simp), if_neg (by rw [h1]; simp), if_pos h2])
theorem hopsR_go {k : Nat} {s : List UInt8} (h : (snR s).2.2.2 = 0) (h1 : (snR s).1 = 254) (h2 : hopE (k + 1) s = 0) :
    hopsR (k + 1) s = (hopOf s :: (hopsR k (s.drop (snR s).2.2.1.toNat)).1, (hopsR k (s.drop (snR s).2.2.1.toNat)).2) := by
  rw [hopsR, if_neg (by rw [h]; simp), if_neg (by rw [h1]; simp), if_neg (by rw [h2]; simp)]
/-- A hop's bytes: four to thirty-five. -/
theorem hopL_form {h : Hp} (hk : hopOk h = true) : ∃ a r : UInt8, hopL h = a :: 254 :: r :: h.node ∧ (a.toNat : Int) = 3 + h.node.length ∧ (r.toNat : Int) = h.rad := by
  simp only [hopOk, decide_eq_true_eq] at hk
  obtain ⟨h1, h2, h3, h4⟩ := hk
  obtain ⟨a, e1, e2⟩ := put_one (3 + h.node.length) (by omega) (by omega)
  obtain ⟨r, e3, e4⟩ := put_one h.rad h1 (by omega)
  have e5 : putL 254 1 = [254] := by decide
  exact ⟨a, r, by unfold hopL; rw [e1, e3, e5]; rfl, e2, e4⟩
theorem hopL_len {h : Hp} (hk : hopOk h = true) : (hopL h).length = 3 + h.node.length := by
  obtain ⟨a, r, e, -, -⟩ := hopL_form hk
  rw [e]; simp; omega
theorem hopsL_cons (h : Hp) (hs : List Hp) : hopsL (h :: hs) = hopL h ++ hopsL hs := rfl
/-- A datagram that is written. -/
theorem wrapB_ok {hs : List Hp} {m : Ms} {mp md : Int} (h : (wrapB hs m mp md).2 = 0) :
    limOk mp md = true ∧ hs.length ≤ 4 ∧ hs.all hopOk = true ∧ checkM m = 0 ∧ ((hopsL hs ++ (bytesM m).1).length : Int) ≤ mp ∧ wrapB hs m mp md = (hopsL hs ++ (bytesM m).1, 0) := by
  unfold wrapB at h ⊢
  by_cases h1 : limOk mp md = false
  · rw [if_pos h1] at h; cases h
  rw [if_neg h1] at h ⊢
  by_cases h2 : 4 < hs.length
  · rw [if_pos h2] at h; cases h
  rw [if_neg h2] at h ⊢
  by_cases h3 : hs.all hopOk = false
  · rw [if_pos h3] at h; cases h
  rw [if_neg h3] at h ⊢
  by_cases h4 : (bytesM m).2 ≠ 0
  · rw [if_pos h4] at h; exact (h4 h).elim
  rw [if_neg h4] at h ⊢
  by_cases h5 : mp < ((hopsL hs ++ (bytesM m).1).length : Int)
  · rw [if_pos h5] at h; cases h
  rw [if_neg h5]
  refine ⟨by simpa using h1, by omega, by simpa using h3, ?_, by omega, rfl⟩
  rw [← bytesM_e]; simpa using h4
theorem wrapB_no {hs : List Hp} {m : Ms} {mp md : Int} (h : (wrapB hs m mp md).2 ≠ 0) : (wrapB hs m mp md).1 = [] := by
  unfold wrapB at h ⊢
  repeat' split
  all_goals first | rfl | skip
  rename_i h1 h2 h3 h4 h5
  rw [if_neg h1, if_neg h2, if_neg h3, if_neg h4, if_neg h5] at h
  exact (h rfl).elim
/-- What is read is written the same. -/
theorem hop_back {s : List UInt8} (h : (snR s).2.2.2 = 0) (h1 : (snR s).1 = 254) {k : Nat} (h2 : hopE k s = 0) : hopOk (hopOf s) = true ∧ s = hopL (hopOf s) ++ s.drop (snR s).2.2.1.toNat := by
  rcases snR_cases s with he | ⟨k', i, l, hs, hkn, hhl, hl65, hht, hx⟩
  · exact (he h).elim
  rw [hs] at h1 ⊢
  simp only at h1
  subst h1
  unfold hopE at h2
  rw [hs] at h2
  simp only at h2
  by_cases hk : k = 0
  · rw [if_pos hk] at h2; cases h2
  rw [if_neg hk] at h2
  by_cases h3 : (i : Int) ≠ 2 ∨ (l : Int) ≤ 3 ∨ 35 < (l : Int)
  · rw [if_pos h3] at h2; cases h2
  rw [if_neg h3] at h2
  by_cases h5 : (s.length : Int) < l
  · rw [if_pos h5] at h2; cases h2
  rw [if_neg h5] at h2
  by_cases h6 : 3 < num s 2 1
  · rw [if_pos h6] at h2; cases h2
  have hi : i = 2 := by omega
  subst hi
  have hx1 : 254 = num s 1 1 ∧ (l : Int) = num s 0 1 := by
    rcases hx with ⟨-, a, b, -⟩ | ⟨a, -⟩
    · exact ⟨a, b⟩
    · omega
  have hn := num_one s 2
  have hnode : (hopOf s).node.length = l - 3 := by unfold hopOf; rw [hs]; simp; omega
  have hrad : (hopOf s).rad = num s 2 1 := rfl
  have ok : hopOk (hopOf s) = true := by
    simp only [hopOk, decide_eq_true_eq]
    rw [hnode, hrad]
    omega
  refine ⟨ok, ?_⟩
  have p1 : ∀ x : UInt8, putL (x.toNat : Int) 1 = [x] := fun x => by have := putL_getL [x] 1 (.inl ⟨rfl, rfl⟩); rwa [show getL [x] = (x.toNat : Int) from getB_one x] at this
  match s, (by omega : 3 < s.length) with
  | a :: b :: c :: r, _ =>
    have n0 : num (a :: b :: c :: r) 0 1 = a.toNat := getB_one a
    have n1 : num (a :: b :: c :: r) 1 1 = b.toNat := getB_one b
    have n2 : num (a :: b :: c :: r) 2 1 = c.toNat := getB_one c
    rw [n0, n1] at hx1
    have e1 : putL (3 + ((hopOf (a :: b :: c :: r)).node.length : Int)) 1 = [a] := by
      rw [hnode, show (3 : Int) + ((l - 3 : Nat) : Int) = a.toNat by omega, p1]
    have e2 : putL 254 1 = [b] := by rw [hx1.1, p1]
    have e3 : putL (hopOf (a :: b :: c :: r)).rad 1 = [c] := by rw [hrad, n2, p1]
    unfold hopL
    rw [e1, e2, e3]
    have e4 : (hopOf (a :: b :: c :: r)).node = r.take (l - 3) := by
      unfold hopOf
      rw [hs]
      simp only [Int.toNat_natCast]
      rw [show l = (l - 3) + 3 by omega]
      simp only [List.take_succ_cons, List.drop_succ_cons, List.drop_zero, Nat.add_sub_cancel]
    rw [e4]
    simp only [Int.toNat_natCast]
    rw [show l = (l - 3) + 3 by omega]
    simp only [List.drop_succ_cons, Nat.add_sub_cancel]
    simp
theorem hopsR_back : ∀ (k : Nat) (s : List UInt8), (hopsR k s).2.2 = 0 → (hopsR k s).1.length ≤ k ∧ (hopsR k s).1.all hopOk = true ∧ s = hopsL (hopsR k s).1 ++ (hopsR k s).2.1
  | k, s, h => by
    by_cases h1 : (snR s).2.2.2 ≠ 0
    · rw [hopsR_err h1] at h; exact (h1 h).elim
    have h1 : (snR s).2.2.2 = 0 := by simpa using h1
    by_cases h2 : (snR s).1 ≠ 254
    · rw [hopsR_end h1 h2]; exact ⟨Nat.zero_le _, rfl, rfl⟩
    have h2 : (snR s).1 = 254 := by simpa using h2
    by_cases h3 : hopE k s ≠ 0
    · rw [hopsR_bad h1 h2 h3] at h; exact (h3 h).elim
    have h3 : hopE k s = 0 := by simpa using h3
    match k, h, h3 with
    | 0, h, h3 => unfold hopE at h3; rw [if_pos rfl] at h3; cases h3
    | k + 1, h, h3 =>
      rw [hopsR_go h1 h2 h3] at h ⊢
      simp only at h ⊢
      obtain ⟨i1, i2, i3⟩ := hopsR_back k _ h
      obtain ⟨b1, b2⟩ := hop_back h1 h2 h3
      refine ⟨by simp; exact i1, by simp only [List.all_cons, Bool.and_eq_true]; exact ⟨b1, i2⟩, ?_⟩
      rw [hopsL_cons, List.append_assoc, ← i3]
      exact b2
end Go.Proofs.YtbacnaplpfmpnaaGreatDoor
