/- snwrap, plain: what is written, what is read. No program. -/
import Derived.Test.YtbacnaplpfmpnaaGreatDoorLkB
namespace Go.Proofs.YtbacnaplpfmpnaaGreatDoor
open Go.RowKit
set_option linter.unusedVariables false
set_option linter.unusedSimpArgs false

structure Hp where
  rad : Int
  node : List UInt8
deriving DecidableEq
def hopOk (h : Hp) : Bool := decide (0 ≤ h.rad ∧ h.rad ≤ 3 ∧ 1 ≤ h.node.length ∧ h.node.length ≤ 32)
def hopL (h : Hp) : List UInt8 := putL (3 + h.node.length) 1 ++ putL 254 1 ++ putL h.rad 1 ++ h.node
def hopsL (hs : List Hp) : List UInt8 := hs.flatMap hopL
def limOk (mp md : Int) : Bool := decide (16 ≤ mp ∧ mp ≤ 1048576 ∧ 0 ≤ md ∧ md ≤ 32)
def wrapB (hs : List Hp) (m : Ms) (mp md : Int) : List UInt8 × Int :=
  if limOk mp md = false then ([], 2) else if 4 < hs.length then ([], 12) else if hs.all hopOk = false then ([], 2)
  else if (bytesM m).2 ≠ 0 then ([], (bytesM m).2) else if mp < ((hopsL hs ++ (bytesM m).1).length : Int) then ([], 4) else (hopsL hs ++ (bytesM m).1, 0)
/-- One hop's error; k hops are still allowed. -/
def hopE (k : Nat) (s : List UInt8) : Int :=
  if k = 0 then 12 else if (snR s).2.1 ≠ 2 ∨ (snR s).2.2.1 ≤ 3 ∨ 35 < (snR s).2.2.1 then 5 else if (s.length : Int) < (snR s).2.2.1 then 3 else if 3 < num s 2 1 then 5 else 0
def hopOf (s : List UInt8) : Hp := ⟨num s 2 1, (s.take (snR s).2.2.1.toNat).drop 3⟩
def hopsR : Nat → List UInt8 → List Hp × List UInt8 × Int
  | k, s => if (snR s).2.2.2 ≠ 0 then ([], s, (snR s).2.2.2) else if (snR s).1 ≠ 254 then ([], s, 0) else if hopE k s ≠ 0 then ([], s, hopE k s)
    else match k with
    | 0 => ([], s, 12)
    | k + 1 => (hopOf s :: (hopsR k (s.drop (snR s).2.2.1.toNat)).1, (hopsR k (s.drop (snR s).2.2.1.toNat)).2)
def wrapR (s : List UInt8) (mp md : Int) : List Hp × Ms × Int :=
  if limOk mp md = false then ([], ms0, 2) else if mp < (s.length : Int) then ([], ms0, 4)
  else if (hopsR 4 s).2.2 ≠ 0 then ([], ms0, (hopsR 4 s).2.2)
  else if (readM (hopsR 4 s).2.1).2.2 ≠ 0 then ([], ms0, (readM (hopsR 4 s).2.1).2.2)
  else if (readM (hopsR 4 s).2.1).2.1 ≠ ((hopsR 4 s).2.1.length : Int) then ([], ms0, 5)
  else ((hopsR 4 s).1, (readM (hopsR 4 s).2.1).1, 0)
theorem hopsR_err {k : Nat} {s : List UInt8} (h : (snR s).2.2.2 ≠ 0) : hopsR k s = ([], s, (snR s).2.2.2) := by cases k <;> (unfold hopsR; rw [if_pos h])
theorem hopsR_end {k : Nat} {s : List UInt8} (h : (snR s).2.2.2 = 0) (h1 : (snR s).1 ≠ 254) : hopsR k s = ([], s, 0) := by cases k <;> (unfold hopsR; rw [if_neg (by rw [h]; simp), if_pos h1])
theorem hopsR_bad {k : Nat} {s : List UInt8} (h : (snR s).2.2.2 = 0) (h1 : (snR s).1 = 254) (h2 : hopE k s ≠ 0) : hopsR k s = ([], s, hopE k s) := by cases k <;> (unfold hopsR; rw [if_neg (by rw [h]; simp), if_neg (by rw [h1]; simp), if_pos h2])
theorem hopsR_go {k : Nat} {s : List UInt8} (h : (snR s).2.2.2 = 0) (h1 : (snR s).1 = 254) (h2 : hopE (k + 1) s = 0) :
    hopsR (k + 1) s = (hopOf s :: (hopsR k (s.drop (snR s).2.2.1.toNat)).1, (hopsR k (s.drop (snR s).2.2.1.toNat)).2) := by
  rw [hopsR, if_neg (by rw [h]; simp), if_neg (by rw [h1]; simp), if_neg (by rw [h2]; simp)]
/-- A hop's bytes: four to thirty-five. -/
theorem hopL_form {h : Hp} (hk : hopOk h = true) : ∃ a r : UInt8, hopL h = a :: 254 :: r :: h.node ∧ (a.toNat : Int) = 3 + h.node.length ∧ (r.toNat : Int) = h.rad := by
  simp only [hopOk, decide_eq_true_eq] at hk
  obtain ⟨h1, h2, h3, h4⟩ := hk
  obtain ⟨a, e1, e2⟩ := put_one (3 + h.node.length) (by omega) (by omega)
  obtain ⟨r, e3, e4⟩ := put_one h.rad h1 (by omega)
  have e5 : putL 254 1 = [254] := by decide
  exact ⟨a, r, by unfold hopL; rw [e1, e3, e5]; rfl, e2, e4⟩
theorem hopL_len {h : Hp} (hk : hopOk h = true) : (hopL h).length = 3 + h.node.length := by
  obtain ⟨a, r, e, -, -⟩ := hopL_form hk
  rw [e]; simp; omega
theorem hopL_snR {h : Hp} (hk : hopOk h = true) (s : List UInt8) : snR (hopL h ++ s) = (254, 2, ((3 + h.node.length : Nat) : Int), 0) := by
  obtain ⟨a, r, e, e1, e2⟩ := hopL_form hk
  simp only [hopOk, decide_eq_true_eq] at hk
  rw [e]
  show snR (a :: 254 :: (r :: h.node ++ s)) = _
  rw [snR_short _ _ _ (by omega), e1]
  unfold snTail
  rw [if_neg (by omega), if_neg (by decide), show ((3 + h.node.length : Nat) : Int) = 3 + (h.node.length : Int) from Int.natCast_add _ _]
  rfl
theorem hopsR_hop {h : Hp} (hk : hopOk h = true) (k : Nat) (s : List UInt8) : hopsR (k + 1) (hopL h ++ s) = (h :: (hopsR k s).1, (hopsR k s).2) := by
  have hs := hopL_snR hk s
  have hl := hopL_len hk
  obtain ⟨a, r, e, e1, e2⟩ := hopL_form hk
  have hn : num (hopL h ++ s) 2 1 = h.rad := by rw [e, ← e2]; exact getB_one r
  have hE : hopE (k + 1) (hopL h ++ s) = 0 := by
    simp only [hopOk, decide_eq_true_eq] at hk
    unfold hopE
    rw [if_neg (by omega), hs, hn]
    simp only
    rw [if_neg (by omega), if_neg (by rw [List.length_append, hl]; omega), if_neg (by omega)]
  have hO : hopOf (hopL h ++ s) = h := by
    unfold hopOf
    rw [hn, hs]
    simp only [Int.toNat_natCast]
    rw [← hl, List.take_left, e]
    rfl
  have hd : (hopL h ++ s).drop (snR (hopL h ++ s)).2.2.1.toNat = s := by
    rw [hs]; simp only [Int.toNat_natCast]; rw [← hl, List.drop_left]
  rw [hopsR_go (by rw [hs]) (by rw [hs]) hE, hO, hd]
/-- Truncated within a hop. -/
theorem hopsR_hopcut {h : Hp} (hk : hopOk h = true) (k j : Nat) (hj : j < (hopL h).length) : (hopsR (k + 1) ((hopL h).take j)).2.2 = 3 := by
  have hl := hopL_len hk
  obtain ⟨a, r, e, e1, e2⟩ := hopL_form hk
  simp only [hopOk, decide_eq_true_eq] at hk
  match j, hj with
  | 0, _ =>
    have e0 : (hopL h).take 0 = [] := rfl
    rw [e0, hopsR_err (by decide)]; decide
  | 1, _ =>
    have : snR ((hopL h).take 1) = (0, 0, 0, 3) := by
      rw [e]
      have e3 : num [a] 0 1 = a.toNat := getB_one a
      simp only [List.take_succ_cons, List.take_zero]
      unfold snR
      rw [e3, if_neg (by simp), if_neg (by omega), if_pos (by simp)]
    rw [hopsR_err (by rw [this]; decide), this]
  | j + 2, hj =>
    have hs : snR ((hopL h).take (j + 2)) = (254, 2, ((3 + h.node.length : Nat) : Int), 0) := by
      rw [e]
      simp only [List.take_succ_cons]
      rw [snR_short _ _ _ (by omega), e1]
      unfold snTail
      rw [if_neg (by omega), if_neg (by decide), show ((3 + h.node.length : Nat) : Int) = 3 + (h.node.length : Int) from Int.natCast_add _ _]
      rfl
    have hE : hopE (k + 1) ((hopL h).take (j + 2)) = 3 := by
      unfold hopE
      rw [if_neg (by omega), hs]
      simp only
      rw [if_neg (by omega), if_pos (by rw [List.length_take]; omega)]
    rw [hopsR_bad (by rw [hs]) (by rw [hs]) (by rw [hE]; decide), hE]
theorem hopsL_cons (h : Hp) (hs : List Hp) : hopsL (h :: hs) = hopL h ++ hopsL hs := rfl
theorem hopsR_all : ∀ (hs : List Hp) (k : Nat) (s : List UInt8), hs.all hopOk = true → hs.length ≤ k → hopsR k (hopsL hs ++ s) = (hs ++ (hopsR (k - hs.length) s).1, (hopsR (k - hs.length) s).2)
  | [], k, s, _, _ => by simp [hopsL]
  | h :: hs, 0, s, _, hl => by simp at hl
  | h :: hs, k + 1, s, ha, hl => by
    simp only [List.all_cons, Bool.and_eq_true] at ha
    rw [hopsL_cons, List.append_assoc, hopsR_hop ha.1, hopsR_all hs k s ha.2 (by simpa using hl)]
    rw [show k + 1 - (h :: hs).length = k - hs.length by simp]
    rfl
theorem kind_msg {m : Ms} (h : checkM m = 0) (k : Nat) (more : List UInt8) : hopsR k ((bytesM m).1 ++ more) = ([], (bytesM m).1 ++ more, 0) := by
  have hg := (check_iff m).1 h
  obtain ⟨z1, z2, z3, z4⟩ := snB_zero hg.head
  have hs := snR_snS m.ty (restL m).length z1 z2 z3 (restL m ++ more)
  have hb : (bytesM m).1 ++ more = snS m.ty (restL m).length ++ (restL m ++ more) := by rw [bytesM_ok h]; simp only; rw [List.append_assoc]
  rw [← hb] at hs
  exact hopsR_end (by rw [hs]) (by rw [hs]; exact kindM_254 hg.kind)
theorem hopsR_msgcut {m : Ms} (h : checkM m = 0) (k j : Nat) (hj : j < (bytesM m).1.length) :
    (hopsR k ((bytesM m).1.take j)).2.2 = 3 ∨ hopsR k ((bytesM m).1.take j) = ([], (bytesM m).1.take j, 0) := by
  have hr := readM_cut h j hj
  by_cases he : (snR ((bytesM m).1.take j)).2.2.2 ≠ 0
  · left
    rw [hopsR_err he]
    unfold readM at hr
    rw [if_pos he] at hr
    exact (Prod.mk.inj (Prod.mk.inj hr).2).2
  · right
    refine hopsR_end (by simpa using he) (fun hk => ?_)
    unfold readM at hr
    rw [if_neg he, if_pos hk] at hr
    exact absurd (Prod.mk.inj (Prod.mk.inj hr).2).2 (by decide)
/-- A datagram that is written. -/
theorem wrapB_ok {hs : List Hp} {m : Ms} {mp md : Int} (h : (wrapB hs m mp md).2 = 0) :
    limOk mp md = true ∧ hs.length ≤ 4 ∧ hs.all hopOk = true ∧ checkM m = 0 ∧ ((hopsL hs ++ (bytesM m).1).length : Int) ≤ mp ∧ wrapB hs m mp md = (hopsL hs ++ (bytesM m).1, 0) := by
  unfold wrapB at h ⊢
  by_cases h1 : limOk mp md = false
  · rw [if_pos h1] at h; cases h
  rw [if_neg h1] at h ⊢
  by_cases h2 : 4 < hs.length
  · rw [if_pos h2] at h; cases h
  rw [if_neg h2] at h ⊢
  by_cases h3 : hs.all hopOk = false
  · rw [if_pos h3] at h; cases h
  rw [if_neg h3] at h ⊢
  by_cases h4 : (bytesM m).2 ≠ 0
  · rw [if_pos h4] at h; exact (h4 h).elim
  rw [if_neg h4] at h ⊢
  by_cases h5 : mp < ((hopsL hs ++ (bytesM m).1).length : Int)
  · rw [if_pos h5] at h; cases h
  rw [if_neg h5]
  refine ⟨by simpa using h1, by omega, by simpa using h3, ?_, by omega, rfl⟩
  rw [← bytesM_e]; simpa using h4
theorem wrapB_of {hs : List Hp} {m : Ms} {mp md : Int} (h1 : limOk mp md = true) (h2 : hs.length ≤ 4) (h3 : hs.all hopOk = true) (h4 : checkM m = 0) (h5 : ((hopsL hs ++ (bytesM m).1).length : Int) ≤ mp) :
    wrapB hs m mp md = (hopsL hs ++ (bytesM m).1, 0) := by
  unfold wrapB
  rw [if_neg (by simp [h1]), if_neg (by omega), if_neg (by simp [h3]), if_neg (by rw [bytesM_e]; simp [h4]), if_neg (by omega)]
theorem wrapB_no {hs : List Hp} {m : Ms} {mp md : Int} (h : (wrapB hs m mp md).2 ≠ 0) : (wrapB hs m mp md).1 = [] := by
  unfold wrapB at h ⊢
  repeat' split
  all_goals first | rfl | skip
  rename_i h1 h2 h3 h4 h5
  rw [if_neg h1, if_neg h2, if_neg h3, if_neg h4, if_neg h5] at h
  exact (h rfl).elim
theorem wrapR_no {s : List UInt8} {mp md : Int} (h : (wrapR s mp md).2.2 ≠ 0) : (wrapR s mp md).1 = [] ∧ (wrapR s mp md).2.1 = ms0 := by
  unfold wrapR at h ⊢
  repeat' split
  all_goals first | exact ⟨rfl, rfl⟩ | skip
  rename_i h1 h2 h3 h4 h5
  rw [if_neg h1, if_neg h2, if_neg h3, if_neg h4, if_neg h5] at h
  exact (h rfl).elim
theorem wrapR_bytes {hs : List Hp} {m : Ms} {mp md : Int} (h : (wrapB hs m mp md).2 = 0) : wrapR (wrapB hs m mp md).1 mp md = (hs, m, 0) := by
  obtain ⟨h1, h2, h3, h4, h5, e⟩ := wrapB_ok h
  rw [e]
  simp only
  have hr := hopsR_all hs 4 ((bytesM m).1) h3 h2
  have hk := kind_msg h4 (4 - hs.length) []
  rw [List.append_nil] at hk
  rw [hk] at hr
  simp only [List.append_nil] at hr
  have hm := readM_bytes h4 []
  rw [List.append_nil] at hm
  unfold wrapR
  rw [if_neg (by simp [h1]), if_neg (by omega), hr]
  simp only
  rw [if_neg (by simp), hm]
  simp
theorem wrapR_more {hs : List Hp} {m : Ms} {mp md : Int} (h : (wrapB hs m mp md).2 = 0) (c : UInt8) (mq : Int) (hq : limOk mq md = true) :
    (wrapR ((wrapB hs m mp md).1 ++ [c]) mq md).2.2 = 4 ∨ (wrapR ((wrapB hs m mp md).1 ++ [c]) mq md).2.2 = 5 := by
  obtain ⟨h1, h2, h3, h4, h5, e⟩ := wrapB_ok h
  rw [e]
  simp only
  rw [List.append_assoc]
  have hr := hopsR_all hs 4 ((bytesM m).1 ++ [c]) h3 h2
  rw [kind_msg h4 (4 - hs.length) [c]] at hr
  simp only [List.append_nil] at hr
  have hm := readM_bytes h4 [c]
  unfold wrapR
  rw [if_neg (by simp [hq])]
  by_cases h6 : mq < ((hopsL hs ++ ((bytesM m).1 ++ [c])).length : Int)
  · rw [if_pos h6]; exact .inl rfl
  right
  rw [if_neg h6, hr]
  simp only
  rw [if_neg (by simp), hm]
  simp only
  rw [if_neg (by simp), if_pos (by rw [List.length_append, List.length_singleton]; omega)]
theorem hops_cut {m : Ms} (h4 : checkM m = 0) : ∀ (hs : List Hp) (k j : Nat), hs.all hopOk = true → hs.length ≤ k → j < (hopsL hs ++ (bytesM m).1).length →
    (hopsR k ((hopsL hs ++ (bytesM m).1).take j)).2.2 = 3 ∨ ((hopsR k ((hopsL hs ++ (bytesM m).1).take j)).2.2 = 0 ∧ (readM (hopsR k ((hopsL hs ++ (bytesM m).1).take j)).2.1).2.2 = 3)
  | [], k, j, _, _, hj => by
    simp only [hopsL, List.flatMap_nil, List.nil_append] at hj ⊢
    rcases hopsR_msgcut h4 k j hj with h | h
    · exact .inl h
    · right; rw [h]; exact ⟨rfl, by rw [readM_cut h4 j hj]⟩
  | h :: hs, 0, j, _, hl, _ => by simp at hl
  | h :: hs, k + 1, j, ha, hl, hj => by
    simp only [List.all_cons, Bool.and_eq_true] at ha
    rw [hopsL_cons, List.append_assoc] at hj ⊢
    by_cases hj1 : j < (hopL h).length
    · left
      rw [List.take_append_of_le_length (Nat.le_of_lt hj1)]
      exact hopsR_hopcut ha.1 k j hj1
    · rw [List.take_append, List.take_of_length_le (by omega), hopsR_hop ha.1]
      exact hops_cut h4 hs k (j - (hopL h).length) ha.2 (by simpa using hl) (by rw [List.length_append] at hj; omega)
theorem wrapR_cut {hs : List Hp} {m : Ms} {mp md : Int} (h : (wrapB hs m mp md).2 = 0) (mq : Int) (hq : limOk mq md = true) (hqq : mp ≤ mq) (j : Nat) (hj : j < (wrapB hs m mp md).1.length) :
    wrapR ((wrapB hs m mp md).1.take j) mq md = ([], ms0, 3) := by
  obtain ⟨h1, h2, h3, h4, h5, e⟩ := wrapB_ok h
  rw [e] at hj ⊢
  simp only at hj ⊢
  have hc := hops_cut h4 hs 4 j h3 h2 hj
  unfold wrapR
  rw [if_neg (by simp [hq]), if_neg (by rw [List.length_take]; omega)]
  rcases hc with hc | ⟨hc, hd⟩
  · rw [if_pos (by rw [hc]; decide), hc]
  · rw [if_neg (by rw [hc]; decide), if_pos (by rw [hd]; decide), hd]
/-- What is read is written the same. -/
theorem hop_back {s : List UInt8} (h : (snR s).2.2.2 = 0) (h1 : (snR s).1 = 254) {k : Nat} (h2 : hopE k s = 0) : hopOk (hopOf s) = true ∧ s = hopL (hopOf s) ++ s.drop (snR s).2.2.1.toNat := by
  rcases snR_cases s with he | ⟨k', i, l, hs, hkn, hhl, hl65, hht, hx⟩
  · exact (he h).elim
  rw [hs] at h1 ⊢
  simp only at h1
  subst h1
  unfold hopE at h2
  rw [hs] at h2
  simp only at h2
  by_cases hk : k = 0
  · rw [if_pos hk] at h2; cases h2
  rw [if_neg hk] at h2
  by_cases h3 : (i : Int) ≠ 2 ∨ (l : Int) ≤ 3 ∨ 35 < (l : Int)
  · rw [if_pos h3] at h2; cases h2
  rw [if_neg h3] at h2
  by_cases h5 : (s.length : Int) < l
  · rw [if_pos h5] at h2; cases h2
  rw [if_neg h5] at h2
  by_cases h6 : 3 < num s 2 1
  · rw [if_pos h6] at h2; cases h2
  have hi : i = 2 := by omega
  subst hi
  have hx1 : 254 = num s 1 1 ∧ (l : Int) = num s 0 1 := by
    rcases hx with ⟨-, a, b, -⟩ | ⟨a, -⟩
    · exact ⟨a, b⟩
    · omega
  have hn := num_one s 2
  have hnode : (hopOf s).node.length = l - 3 := by unfold hopOf; rw [hs]; simp; omega
  have hrad : (hopOf s).rad = num s 2 1 := rfl
  have ok : hopOk (hopOf s) = true := by
    simp only [hopOk, decide_eq_true_eq]
    rw [hnode, hrad]
    omega
  refine ⟨ok, ?_⟩
  have p1 : ∀ x : UInt8, putL (x.toNat : Int) 1 = [x] := fun x => by have := putL_getL [x] 1 (.inl ⟨rfl, rfl⟩); rwa [show getL [x] = (x.toNat : Int) from getB_one x] at this
  match s, (by omega : 3 < s.length) with
  | a :: b :: c :: r, _ =>
    have n0 : num (a :: b :: c :: r) 0 1 = a.toNat := getB_one a
    have n1 : num (a :: b :: c :: r) 1 1 = b.toNat := getB_one b
    have n2 : num (a :: b :: c :: r) 2 1 = c.toNat := getB_one c
    rw [n0, n1] at hx1
    have e1 : putL (3 + ((hopOf (a :: b :: c :: r)).node.length : Int)) 1 = [a] := by
      rw [hnode, show (3 : Int) + ((l - 3 : Nat) : Int) = a.toNat by omega, p1]
    have e2 : putL 254 1 = [b] := by rw [hx1.1, p1]
    have e3 : putL (hopOf (a :: b :: c :: r)).rad 1 = [c] := by rw [hrad, n2, p1]
    unfold hopL
    rw [e1, e2, e3]
    have e4 : (hopOf (a :: b :: c :: r)).node = r.take (l - 3) := by
      unfold hopOf
      rw [hs]
      simp only [Int.toNat_natCast]
      rw [show l = (l - 3) + 3 by omega]
      simp only [List.take_succ_cons, List.drop_succ_cons, List.drop_zero, Nat.add_sub_cancel]
    rw [e4]
    simp only [Int.toNat_natCast]
    rw [show l = (l - 3) + 3 by omega]
    simp only [List.drop_succ_cons, Nat.add_sub_cancel]
    simp
theorem hopsR_back : ∀ (k : Nat) (s : List UInt8), (hopsR k s).2.2 = 0 → (hopsR k s).1.length ≤ k ∧ (hopsR k s).1.all hopOk = true ∧ s = hopsL (hopsR k s).1 ++ (hopsR k s).2.1
  | k, s, h => by
    by_cases h1 : (snR s).2.2.2 ≠ 0
    · rw [hopsR_err h1] at h; exact (h1 h).elim
    have h1 : (snR s).2.2.2 = 0 := by simpa using h1
    by_cases h2 : (snR s).1 ≠ 254
    · rw [hopsR_end h1 h2]; exact ⟨Nat.zero_le _, rfl, rfl⟩
    have h2 : (snR s).1 = 254 := by simpa using h2
    by_cases h3 : hopE k s ≠ 0
    · rw [hopsR_bad h1 h2 h3] at h; exact (h3 h).elim
    have h3 : hopE k s = 0 := by simpa using h3
    match k, h, h3 with
    | 0, h, h3 => unfold hopE at h3; rw [if_pos rfl] at h3; cases h3
    | k + 1, h, h3 =>
      rw [hopsR_go h1 h2 h3] at h ⊢
      simp only at h ⊢
      obtain ⟨i1, i2, i3⟩ := hopsR_back k _ h
      obtain ⟨b1, b2⟩ := hop_back h1 h2 h3
      refine ⟨by simp; exact i1, by simp only [List.all_cons, Bool.and_eq_true]; exact ⟨b1, i2⟩, ?_⟩
      rw [hopsL_cons, List.append_assoc, ← i3]
      exact b2
theorem wrapR_back {s : List UInt8} {mp md : Int} (h : (wrapR s mp md).2.2 = 0) : wrapB (wrapR s mp md).1 (wrapR s mp md).2.1 mp md = (s, 0) := by
  unfold wrapR at h ⊢
  by_cases h1 : limOk mp md = false
  · rw [if_pos h1] at h; cases h
  rw [if_neg h1] at h ⊢
  by_cases h2 : mp < (s.length : Int)
  · rw [if_pos h2] at h; cases h
  rw [if_neg h2] at h ⊢
  by_cases h3 : (hopsR 4 s).2.2 ≠ 0
  · rw [if_pos h3] at h; exact (h3 h).elim
  rw [if_neg h3] at h ⊢
  by_cases h4 : (readM (hopsR 4 s).2.1).2.2 ≠ 0
  · rw [if_pos h4] at h; exact (h4 h).elim
  rw [if_neg h4] at h ⊢
  by_cases h5 : (readM (hopsR 4 s).2.1).2.1 ≠ ((hopsR 4 s).2.1.length : Int)
  · rw [if_pos h5] at h; cases h
  rw [if_neg h5]
  simp only
  obtain ⟨a1, a2, a3⟩ := hopsR_back 4 s (by simpa using h3)
  obtain ⟨b1, b2, b3, b4⟩ := readM_back (s := (hopsR 4 s).2.1) (by simpa using h4)
  have h5 : (readM (hopsR 4 s).2.1).2.1 = ((hopsR 4 s).2.1.length : Int) := by simpa using h5
  rw [h5] at b4
  simp only [Int.toNat_natCast, List.take_length] at b4
  have e : hopsL (hopsR 4 s).1 ++ (bytesM (readM (hopsR 4 s).2.1).1).1 = s := by rw [b4]; exact a3.symm
  rw [wrapB_of (by simpa using h1) a1 a2 b1 (by rw [e]; omega), e]
end Go.Proofs.YtbacnaplpfmpnaaGreatDoor
