/- Topics, plain: levels, names, filters, matching. No Go in sight. Topics, plain: what is within what; levels replaced; shared filters. Topics, plain: within is transitive, reflexive; of a name it is matching. Levels replaced: what is joined is valid text. Topics, plain: levels replaced by wildcards; shared filters. Topics, plain: the library's words (split, join, cut, prefixes) are ours; shared filters. -/
import Derived.Test.YtanofjmkkhocaaaGreatDoorUstA
import Derived.Lib.Split
import Derived.Lib.SplitLaws
import Derived.Lib.Join
import Derived.Lib.Strings
import Derived.Lib.IndexAny
set_option linter.unusedVariables false
set_option linter.unusedSimpArgs false
namespace Go.Proofs.YtanofjmkkhocaaaGreatDoor
def splitS : List UInt8 → List (List UInt8)
 | [] => [[]]
 | c :: r => if c = 47 then [] :: splitS r else (c :: (splitS r).headD []) :: (splitS r).tail
theorem splitS_step (c : UInt8) (r : List UInt8) : splitS (c :: r) = if c = 47 then [] :: splitS r else (c :: (splitS r).headD []) :: (splitS r).tail := rfl
def joinS : List (List UInt8) → List UInt8
 | [] => []
 | [a] => a
 | a :: b :: r => a ++ 47 :: joinS (b :: r)
def noSlash (l : List UInt8) : Bool := !l.any (· == 47)
def hasWild (l : List UInt8) : Bool := l.any fun c => c == 43 || c == 35
def textB (s : List UInt8) : Bool := !s.isEmpty && vld s
def nameB (s : List UInt8) : Bool := textB s && !hasWild s
def wildB (l : List UInt8) : Bool := l == [43] || l == [35]
def levelsB : List (List UInt8) → Bool
 | [] => true
 | s :: r => !(s == [35] && !r.isEmpty) && !(!wildB s && hasWild s) && levelsB r
def filterB (s : List UInt8) : Bool := textB s && levelsB (splitS s)
theorem splitS_ne (s : List UInt8) : splitS s ≠ [] := by
 cases s with
 | nil => simp [splitS]
 | cons c r => unfold splitS; split <;> simp
theorem splitS_cons (s : List UInt8) : ∃ h t, splitS s = h :: t := by
 cases h : splitS s with
 | nil => exact absurd h (splitS_ne s)
 | cons a b => exact ⟨a, b, rfl⟩
theorem join_split (s : List UInt8) : joinS (splitS s) = s := by
 induction s with
 | nil => rfl
 | cons c r ih =>
  unfold splitS
  obtain ⟨h, t, e⟩ := splitS_cons r
  split
  ·rename_i hc
   rw [e] at ih ⊢
   show [] ++ 47 :: joinS (h :: t) = _
   rw [ih, hc]; rfl
  ·rw [e] at ih ⊢
   cases t with
   | nil =>
    have ih' : h = r := ih
    simp [joinS, ih']
   | cons b t =>
    have ih' : h ++ 47 :: joinS (b :: t) = r := ih
    show (c :: h) ++ 47 :: joinS (b :: t) = c :: r
    rw [← ih']; rfl
theorem splitS_app (a : List UInt8) (ha : noSlash a = true) (r : List UInt8) : splitS (a ++ 47 :: r) = a :: splitS r := by
 induction a with
 | nil => simp [splitS]
 | cons c a ih =>
  simp only [noSlash, List.any_cons, Bool.not_or, Bool.and_eq_true] at ha
  have hc : ¬ c = 47 := by have := ha.1; simpa using this
  have ih' := ih (by simpa [noSlash] using ha.2)
  show splitS (c :: (a ++ 47 :: r)) = _
  rw [splitS_step, if_neg hc, ih']
  rfl
theorem splitS_one (a : List UInt8) (ha : noSlash a = true) : splitS a = [a] := by
 induction a with
 | nil => rfl
 | cons c a ih =>
  simp only [noSlash, List.any_cons, Bool.not_or, Bool.and_eq_true] at ha
  have hc : ¬ c = 47 := by have := ha.1; simpa using this
  have ih' := ih (by simpa [noSlash] using ha.2)
  rw [splitS_step, if_neg hc, ih']
  rfl
theorem length_split (s : List UInt8) : (splitS s).length = (s.filter (· == 47)).length + 1 := by
 induction s with
 | nil => rfl
 | cons c r ih =>
  obtain ⟨h, t, e⟩ := splitS_cons r
  unfold splitS
  split
  ·rename_i hc; simp [hc, ih]
  ·rename_i hc; rw [e] at ih ⊢; simp [hc] at ih ⊢; exact ih
end Go.Proofs.YtanofjmkkhocaaaGreatDoor
namespace Go.Proofs.YtanofjmkkhocaaaGreatDoor
end Go.Proofs.YtanofjmkkhocaaaGreatDoor
namespace Go.Proofs.YtanofjmkkhocaaaGreatDoor
end Go.Proofs.YtanofjmkkhocaaaGreatDoor
namespace Go.Proofs.YtanofjmkkhocaaaGreatDoor
end Go.Proofs.YtanofjmkkhocaaaGreatDoor
namespace Go.Proofs.YtanofjmkkhocaaaGreatDoor
theorem index_slash (s : List UInt8) : (∃ i : Nat, Lib.index s [47] = (i : Int) ∧ i < s.length ∧ s = s.take i ++ 47 :: s.drop (i + 1) ∧ noSlash (s.take i) = true) ∨ (Lib.index s [47] = -1 ∧ noSlash s = true) := by
 induction s with
 | nil => exact .inr ⟨rfl, rfl⟩
 | cons c r ih =>
  by_cases hc : c = 47
  ·subst hc
   exact .inl ⟨0, by simp [Lib.index], by simp, by simp, rfl⟩
  ·have e : Lib.index (c :: r) [47] = if Lib.index r [47] == -1 then -1 else Lib.index r [47] + 1 := by
    have hp : List.isPrefixOf [47] (c :: r) = false := by
     simp [List.isPrefixOf]; exact fun h => hc h.symm
    rw [Lib.index, hp]; simp
   have hc' : (c == 47) = false := by simpa using hc
   rcases ih with ⟨i, h1, h2, h3, h4⟩ | ⟨h1, h2⟩
   ·refine .inl ⟨i + 1, ?_, by simp; omega, ?_, ?_⟩
    ·rw [e, h1, if_neg (by simp)]; simp
    ·rw [List.take_succ_cons, List.drop_succ_cons, List.cons_append, ← h3]
    ·rw [List.take_succ_cons]
     simp only [noSlash, List.any_cons, hc', Bool.false_or] at h4 ⊢
     exact h4
   ·refine .inr ⟨by rw [e, h1]; rfl, ?_⟩
    simp only [noSlash, List.any_cons, hc', Bool.false_or] at h2 ⊢
    exact h2
theorem count_noSlash {s : List UInt8} (h : noSlash s = true) : s.count 47 = 0 := by
 simp only [noSlash, Bool.not_eq_true', List.any_eq_false] at h
 rw [List.count_eq_zero]
 intro hm
 have := h 47 hm
 simp at this
theorem splitK_slash : ∀ (k : Nat) (s : List UInt8), s.count 47 = k → Lib.splitK [47] 0 k s = splitS s
 | 0, s, h => by
  rcases index_slash s with ⟨i, _, _, h3, _⟩ | ⟨_, h2⟩
  ·rw [h3] at h
   simp at h
  ·rw [splitS_one s h2]; rfl
 | k + 1, s, h => by
  rcases index_slash s with ⟨i, h1, h2, h3, h4⟩ | ⟨_, h2⟩
  ·unfold Lib.splitK
   have e1 : (Lib.index s [47]).toNat = i := by rw [h1]; rfl
   rw [if_neg (by rw [h1]; simp), e1]
   have hc : (s.drop (i + 1)).count 47 = k := by
    have h5 := congrArg (List.count (47 : UInt8)) h3
    rw [List.count_append, List.count_cons_self, count_noSlash h4, h] at h5
    omega
   show s.take (i + 0) :: Lib.splitK [47] 0 k (s.drop (i + 1)) = splitS s
   rw [splitK_slash k _ hc]
   conv => rhs; rw [h3]
   rw [splitS_app _ h4]; rfl
  ·rw [count_noSlash h2] at h; cases h
theorem split_slash (s : List UInt8) : Lib.splitK [47] 0 (Lib.count s [47]) s = splitS s := splitK_slash _ s (by rw [Lib.count_one])
theorem count_slash (s : List UInt8) : Lib.count s [47] + 1 = (splitS s).length := by
 rw [Lib.count_one, length_split, List.count_eq_length_filter]
theorem anyL_eq : ∀ (s : List UInt8), Lib.containsAny s [43, 35] = hasWild s
 | [] => rfl
 | c :: r => by
  have ih := anyL_eq r
  have hge := Lib.indexAny_ge [43, 35] r
  unfold Lib.containsAny at ih ⊢
  rw [Lib.indexAny]
  by_cases hc : [43, 35].contains c = true
  ·have : hasWild (c :: r) = true := by
    simp [hasWild] at hc ⊢
    rcases hc with hc | hc
    ·exact .inl (.inl hc)
    ·exact .inl (.inr hc)
   simp only [hc, if_true, this]; rfl
  ·have h0 : ([43, 35].contains c) = false := by simpa using hc
   have hw : hasWild (c :: r) = hasWild r := by simp [hasWild] at h0 ⊢; simp [h0]
   rw [hw, ← ih]
   simp only [h0]
   by_cases h1 : Lib.indexAny r [43, 35] = -1
   ·rw [h1]; rfl
   ·simp [h1]; omega
end Go.Proofs.YtanofjmkkhocaaaGreatDoor
