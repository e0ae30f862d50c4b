/- Topics, plain: the library's words (split, join, cut, prefixes) are ours; shared filters. -/
import Derived.Test.YtbacnaplpfmpnaaDoorTopD
import Derived.Lib.Split
import Derived.Lib.SplitLaws
import Derived.Lib.Join
import Derived.Lib.Strings
import Derived.Lib.IndexAny
namespace Go.Proofs.YtbacnaplpfmpnaaDoor
set_option linter.unusedVariables false

theorem index_slash (s : List UInt8) : (∃ i : Nat, Lib.index s [47] = (i : Int) ∧ i < s.length ∧ s = s.take i ++ 47 :: s.drop (i + 1) ∧ noSlash (s.take i) = true) ∨ (Lib.index s [47] = -1 ∧ noSlash s = true) := by
  induction s with
  | nil => exact .inr ⟨rfl, rfl⟩
  | cons c r ih =>
    by_cases hc : c = 47
    · subst hc
      exact .inl ⟨0, by simp [Lib.index], by simp, by simp, rfl⟩
    · have e : Lib.index (c :: r) [47] = if Lib.index r [47] == -1 then -1 else Lib.index r [47] + 1 := by
        have hp : List.isPrefixOf [47] (c :: r) = false := by
          simp [List.isPrefixOf]; exact fun h => hc h.symm
        rw [Lib.index, hp]; simp
      have hc' : (c == 47) = false := by simpa using hc
      rcases ih with ⟨i, h1, h2, h3, h4⟩ | ⟨h1, h2⟩
      · refine .inl ⟨i + 1, ?_, by simp; omega, ?_, ?_⟩
        · rw [e, h1, if_neg (by simp)]; simp
        · rw [List.take_succ_cons, List.drop_succ_cons, List.cons_append, ← h3]
        · rw [List.take_succ_cons]
          simp only [noSlash, List.any_cons, hc', Bool.false_or] at h4 ⊢
          exact h4
      · refine .inr ⟨by rw [e, h1]; rfl, ?_⟩
        simp only [noSlash, List.any_cons, hc', Bool.false_or] at h2 ⊢
        exact h2
theorem count_noSlash {s : List UInt8} (h : noSlash s = true) : s.count 47 = 0 := by
  simp only [noSlash, Bool.not_eq_true', List.any_eq_false] at h
  rw [List.count_eq_zero]
  intro hm
  have := h 47 hm
  simp at this
theorem splitK_slash : ∀ (k : Nat) (s : List UInt8), s.count 47 = k → Lib.splitK [47] 0 k s = splitS s
  | 0, s, h => by
    rcases index_slash s with ⟨i, _, _, h3, _⟩ | ⟨_, h2⟩
    · rw [h3] at h
      simp at h
    · rw [splitS_one s h2]; rfl
  | k + 1, s, h => by
    rcases index_slash s with ⟨i, h1, h2, h3, h4⟩ | ⟨_, h2⟩
    · unfold Lib.splitK
      have e1 : (Lib.index s [47]).toNat = i := by rw [h1]; rfl
      rw [if_neg (by rw [h1]; simp), e1]
      have hc : (s.drop (i + 1)).count 47 = k := by
        have h5 := congrArg (List.count (47 : UInt8)) h3
        rw [List.count_append, List.count_cons_self, count_noSlash h4, h] at h5
        omega
      show s.take (i + 0) :: Lib.splitK [47] 0 k (s.drop (i + 1)) = splitS s
      rw [splitK_slash k _ hc]
      conv => rhs; rw [h3]
      rw [splitS_app _ h4]; rfl
    · rw [count_noSlash h2] at h; cases h
theorem split_slash (s : List UInt8) : Lib.splitK [47] 0 (Lib.count s [47]) s = splitS s := splitK_slash _ s (by rw [Lib.count_one])
theorem count_slash (s : List UInt8) : Lib.count s [47] + 1 = (splitS s).length := by
  rw [Lib.count_one, length_split, List.count_eq_length_filter]
theorem join_slash : ∀ (ls : List (List UInt8)), Lib.join ls [47] = joinS ls
  | [] => rfl
  | [a] => Lib.join_one a [47]
  | a :: b :: r => by
    have ih := join_slash (b :: r)
    rw [Lib.join_cons] at ih ⊢
    show a ++ ([47] ++ b ++ Lib.joinTail [47] r) = a ++ 47 :: joinS (b :: r)
    rw [← ih]; simp
theorem cut_slash (s : List UInt8) : (∃ g f, Lib.cut s [47] = (g, f, true) ∧ s = g ++ 47 :: f ∧ noSlash g = true) ∨ (Lib.cut s [47] = (s, [], false) ∧ noSlash s = true) := by
  rcases index_slash s with ⟨i, h1, h2, h3, h4⟩ | ⟨h1, h2⟩
  · refine .inl ⟨s.take i, s.drop (i + 1), ?_, h3, h4⟩
    unfold Lib.cut
    rw [if_pos (by omega), h1]; rfl
  · refine .inr ⟨?_, h2⟩
    unfold Lib.cut
    rw [if_neg (by omega)]
theorem cut_app {g : List UInt8} (f : List UInt8) (hg : noSlash g = true) : Lib.cut (g ++ 47 :: f) [47] = (g, f, true) := by
  rcases cut_slash (g ++ 47 :: f) with ⟨g', f', e, h, hg'⟩ | ⟨_, h⟩
  · have e1 := splitS_app g hg f
    have e2 := splitS_app g' hg' f'
    rw [← h, e1] at e2
    have hgg : g = g' := (List.cons.inj e2).1
    subst hgg
    have := List.append_cancel_left h
    rw [e, (List.cons.inj this).2]
  · simp [noSlash] at h
theorem anyL_eq : ∀ (s : List UInt8), Lib.containsAny s [43, 35] = hasWild s
  | [] => rfl
  | c :: r => by
    have ih := anyL_eq r
    have hge := Lib.indexAny_ge [43, 35] r
    unfold Lib.containsAny at ih ⊢
    rw [Lib.indexAny]
    by_cases hc : [43, 35].contains c = true
    · have : hasWild (c :: r) = true := by
        simp [hasWild] at hc ⊢
        rcases hc with hc | hc
        · exact .inl (.inl hc)
        · exact .inl (.inr hc)
      simp only [hc, if_true, this]; rfl
    · have h0 : ([43, 35].contains c) = false := by simpa using hc
      have hw : hasWild (c :: r) = hasWild r := by simp [hasWild] at h0 ⊢; simp [h0]
      rw [hw, ← ih]
      simp only [h0]
      by_cases h1 : Lib.indexAny r [43, 35] = -1
      · rw [h1]; rfl
      · simp [h1]; omega

/-- '$share/'. -/
def shareP : List UInt8 := [36, 115, 104, 97, 114, 101, 47]
/-- What topic.Shared returns. -/
def sharedF (s : List UInt8) : List UInt8 × List UInt8 × Bool :=
  let c := Lib.cut (Lib.trimPrefix s shareP) [47]
  if Lib.hasPrefix s shareP && (c.2.2 && (vld s && (nameB c.1 && filterB c.2.1))) then (c.1, c.2.1, true) else ([], [], false)
theorem prefix_share (s : List UInt8) : (Lib.hasPrefix s shareP = true ∧ s = shareP ++ Lib.trimPrefix s shareP) ∨ Lib.hasPrefix s shareP = false := by
  cases h : Lib.hasPrefix s shareP with
  | false => exact .inr rfl
  | true =>
    refine .inl ⟨rfl, ?_⟩
    unfold Lib.trimPrefix
    rw [if_pos h]
    have h' : shareP.isPrefixOf s = true := h
    obtain ⟨t, ht⟩ := List.isPrefixOf_iff_prefix.1 h'
    rw [← ht]; simp
theorem shared_inv {s g f : List UInt8} (h : sharedF s = (g, f, true)) : s = shareP ++ (g ++ 47 :: f) ∧ g ≠ [] ∧ filterB f = true ∧ vld s = true ∧ nameB g = true ∧ noSlash g = true := by
  unfold sharedF at h
  simp only at h
  split at h
  · rename_i hc
    simp only [Bool.and_eq_true] at hc
    obtain ⟨h1, h2, h3, h4, h5⟩ := hc
    rcases prefix_share s with ⟨_, e⟩ | e
    · rcases cut_slash (Lib.trimPrefix s shareP) with ⟨g', f', e1, e2, e3⟩ | ⟨e1, _⟩
      · rw [e1] at h h4 h5
        simp only [Prod.mk.injEq, and_true] at h
        obtain ⟨rfl, rfl⟩ := h
        refine ⟨by rw [← e2]; exact e, ?_, h5, h3, h4, e3⟩
        exact (textB_parts (name_parts h4).1).1
      · rw [e1] at h2; cases h2
    · rw [h1] at e; cases e
  · simp at h
theorem shared_cases (s : List UInt8) : (∃ g f, sharedF s = (g, f, true)) ∨ sharedF s = ([], [], false) := by
  unfold sharedF
  simp only
  split
  · exact .inl ⟨_, _, rfl⟩
  · exact .inr rfl
theorem bd_share : bd shareP = none := by decide +kernel
theorem trim_share (r : List UInt8) : Lib.trimPrefix (shareP ++ r) shareP = r ∧ Lib.hasPrefix (shareP ++ r) shareP = true := by
  have h : Lib.hasPrefix (shareP ++ r) shareP = true := by
    show shareP.isPrefixOf (shareP ++ r) = true
    rw [List.isPrefixOf_iff_prefix]; exact List.prefix_append _ _
  refine ⟨?_, h⟩
  unfold Lib.trimPrefix
  rw [if_pos h]; simp
/-- A group without a slash, and a filter. -/
theorem shared_of {a b : List UInt8} (ha : noSlash a = true) (hal : a.length ≤ 200) (hbl : b.length ≤ 200) : sharedF (shareP ++ (a ++ 47 :: b)) = if nameB a && filterB b then (a, b, true) else ([], [], false) := by
  unfold sharedF
  obtain ⟨e1, e2⟩ := trim_share (a ++ 47 :: b)
  rw [e1, e2, cut_app b ha]
  simp only [Bool.true_and]
  by_cases h : nameB a = true ∧ filterB b = true
  · have hv : vld (shareP ++ (a ++ 47 :: b)) = true := by
      have q1 := (textB_parts (name_parts h.1).1).2.2
      have q2 := (textB_parts (filterB_parts h.2).1).2.2
      have q3 : bd (shareP ++ (a ++ 47 :: b)) = none := by rw [bd_append _ _ bd_share, bd_glue q1 q2]; rfl
      unfold vld
      rw [q3]; simp [shareP]; omega
    rw [hv, h.1, h.2]; rfl
  · have h' : (nameB a && filterB b) = false := by
      cases q : (nameB a && filterB b) with
      | false => rfl
      | true => simp only [Bool.and_eq_true] at q; exact absurd q h
    rw [h']; simp
theorem one_level (a : List UInt8) : (splitS a).length = 1 ↔ noSlash a = true := by
  constructor
  · intro h
    obtain ⟨x, t, e⟩ := splitS_cons a
    rw [e] at h
    simp at h
    subst h
    have hj := join_split a
    rw [e] at hj
    have : x = a := hj
    subst this
    exact noSlash_split x x (by rw [e]; simp)
  · intro h; rw [splitS_one a h]; rfl
end Go.Proofs.YtbacnaplpfmpnaaDoor
