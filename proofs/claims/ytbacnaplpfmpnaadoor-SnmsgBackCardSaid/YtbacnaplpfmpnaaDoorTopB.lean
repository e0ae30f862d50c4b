/- Topics, plain: what is within what; levels replaced; shared filters. -/
import Derived.Test.YtbacnaplpfmpnaaDoorTopA
namespace Go.Proofs.YtbacnaplpfmpnaaDoor
set_option linter.unusedVariables false

theorem matchL_cons (f : List UInt8) (fs n : List (List UInt8)) : matchL (f :: fs) n = (f == [35] || match n with | [] => false | x :: xs => (f == [43] || f == x) && matchL fs xs) := rfl
/-- A valid filter has no level that only stands for 'anything'. -/
theorem no_fresh {ls : List (List UInt8)} (h : levelsB ls = true) : ∀ l ∈ ls, l ≠ freshL := by
  induction ls with
  | nil => intro l hl; simp at hl
  | cons s r ih =>
    unfold levelsB at h
    simp only [Bool.and_eq_true, Bool.not_eq_true'] at h
    intro l hl
    rcases List.mem_cons.1 hl with rfl | hl
    · rintro rfl
      have := h.1.2
      simp [wildB, hasWild, freshL] at this
    · exact ih h.2 l hl
/-- '#' stands last. -/
theorem hash_last {ls : List (List UInt8)} (h : levelsB ls = true) : ∀ a b, ls = a ++ [35] :: b → b = [] := by
  induction ls with
  | nil => intro a b e; simp at e
  | cons s r ih =>
    unfold levelsB at h
    simp only [Bool.and_eq_true, Bool.not_eq_true'] at h
    intro a b e
    cases a with
    | nil =>
      simp at e
      obtain ⟨rfl, rfl⟩ := e
      have := h.1.1
      simpa using this
    | cons c a =>
      simp at e
      exact ih h.2 a b e.2

/-- What matches the names made of n matches whatever n matches: n without '#'. -/
theorem sound_plain : ∀ (f n x : List (List UInt8)), (∀ l ∈ f, l ≠ freshL) → (∀ l ∈ n, l ≠ [35]) → matchL f (madeL n) = true → matchL n x = true → matchL f x = true
  | [], n, x, _, _, h, hx => by
    cases n with
    | nil => exact hx
    | cons l n => simp [matchL, madeL] at h
  | f :: fs, n, x, hf, hn, h, hx => by
    rw [matchL_cons] at h ⊢
    by_cases hh : f = [35]
    · simp [hh]
    have hh' : (f == [35]) = false := beq_eq_false_iff_ne.2 hh
    rw [hh', Bool.false_or] at h ⊢
    cases n with
    | nil => simp [madeL] at h
    | cons l n =>
      have hl : (l == [35]) = false := beq_eq_false_iff_ne.2 (hn l (by simp))
      rw [matchL_cons, hl, Bool.false_or] at hx
      cases x with
      | nil => simp at hx
      | cons y ys =>
        simp only [Bool.and_eq_true, Bool.or_eq_true, beq_iff_eq] at hx
        simp only [madeL, List.map_cons, Bool.and_eq_true, Bool.or_eq_true, beq_iff_eq] at h ⊢
        obtain ⟨h1, h2⟩ := h
        refine ⟨?_, sound_plain fs n ys (fun z hz => hf z (List.mem_cons_of_mem _ hz)) (fun z hz => hn z (List.mem_cons_of_mem _ hz)) h2 hx.2⟩
        rcases h1 with h1 | h1
        · exact .inl h1
        · by_cases hp : l = [43]
          · rw [if_pos hp] at h1
            exact absurd h1 (hf f (by simp))
          · rw [if_neg hp] at h1
            rcases hx.1 with q | q
            · exact absurd q hp
            · exact .inr (h1.trans q)
theorem matchL_app_hash : ∀ (n : List (List UInt8)), (∀ l ∈ n, l ≠ [35]) → ∀ x, matchL (n ++ [[35]]) x = true ↔ ∃ y z, x = y ++ z ∧ matchL n y = true
  | [], _, x => by
    constructor
    · intro _; exact ⟨[], x, rfl, rfl⟩
    · intro _; rfl
  | l :: n, hn, x => by
    have hl : (l == [35]) = false := beq_eq_false_iff_ne.2 (hn l (by simp))
    have ih := matchL_app_hash n (fun z hz => hn z (List.mem_cons_of_mem _ hz))
    rw [List.cons_append, matchL_cons, hl, Bool.false_or]
    cases x with
    | nil =>
      constructor
      · intro h; simp at h
      · rintro ⟨y, z, e, h⟩
        cases y with
        | nil => rw [matchL_cons, hl] at h; simp at h
        | cons a b => simp at e
    | cons a b =>
      simp only [Bool.and_eq_true]
      rw [ih b]
      constructor
      · rintro ⟨h1, y, z, rfl, h2⟩
        refine ⟨a :: y, z, rfl, ?_⟩
        rw [matchL_cons, hl, Bool.false_or]
        simp only [Bool.and_eq_true]
        exact ⟨h1, h2⟩
      · rintro ⟨y, z, e, h⟩
        cases y with
        | nil => rw [matchL_cons, hl] at h; simp at h
        | cons c y =>
          simp at e
          obtain ⟨rfl, rfl⟩ := e
          rw [matchL_cons, hl, Bool.false_or] at h
          simp only [Bool.and_eq_true] at h
          exact ⟨h.1, y, z, rfl, h.2⟩
/-- What matches n with one and with two levels behind it has '#', and matches whatever begins as n and goes on. -/
theorem sound_deep : ∀ (f n y z : List (List UInt8)), (∀ l ∈ f, l ≠ freshL) → (∀ l ∈ n, l ≠ [35]) → matchL f (madeL n ++ [freshL]) = true → matchL f (madeL n ++ [freshL, freshL]) = true → matchL n y = true → z ≠ [] → matchL f (y ++ z) = true
  | [], n, y, z, _, _, h, _, _, _ => by simp [matchL] at h
  | f :: fs, n, y, z, hf, hn, h, h2, hy, hz => by
    rw [matchL_cons] at h h2 ⊢
    by_cases hh : f = [35]
    · simp [hh]
    have hh' : (f == [35]) = false := beq_eq_false_iff_ne.2 hh
    rw [hh', Bool.false_or] at h h2 ⊢
    cases n with
    | nil =>
      obtain rfl : y = [] := by cases y with | nil => rfl | cons a b => simp [matchL] at hy
      simp only [madeL, List.map_nil, List.nil_append, Bool.and_eq_true, Bool.or_eq_true, beq_iff_eq] at h h2
      have hp : f = [43] := by
        rcases h.1 with q | q
        · exact q
        · exact absurd q (hf f (by simp))
      cases z with
      | nil => exact absurd rfl hz
      | cons a b =>
        simp only [List.nil_append, Bool.and_eq_true, Bool.or_eq_true, beq_iff_eq]
        refine ⟨.inl hp, ?_⟩
        -- fs matches [] and [fresh]
        have a1 := h.2
        have a2 := h2.2
        cases fs with
        | nil => simp [matchL] at a2
        | cons g gs =>
          rw [matchL_cons] at a1 ⊢
          simp only [Bool.or_false] at a1
          rw [a1]; rfl
    | cons l n =>
      have hl : (l == [35]) = false := beq_eq_false_iff_ne.2 (hn l (by simp))
      rw [matchL_cons, hl, Bool.false_or] at hy
      cases y with
      | nil => simp at hy
      | cons a b =>
        simp only [Bool.and_eq_true, Bool.or_eq_true, beq_iff_eq] at hy
        simp only [madeL, List.map_cons, List.cons_append, Bool.and_eq_true, Bool.or_eq_true, beq_iff_eq] at h h2 ⊢
        refine ⟨?_, sound_deep fs n b z (fun q hq => hf q (List.mem_cons_of_mem _ hq)) (fun q hq => hn q (List.mem_cons_of_mem _ hq)) h.2 h2.2 hy.2 hz⟩
        rcases h.1 with h1 | h1
        · exact .inl h1
        · by_cases hp : l = [43]
          · rw [if_pos hp] at h1
            exact absurd h1 (hf f (by simp))
          · rw [if_neg hp] at h1
            rcases hy.1 with q | q
            · exact absurd q hp
            · exact .inr (h1.trans q)
theorem deep_split {n : List (List UInt8)} (h : deepB n = true) : n = n.dropLast ++ [[35]] := by
  simp only [deepB, beq_iff_eq] at h
  have hne : n ≠ [] := by rintro rfl; simp at h
  have h2 := List.dropLast_concat_getLast hne
  rw [List.getLast?_eq_some_getLast hne] at h
  injection h with h
  rw [h] at h2
  exact h2.symm
theorem plain_levels {n : List (List UInt8)} (h : levelsB n = true) (hd : deepB n = false) : ∀ l ∈ n, l ≠ [35] := by
  rintro l hl rfl
  obtain ⟨a, b, e⟩ := List.append_of_mem hl
  have hb := hash_last h a b e
  subst hb
  rw [e] at hd
  simp [deepB] at hd
theorem drop_levels {n : List (List UInt8)} (h : levelsB n = true) (hd : deepB n = true) : ∀ l ∈ n.dropLast, l ≠ [35] := by
  rintro l hl rfl
  obtain ⟨a, b, e⟩ := List.append_of_mem hl
  have e2 := deep_split hd
  rw [e] at e2
  have := hash_last h a (b ++ [[35]]) (by rw [e2]; simp)
  simp at this
theorem dollar_made {n x : List (List UInt8)} (hn : n ≠ []) (hm : ∃ z, matchL (n ++ z) x = true) (h35 : n.headD [] ≠ [35]) (hd : (wildB (n.headD []) && dollarB (x.headD [])) = false) : dollarB (x.headD []) = true → dollarB ((madeL n).headD []) = true := by
  intro hx
  cases n with
  | nil => exact absurd rfl hn
  | cons l n =>
    obtain ⟨z, hm⟩ := hm
    rw [List.cons_append, matchL_cons, show (l == [35]) = false from beq_eq_false_iff_ne.2 h35, Bool.false_or] at hm
    cases x with
    | nil => simp at hm
    | cons a b =>
      simp only [Bool.and_eq_true, Bool.or_eq_true, beq_iff_eq] at hm
      have hx' : dollarB a = true := hx
      have hw : wildB l = false := by
        cases hw : wildB l with
        | false => rfl
        | true => rw [List.headD_cons, List.headD_cons, hw, hx'] at hd; cases hd
      have hp : l ≠ [43] := by rintro rfl; simp [wildB] at hw
      rcases hm.1 with q | q
      · exact absurd q hp
      · show dollarB (if l = [43] then freshL else l) = true
        rw [if_neg hp, q]; exact hx'
/-- Within is sound: at any list of levels, not empty. -/
theorem within_sound {f n x : List (List UInt8)} (hf : levelsB f = true) (hn : levelsB n = true) (hn0 : n ≠ []) (hx0 : x ≠ []) (h : withinL f n = true) (hx : coversL n x = true) : coversL f x = true := by
  have nf := no_fresh hf
  simp only [coversL, Bool.and_eq_true, Bool.not_eq_true'] at hx
  obtain ⟨hx1, hx2⟩ := hx
  cases hd : deepB n with
  | false =>
    have hp := plain_levels hn hd
    unfold withinL at h
    rw [if_neg (by simp [hd])] at h
    simp only [coversL, Bool.and_eq_true, Bool.not_eq_true'] at h ⊢
    refine ⟨?_, sound_plain f n x nf hp h.2 hx2⟩
    cases hdx : dollarB (x.headD []) with
    | false => simp
    | true =>
      have h35 : n.headD [] ≠ [35] := hp _ (head_mem hn0)
      have := dollar_made hn0 ⟨[], by rw [List.append_nil]; exact hx2⟩ h35 hx1 hdx
      have h1 := h.1
      rw [this] at h1
      simpa using h1
  | true =>
    have hp := drop_levels hn hd
    have hs := deep_split hd
    unfold withinL at h
    rw [if_pos hd] at h
    simp only [Bool.and_eq_true] at h
    obtain ⟨⟨h1, h2⟩, h3⟩ := h
    obtain ⟨m, hm⟩ : ∃ m, m = n.dropLast := ⟨_, rfl⟩
    rw [← hm] at h1 h2 h3 hp hs
    rw [hs] at hx1 hx2
    obtain ⟨y, z, rfl, hy⟩ := (matchL_app_hash m hp x).1 hx2
    simp only [coversL, Bool.and_eq_true, Bool.not_eq_true'] at h2 h3 ⊢
    cases m with
    | nil =>
      obtain rfl : y = [] := by cases y with | nil => rfl | cons a b => simp [matchL] at hy
      have hz : z ≠ [] := by simpa using hx0
      refine ⟨?_, sound_deep f [] [] z nf (by simp) h2.2 h3.2 hy hz⟩
      have : dollarB (([] ++ z).headD []) = false := by
        cases hq : dollarB (([] ++ z).headD []) with
        | false => rfl
        | true => rw [hq] at hx1; simp [wildB] at hx1
      rw [this]; simp
    | cons l m =>
      have hmatch : matchL f (y ++ z) = true := by
        by_cases hz : z = []
        · subst hz
          rw [List.append_nil]
          have h1' : coversL f (madeL (l :: m)) = true := by
            rcases Bool.or_eq_true _ _ ▸ h1 with q | q
            · simp [madeL] at q
            · exact q
          simp only [coversL, Bool.and_eq_true] at h1'
          exact sound_plain f (l :: m) y nf hp h1'.2 hy
        · exact sound_deep f (l :: m) y z nf hp h2.2 h3.2 hy hz
      refine ⟨?_, hmatch⟩
      cases hdx : dollarB ((y ++ z).headD []) with
      | false => simp
      | true =>
        have h35 : (l :: m).headD [] ≠ [35] := hp l (by simp)
        have := dollar_made (n := l :: m) (by simp) ⟨[[35]], hx2⟩ h35 hx1 hdx
        have h21 := h2.1
        have e : ((madeL (l :: m) ++ [freshL]).headD []) = (madeL (l :: m)).headD [] := by simp [madeL]
        rw [e, this] at h21
        simpa using h21
end Go.Proofs.YtbacnaplpfmpnaaDoor
