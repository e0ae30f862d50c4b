/- Topics, plain: within is transitive, reflexive; of a name it is matching. Levels replaced: what is joined is valid text. -/
import Derived.Test.YtbacnaplpfmpnaaDoorTopB
namespace Go.Proofs.YtbacnaplpfmpnaaDoor
set_option linter.unusedVariables false

theorem filterB_parts {s : List UInt8} (h : filterB s = true) : textB s = true ∧ levelsB (splitS s) = true := by
  simpa [filterB] using h
theorem made_ne {n : List (List UInt8)} (h : n ≠ []) : madeL n ≠ [] := by
  cases n with
  | nil => exact absurd rfl h
  | cons a b => simp [madeL]
theorem within_trans {a b c : List UInt8} (h1 : withinB a b = true) (h2 : withinB b c = true) : withinB a c = true := by
  simp only [withinB, Bool.and_eq_true] at h1 h2 ⊢
  obtain ⟨⟨fa, fb⟩, w1⟩ := h1
  obtain ⟨⟨_, fc⟩, w2⟩ := h2
  refine ⟨⟨fa, fc⟩, ?_⟩
  have lb := (filterB_parts fb).2
  have lc := (filterB_parts fc).2
  have key : ∀ x, x ≠ [] → coversL (splitS b) x = true → coversL (splitS c) x = true := fun x hx hc => within_sound lc lb (splitS_ne b) hx w2 hc
  unfold withinL at w1 ⊢
  split
  · rename_i hd
    rw [if_pos hd] at w1
    simp only [Bool.and_eq_true, Bool.or_eq_true] at w1 ⊢
    refine ⟨⟨?_, key _ (by simp) w1.1.2⟩, key _ (by simp) w1.2⟩
    rcases w1.1.1 with q | q
    · exact .inl q
    · by_cases he : madeL (splitS a).dropLast = []
      · left; rw [he]; rfl
      · exact .inr (key _ he q)
  · rename_i hd
    rw [if_neg hd] at w1
    exact key _ (made_ne (splitS_ne a)) w1
theorem within_matches {a b x : List UInt8} (h : withinB a b = true) (hm : matchesB a x = true) : matchesB b x = true := by
  simp only [withinB, matchesB, Bool.and_eq_true] at h hm ⊢
  obtain ⟨⟨fa, fb⟩, w⟩ := h
  exact ⟨⟨fb, hm.1.2⟩, within_sound (filterB_parts fb).2 (filterB_parts fa).2 (splitS_ne a) (splitS_ne x) w hm.2⟩
theorem match_made : ∀ (n : List (List UInt8)), matchL n (madeL n) = true
  | [] => rfl
  | l :: n => by
    have ih := match_made n
    show matchL (l :: n) ((if l = [43] then freshL else l) :: madeL n) = true
    rw [matchL_cons]
    by_cases hp : l = [43]
    · simp [hp, ih]
    · simp [hp, ih]
theorem dollar_fresh : dollarB freshL = false := rfl
theorem covers_made {n : List (List UInt8)} (hp : ∀ l ∈ n, l ≠ [35]) (hn : n ≠ []) : coversL n (madeL n) = true := by
  unfold coversL
  rw [match_made]
  cases n with
  | nil => exact absurd rfl hn
  | cons l n =>
    have h35 := hp l (by simp)
    show (!(wildB l && dollarB (if l = [43] then freshL else l)) && true) = true
    by_cases hp : l = [43]
    · rw [if_pos hp, dollar_fresh]; simp
    · have : wildB l = false := by simp [wildB, hp, h35]
      rw [this]; rfl
theorem covers_deep {m z : List (List UInt8)} (hp : ∀ l ∈ m, l ≠ [35]) (hz : m = [] → dollarB (z.headD []) = false) : coversL (m ++ [[35]]) (madeL m ++ z) = true := by
  unfold coversL
  rw [(matchL_app_hash m hp _).2 ⟨_, _, rfl, match_made m⟩]
  cases m with
  | nil =>
    have := hz rfl
    show (!(wildB [35] && dollarB (z.headD [])) && true) = true
    rw [this]; rfl
  | cons l m =>
    have h35 := hp l (by simp)
    show (!(wildB l && dollarB (if l = [43] then freshL else l)) && true) = true
    by_cases hp : l = [43]
    · rw [if_pos hp, dollar_fresh]; simp
    · have : wildB l = false := by simp [wildB, hp, h35]
      rw [this]; rfl
theorem within_refl (a : List UInt8) : withinB a a = filterB a := by
  cases h : filterB a with
  | false => simp [withinB, h]
  | true =>
    have hl := (filterB_parts h).2
    simp only [withinB, h, Bool.true_and]
    unfold withinL
    cases hd : deepB (splitS a) with
    | false =>
      rw [if_neg (by simp)]
      exact covers_made (plain_levels hl hd) (splitS_ne a)
    | true =>
      rw [if_pos rfl]
      have hp := drop_levels hl hd
      have hs := deep_split hd
      obtain ⟨m, hm⟩ : ∃ m, m = (splitS a).dropLast := ⟨_, rfl⟩
      rw [← hm] at hp hs ⊢
      rw [hs]
      have h1 : coversL (m ++ [[35]]) (madeL m ++ [freshL]) = true := covers_deep hp (fun _ => dollar_fresh)
      have h2 : coversL (m ++ [[35]]) (madeL m ++ [freshL, freshL]) = true := covers_deep hp (fun _ => dollar_fresh)
      rw [h1, h2]
      cases m with
      | nil => rfl
      | cons l m =>
        have h3 := covers_deep (z := []) hp (fun e => by simp at e)
        rw [List.append_nil] at h3
        rw [h3]; simp
theorem made_name {n : List (List UInt8)} (h : ∀ l ∈ n, hasWild l = false) : madeL n = n := by
  induction n with
  | nil => rfl
  | cons l n ih =>
    have h1 := h l (by simp)
    have hp : l ≠ [43] := by rintro rfl; simp [hasWild] at h1
    show (if l = [43] then freshL else l) :: madeL n = _
    rw [if_neg hp, ih (fun z hz => h z (List.mem_cons_of_mem _ hz))]
theorem name_parts {s : List UInt8} (h : nameB s = true) : textB s = true ∧ hasWild s = false := by simpa [nameB] using h
theorem deep_name {n : List (List UInt8)} (h : ∀ l ∈ n, hasWild l = false) : deepB n = false := by
  cases hd : deepB n with
  | false => rfl
  | true =>
    have e := deep_split hd
    have := h [35] (by rw [e]; simp)
    simp [hasWild] at this
theorem within_name {a b : List UInt8} (h : nameB a = true) : withinB a b = matchesB b a := by
  have hw := name_levels (name_parts h).2
  unfold withinB matchesB withinL
  rw [name_filter h, h, if_neg (by simp [deep_name hw]), made_name hw]
  simp

/-! Levels replaced. -/
/-- A slash goes on nothing. -/
theorem slash_not_in {a b : List UInt8} (h0 : 0 < a.length) (h : a.length < (pt (a ++ 47 :: b)).2) : False := by
  have hg : g (a ++ 47 :: b) a.length = 47 := by simp [g, List.getD]
  have hcb : cb (a ++ 47 :: b) a.length = false := by unfold cb; rw [hg]; simp
  have hsz := (pt_size (a ++ 47 :: b)).2
  have hl0 : ¬ (a ++ 47 :: b).length = 0 := by simp
  unfold pt at h
  rw [if_neg hl0] at h
  split at h
  · have h2 : a.length < 1 := h
    omega
  split at h
  · rename_i q
    split at h
    · have h2 : a.length < 2 := h
      have : a.length = 1 := by omega
      rw [this] at hcb; rw [hcb] at q; exact absurd q.2 (by simp)
    · simp at h
  split at h
  · rename_i q
    split at h
    · have h2 : a.length < 3 := h
      rcases (by omega : a.length = 1 ∨ a.length = 2) with e | e
      · rw [e] at hcb; rw [hcb] at q; exact absurd q.2.1 (by simp)
      · rw [e] at hcb; rw [hcb] at q; exact absurd q.2.2 (by simp)
    · simp at h
  split at h
  · rename_i q
    split at h
    · have h2 : a.length < 4 := h
      rcases (by omega : a.length = 1 ∨ a.length = 2 ∨ a.length = 3) with e | e | e
      · rw [e] at hcb; rw [hcb] at q; exact absurd q.2.1 (by simp)
      · rw [e] at hcb; rw [hcb] at q; exact absurd q.2.2.1 (by simp)
      · rw [e] at hcb; rw [hcb] at q; exact absurd q.2.2.2 (by simp)
    · simp at h
  · simp at h
theorem bd_slash {a b : List UInt8} (h : bd (a ++ 47 :: b) = none) : bd a = none ∧ bd b = none := by
  revert h
  refine byPoints (P := fun a => bd (a ++ 47 :: b) = none → bd a = none ∧ bd b = none) ?_ ?_ ?_ a
  · intro h
    refine ⟨rfl, ?_⟩
    have hp : pt (47 :: b) = (47, 1) := by
      have hg : g (47 :: b) 0 = 47 := rfl
      unfold pt; rw [if_neg (by simp), if_pos (by rw [hg]; decide), hg]
    have ho : off (47 :: b) = false := by unfold off; rw [hp]; rfl
    have h' : bd (47 :: b) = none := h
    rw [bd_on ho, hp] at h'
    have : (bd ((47 :: b).drop 1)).map (· + 1) = none := h'
    cases hb : bd b with
    | none => rfl
    | some q => rw [List.drop_one, List.tail_cons, hb] at this; cases this
  · intro a h0 ho h
    exfalso
    -- a begins with no code point: nor does a ++ 47 :: b
    have hoff : off (a ++ 47 :: b) = true := by
      cases hq : off (a ++ 47 :: b) with
      | true => rfl
      | false =>
        have hs := on_size hq
        have hle : (pt (a ++ 47 :: b)).2 ≤ a.length := by
          rcases Nat.lt_or_ge a.length (pt (a ++ 47 :: b)).2 with hlt | hge
          · exfalso
            exact slash_not_in h0 hlt
          · exact hge
        have hf := pt_front (a ++ 47 :: b) a hs.2.2.1 (by rw [List.take_append_of_le_length hle])
        have : off a = false := by unfold off at hq ⊢; rw [hf]; exact hq
        rw [this] at ho; cases ho
    rw [bd_off (by simp; omega) hoff] at h
    cases h
  · intro a ho ih h
    obtain ⟨f1, f2⟩ := off_front (r := 47 :: b) ho
    have hs := on_size ho
    rw [bd_on f1, f2, List.drop_append_of_le_length hs.2.1] at h
    have h' : bd (a.drop (pt a).2 ++ 47 :: b) = none := by
      cases hb : bd (a.drop (pt a).2 ++ 47 :: b) with
      | none => rfl
      | some q => rw [hb] at h; cases h
    obtain ⟨i1, i2⟩ := ih h'
    exact ⟨by rw [bd_on ho, i1]; rfl, i2⟩
end Go.Proofs.YtbacnaplpfmpnaaDoor
