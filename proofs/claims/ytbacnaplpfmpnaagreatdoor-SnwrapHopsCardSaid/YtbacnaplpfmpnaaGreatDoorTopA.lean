/- Topics, plain: levels, names, filters, matching. No Go in sight. Topics, plain: what is within what; levels replaced; shared filters. Topics, plain: within is transitive, reflexive; of a name it is matching. Levels replaced: what is joined is valid text. Topics, plain: levels replaced by wildcards; shared filters. Topics, plain: the library's words (split, join, cut, prefixes) are ours; shared filters. -/
import Derived.Test.YtbacnaplpfmpnaaGreatDoorUstA
import Derived.Lib.Split
import Derived.Lib.SplitLaws
import Derived.Lib.Join
import Derived.Lib.Strings
import Derived.Lib.IndexAny
namespace Go.Proofs.YtbacnaplpfmpnaaGreatDoor
set_option linter.unusedVariables false

/-- What stands between slashes. -/
def splitS : List UInt8 → List (List UInt8)
  | [] => [[]]
  | c :: r => if c = 47 then [] :: splitS r else (c :: (splitS r).headD []) :: (splitS r).tail
theorem splitS_step (c : UInt8) (r : List UInt8) : splitS (c :: r) = if c = 47 then [] :: splitS r else (c :: (splitS r).headD []) :: (splitS r).tail := rfl
def joinS : List (List UInt8) → List UInt8
  | [] => []
  | [a] => a
  | a :: b :: r => a ++ 47 :: joinS (b :: r)
def noSlash (l : List UInt8) : Bool := !l.any (· == 47)
def hasWild (l : List UInt8) : Bool := l.any fun c => c == 43 || c == 35
def textB (s : List UInt8) : Bool := !s.isEmpty && vld s
def nameB (s : List UInt8) : Bool := textB s && !hasWild s
def wildB (l : List UInt8) : Bool := l == [43] || l == [35]
def levelsB : List (List UInt8) → Bool
  | [] => true
  | s :: r => !(s == [35] && !r.isEmpty) && !(!wildB s && hasWild s) && levelsB r
def filterB (s : List UInt8) : Bool := textB s && levelsB (splitS s)
def dollarB (s : List UInt8) : Bool := s.head? == some 36
def matchL : List (List UInt8) → List (List UInt8) → Bool
  | [], n => n.isEmpty
  | f :: fs, n => f == [35] || match n with | [] => false | x :: xs => (f == [43] || f == x) && matchL fs xs
def coversL (f n : List (List UInt8)) : Bool := !(wildB (f.headD []) && dollarB (n.headD [])) && matchL f n
def matchesB (f n : List UInt8) : Bool := filterB f && nameB n && coversL (splitS f) (splitS n)
def freshL : List UInt8 := [43, 43]
def madeL (n : List (List UInt8)) : List (List UInt8) := n.map fun l => if l = [43] then freshL else l
def deepB (n : List (List UInt8)) : Bool := n.getLast? == some [35]
def withinL (f n : List (List UInt8)) : Bool :=
  if deepB n then ((madeL n.dropLast).isEmpty || coversL f (madeL n.dropLast)) && coversL f (madeL n.dropLast ++ [freshL]) && coversL f (madeL n.dropLast ++ [freshL, freshL])
  else coversL f (madeL n)
def withinB (a b : List UInt8) : Bool := filterB a && filterB b && withinL (splitS b) (splitS a)

theorem splitS_ne (s : List UInt8) : splitS s ≠ [] := by
  cases s with
  | nil => simp [splitS]
  | cons c r => unfold splitS; split <;> simp
theorem splitS_cons (s : List UInt8) : ∃ h t, splitS s = h :: t := by
  cases h : splitS s with
  | nil => exact absurd h (splitS_ne s)
  | cons a b => exact ⟨a, b, rfl⟩
theorem join_split (s : List UInt8) : joinS (splitS s) = s := by
  induction s with
  | nil => rfl
  | cons c r ih =>
    unfold splitS
    obtain ⟨h, t, e⟩ := splitS_cons r
    split
    · rename_i hc
      rw [e] at ih ⊢
      show [] ++ 47 :: joinS (h :: t) = _
      rw [ih, hc]; rfl
    · rw [e] at ih ⊢
      cases t with
      | nil =>
        have ih' : h = r := ih
        simp [joinS, ih']
      | cons b t =>
        have ih' : h ++ 47 :: joinS (b :: t) = r := ih
        show (c :: h) ++ 47 :: joinS (b :: t) = c :: r
        rw [← ih']; rfl
theorem noSlash_split (s : List UInt8) : ∀ l ∈ splitS s, noSlash l = true := by
  induction s with
  | nil => intro l hl; simp [splitS] at hl; subst hl; rfl
  | cons c r ih =>
    obtain ⟨h, t, e⟩ := splitS_cons r
    intro l hl
    unfold splitS at hl
    rw [e] at hl ih
    split at hl
    · rcases List.mem_cons.1 hl with rfl | hl
      · rfl
      · exact ih l hl
    · rename_i hc
      rcases List.mem_cons.1 hl with rfl | hl
      · have := ih h (by simp)
        simp only [noSlash, List.headD_cons, List.any_cons, Bool.not_or] at this ⊢
        rw [this]; simp [hc]
      · exact ih l (List.mem_cons_of_mem _ hl)
theorem splitS_app (a : List UInt8) (ha : noSlash a = true) (r : List UInt8) : splitS (a ++ 47 :: r) = a :: splitS r := by
  induction a with
  | nil => simp [splitS]
  | cons c a ih =>
    simp only [noSlash, List.any_cons, Bool.not_or, Bool.and_eq_true] at ha
    have hc : ¬ c = 47 := by have := ha.1; simpa using this
    have ih' := ih (by simpa [noSlash] using ha.2)
    show splitS (c :: (a ++ 47 :: r)) = _
    rw [splitS_step, if_neg hc, ih']
    rfl
theorem splitS_one (a : List UInt8) (ha : noSlash a = true) : splitS a = [a] := by
  induction a with
  | nil => rfl
  | cons c a ih =>
    simp only [noSlash, List.any_cons, Bool.not_or, Bool.and_eq_true] at ha
    have hc : ¬ c = 47 := by have := ha.1; simpa using this
    have ih' := ih (by simpa [noSlash] using ha.2)
    rw [splitS_step, if_neg hc, ih']
    rfl
theorem split_join : ∀ (ls : List (List UInt8)), ls ≠ [] → (∀ l ∈ ls, noSlash l = true) → splitS (joinS ls) = ls
  | [], h, _ => absurd rfl h
  | [a], _, h => splitS_one a (h a (by simp))
  | a :: b :: r, _, h => by
    show splitS (a ++ 47 :: joinS (b :: r)) = _
    rw [splitS_app a (h a (by simp)), split_join (b :: r) (by simp) (fun l hl => h l (List.mem_cons_of_mem _ hl))]
theorem length_split (s : List UInt8) : (splitS s).length = (s.filter (· == 47)).length + 1 := by
  induction s with
  | nil => rfl
  | cons c r ih =>
    obtain ⟨h, t, e⟩ := splitS_cons r
    unfold splitS
    split
    · rename_i hc; simp [hc, ih]
    · rename_i hc; rw [e] at ih ⊢; simp [hc] at ih ⊢; exact ih
theorem dollar_split (s : List UInt8) : dollarB ((splitS s).headD []) = dollarB s := by
  cases s with
  | nil => rfl
  | cons c r =>
    unfold splitS
    split
    · rename_i hc; subst hc; rfl
    · simp [dollarB]
theorem hasWild_split (s : List UInt8) : ∀ l ∈ splitS s, hasWild l = true → hasWild s = true := by
  induction s with
  | nil => intro l hl; simp [splitS] at hl; subst hl; exact id
  | cons c r ih =>
    obtain ⟨h, t, e⟩ := splitS_cons r
    intro l hl hw
    unfold splitS at hl
    rw [e] at hl ih
    have key : ∀ x, x ∈ h :: t → hasWild x = true → hasWild (c :: r) = true := fun x hx hxw => by
      have := ih x hx hxw
      simp only [hasWild, List.any_cons] at this ⊢
      rw [this]; simp
    split at hl
    · rcases List.mem_cons.1 hl with rfl | hl
      · simp [hasWild] at hw
      · exact key l hl hw
    · rcases List.mem_cons.1 hl with rfl | hl
      · simp only [hasWild, List.headD_cons, List.any_cons, Bool.or_eq_true] at hw
        rcases hw with hw | hw
        · simp only [hasWild, List.any_cons, Bool.or_eq_true]; exact .inl hw
        · exact key h (by simp) hw
      · exact key l (List.mem_cons_of_mem _ hl) hw
theorem wild_hasWild {l : List UInt8} (h : wildB l = true) : hasWild l = true := by
  simp [wildB] at h
  rcases h with rfl | rfl <;> rfl
theorem levelsB_name : ∀ (ls : List (List UInt8)), (∀ l ∈ ls, hasWild l = false) → levelsB ls = true
  | [], _ => rfl
  | s :: r, h => by
    have h1 := h s (by simp)
    have hn : (s == [35]) = false := by
      rw [beq_eq_false_iff_ne]; rintro rfl; simp [hasWild] at h1
    unfold levelsB
    rw [hn, h1, levelsB_name r (fun l hl => h l (List.mem_cons_of_mem _ hl))]
    simp
theorem name_levels {s : List UInt8} (h : hasWild s = false) : ∀ l ∈ splitS s, hasWild l = false := fun l hl => by
  cases hw : hasWild l with
  | false => rfl
  | true => rw [hasWild_split s l hl hw] at h; cases h
theorem name_filter {s : List UInt8} (h : nameB s = true) : filterB s = true := by
  simp only [nameB, Bool.and_eq_true, Bool.not_eq_true'] at h
  unfold filterB
  rw [h.1, levelsB_name _ (name_levels h.2)]; rfl
theorem match_self : ∀ (l : List (List UInt8)), matchL l l = true
  | [] => rfl
  | x :: xs => by unfold matchL; simp [match_self xs]
theorem not_wild {l : List UInt8} (h : hasWild l = false) : wildB l = false := by
  cases hw : wildB l with
  | false => rfl
  | true => rw [wild_hasWild hw] at h; cases h
theorem head_mem {ls : List (List UInt8)} (h : ls ≠ []) : ls.headD [] ∈ ls := by
  cases ls with
  | nil => exact absurd rfl h
  | cons a b => simp
theorem covers_self {s : List UInt8} (h : hasWild s = false) : coversL (splitS s) (splitS s) = true := by
  unfold coversL
  rw [match_self, not_wild (name_levels h _ (head_mem (splitS_ne s)))]
  rfl
theorem matches_self {s : List UInt8} (h : nameB s = true) : matchesB s s = true := by
  unfold matchesB
  rw [name_filter h, h]
  simp only [nameB, Bool.and_eq_true, Bool.not_eq_true'] at h
  rw [covers_self h.2]; rfl
theorem filter_hash : filterB [35] = true := by decide +kernel
theorem matches_hash (s : List UInt8) : matchesB [35] s = (nameB s && !dollarB s) := by
  unfold matchesB
  rw [filter_hash]
  have e : splitS [35] = [[35]] := rfl
  unfold coversL
  rw [e, dollar_split]
  have h1 : matchL [[35]] (splitS s) = true := by unfold matchL; rfl
  rw [h1]
  have h2 : wildB (([[35]] : List (List UInt8)).headD []) = true := rfl
  rw [h2]; simp
end Go.Proofs.YtbacnaplpfmpnaaGreatDoor
namespace Go.Proofs.YtbacnaplpfmpnaaGreatDoor
set_option linter.unusedVariables false

theorem matchL_cons (f : List UInt8) (fs n : List (List UInt8)) : matchL (f :: fs) n = (f == [35] || match n with | [] => false | x :: xs => (f == [43] || f == x) && matchL fs xs) := rfl
/-- A valid filter has no level that only stands for 'anything'. -/
theorem no_fresh {ls : List (List UInt8)} (h : levelsB ls = true) : ∀ l ∈ ls, l ≠ freshL := by
  induction ls with
  | nil => intro l hl; simp at hl
  | cons s r ih =>
    unfold levelsB at h
    simp only [Bool.and_eq_true, Bool.not_eq_true'] at h
    intro l hl
    rcases List.mem_cons.1 hl with rfl | hl
    · rintro rfl
      have := h.1.2
      simp [wildB, hasWild, freshL] at this
    · exact ih h.2 l hl
/-- '#' stands last. -/
theorem hash_last {ls : List (List UInt8)} (h : levelsB ls = true) : ∀ a b, ls = a ++ [35] :: b → b = [] := by
  induction ls with
  | nil => intro a b e; simp at e
  | cons s r ih =>
    unfold levelsB at h
    simp only [Bool.and_eq_true, Bool.not_eq_true'] at h
    intro a b e
    cases a with
    | nil =>
      simp at e
      obtain ⟨rfl, rfl⟩ := e
      have := h.1.1
      simpa using this
    | cons c a =>
      simp at e
      exact ih h.2 a b e.2

/-- What matches the names made of n matches whatever n matches: n without '#'. -/
theorem sound_plain : ∀ (f n x : List (List UInt8)), (∀ l ∈ f, l ≠ freshL) → (∀ l ∈ n, l ≠ [35]) → matchL f (madeL n) = true → matchL n x = true → matchL f x = true
  | [], n, x, _, _, h, hx => by
    cases n with
    | nil => exact hx
    | cons l n => simp [matchL, madeL] at h
  | f :: fs, n, x, hf, hn, h, hx => by
    rw [matchL_cons] at h ⊢
    by_cases hh : f = [35]
    · simp [hh]
    have hh' : (f == [35]) = false := beq_eq_false_iff_ne.2 hh
    rw [hh', Bool.false_or] at h ⊢
    cases n with
    | nil => simp [madeL] at h
    | cons l n =>
      have hl : (l == [35]) = false := beq_eq_false_iff_ne.2 (hn l (by simp))
      rw [matchL_cons, hl, Bool.false_or] at hx
      cases x with
      | nil => simp at hx
      | cons y ys =>
        simp only [Bool.and_eq_true, Bool.or_eq_true, beq_iff_eq] at hx
        simp only [madeL, List.map_cons, Bool.and_eq_true, Bool.or_eq_true, beq_iff_eq] at h ⊢
        obtain ⟨h1, h2⟩ := h
        refine ⟨?_, sound_plain fs n ys (fun z hz => hf z (List.mem_cons_of_mem _ hz)) (fun z hz => hn z (List.mem_cons_of_mem _ hz)) h2 hx.2⟩
        rcases h1 with h1 | h1
        · exact .inl h1
        · by_cases hp : l = [43]
          · rw [if_pos hp] at h1
            exact absurd h1 (hf f (by simp))
          · rw [if_neg hp] at h1
            rcases hx.1 with q | q
            · exact absurd q hp
            · exact .inr (h1.trans q)
theorem matchL_app_hash : ∀ (n : List (List UInt8)), (∀ l ∈ n, l ≠ [35]) → ∀ x, matchL (n ++ [[35]]) x = true ↔ ∃ y z, x = y ++ z ∧ matchL n y = true
  | [], _, x => by
    constructor
    · intro _; exact ⟨[], x, rfl, rfl⟩
    · intro _; rfl
  | l :: n, hn, x => by
    have hl : (l == [35]) = false := beq_eq_false_iff_ne.2 (hn l (by simp))
    have ih := matchL_app_hash n (fun z hz => hn z (List.mem_cons_of_mem _ hz))
    rw [List.cons_append, matchL_cons, hl, Bool.false_or]
    cases x with
    | nil =>
      constructor
      · intro h; simp at h
      · rintro ⟨y, z, e, h⟩
        cases y with
        | nil => rw [matchL_cons, hl] at h; simp at h
        | cons a b => simp at e
    | cons a b =>
      simp only [Bool.and_eq_true]
      rw [ih b]
      constructor
      · rintro ⟨h1, y, z, rfl, h2⟩
        refine ⟨a :: y, z, rfl, ?_⟩
        rw [matchL_cons, hl, Bool.false_or]
        simp only [Bool.and_eq_true]
        exact ⟨h1, h2⟩
      · rintro ⟨y, z, e, h⟩
        cases y with
        | nil => rw [matchL_cons, hl] at h; simp at h
        | cons c y =>
          simp at e
          obtain ⟨rfl, rfl⟩ := e
          rw [matchL_cons, hl, Bool.false_or] at h
          simp only [Bool.and_eq_true] at h
          exact ⟨h.1, y, z, rfl, h.2⟩
/-- What matches n with one and with two levels behind it has '#', and matches whatever begins as n and goes on. -/
theorem sound_deep : ∀ (f n y z : List (List UInt8)), (∀ l ∈ f, l ≠ freshL) → (∀ l ∈ n, l ≠ [35]) → matchL f (madeL n ++ [freshL]) = true → matchL f (madeL n ++ [freshL, freshL]) = true → matchL n y = true → z ≠ [] → matchL f (y ++ z) = true
  | [], n, y, z, _, _, h, _, _, _ => by simp [matchL] at h
  | f :: fs, n, y, z, hf, hn, h, h2, hy, hz => by
    rw [matchL_cons] at h h2 ⊢
    by_cases hh : f = [35]
    · simp [hh]
    have hh' : (f == [35]) = false := beq_eq_false_iff_ne.2 hh
    rw [hh', Bool.false_or] at h h2 ⊢
    cases n with
    | nil =>
      obtain rfl : y = [] := by cases y with | nil => rfl | cons a b => simp [matchL] at hy
      simp only [madeL, List.map_nil, List.nil_append, Bool.and_eq_true, Bool.or_eq_true, beq_iff_eq] at h h2
      have hp : f = [43] := by
        rcases h.1 with q | q
        · exact q
        · exact absurd q (hf f (by simp))
      cases z with
      | nil => exact absurd rfl hz
      | cons a b =>
        simp only [List.nil_append, Bool.and_eq_true, Bool.or_eq_true, beq_iff_eq]
        refine ⟨.inl hp, ?_⟩
        -- fs matches [] and [fresh]
        have a1 := h.2
        have a2 := h2.2
        cases fs with
        | nil => simp [matchL] at a2
        | cons g gs =>
          rw [matchL_cons] at a1 ⊢
          simp only [Bool.or_false] at a1
          rw [a1]; rfl
    | cons l n =>
      have hl : (l == [35]) = false := beq_eq_false_iff_ne.2 (hn l (by simp))
      rw [matchL_cons, hl, Bool.false_or] at hy
      cases y with
      | nil => simp at hy
      | cons a b =>
        simp only [Bool.and_eq_true, Bool.or_eq_true, beq_iff_eq] at hy
        simp only [madeL, List.map_cons, List.cons_append, Bool.and_eq_true, Bool.or_eq_true, beq_iff_eq] at h h2 ⊢
        refine ⟨?_, sound_deep fs n b z (fun q hq => hf q (List.mem_cons_of_mem _ hq)) (fun q hq => hn q (List.mem_cons_of_mem _ hq)) h.2 h2.2 hy.2 hz⟩
        rcases h.1 with h1 | h1
        · exact .inl h1
        · by_cases hp : l = [43]
          · rw [if_pos hp] at h1
            exact absurd h1 (hf f (by simp))
          · rw [if_neg hp] at h1
            rcases hy.1 with q | q
            · exact absurd q hp
            · exact .inr (h1.trans q)
theorem deep_split {n : List (List UInt8)} (h : deepB n = true) : n = n.dropLast ++ [[35]] := by
  simp only [deepB, beq_iff_eq] at h
  have hne : n ≠ [] := by rintro rfl; simp at h
  have h2 := List.dropLast_concat_getLast hne
  rw [List.getLast?_eq_some_getLast hne] at h
  injection h with h
  rw [h] at h2
  exact h2.symm
theorem plain_levels {n : List (List UInt8)} (h : levelsB n = true) (hd : deepB n = false) : ∀ l ∈ n, l ≠ [35] := by
  rintro l hl rfl
  obtain ⟨a, b, e⟩ := List.append_of_mem hl
  have hb := hash_last h a b e
  subst hb
  rw [e] at hd
  simp [deepB] at hd
theorem drop_levels {n : List (List UInt8)} (h : levelsB n = true) (hd : deepB n = true) : ∀ l ∈ n.dropLast, l ≠ [35] := by
  rintro l hl rfl
  obtain ⟨a, b, e⟩ := List.append_of_mem hl
  have e2 := deep_split hd
  rw [e] at e2
  have := hash_last h a (b ++ [[35]]) (by rw [e2]; simp)
  simp at this
theorem dollar_made {n x : List (List UInt8)} (hn : n ≠ []) (hm : ∃ z, matchL (n ++ z) x = true) (h35 : n.headD [] ≠ [35]) (hd : (wildB (n.headD []) && dollarB (x.headD [])) = false) : dollarB (x.headD []) = true → dollarB ((madeL n).headD []) = true := by
  intro hx
  cases n with
  | nil => exact absurd rfl hn
  | cons l n =>
    obtain ⟨z, hm⟩ := hm
    rw [List.cons_append, matchL_cons, show (l == [35]) = false from beq_eq_false_iff_ne.2 h35, Bool.false_or] at hm
    cases x with
    | nil => simp at hm
    | cons a b =>
      simp only [Bool.and_eq_true, Bool.or_eq_true, beq_iff_eq] at hm
      have hx' : dollarB a = true := hx
      have hw : wildB l = false := by
        cases hw : wildB l with
        | false => rfl
        | true => rw [List.headD_cons, List.headD_cons, hw, hx'] at hd; cases hd
      have hp : l ≠ [43] := by rintro rfl; simp [wildB] at hw
      rcases hm.1 with q | q
      · exact absurd q hp
      · show dollarB (if l = [43] then freshL else l) = true
        rw [if_neg hp, q]; exact hx'
/-- Within is sound: at any list of levels, not empty. -/
theorem within_sound {f n x : List (List UInt8)} (hf : levelsB f = true) (hn : levelsB n = true) (hn0 : n ≠ []) (hx0 : x ≠ []) (h : withinL f n = true) (hx : coversL n x = true) : coversL f x = true := by
  have nf := no_fresh hf
  simp only [coversL, Bool.and_eq_true, Bool.not_eq_true'] at hx
  obtain ⟨hx1, hx2⟩ := hx
  cases hd : deepB n with
  | false =>
    have hp := plain_levels hn hd
    unfold withinL at h
    rw [if_neg (by simp [hd])] at h
    simp only [coversL, Bool.and_eq_true, Bool.not_eq_true'] at h ⊢
    refine ⟨?_, sound_plain f n x nf hp h.2 hx2⟩
    cases hdx : dollarB (x.headD []) with
    | false => simp
    | true =>
      have h35 : n.headD [] ≠ [35] := hp _ (head_mem hn0)
      have := dollar_made hn0 ⟨[], by rw [List.append_nil]; exact hx2⟩ h35 hx1 hdx
      have h1 := h.1
      rw [this] at h1
      simpa using h1
  | true =>
    have hp := drop_levels hn hd
    have hs := deep_split hd
    unfold withinL at h
    rw [if_pos hd] at h
    simp only [Bool.and_eq_true] at h
    obtain ⟨⟨h1, h2⟩, h3⟩ := h
    obtain ⟨m, hm⟩ : ∃ m, m = n.dropLast := ⟨_, rfl⟩
    rw [← hm] at h1 h2 h3 hp hs
    rw [hs] at hx1 hx2
    obtain ⟨y, z, rfl, hy⟩ := (matchL_app_hash m hp x).1 hx2
    simp only [coversL, Bool.and_eq_true, Bool.not_eq_true'] at h2 h3 ⊢
    cases m with
    | nil =>
      obtain rfl : y = [] := by cases y with | nil => rfl | cons a b => simp [matchL] at hy
      have hz : z ≠ [] := by simpa using hx0
      refine ⟨?_, sound_deep f [] [] z nf (by simp) h2.2 h3.2 hy hz⟩
      have : dollarB (([] ++ z).headD []) = false := by
        cases hq : dollarB (([] ++ z).headD []) with
        | false => rfl
        | true => rw [hq] at hx1; simp [wildB] at hx1
      rw [this]; simp
    | cons l m =>
      have hmatch : matchL f (y ++ z) = true := by
        by_cases hz : z = []
        · subst hz
          rw [List.append_nil]
          have h1' : coversL f (madeL (l :: m)) = true := by
            rcases Bool.or_eq_true _ _ ▸ h1 with q | q
            · simp [madeL] at q
            · exact q
          simp only [coversL, Bool.and_eq_true] at h1'
          exact sound_plain f (l :: m) y nf hp h1'.2 hy
        · exact sound_deep f (l :: m) y z nf hp h2.2 h3.2 hy hz
      refine ⟨?_, hmatch⟩
      cases hdx : dollarB ((y ++ z).headD []) with
      | false => simp
      | true =>
        have h35 : (l :: m).headD [] ≠ [35] := hp l (by simp)
        have := dollar_made (n := l :: m) (by simp) ⟨[[35]], hx2⟩ h35 hx1 hdx
        have h21 := h2.1
        have e : ((madeL (l :: m) ++ [freshL]).headD []) = (madeL (l :: m)).headD [] := by simp [madeL]
        rw [e, this] at h21
        simpa using h21
end Go.Proofs.YtbacnaplpfmpnaaGreatDoor
namespace Go.Proofs.YtbacnaplpfmpnaaGreatDoor
set_option linter.unusedVariables false

theorem filterB_parts {s : List UInt8} (h : filterB s = true) : textB s = true ∧ levelsB (splitS s) = true := by
  simpa [filterB] using h
theorem made_ne {n : List (List UInt8)} (h : n ≠ []) : madeL n ≠ [] := by
  cases n with
  | nil => exact absurd rfl h
  | cons a b => simp [madeL]
theorem within_trans {a b c : List UInt8} (h1 : withinB a b = true) (h2 : withinB b c = true) : withinB a c = true := by
  simp only [withinB, Bool.and_eq_true] at h1 h2 ⊢
  obtain ⟨⟨fa, fb⟩, w1⟩ := h1
  obtain ⟨⟨_, fc⟩, w2⟩ := h2
  refine ⟨⟨fa, fc⟩, ?_⟩
  have lb := (filterB_parts fb).2
  have lc := (filterB_parts fc).2
  have key : ∀ x, x ≠ [] → coversL (splitS b) x = true → coversL (splitS c) x = true := fun x hx hc => within_sound lc lb (splitS_ne b) hx w2 hc
  unfold withinL at w1 ⊢
  split
  · rename_i hd
    rw [if_pos hd] at w1
    simp only [Bool.and_eq_true, Bool.or_eq_true] at w1 ⊢
    refine ⟨⟨?_, key _ (by simp) w1.1.2⟩, key _ (by simp) w1.2⟩
    rcases w1.1.1 with q | q
    · exact .inl q
    · by_cases he : madeL (splitS a).dropLast = []
      · left; rw [he]; rfl
      · exact .inr (key _ he q)
  · rename_i hd
    rw [if_neg hd] at w1
    exact key _ (made_ne (splitS_ne a)) w1
theorem within_matches {a b x : List UInt8} (h : withinB a b = true) (hm : matchesB a x = true) : matchesB b x = true := by
  simp only [withinB, matchesB, Bool.and_eq_true] at h hm ⊢
  obtain ⟨⟨fa, fb⟩, w⟩ := h
  exact ⟨⟨fb, hm.1.2⟩, within_sound (filterB_parts fb).2 (filterB_parts fa).2 (splitS_ne a) (splitS_ne x) w hm.2⟩
theorem match_made : ∀ (n : List (List UInt8)), matchL n (madeL n) = true
  | [] => rfl
  | l :: n => by
    have ih := match_made n
    show matchL (l :: n) ((if l = [43] then freshL else l) :: madeL n) = true
    rw [matchL_cons]
    by_cases hp : l = [43]
    · simp [hp, ih]
    · simp [hp, ih]
theorem dollar_fresh : dollarB freshL = false := rfl
theorem covers_made {n : List (List UInt8)} (hp : ∀ l ∈ n, l ≠ [35]) (hn : n ≠ []) : coversL n (madeL n) = true := by
  unfold coversL
  rw [match_made]
  cases n with
  | nil => exact absurd rfl hn
  | cons l n =>
    have h35 := hp l (by simp)
    show (!(wildB l && dollarB (if l = [43] then freshL else l)) && true) = true
    by_cases hp : l = [43]
    · rw [if_pos hp, dollar_fresh]; simp
    · have : wildB l = false := by simp [wildB, hp, h35]
      rw [this]; rfl
theorem covers_deep {m z : List (List UInt8)} (hp : ∀ l ∈ m, l ≠ [35]) (hz : m = [] → dollarB (z.headD []) = false) : coversL (m ++ [[35]]) (madeL m ++ z) = true := by
  unfold coversL
  rw [(matchL_app_hash m hp _).2 ⟨_, _, rfl, match_made m⟩]
  cases m with
  | nil =>
    have := hz rfl
    show (!(wildB [35] && dollarB (z.headD [])) && true) = true
    rw [this]; rfl
  | cons l m =>
    have h35 := hp l (by simp)
    show (!(wildB l && dollarB (if l = [43] then freshL else l)) && true) = true
    by_cases hp : l = [43]
    · rw [if_pos hp, dollar_fresh]; simp
    · have : wildB l = false := by simp [wildB, hp, h35]
      rw [this]; rfl
theorem within_refl (a : List UInt8) : withinB a a = filterB a := by
  cases h : filterB a with
  | false => simp [withinB, h]
  | true =>
    have hl := (filterB_parts h).2
    simp only [withinB, h, Bool.true_and]
    unfold withinL
    cases hd : deepB (splitS a) with
    | false =>
      rw [if_neg (by simp)]
      exact covers_made (plain_levels hl hd) (splitS_ne a)
    | true =>
      rw [if_pos rfl]
      have hp := drop_levels hl hd
      have hs := deep_split hd
      obtain ⟨m, hm⟩ : ∃ m, m = (splitS a).dropLast := ⟨_, rfl⟩
      rw [← hm] at hp hs ⊢
      rw [hs]
      have h1 : coversL (m ++ [[35]]) (madeL m ++ [freshL]) = true := covers_deep hp (fun _ => dollar_fresh)
      have h2 : coversL (m ++ [[35]]) (madeL m ++ [freshL, freshL]) = true := covers_deep hp (fun _ => dollar_fresh)
      rw [h1, h2]
      cases m with
      | nil => rfl
      | cons l m =>
        have h3 := covers_deep (z := []) hp (fun e => by simp at e)
        rw [List.append_nil] at h3
        rw [h3]; simp
theorem made_name {n : List (List UInt8)} (h : ∀ l ∈ n, hasWild l = false) : madeL n = n := by
  induction n with
  | nil => rfl
  | cons l n ih =>
    have h1 := h l (by simp)
    have hp : l ≠ [43] := by rintro rfl; simp [hasWild] at h1
    show (if l = [43] then freshL else l) :: madeL n = _
    rw [if_neg hp, ih (fun z hz => h z (List.mem_cons_of_mem _ hz))]
theorem name_parts {s : List UInt8} (h : nameB s = true) : textB s = true ∧ hasWild s = false := by simpa [nameB] using h
theorem deep_name {n : List (List UInt8)} (h : ∀ l ∈ n, hasWild l = false) : deepB n = false := by
  cases hd : deepB n with
  | false => rfl
  | true =>
    have e := deep_split hd
    have := h [35] (by rw [e]; simp)
    simp [hasWild] at this
theorem within_name {a b : List UInt8} (h : nameB a = true) : withinB a b = matchesB b a := by
  have hw := name_levels (name_parts h).2
  unfold withinB matchesB withinL
  rw [name_filter h, h, if_neg (by simp [deep_name hw]), made_name hw]
  simp

/-! Levels replaced. -/
/-- A slash goes on nothing. -/
theorem slash_not_in {a b : List UInt8} (h0 : 0 < a.length) (h : a.length < (pt (a ++ 47 :: b)).2) : False := by
  have hg : g (a ++ 47 :: b) a.length = 47 := by simp [g, List.getD]
  have hcb : cb (a ++ 47 :: b) a.length = false := by unfold cb; rw [hg]; simp
  have hsz := (pt_size (a ++ 47 :: b)).2
  have hl0 : ¬ (a ++ 47 :: b).length = 0 := by simp
  unfold pt at h
  rw [if_neg hl0] at h
  split at h
  · have h2 : a.length < 1 := h
    omega
  split at h
  · rename_i q
    split at h
    · have h2 : a.length < 2 := h
      have : a.length = 1 := by omega
      rw [this] at hcb; rw [hcb] at q; exact absurd q.2 (by simp)
    · simp at h
  split at h
  · rename_i q
    split at h
    · have h2 : a.length < 3 := h
      rcases (by omega : a.length = 1 ∨ a.length = 2) with e | e
      · rw [e] at hcb; rw [hcb] at q; exact absurd q.2.1 (by simp)
      · rw [e] at hcb; rw [hcb] at q; exact absurd q.2.2 (by simp)
    · simp at h
  split at h
  · rename_i q
    split at h
    · have h2 : a.length < 4 := h
      rcases (by omega : a.length = 1 ∨ a.length = 2 ∨ a.length = 3) with e | e | e
      · rw [e] at hcb; rw [hcb] at q; exact absurd q.2.1 (by simp)
      · rw [e] at hcb; rw [hcb] at q; exact absurd q.2.2.1 (by simp)
      · rw [e] at hcb; rw [hcb] at q; exact absurd q.2.2.2 (by simp)
    · simp at h
  · simp at h
theorem bd_slash {a b : List UInt8} (h : bd (a ++ 47 :: b) = none) : bd a = none ∧ bd b = none := by
  revert h
  refine byPoints (P := fun a => bd (a ++ 47 :: b) = none → bd a = none ∧ bd b = none) ?_ ?_ ?_ a
  · intro h
    refine ⟨rfl, ?_⟩
    have hp : pt (47 :: b) = (47, 1) := by
      have hg : g (47 :: b) 0 = 47 := rfl
      unfold pt; rw [if_neg (by simp), if_pos (by rw [hg]; decide), hg]
    have ho : off (47 :: b) = false := by unfold off; rw [hp]; rfl
    have h' : bd (47 :: b) = none := h
    rw [bd_on ho, hp] at h'
    have : (bd ((47 :: b).drop 1)).map (· + 1) = none := h'
    cases hb : bd b with
    | none => rfl
    | some q => rw [List.drop_one, List.tail_cons, hb] at this; cases this
  · intro a h0 ho h
    exfalso
    -- a begins with no code point: nor does a ++ 47 :: b
    have hoff : off (a ++ 47 :: b) = true := by
      cases hq : off (a ++ 47 :: b) with
      | true => rfl
      | false =>
        have hs := on_size hq
        have hle : (pt (a ++ 47 :: b)).2 ≤ a.length := by
          rcases Nat.lt_or_ge a.length (pt (a ++ 47 :: b)).2 with hlt | hge
          · exfalso
            exact slash_not_in h0 hlt
          · exact hge
        have hf := pt_front (a ++ 47 :: b) a hs.2.2.1 (by rw [List.take_append_of_le_length hle])
        have : off a = false := by unfold off at hq ⊢; rw [hf]; exact hq
        rw [this] at ho; cases ho
    rw [bd_off (by simp; omega) hoff] at h
    cases h
  · intro a ho ih h
    obtain ⟨f1, f2⟩ := off_front (r := 47 :: b) ho
    have hs := on_size ho
    rw [bd_on f1, f2, List.drop_append_of_le_length hs.2.1] at h
    have h' : bd (a.drop (pt a).2 ++ 47 :: b) = none := by
      cases hb : bd (a.drop (pt a).2 ++ 47 :: b) with
      | none => rfl
      | some q => rw [hb] at h; cases h
    obtain ⟨i1, i2⟩ := ih h'
    exact ⟨by rw [bd_on ho, i1]; rfl, i2⟩
end Go.Proofs.YtbacnaplpfmpnaaGreatDoor
namespace Go.Proofs.YtbacnaplpfmpnaaGreatDoor
set_option linter.unusedVariables false

theorem le_sum_mem : ∀ {ls : List Nat} {n : Nat}, n ∈ ls → n ≤ ls.sum
  | [], n, h => by simp at h
  | a :: b, n, h => by
    rw [List.sum_cons]
    rcases List.mem_cons.1 h with rfl | h
    · omega
    · have := le_sum_mem h; omega
theorem pt_slash (b : List UInt8) : pt (47 :: b) = (47, 1) := by
  have hg : g (47 :: b) 0 = 47 := rfl
  unfold pt; rw [if_neg (by simp), if_pos (by rw [hg]; decide), hg]
theorem bd_slash_cons {b : List UInt8} (h : bd b = none) : bd (47 :: b) = none := by
  have ho : off (47 :: b) = false := by unfold off; rw [pt_slash]; rfl
  rw [bd_on ho, pt_slash]
  show (bd ((47 :: b).drop 1)).map (· + 1) = none
  rw [List.drop_one, List.tail_cons, h]; rfl
theorem bd_glue {a b : List UInt8} (ha : bd a = none) (hb : bd b = none) : bd (a ++ 47 :: b) = none := by
  rw [bd_append a _ ha, bd_slash_cons hb]; rfl
theorem bd_join : ∀ (ls : List (List UInt8)), (∀ l ∈ ls, bd l = none) → bd (joinS ls) = none
  | [], _ => rfl
  | [a], h => h a (by simp)
  | a :: b :: r, h => bd_glue (h a (by simp)) (bd_join (b :: r) fun l hl => h l (List.mem_cons_of_mem _ hl))
theorem bd_parts : ∀ (ls : List (List UInt8)), bd (joinS ls) = none → ∀ l ∈ ls, bd l = none
  | [], _, l, hl => by simp at hl
  | [a], h, l, hl => by simp at hl; subst hl; exact h
  | a :: b :: r, h, l, hl => by
    obtain ⟨h1, h2⟩ := bd_slash (a := a) (b := joinS (b :: r)) h
    rcases List.mem_cons.1 hl with rfl | hl
    · exact h1
    · exact bd_parts (b :: r) h2 l hl
theorem bd_levels {s : List UInt8} (h : bd s = none) : ∀ l ∈ splitS s, bd l = none := bd_parts _ (by rw [join_split]; exact h)
def total (ls : List (List UInt8)) : Nat := (ls.map (·.length + 1)).sum
theorem length_join : ∀ (ls : List (List UInt8)), ls ≠ [] → (joinS ls).length + 1 = total ls
  | [], h => absurd rfl h
  | [a], _ => by simp [joinS, total]
  | a :: b :: r, _ => by
    have ih := length_join (b :: r) (by simp)
    show (a ++ 47 :: joinS (b :: r)).length + 1 = _
    simp only [total, List.map_cons, List.sum_cons, List.length_append, List.length_cons] at ih ⊢
    omega
theorem length_level {s : List UInt8} : ∀ l ∈ splitS s, l.length ≤ s.length := by
  have h := length_join (splitS s) (splitS_ne s)
  rw [join_split] at h
  intro l hl
  have : l.length + 1 ≤ total (splitS s) := by
    unfold total
    exact le_sum_mem (List.mem_map.2 ⟨l, hl, rfl⟩)
  omega
theorem length_levels (s : List UInt8) : (splitS s).length ≤ s.length + 1 := by rw [length_split]; have := List.length_filter_le (· == 47) s; omega
theorem vld_join {ls : List (List UInt8)} (hl : (joinS ls).length ≤ 65535) (h : ∀ l ∈ ls, bd l = none) : vld (joinS ls) = true := by
  unfold vld; rw [bd_join ls h]; simp [hl]
theorem levelsB_plus : ∀ (ls : List (List UInt8)), (∀ l ∈ ls, l = [43] ∨ hasWild l = false) → levelsB ls = true
  | [], _ => rfl
  | s :: r, h => by
    have h1 := h s (by simp)
    have ih := levelsB_plus r fun l hl => h l (List.mem_cons_of_mem _ hl)
    unfold levelsB
    rw [ih]
    rcases h1 with rfl | h1
    · rfl
    · have hn : (s == [35]) = false := by rw [beq_eq_false_iff_ne]; rintro rfl; simp [hasWild] at h1
      rw [hn, h1]; simp
theorem levelsB_hash : ∀ (ls : List (List UInt8)), (∀ l ∈ ls, hasWild l = false) → levelsB (ls ++ [[35]]) = true
  | [], _ => rfl
  | s :: r, h => by
    have h1 := h s (by simp)
    have ih := levelsB_hash r fun l hl => h l (List.mem_cons_of_mem _ hl)
    have hn : (s == [35]) = false := by rw [beq_eq_false_iff_ne]; rintro rfl; simp [hasWild] at h1
    rw [List.cons_append]
    unfold levelsB
    rw [ih, hn, h1]; simp
theorem textB_of {s : List UInt8} (h1 : s ≠ []) (h2 : vld s = true) : textB s = true := by
  unfold textB
  rw [h2]
  cases s with
  | nil => exact absurd rfl h1
  | cons a b => rfl
theorem textB_parts {s : List UInt8} (h : textB s = true) : s ≠ [] ∧ s.length ≤ 65535 ∧ bd s = none := by
  simp only [textB, Bool.and_eq_true, Bool.not_eq_true', vld, decide_eq_true_eq, Option.isNone_iff_eq_none] at h
  refine ⟨?_, h.2.1, h.2.2⟩
  rintro rfl; simp at h
theorem join_ne {ls : List (List UInt8)} (l : List UInt8) (hl : l ∈ ls) (h : l ≠ []) : joinS ls ≠ [] := by
  intro e
  have h2 := length_join ls (by rintro rfl; simp at hl)
  rw [e] at h2
  have h3 : l.length + 1 ≤ total ls := by unfold total; exact le_sum_mem (List.mem_map.2 ⟨l, hl, rfl⟩)
  have : l.length ≠ 0 := by simpa using h
  simp at h2; omega
/-- A filter of levels without slashes. -/
theorem filter_of {ls : List (List UInt8)} (h0 : ls ≠ []) (hs : ∀ l ∈ ls, noSlash l = true) (hb : ∀ l ∈ ls, bd l = none) (hl : (joinS ls).length ≤ 65535) (hn : joinS ls ≠ []) (hv : levelsB ls = true) :
    filterB (joinS ls) = true ∧ splitS (joinS ls) = ls := by
  have e := split_join ls h0 hs
  refine ⟨?_, e⟩
  unfold filterB
  rw [e, hv, textB_of hn (vld_join hl hb)]; rfl
theorem match_set : ∀ (l : List (List UInt8)) (k : Nat), matchL (l.set k [43]) l = true
  | [], _ => by simp [matchL]
  | x :: xs, 0 => by simp [matchL_cons, match_self]
  | x :: xs, k + 1 => by simp [matchL_cons, match_set xs k]
theorem total_set : ∀ (l : List (List UInt8)) (k : Nat) (o : List UInt8), total (l.set k o) ≤ total l + o.length + 1
  | [], _, o => by simp [total]
  | x :: xs, 0, o => by simp [total]; omega
  | x :: xs, k + 1, o => by have := total_set xs k o; simp [total] at this ⊢; omega
theorem total_take (l : List (List UInt8)) (k : Nat) : total (l.take k) ≤ total l := by
  induction l generalizing k with
  | nil => simp [total]
  | cons a b ih =>
    cases k with
    | zero => simp [total]
    | succ k => have := ih k; simp [total] at this ⊢; omega
theorem total_app (a b : List (List UInt8)) : total (a ++ b) = total a + total b := by simp [total]
theorem mem_set {l : List (List UInt8)} {k : Nat} {o x : List UInt8} (h : x ∈ l.set k o) : x = o ∨ x ∈ l := by
  rcases List.mem_or_eq_of_mem_set h with h | h
  · exact .inr h
  · exact .inl h
/-- A name's level replaced by '+'. -/
theorem wild_plus {s : List UInt8} (hs : nameB s = true) (hl : s.length ≤ 200) (k : Nat) (hk : k < (splitS s).length) : matchesB (joinS ((splitS s).set k [43])) s = (decide (0 < k) || !dollarB s) := by
  obtain ⟨ht, hw⟩ := name_parts hs
  obtain ⟨hne, _, hbd⟩ := textB_parts ht
  have hj := length_join ((splitS s).set k [43]) (by intro e; have := congrArg List.length e; simp at this; exact splitS_ne s this)
  have h2 := total_set (splitS s) k [43]
  have h3 := length_join (splitS s) (splitS_ne s)
  rw [join_split] at h3
  have hb43 : bd [43] = none := by decide +kernel
  obtain ⟨f1, f2⟩ := filter_of (ls := (splitS s).set k [43]) (by intro e; have := congrArg List.length e; simp at this; exact splitS_ne s this)
    (fun l h => by rcases mem_set h with rfl | h; rfl; exact noSlash_split s l h) (fun l h => by rcases mem_set h with rfl | h; exact hb43; exact bd_levels hbd l h)
    (by simp at h2; omega) (join_ne [43] (List.mem_set hk _) (by simp)) (levelsB_plus _ fun l h => by rcases mem_set h with rfl | h; exact .inl rfl; exact .inr (name_levels hw l h))
  unfold matchesB
  rw [f1, hs, f2]
  unfold coversL
  rw [match_set, dollar_split]
  cases k with
  | zero =>
    have e : wildB (((splitS s).set 0 [43]).headD []) = true := by
      obtain ⟨a, b, e⟩ := splitS_cons s
      rw [e]; rfl
    rw [e]; simp
  | succ k =>
    have e : wildB (((splitS s).set (k + 1) [43]).headD []) = false := by
      obtain ⟨a, b, e⟩ := splitS_cons s
      have := not_wild (name_levels hw a (by rw [e]; simp))
      rw [e]; exact this
    rw [e]; simp
/-- A name's levels from one on replaced by '#'. -/
theorem wild_hash {s : List UInt8} (hs : nameB s = true) (hl : s.length ≤ 200) (k : Nat) (hk : k ≤ (splitS s).length) : matchesB (joinS ((splitS s).take k ++ [[35]])) s = (decide (0 < k) || !dollarB s) := by
  obtain ⟨ht, hw⟩ := name_parts hs
  obtain ⟨hne, _, hbd⟩ := textB_parts ht
  have hj := length_join ((splitS s).take k ++ [[35]]) (by simp)
  have h2 := total_take (splitS s) k
  have h3 := length_join (splitS s) (splitS_ne s)
  rw [join_split] at h3
  rw [total_app] at hj
  have h4 : total [[35]] = 2 := rfl
  have hb35 : bd [35] = none := by decide +kernel
  have hmem : ∀ l ∈ (splitS s).take k ++ [[35]], l = [35] ∨ l ∈ splitS s := fun l h => by
    rcases List.mem_append.1 h with h | h
    · exact .inr (List.mem_of_mem_take h)
    · simp at h; exact .inl h
  have hwt : ∀ l ∈ (splitS s).take k, hasWild l = false := fun l h => name_levels hw l (List.mem_of_mem_take h)
  obtain ⟨f1, f2⟩ := filter_of (ls := (splitS s).take k ++ [[35]]) (by simp)
    (fun l h => by rcases hmem l h with rfl | h; rfl; exact noSlash_split s l h) (fun l h => by rcases hmem l h with rfl | h; exact hb35; exact bd_levels hbd l h)
    (by omega) (join_ne [35] (by simp) (by simp)) (levelsB_hash _ hwt)
  unfold matchesB
  rw [f1, hs, f2]
  unfold coversL
  have hm : matchL ((splitS s).take k ++ [[35]]) (splitS s) = true :=
    (matchL_app_hash _ (fun l h => by rintro rfl; have := hwt _ h; simp [hasWild] at this) _).2 ⟨(splitS s).take k, (splitS s).drop k, (List.take_append_drop _ _).symm, match_self _⟩
  rw [hm, dollar_split]
  cases k with
  | zero =>
    have e : wildB (((splitS s).take 0 ++ [[35]]).headD []) = true := rfl
    rw [e]; simp
  | succ k =>
    have e : wildB (((splitS s).take (k + 1) ++ [[35]]).headD []) = false := by
      obtain ⟨a, b, e⟩ := splitS_cons s
      have := not_wild (name_levels hw a (by rw [e]; simp))
      rw [e]; exact this
    rw [e]; simp
theorem match_other : ∀ (f n : List (List UInt8)) (k : Nat) (o x : List UInt8), (∀ i, i < k → f[i]? ≠ some [35]) → f[k]? = some o → n[k]? = some x → o ≠ x → o ≠ [43] → o ≠ [35] → matchL f n = false
  | [], n, k, o, x, _, h, _, _, _, _ => by simp at h
  | f :: fs, [], k, o, x, _, _, h, _, _, _ => by simp at h
  | f :: fs, y :: ys, 0, o, x, h0, h1, h2, h3, h4, h5 => by
    simp at h1 h2
    subst h1 h2
    rw [matchL_cons]
    simp [h3, h4, h5]
  | f :: fs, y :: ys, k + 1, o, x, h0, h1, h2, h3, h4, h5 => by
    have hf : f ≠ [35] := fun e => h0 0 (by omega) (by simp [e])
    have ih := match_other fs ys k o x (fun i hi => by have := h0 (i + 1) (by omega); simpa using this) (by simpa using h1) (by simpa using h2) h3 h4 h5
    rw [matchL_cons]
    simp [hf, ih]
def c47 (s : List UInt8) : Nat := (s.filter (· == 47)).length
theorem c47_join : ∀ (ls : List (List UInt8)), ls ≠ [] → c47 (joinS ls) + 1 = ls.length + (ls.map c47).sum
  | [], h => absurd rfl h
  | [a], _ => by simp [joinS]; omega
  | a :: b :: r, _ => by
    have ih := c47_join (b :: r) (by simp)
    show c47 (a ++ 47 :: joinS (b :: r)) + 1 = _
    simp only [c47, List.filter_append, List.filter_cons, List.length_append, List.map_cons, List.sum_cons, List.length_cons] at ih ⊢
    simp
    omega
theorem c47_pos {l : List UInt8} (h : noSlash l = false) : 1 ≤ c47 l := by
  simp only [noSlash, Bool.not_eq_false', List.any_eq_true] at h
  obtain ⟨x, hx, he⟩ := h
  unfold c47
  exact List.length_pos_of_mem (List.mem_filter.2 ⟨hx, he⟩)
/-- A name's level replaced by another one: if it is a filter of as many levels, it does not match. -/
theorem wild_other {s : List UInt8} (hs : nameB s = true) (k : Nat) (hk : k < (splitS s).length) (o x : List UInt8) (hx : (splitS s)[k]? = some x) (h1 : o ≠ x) (h2 : o ≠ [43]) (h3 : o ≠ [35])
    (hlen : (splitS (joinS ((splitS s).set k o))).length = (splitS s).length) : matchesB (joinS ((splitS s).set k o)) s = false := by
  obtain ⟨ht, hw⟩ := name_parts hs
  have hne : (splitS s).set k o ≠ [] := by intro e; have := congrArg List.length e; simp at this; exact splitS_ne s this
  have ho : noSlash o = true := by
    cases hn : noSlash o with
    | true => rfl
    | false =>
      exfalso
      have hc := c47_pos hn
      have hj := c47_join _ hne
      have hl2 := length_split (joinS ((splitS s).set k o))
      have hsum : c47 o ≤ (((splitS s).set k o).map c47).sum := le_sum_mem (List.mem_map.2 ⟨o, List.mem_set hk _, rfl⟩)
      unfold c47 at hj hc hsum
      simp only [List.length_set] at hj
      omega
  have e := split_join _ hne (fun l h => by rcases mem_set h with rfl | h; exact ho; exact noSlash_split s l h)
  unfold matchesB
  rw [e]
  unfold coversL
  rw [match_other _ _ k o x (fun i hi he => by
    rw [List.getElem?_set_ne (by omega)] at he
    have := name_levels hw [35] (List.mem_of_getElem? he)
    simp [hasWild] at this) (by simp [hk]) hx h1 h2 h3]
  simp
end Go.Proofs.YtbacnaplpfmpnaaGreatDoor
namespace Go.Proofs.YtbacnaplpfmpnaaGreatDoor
set_option linter.unusedVariables false

theorem index_slash (s : List UInt8) : (∃ i : Nat, Lib.index s [47] = (i : Int) ∧ i < s.length ∧ s = s.take i ++ 47 :: s.drop (i + 1) ∧ noSlash (s.take i) = true) ∨ (Lib.index s [47] = -1 ∧ noSlash s = true) := by
  induction s with
  | nil => exact .inr ⟨rfl, rfl⟩
  | cons c r ih =>
    by_cases hc : c = 47
    · subst hc
      exact .inl ⟨0, by simp [Lib.index], by simp, by simp, rfl⟩
    · have e : Lib.index (c :: r) [47] = if Lib.index r [47] == -1 then -1 else Lib.index r [47] + 1 := by
        have hp : List.isPrefixOf [47] (c :: r) = false := by
          simp [List.isPrefixOf]; exact fun h => hc h.symm
        rw [Lib.index, hp]; simp
      have hc' : (c == 47) = false := by simpa using hc
      rcases ih with ⟨i, h1, h2, h3, h4⟩ | ⟨h1, h2⟩
      · refine .inl ⟨i + 1, ?_, by simp; omega, ?_, ?_⟩
        · rw [e, h1, if_neg (by simp)]; simp
        · rw [List.take_succ_cons, List.drop_succ_cons, List.cons_append, ← h3]
        · rw [List.take_succ_cons]
          simp only [noSlash, List.any_cons, hc', Bool.false_or] at h4 ⊢
          exact h4
      · refine .inr ⟨by rw [e, h1]; rfl, ?_⟩
        simp only [noSlash, List.any_cons, hc', Bool.false_or] at h2 ⊢
        exact h2
theorem count_noSlash {s : List UInt8} (h : noSlash s = true) : s.count 47 = 0 := by
  simp only [noSlash, Bool.not_eq_true', List.any_eq_false] at h
  rw [List.count_eq_zero]
  intro hm
  have := h 47 hm
  simp at this
theorem splitK_slash : ∀ (k : Nat) (s : List UInt8), s.count 47 = k → Lib.splitK [47] 0 k s = splitS s
  | 0, s, h => by
    rcases index_slash s with ⟨i, _, _, h3, _⟩ | ⟨_, h2⟩
    · rw [h3] at h
      simp at h
    · rw [splitS_one s h2]; rfl
  | k + 1, s, h => by
    rcases index_slash s with ⟨i, h1, h2, h3, h4⟩ | ⟨_, h2⟩
    · unfold Lib.splitK
      have e1 : (Lib.index s [47]).toNat = i := by rw [h1]; rfl
      rw [if_neg (by rw [h1]; simp), e1]
      have hc : (s.drop (i + 1)).count 47 = k := by
        have h5 := congrArg (List.count (47 : UInt8)) h3
        rw [List.count_append, List.count_cons_self, count_noSlash h4, h] at h5
        omega
      show s.take (i + 0) :: Lib.splitK [47] 0 k (s.drop (i + 1)) = splitS s
      rw [splitK_slash k _ hc]
      conv => rhs; rw [h3]
      rw [splitS_app _ h4]; rfl
    · rw [count_noSlash h2] at h; cases h
theorem split_slash (s : List UInt8) : Lib.splitK [47] 0 (Lib.count s [47]) s = splitS s := splitK_slash _ s (by rw [Lib.count_one])
theorem count_slash (s : List UInt8) : Lib.count s [47] + 1 = (splitS s).length := by
  rw [Lib.count_one, length_split, List.count_eq_length_filter]
theorem join_slash : ∀ (ls : List (List UInt8)), Lib.join ls [47] = joinS ls
  | [] => rfl
  | [a] => Lib.join_one a [47]
  | a :: b :: r => by
    have ih := join_slash (b :: r)
    rw [Lib.join_cons] at ih ⊢
    show a ++ ([47] ++ b ++ Lib.joinTail [47] r) = a ++ 47 :: joinS (b :: r)
    rw [← ih]; simp
theorem cut_slash (s : List UInt8) : (∃ g f, Lib.cut s [47] = (g, f, true) ∧ s = g ++ 47 :: f ∧ noSlash g = true) ∨ (Lib.cut s [47] = (s, [], false) ∧ noSlash s = true) := by
  rcases index_slash s with ⟨i, h1, h2, h3, h4⟩ | ⟨h1, h2⟩
  · refine .inl ⟨s.take i, s.drop (i + 1), ?_, h3, h4⟩
    unfold Lib.cut
    rw [if_pos (by omega), h1]; rfl
  · refine .inr ⟨?_, h2⟩
    unfold Lib.cut
    rw [if_neg (by omega)]
theorem cut_app {g : List UInt8} (f : List UInt8) (hg : noSlash g = true) : Lib.cut (g ++ 47 :: f) [47] = (g, f, true) := by
  rcases cut_slash (g ++ 47 :: f) with ⟨g', f', e, h, hg'⟩ | ⟨_, h⟩
  · have e1 := splitS_app g hg f
    have e2 := splitS_app g' hg' f'
    rw [← h, e1] at e2
    have hgg : g = g' := (List.cons.inj e2).1
    subst hgg
    have := List.append_cancel_left h
    rw [e, (List.cons.inj this).2]
  · simp [noSlash] at h
theorem anyL_eq : ∀ (s : List UInt8), Lib.containsAny s [43, 35] = hasWild s
  | [] => rfl
  | c :: r => by
    have ih := anyL_eq r
    have hge := Lib.indexAny_ge [43, 35] r
    unfold Lib.containsAny at ih ⊢
    rw [Lib.indexAny]
    by_cases hc : [43, 35].contains c = true
    · have : hasWild (c :: r) = true := by
        simp [hasWild] at hc ⊢
        rcases hc with hc | hc
        · exact .inl (.inl hc)
        · exact .inl (.inr hc)
      simp only [hc, if_true, this]; rfl
    · have h0 : ([43, 35].contains c) = false := by simpa using hc
      have hw : hasWild (c :: r) = hasWild r := by simp [hasWild] at h0 ⊢; simp [h0]
      rw [hw, ← ih]
      simp only [h0]
      by_cases h1 : Lib.indexAny r [43, 35] = -1
      · rw [h1]; rfl
      · simp [h1]; omega

/-- '$share/'. -/
def shareP : List UInt8 := [36, 115, 104, 97, 114, 101, 47]
/-- What topic.Shared returns. -/
def sharedF (s : List UInt8) : List UInt8 × List UInt8 × Bool :=
  let c := Lib.cut (Lib.trimPrefix s shareP) [47]
  if Lib.hasPrefix s shareP && (c.2.2 && (vld s && (nameB c.1 && filterB c.2.1))) then (c.1, c.2.1, true) else ([], [], false)
theorem prefix_share (s : List UInt8) : (Lib.hasPrefix s shareP = true ∧ s = shareP ++ Lib.trimPrefix s shareP) ∨ Lib.hasPrefix s shareP = false := by
  cases h : Lib.hasPrefix s shareP with
  | false => exact .inr rfl
  | true =>
    refine .inl ⟨rfl, ?_⟩
    unfold Lib.trimPrefix
    rw [if_pos h]
    have h' : shareP.isPrefixOf s = true := h
    obtain ⟨t, ht⟩ := List.isPrefixOf_iff_prefix.1 h'
    rw [← ht]; simp
theorem shared_inv {s g f : List UInt8} (h : sharedF s = (g, f, true)) : s = shareP ++ (g ++ 47 :: f) ∧ g ≠ [] ∧ filterB f = true ∧ vld s = true ∧ nameB g = true ∧ noSlash g = true := by
  unfold sharedF at h
  simp only at h
  split at h
  · rename_i hc
    simp only [Bool.and_eq_true] at hc
    obtain ⟨h1, h2, h3, h4, h5⟩ := hc
    rcases prefix_share s with ⟨_, e⟩ | e
    · rcases cut_slash (Lib.trimPrefix s shareP) with ⟨g', f', e1, e2, e3⟩ | ⟨e1, _⟩
      · rw [e1] at h h4 h5
        simp only [Prod.mk.injEq, and_true] at h
        obtain ⟨rfl, rfl⟩ := h
        refine ⟨by rw [← e2]; exact e, ?_, h5, h3, h4, e3⟩
        exact (textB_parts (name_parts h4).1).1
      · rw [e1] at h2; cases h2
    · rw [h1] at e; cases e
  · simp at h
theorem shared_cases (s : List UInt8) : (∃ g f, sharedF s = (g, f, true)) ∨ sharedF s = ([], [], false) := by
  unfold sharedF
  simp only
  split
  · exact .inl ⟨_, _, rfl⟩
  · exact .inr rfl
theorem bd_share : bd shareP = none := by decide +kernel
theorem trim_share (r : List UInt8) : Lib.trimPrefix (shareP ++ r) shareP = r ∧ Lib.hasPrefix (shareP ++ r) shareP = true := by
  have h : Lib.hasPrefix (shareP ++ r) shareP = true := by
    show shareP.isPrefixOf (shareP ++ r) = true
    rw [List.isPrefixOf_iff_prefix]; exact List.prefix_append _ _
  refine ⟨?_, h⟩
  unfold Lib.trimPrefix
  rw [if_pos h]; simp
/-- A group without a slash, and a filter. -/
theorem shared_of {a b : List UInt8} (ha : noSlash a = true) (hal : a.length ≤ 200) (hbl : b.length ≤ 200) : sharedF (shareP ++ (a ++ 47 :: b)) = if nameB a && filterB b then (a, b, true) else ([], [], false) := by
  unfold sharedF
  obtain ⟨e1, e2⟩ := trim_share (a ++ 47 :: b)
  rw [e1, e2, cut_app b ha]
  simp only [Bool.true_and]
  by_cases h : nameB a = true ∧ filterB b = true
  · have hv : vld (shareP ++ (a ++ 47 :: b)) = true := by
      have q1 := (textB_parts (name_parts h.1).1).2.2
      have q2 := (textB_parts (filterB_parts h.2).1).2.2
      have q3 : bd (shareP ++ (a ++ 47 :: b)) = none := by rw [bd_append _ _ bd_share, bd_glue q1 q2]; rfl
      unfold vld
      rw [q3]; simp [shareP]; omega
    rw [hv, h.1, h.2]; rfl
  · have h' : (nameB a && filterB b) = false := by
      cases q : (nameB a && filterB b) with
      | false => rfl
      | true => simp only [Bool.and_eq_true] at q; exact absurd q h
    rw [h']; simp
theorem one_level (a : List UInt8) : (splitS a).length = 1 ↔ noSlash a = true := by
  constructor
  · intro h
    obtain ⟨x, t, e⟩ := splitS_cons a
    rw [e] at h
    simp at h
    subst h
    have hj := join_split a
    rw [e] at hj
    have : x = a := hj
    subst this
    exact noSlash_split x x (by rw [e]; simp)
  · intro h; rw [splitS_one a h]; rfl
end Go.Proofs.YtbacnaplpfmpnaaGreatDoor
