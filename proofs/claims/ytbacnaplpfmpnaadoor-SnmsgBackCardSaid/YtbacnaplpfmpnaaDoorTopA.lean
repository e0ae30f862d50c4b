/- Topics, plain: levels, names, filters, matching. No Go in sight. -/
import Derived.Test.YtbacnaplpfmpnaaDoorUstB
namespace Go.Proofs.YtbacnaplpfmpnaaDoor
set_option linter.unusedVariables false

/-- What stands between slashes. -/
def splitS : List UInt8 → List (List UInt8)
  | [] => [[]]
  | c :: r => if c = 47 then [] :: splitS r else (c :: (splitS r).headD []) :: (splitS r).tail
theorem splitS_step (c : UInt8) (r : List UInt8) : splitS (c :: r) = if c = 47 then [] :: splitS r else (c :: (splitS r).headD []) :: (splitS r).tail := rfl
def joinS : List (List UInt8) → List UInt8
  | [] => []
  | [a] => a
  | a :: b :: r => a ++ 47 :: joinS (b :: r)
def noSlash (l : List UInt8) : Bool := !l.any (· == 47)
def hasWild (l : List UInt8) : Bool := l.any fun c => c == 43 || c == 35
def textB (s : List UInt8) : Bool := !s.isEmpty && vld s
def nameB (s : List UInt8) : Bool := textB s && !hasWild s
def wildB (l : List UInt8) : Bool := l == [43] || l == [35]
def levelsB : List (List UInt8) → Bool
  | [] => true
  | s :: r => !(s == [35] && !r.isEmpty) && !(!wildB s && hasWild s) && levelsB r
def filterB (s : List UInt8) : Bool := textB s && levelsB (splitS s)
def dollarB (s : List UInt8) : Bool := s.head? == some 36
def matchL : List (List UInt8) → List (List UInt8) → Bool
  | [], n => n.isEmpty
  | f :: fs, n => f == [35] || match n with | [] => false | x :: xs => (f == [43] || f == x) && matchL fs xs
def coversL (f n : List (List UInt8)) : Bool := !(wildB (f.headD []) && dollarB (n.headD [])) && matchL f n
def matchesB (f n : List UInt8) : Bool := filterB f && nameB n && coversL (splitS f) (splitS n)
def freshL : List UInt8 := [43, 43]
def madeL (n : List (List UInt8)) : List (List UInt8) := n.map fun l => if l = [43] then freshL else l
def deepB (n : List (List UInt8)) : Bool := n.getLast? == some [35]
def withinL (f n : List (List UInt8)) : Bool :=
  if deepB n then ((madeL n.dropLast).isEmpty || coversL f (madeL n.dropLast)) && coversL f (madeL n.dropLast ++ [freshL]) && coversL f (madeL n.dropLast ++ [freshL, freshL])
  else coversL f (madeL n)
def withinB (a b : List UInt8) : Bool := filterB a && filterB b && withinL (splitS b) (splitS a)

theorem splitS_ne (s : List UInt8) : splitS s ≠ [] := by
  cases s with
  | nil => simp [splitS]
  | cons c r => unfold splitS; split <;> simp
theorem splitS_cons (s : List UInt8) : ∃ h t, splitS s = h :: t := by
  cases h : splitS s with
  | nil => exact absurd h (splitS_ne s)
  | cons a b => exact ⟨a, b, rfl⟩
theorem join_split (s : List UInt8) : joinS (splitS s) = s := by
  induction s with
  | nil => rfl
  | cons c r ih =>
    unfold splitS
    obtain ⟨h, t, e⟩ := splitS_cons r
    split
    · rename_i hc
      rw [e] at ih ⊢
      show [] ++ 47 :: joinS (h :: t) = _
      rw [ih, hc]; rfl
    · rw [e] at ih ⊢
      cases t with
      | nil =>
        have ih' : h = r := ih
        simp [joinS, ih']
      | cons b t =>
        have ih' : h ++ 47 :: joinS (b :: t) = r := ih
        show (c :: h) ++ 47 :: joinS (b :: t) = c :: r
        rw [← ih']; rfl
theorem noSlash_split (s : List UInt8) : ∀ l ∈ splitS s, noSlash l = true := by
  induction s with
  | nil => intro l hl; simp [splitS] at hl; subst hl; rfl
  | cons c r ih =>
    obtain ⟨h, t, e⟩ := splitS_cons r
    intro l hl
    unfold splitS at hl
    rw [e] at hl ih
    split at hl
    · rcases List.mem_cons.1 hl with rfl | hl
      · rfl
      · exact ih l hl
    · rename_i hc
      rcases List.mem_cons.1 hl with rfl | hl
      · have := ih h (by simp)
        simp only [noSlash, List.headD_cons, List.any_cons, Bool.not_or] at this ⊢
        rw [this]; simp [hc]
      · exact ih l (List.mem_cons_of_mem _ hl)
theorem splitS_app (a : List UInt8) (ha : noSlash a = true) (r : List UInt8) : splitS (a ++ 47 :: r) = a :: splitS r := by
  induction a with
  | nil => simp [splitS]
  | cons c a ih =>
    simp only [noSlash, List.any_cons, Bool.not_or, Bool.and_eq_true] at ha
    have hc : ¬ c = 47 := by have := ha.1; simpa using this
    have ih' := ih (by simpa [noSlash] using ha.2)
    show splitS (c :: (a ++ 47 :: r)) = _
    rw [splitS_step, if_neg hc, ih']
    rfl
theorem splitS_one (a : List UInt8) (ha : noSlash a = true) : splitS a = [a] := by
  induction a with
  | nil => rfl
  | cons c a ih =>
    simp only [noSlash, List.any_cons, Bool.not_or, Bool.and_eq_true] at ha
    have hc : ¬ c = 47 := by have := ha.1; simpa using this
    have ih' := ih (by simpa [noSlash] using ha.2)
    rw [splitS_step, if_neg hc, ih']
    rfl
theorem split_join : ∀ (ls : List (List UInt8)), ls ≠ [] → (∀ l ∈ ls, noSlash l = true) → splitS (joinS ls) = ls
  | [], h, _ => absurd rfl h
  | [a], _, h => splitS_one a (h a (by simp))
  | a :: b :: r, _, h => by
    show splitS (a ++ 47 :: joinS (b :: r)) = _
    rw [splitS_app a (h a (by simp)), split_join (b :: r) (by simp) (fun l hl => h l (List.mem_cons_of_mem _ hl))]
theorem length_split (s : List UInt8) : (splitS s).length = (s.filter (· == 47)).length + 1 := by
  induction s with
  | nil => rfl
  | cons c r ih =>
    obtain ⟨h, t, e⟩ := splitS_cons r
    unfold splitS
    split
    · rename_i hc; simp [hc, ih]
    · rename_i hc; rw [e] at ih ⊢; simp [hc] at ih ⊢; exact ih
theorem dollar_split (s : List UInt8) : dollarB ((splitS s).headD []) = dollarB s := by
  cases s with
  | nil => rfl
  | cons c r =>
    unfold splitS
    split
    · rename_i hc; subst hc; rfl
    · simp [dollarB]
theorem hasWild_split (s : List UInt8) : ∀ l ∈ splitS s, hasWild l = true → hasWild s = true := by
  induction s with
  | nil => intro l hl; simp [splitS] at hl; subst hl; exact id
  | cons c r ih =>
    obtain ⟨h, t, e⟩ := splitS_cons r
    intro l hl hw
    unfold splitS at hl
    rw [e] at hl ih
    have key : ∀ x, x ∈ h :: t → hasWild x = true → hasWild (c :: r) = true := fun x hx hxw => by
      have := ih x hx hxw
      simp only [hasWild, List.any_cons] at this ⊢
      rw [this]; simp
    split at hl
    · rcases List.mem_cons.1 hl with rfl | hl
      · simp [hasWild] at hw
      · exact key l hl hw
    · rcases List.mem_cons.1 hl with rfl | hl
      · simp only [hasWild, List.headD_cons, List.any_cons, Bool.or_eq_true] at hw
        rcases hw with hw | hw
        · simp only [hasWild, List.any_cons, Bool.or_eq_true]; exact .inl hw
        · exact key h (by simp) hw
      · exact key l (List.mem_cons_of_mem _ hl) hw
theorem wild_hasWild {l : List UInt8} (h : wildB l = true) : hasWild l = true := by
  simp [wildB] at h
  rcases h with rfl | rfl <;> rfl
theorem levelsB_name : ∀ (ls : List (List UInt8)), (∀ l ∈ ls, hasWild l = false) → levelsB ls = true
  | [], _ => rfl
  | s :: r, h => by
    have h1 := h s (by simp)
    have hn : (s == [35]) = false := by
      rw [beq_eq_false_iff_ne]; rintro rfl; simp [hasWild] at h1
    unfold levelsB
    rw [hn, h1, levelsB_name r (fun l hl => h l (List.mem_cons_of_mem _ hl))]
    simp
theorem name_levels {s : List UInt8} (h : hasWild s = false) : ∀ l ∈ splitS s, hasWild l = false := fun l hl => by
  cases hw : hasWild l with
  | false => rfl
  | true => rw [hasWild_split s l hl hw] at h; cases h
theorem name_filter {s : List UInt8} (h : nameB s = true) : filterB s = true := by
  simp only [nameB, Bool.and_eq_true, Bool.not_eq_true'] at h
  unfold filterB
  rw [h.1, levelsB_name _ (name_levels h.2)]; rfl
theorem match_self : ∀ (l : List (List UInt8)), matchL l l = true
  | [] => rfl
  | x :: xs => by unfold matchL; simp [match_self xs]
theorem not_wild {l : List UInt8} (h : hasWild l = false) : wildB l = false := by
  cases hw : wildB l with
  | false => rfl
  | true => rw [wild_hasWild hw] at h; cases h
theorem head_mem {ls : List (List UInt8)} (h : ls ≠ []) : ls.headD [] ∈ ls := by
  cases ls with
  | nil => exact absurd rfl h
  | cons a b => simp
theorem covers_self {s : List UInt8} (h : hasWild s = false) : coversL (splitS s) (splitS s) = true := by
  unfold coversL
  rw [match_self, not_wild (name_levels h _ (head_mem (splitS_ne s)))]
  rfl
theorem matches_self {s : List UInt8} (h : nameB s = true) : matchesB s s = true := by
  unfold matchesB
  rw [name_filter h, h]
  simp only [nameB, Bool.and_eq_true, Bool.not_eq_true'] at h
  rw [covers_self h.2]; rfl
theorem filter_hash : filterB [35] = true := by decide +kernel
theorem matches_hash (s : List UInt8) : matchesB [35] s = (nameB s && !dollarB s) := by
  unfold matchesB
  rw [filter_hash]
  have e : splitS [35] = [[35]] := rfl
  unfold coversL
  rw [e, dollar_split]
  have h1 : matchL [[35]] (splitS s) = true := by unfold matchL; rfl
  rw [h1]
  have h2 : wildB (([[35]] : List (List UInt8)).headD []) = true := rfl
  rw [h2]; simp
end Go.Proofs.YtbacnaplpfmpnaaDoor
