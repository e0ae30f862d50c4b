/- Topics, plain: levels replaced by wildcards; shared filters. -/
import Derived.Test.YtbacnaplpfmpnaaDoorTopC
namespace Go.Proofs.YtbacnaplpfmpnaaDoor
set_option linter.unusedVariables false

theorem le_sum_mem : ∀ {ls : List Nat} {n : Nat}, n ∈ ls → n ≤ ls.sum
  | [], n, h => by simp at h
  | a :: b, n, h => by
    rw [List.sum_cons]
    rcases List.mem_cons.1 h with rfl | h
    · omega
    · have := le_sum_mem h; omega
theorem pt_slash (b : List UInt8) : pt (47 :: b) = (47, 1) := by
  have hg : g (47 :: b) 0 = 47 := rfl
  unfold pt; rw [if_neg (by simp), if_pos (by rw [hg]; decide), hg]
theorem bd_slash_cons {b : List UInt8} (h : bd b = none) : bd (47 :: b) = none := by
  have ho : off (47 :: b) = false := by unfold off; rw [pt_slash]; rfl
  rw [bd_on ho, pt_slash]
  show (bd ((47 :: b).drop 1)).map (· + 1) = none
  rw [List.drop_one, List.tail_cons, h]; rfl
theorem bd_glue {a b : List UInt8} (ha : bd a = none) (hb : bd b = none) : bd (a ++ 47 :: b) = none := by
  rw [bd_append a _ ha, bd_slash_cons hb]; rfl
theorem bd_join : ∀ (ls : List (List UInt8)), (∀ l ∈ ls, bd l = none) → bd (joinS ls) = none
  | [], _ => rfl
  | [a], h => h a (by simp)
  | a :: b :: r, h => bd_glue (h a (by simp)) (bd_join (b :: r) fun l hl => h l (List.mem_cons_of_mem _ hl))
theorem bd_parts : ∀ (ls : List (List UInt8)), bd (joinS ls) = none → ∀ l ∈ ls, bd l = none
  | [], _, l, hl => by simp at hl
  | [a], h, l, hl => by simp at hl; subst hl; exact h
  | a :: b :: r, h, l, hl => by
    obtain ⟨h1, h2⟩ := bd_slash (a := a) (b := joinS (b :: r)) h
    rcases List.mem_cons.1 hl with rfl | hl
    · exact h1
    · exact bd_parts (b :: r) h2 l hl
theorem bd_levels {s : List UInt8} (h : bd s = none) : ∀ l ∈ splitS s, bd l = none := bd_parts _ (by rw [join_split]; exact h)
def total (ls : List (List UInt8)) : Nat := (ls.map (·.length + 1)).sum
theorem length_join : ∀ (ls : List (List UInt8)), ls ≠ [] → (joinS ls).length + 1 = total ls
  | [], h => absurd rfl h
  | [a], _ => by simp [joinS, total]
  | a :: b :: r, _ => by
    have ih := length_join (b :: r) (by simp)
    show (a ++ 47 :: joinS (b :: r)).length + 1 = _
    simp only [total, List.map_cons, List.sum_cons, List.length_append, List.length_cons] at ih ⊢
    omega
theorem length_level {s : List UInt8} : ∀ l ∈ splitS s, l.length ≤ s.length := by
  have h := length_join (splitS s) (splitS_ne s)
  rw [join_split] at h
  intro l hl
  have : l.length + 1 ≤ total (splitS s) := by
    unfold total
    exact le_sum_mem (List.mem_map.2 ⟨l, hl, rfl⟩)
  omega
theorem length_levels (s : List UInt8) : (splitS s).length ≤ s.length + 1 := by rw [length_split]; have := List.length_filter_le (· == 47) s; omega
theorem vld_join {ls : List (List UInt8)} (hl : (joinS ls).length ≤ 65535) (h : ∀ l ∈ ls, bd l = none) : vld (joinS ls) = true := by
  unfold vld; rw [bd_join ls h]; simp [hl]
theorem levelsB_plus : ∀ (ls : List (List UInt8)), (∀ l ∈ ls, l = [43] ∨ hasWild l = false) → levelsB ls = true
  | [], _ => rfl
  | s :: r, h => by
    have h1 := h s (by simp)
    have ih := levelsB_plus r fun l hl => h l (List.mem_cons_of_mem _ hl)
    unfold levelsB
    rw [ih]
    rcases h1 with rfl | h1
    · rfl
    · have hn : (s == [35]) = false := by rw [beq_eq_false_iff_ne]; rintro rfl; simp [hasWild] at h1
      rw [hn, h1]; simp
theorem levelsB_hash : ∀ (ls : List (List UInt8)), (∀ l ∈ ls, hasWild l = false) → levelsB (ls ++ [[35]]) = true
  | [], _ => rfl
  | s :: r, h => by
    have h1 := h s (by simp)
    have ih := levelsB_hash r fun l hl => h l (List.mem_cons_of_mem _ hl)
    have hn : (s == [35]) = false := by rw [beq_eq_false_iff_ne]; rintro rfl; simp [hasWild] at h1
    rw [List.cons_append]
    unfold levelsB
    rw [ih, hn, h1]; simp
theorem textB_of {s : List UInt8} (h1 : s ≠ []) (h2 : vld s = true) : textB s = true := by
  unfold textB
  rw [h2]
  cases s with
  | nil => exact absurd rfl h1
  | cons a b => rfl
theorem textB_parts {s : List UInt8} (h : textB s = true) : s ≠ [] ∧ s.length ≤ 65535 ∧ bd s = none := by
  simp only [textB, Bool.and_eq_true, Bool.not_eq_true', vld, decide_eq_true_eq, Option.isNone_iff_eq_none] at h
  refine ⟨?_, h.2.1, h.2.2⟩
  rintro rfl; simp at h
theorem join_ne {ls : List (List UInt8)} (l : List UInt8) (hl : l ∈ ls) (h : l ≠ []) : joinS ls ≠ [] := by
  intro e
  have h2 := length_join ls (by rintro rfl; simp at hl)
  rw [e] at h2
  have h3 : l.length + 1 ≤ total ls := by unfold total; exact le_sum_mem (List.mem_map.2 ⟨l, hl, rfl⟩)
  have : l.length ≠ 0 := by simpa using h
  simp at h2; omega
/-- A filter of levels without slashes. -/
theorem filter_of {ls : List (List UInt8)} (h0 : ls ≠ []) (hs : ∀ l ∈ ls, noSlash l = true) (hb : ∀ l ∈ ls, bd l = none) (hl : (joinS ls).length ≤ 65535) (hn : joinS ls ≠ []) (hv : levelsB ls = true) :
    filterB (joinS ls) = true ∧ splitS (joinS ls) = ls := by
  have e := split_join ls h0 hs
  refine ⟨?_, e⟩
  unfold filterB
  rw [e, hv, textB_of hn (vld_join hl hb)]; rfl
theorem match_set : ∀ (l : List (List UInt8)) (k : Nat), matchL (l.set k [43]) l = true
  | [], _ => by simp [matchL]
  | x :: xs, 0 => by simp [matchL_cons, match_self]
  | x :: xs, k + 1 => by simp [matchL_cons, match_set xs k]
theorem total_set : ∀ (l : List (List UInt8)) (k : Nat) (o : List UInt8), total (l.set k o) ≤ total l + o.length + 1
  | [], _, o => by simp [total]
  | x :: xs, 0, o => by simp [total]; omega
  | x :: xs, k + 1, o => by have := total_set xs k o; simp [total] at this ⊢; omega
theorem total_take (l : List (List UInt8)) (k : Nat) : total (l.take k) ≤ total l := by
  induction l generalizing k with
  | nil => simp [total]
  | cons a b ih =>
    cases k with
    | zero => simp [total]
    | succ k => have := ih k; simp [total] at this ⊢; omega
theorem total_app (a b : List (List UInt8)) : total (a ++ b) = total a + total b := by simp [total]
theorem mem_set {l : List (List UInt8)} {k : Nat} {o x : List UInt8} (h : x ∈ l.set k o) : x = o ∨ x ∈ l := by
  rcases List.mem_or_eq_of_mem_set h with h | h
  · exact .inr h
  · exact .inl h
/-- A name's level replaced by '+'. -/
theorem wild_plus {s : List UInt8} (hs : nameB s = true) (hl : s.length ≤ 200) (k : Nat) (hk : k < (splitS s).length) : matchesB (joinS ((splitS s).set k [43])) s = (decide (0 < k) || !dollarB s) := by
  obtain ⟨ht, hw⟩ := name_parts hs
  obtain ⟨hne, _, hbd⟩ := textB_parts ht
  have hj := length_join ((splitS s).set k [43]) (by intro e; have := congrArg List.length e; simp at this; exact splitS_ne s this)
  have h2 := total_set (splitS s) k [43]
  have h3 := length_join (splitS s) (splitS_ne s)
  rw [join_split] at h3
  have hb43 : bd [43] = none := by decide +kernel
  obtain ⟨f1, f2⟩ := filter_of (ls := (splitS s).set k [43]) (by intro e; have := congrArg List.length e; simp at this; exact splitS_ne s this)
    (fun l h => by rcases mem_set h with rfl | h; rfl; exact noSlash_split s l h) (fun l h => by rcases mem_set h with rfl | h; exact hb43; exact bd_levels hbd l h)
    (by simp at h2; omega) (join_ne [43] (List.mem_set hk _) (by simp)) (levelsB_plus _ fun l h => by rcases mem_set h with rfl | h; exact .inl rfl; exact .inr (name_levels hw l h))
  unfold matchesB
  rw [f1, hs, f2]
  unfold coversL
  rw [match_set, dollar_split]
  cases k with
  | zero =>
    have e : wildB (((splitS s).set 0 [43]).headD []) = true := by
      obtain ⟨a, b, e⟩ := splitS_cons s
      rw [e]; rfl
    rw [e]; simp
  | succ k =>
    have e : wildB (((splitS s).set (k + 1) [43]).headD []) = false := by
      obtain ⟨a, b, e⟩ := splitS_cons s
      have := not_wild (name_levels hw a (by rw [e]; simp))
      rw [e]; exact this
    rw [e]; simp
/-- A name's levels from one on replaced by '#'. -/
theorem wild_hash {s : List UInt8} (hs : nameB s = true) (hl : s.length ≤ 200) (k : Nat) (hk : k ≤ (splitS s).length) : matchesB (joinS ((splitS s).take k ++ [[35]])) s = (decide (0 < k) || !dollarB s) := by
  obtain ⟨ht, hw⟩ := name_parts hs
  obtain ⟨hne, _, hbd⟩ := textB_parts ht
  have hj := length_join ((splitS s).take k ++ [[35]]) (by simp)
  have h2 := total_take (splitS s) k
  have h3 := length_join (splitS s) (splitS_ne s)
  rw [join_split] at h3
  rw [total_app] at hj
  have h4 : total [[35]] = 2 := rfl
  have hb35 : bd [35] = none := by decide +kernel
  have hmem : ∀ l ∈ (splitS s).take k ++ [[35]], l = [35] ∨ l ∈ splitS s := fun l h => by
    rcases List.mem_append.1 h with h | h
    · exact .inr (List.mem_of_mem_take h)
    · simp at h; exact .inl h
  have hwt : ∀ l ∈ (splitS s).take k, hasWild l = false := fun l h => name_levels hw l (List.mem_of_mem_take h)
  obtain ⟨f1, f2⟩ := filter_of (ls := (splitS s).take k ++ [[35]]) (by simp)
    (fun l h => by rcases hmem l h with rfl | h; rfl; exact noSlash_split s l h) (fun l h => by rcases hmem l h with rfl | h; exact hb35; exact bd_levels hbd l h)
    (by omega) (join_ne [35] (by simp) (by simp)) (levelsB_hash _ hwt)
  unfold matchesB
  rw [f1, hs, f2]
  unfold coversL
  have hm : matchL ((splitS s).take k ++ [[35]]) (splitS s) = true :=
    (matchL_app_hash _ (fun l h => by rintro rfl; have := hwt _ h; simp [hasWild] at this) _).2 ⟨(splitS s).take k, (splitS s).drop k, (List.take_append_drop _ _).symm, match_self _⟩
  rw [hm, dollar_split]
  cases k with
  | zero =>
    have e : wildB (((splitS s).take 0 ++ [[35]]).headD []) = true := rfl
    rw [e]; simp
  | succ k =>
    have e : wildB (((splitS s).take (k + 1) ++ [[35]]).headD []) = false := by
      obtain ⟨a, b, e⟩ := splitS_cons s
      have := not_wild (name_levels hw a (by rw [e]; simp))
      rw [e]; exact this
    rw [e]; simp
theorem match_other : ∀ (f n : List (List UInt8)) (k : Nat) (o x : List UInt8), (∀ i, i < k → f[i]? ≠ some [35]) → f[k]? = some o → n[k]? = some x → o ≠ x → o ≠ [43] → o ≠ [35] → matchL f n = false
  | [], n, k, o, x, _, h, _, _, _, _ => by simp at h
  | f :: fs, [], k, o, x, _, _, h, _, _, _ => by simp at h
  | f :: fs, y :: ys, 0, o, x, h0, h1, h2, h3, h4, h5 => by
    simp at h1 h2
    subst h1 h2
    rw [matchL_cons]
    simp [h3, h4, h5]
  | f :: fs, y :: ys, k + 1, o, x, h0, h1, h2, h3, h4, h5 => by
    have hf : f ≠ [35] := fun e => h0 0 (by omega) (by simp [e])
    have ih := match_other fs ys k o x (fun i hi => by have := h0 (i + 1) (by omega); simpa using this) (by simpa using h1) (by simpa using h2) h3 h4 h5
    rw [matchL_cons]
    simp [hf, ih]
def c47 (s : List UInt8) : Nat := (s.filter (· == 47)).length
theorem c47_join : ∀ (ls : List (List UInt8)), ls ≠ [] → c47 (joinS ls) + 1 = ls.length + (ls.map c47).sum
  | [], h => absurd rfl h
  | [a], _ => by simp [joinS]; omega
  | a :: b :: r, _ => by
    have ih := c47_join (b :: r) (by simp)
    show c47 (a ++ 47 :: joinS (b :: r)) + 1 = _
    simp only [c47, List.filter_append, List.filter_cons, List.length_append, List.map_cons, List.sum_cons, List.length_cons] at ih ⊢
    simp
    omega
theorem c47_pos {l : List UInt8} (h : noSlash l = false) : 1 ≤ c47 l := by
  simp only [noSlash, Bool.not_eq_false', List.any_eq_true] at h
  obtain ⟨x, hx, he⟩ := h
  unfold c47
  exact List.length_pos_of_mem (List.mem_filter.2 ⟨hx, he⟩)
/-- A name's level replaced by another one: if it is a filter of as many levels, it does not match. -/
theorem wild_other {s : List UInt8} (hs : nameB s = true) (k : Nat) (hk : k < (splitS s).length) (o x : List UInt8) (hx : (splitS s)[k]? = some x) (h1 : o ≠ x) (h2 : o ≠ [43]) (h3 : o ≠ [35])
    (hlen : (splitS (joinS ((splitS s).set k o))).length = (splitS s).length) : matchesB (joinS ((splitS s).set k o)) s = false := by
  obtain ⟨ht, hw⟩ := name_parts hs
  have hne : (splitS s).set k o ≠ [] := by intro e; have := congrArg List.length e; simp at this; exact splitS_ne s this
  have ho : noSlash o = true := by
    cases hn : noSlash o with
    | true => rfl
    | false =>
      exfalso
      have hc := c47_pos hn
      have hj := c47_join _ hne
      have hl2 := length_split (joinS ((splitS s).set k o))
      have hsum : c47 o ≤ (((splitS s).set k o).map c47).sum := le_sum_mem (List.mem_map.2 ⟨o, List.mem_set hk _, rfl⟩)
      unfold c47 at hj hc hsum
      simp only [List.length_set] at hj
      omega
  have e := split_join _ hne (fun l h => by rcases mem_set h with rfl | h; exact ho; exact noSlash_split s l h)
  unfold matchesB
  rw [e]
  unfold coversL
  rw [match_other _ _ k o x (fun i hi he => by
    rw [List.getElem?_set_ne (by omega)] at he
    have := name_levels hw [35] (List.mem_of_getElem? he)
    simp [hasWild] at this) (by simp [hk]) hx h1 h2 h3]
  simp
end Go.Proofs.YtbacnaplpfmpnaaDoor
