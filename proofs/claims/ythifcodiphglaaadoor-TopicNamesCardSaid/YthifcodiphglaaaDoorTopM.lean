/- topic: covers, Matches, Shared, Join. -/
import Derived.Test.YthifcodiphglaaaDoorTopV
namespace Go.Proofs.YthifcodiphglaaaDoor
open Go.RowKit
set_option linter.unusedVariables false

theorem below_alT {a w : World} (h : Below a.heap.size a w) (o : Obj) : Below a.heap.size a (w.alloc o) := h.alloc h.size o
theorem below_drewNT {a w : World} (h : Below a.heap.size a w) (n : Nat) : Below a.heap.size a (w.drewN n) := ⟨h.os, h.tape, h.output, h.size, h.block⟩
theorem coversL_cons (s x : List UInt8) (fs xs : List (List UInt8)) : coversL (s :: fs) (x :: xs) = (!(wildB s && dollarB x) && matchL (s :: fs) (x :: xs)) := rfl

set_option maxRecDepth 100000 in
set_option maxHeartbeats 1600000 in
theorem covers_any (f n : List (List UInt8)) (hf : f ≠ []) (hn : n ≠ []) (b o c b' o' c' : Nat) (hc : f.length ≤ c) (hc' : n.length ≤ c') (hl : (f.length : Int) ≤ 1000000000000) (hl' : (n.length : Int) ≤ 1000000000000) (hs : ∀ x ∈ n, (x.length : Int) ≤ 9223372036854775807) (w : World) (hr : Row w b o f) (hr' : Row w b' o' n) :
    Calls Tryd.prog 23 #[.slice (some ⟨b, o, none⟩) f.length c, .slice (some ⟨b', o', none⟩) n.length c'] w fun e w' => e = .returned (.bool (coversL f n)) ∧ ∃ k, w' = w.drewN k := by
  cases f with
  | nil => exact absurd rfl hf
  | cons s fs =>
  cases n with
  | nil => exact absurd rfl hn
  | cons x xs =>
  have h0 := hr.head
  have h0' := hr'.head
  have hx := hs x (by simp)
  have M := Lib.hid (match_any (s :: fs) (x :: xs) (some ⟨b, o, none⟩) (some ⟨b', o', none⟩) c c' w hc hc' hl hl' (.inr ⟨b, o, rfl, hr⟩) (.inr ⟨b', o', rfl, hr'⟩))
  have HC := Lib.hid (coversL_cons s x fs xs)
  obtain ⟨F, hF⟩ : ∃ F, F = (s :: fs).length := ⟨_, rfl⟩
  obtain ⟨X, hX⟩ : ∃ X, X = (x :: xs).length := ⟨_, rfl⟩
  rw [← hF, ← hX] at M ⊢
  have hF1 : (0 : Int) < (F : Int) := by rw [hF, List.length_cons]; omega
  have hX1 : (0 : Int) < (X : Int) := by rw [hX, List.length_cons]; omega
  have HL := Lib.hid (And.intro hF hX)
  clear hF hX hr hr' hs hl hl' hc hc' hf hn
  rw [HC.out]
  cases h1 : wildB s with
  | false =>
    have H1 := Lib.hid h1
    clear h1
    go_enter Tryd.func23, Tryd.ntmps23
    go_wp2_with fail
    refine (wild_any s _).mono ?_
    rintro e w' ⟨rfl, rfl⟩
    rw [H1.out]
    go_wp2_with fail
    refine (M.out).mono ?_
    rintro e w' ⟨rfl, k, rfl⟩
    go_wp2
    go_ret
    exact ⟨rfl, k, rfl⟩
  | true =>
    cases h2 : dollarB x with
    | false =>
      have H1 := Lib.hid (And.intro h1 h2)
      clear h1 h2
      go_enter Tryd.func23, Tryd.ntmps23
      go_wp2_with fail
      refine (wild_any s _).mono ?_
      rintro e w' ⟨rfl, rfl⟩
      rw [H1.out.1]
      go_wp2_with fail
      refine (dollar_any x _ hx).mono ?_
      rintro e w' ⟨rfl, rfl⟩
      rw [H1.out.2]
      go_wp2_with fail
      refine (M.out).mono ?_
      rintro e w' ⟨rfl, k, rfl⟩
      go_wp2
      go_ret
      exact ⟨rfl, k, rfl⟩
    | true =>
      have H1 := Lib.hid (And.intro h1 h2)
      clear h1 h2
      go_enter Tryd.func23, Tryd.ntmps23
      go_wp2_with fail
      refine (wild_any s _).mono ?_
      rintro e w' ⟨rfl, rfl⟩
      rw [H1.out.1]
      go_wp2_with fail
      refine (dollar_any x _ hx).mono ?_
      rintro e w' ⟨rfl, rfl⟩
      rw [H1.out.2]
      go_wp2
      go_ret
      exact ⟨rfl, 0, rfl⟩

theorem levels_covers (f n : List UInt8) (hf : f.length ≤ 900000000000) (hn : n.length ≤ 900000000000) (b c b' c' : Nat) (hc : (splitS f).length ≤ c) (hc' : (splitS n).length ≤ c') (w : World) (hr : Row w b 0 (splitS f)) (hr' : Row w b' 0 (splitS n)) :
    Calls Tryd.prog 23 #[.slice (some ⟨b, 0, none⟩) (splitS f).length c, .slice (some ⟨b', 0, none⟩) (splitS n).length c'] w fun e w' => e = .returned (.bool (coversL (splitS f) (splitS n))) ∧ ∃ k, w' = w.drewN k :=
  covers_any _ _ (splitS_ne f) (splitS_ne n) b 0 c b' 0 c' hc hc' (by have := len_split_le f; omega) (by have := len_split_le n; omega) (fun x hx => by have := mem_split_le hx; omega) w hr hr'

set_option maxRecDepth 100000 in
theorem matches_any (f n : List UInt8) (hf : f.length < 4294967281) (hn : n.length < 4294967281) (w : World) (hm : Mx w) :
    Calls Tryd.prog 11 #[.string ⟨f.toArray⟩, .string ⟨n.toArray⟩] w fun e w' => e = .returned (.bool (matchesB f n)) ∧ Below w.heap.size w w' := by
  cases h1 : filterB f with
  | false =>
    have H1 := Lib.hid (And.intro h1 (show matchesB f n = false by unfold matchesB; rw [h1]; rfl))
    rw [H1.out.2]
    clear h1
    go_enter Tryd.func11, Tryd.ntmps11
    go_wp2_with fail
    refine (filter_any f hf _ hm).mono ?_
    rintro e w1 ⟨rfl, hb⟩
    rw [H1.out.1]
    go_wp2
    go_ret
    exact ⟨rfl, hb⟩
  | true =>
  cases h2 : nameB n with
  | false =>
    have H1 := Lib.hid (And.intro h1 (And.intro h2 (show matchesB f n = false by unfold matchesB; rw [h1, h2]; rfl)))
    rw [H1.out.2.2]
    clear h1 h2
    go_enter Tryd.func11, Tryd.ntmps11
    go_wp2_with fail
    refine (filter_any f hf _ hm).mono ?_
    rintro e w1 ⟨rfl, hb⟩
    rw [H1.out.1]
    go_wp2_with fail
    refine (name_any n hn _).mono ?_
    rintro e w2 ⟨rfl, hb2⟩
    rw [H1.out.2.1]
    go_wp2
    go_ret
    exact ⟨rfl, hb.trans (hb2.mono hb.size)⟩
  | true =>
    have H1 := Lib.hid (And.intro h1 (And.intro h2 (show matchesB f n = coversL (splitS f) (splitS n) by unfold matchesB; rw [h1, h2]; rfl)))
    rw [H1.out.2.2]
    clear h1 h2
    go_enter Tryd.func11, Tryd.ntmps11
    go_wp2_with fail
    refine (filter_any f hf _ hm).mono ?_
    rintro e w1 ⟨rfl, hb⟩
    rw [H1.out.1]
    go_wp2_with fail
    refine (name_any n hn _).mono ?_
    rintro e w2 ⟨rfl, hb2⟩
    rw [H1.out.2.1]
    have hB2 := hb.trans (hb2.mono hb.size)
    have hm2 := hm.next hB2
    go_wp2_with fail
    refine (levels_any f hf _ hm2).mono ?_
    rintro e w3 ⟨rfl, rfl⟩
    have hm3 := hm2.next (below_al1 (w := w2) (o := .cells (cellsS (splitS f)) 9 (0, 0)))
    go_wp2_with fail
    refine (levels_any n hn _ hm3).mono ?_
    rintro e w4 ⟨rfl, rfl⟩
    have O1 := (Obj?.new w2 (cellsS (splitS f)) 9).alloc (.cells (cellsS (splitS n)) 9 (0, 0))
    have O2 := Obj?.new (w2.alloc (.cells (cellsS (splitS f)) 9 (0, 0))) (cellsS (splitS n)) 9
    rw [World.size_alloc] at O2
    have HR := Lib.hid (And.intro (Row.of_obj O1) (Row.of_obj O2))
    clear O1 O2
    go_wp2_with fail
    refine (levels_covers f n (by omega) (by omega) _ _ _ _ (Nat.le_refl _) (Nat.le_refl _) _ HR.out.1 HR.out.2).mono ?_
    rintro e w5 ⟨rfl, k, rfl⟩
    go_wp2
    go_ret
    exact ⟨rfl, below_drewNT (below_alT (below_alT hB2 _) _) _⟩

theorem cut_any (t : List UInt8) (w : World) (ht : t.length < 4294967281) (hm : Mx w) :
    Calls Tryd.prog 26 #[.string ⟨t.toArray⟩, .string ⟨#[47]⟩] w fun e w' => e = .returned (.tuple #[.string ⟨(Lib.cut t [47]).1.toArray⟩, .string ⟨(Lib.cut t [47]).2.1.toArray⟩, .bool (Lib.cut t [47]).2.2]) ∧ ∃ n, w' = w.drewN n := by
  obtain ⟨m, hm⟩ := hm.2
  exact Go.Proofs.Tryd.strings_Cut ⟨t.toArray⟩ ⟨#[47]⟩ m w ht hm

theorem join_any (l : List (List UInt8)) (b o c : Nat) (hc : l.length ≤ c) (hl : l.length ≤ 100000000000) (hj : (joinS l).length ≤ 140737488355328) (w : World) (hr : Row w b o l) :
    Calls Tryd.prog 16 #[.slice (some ⟨b, o, none⟩) l.length c] w fun e w' => e = .returned (.string ⟨(joinS l).toArray⟩) ∧ Below w.heap.size w w' := by
  have hmap : (l.map fun s => (⟨s.toArray⟩ : ByteArray)).map (·.data.toList) = l := by
    rw [List.map_map]; conv => rhs; rw [← List.map_id l]
    apply List.map_congr_left; intro x _; rfl
  have hlen : (l.map fun s => (⟨s.toArray⟩ : ByteArray)).length = l.length := List.length_map ..
  have J := Go.Proofs.Tryd.strings_Join b o c (l.map fun s => ⟨s.toArray⟩) ⟨#[47]⟩ w (fun j x hx => by
    rw [List.getElem?_map] at hx
    cases hq : l[j]? with
    | none => rw [hq] at hx; cases hx
    | some s => rw [hq] at hx; cases hx; exact hr.2 j s hq) hr.1 (by rw [hlen]; omega) (by rw [hlen]; exact hc) (by rw [hmap]; show (Lib.join l [47]).length ≤ _; rw [join_slash]; exact hj)
  rw [hmap, hlen] at J
  have J2 : Calls Tryd.prog 30 #[.slice (some ⟨b, o, none⟩) l.length c, .string ⟨#[47]⟩] w fun e w' => e = .returned (.string ⟨(joinS l).toArray⟩) ∧ Below w.heap.size w w' := by
    rw [← join_slash]; exact J
  have HJ := Lib.hid J2
  clear J J2 hmap hlen hr hj
  obtain ⟨N, hN⟩ : ∃ N, N = l.length := ⟨_, rfl⟩
  rw [← hN] at HJ ⊢
  clear hN hc hl
  go_enter Tryd.func16, Tryd.ntmps16
  go_wp2_with fail
  refine HJ.out.mono ?_
  rintro e w1 ⟨rfl, hb⟩
  go_wp2
  go_ret
  exact ⟨rfl, hb⟩
theorem join_none (a : Option Addr) (c : Nat) (w : World) :
    Calls Tryd.prog 16 #[.slice a 0 c] w fun e w' => e = .returned (.string ⟨#[]⟩) ∧ Below w.heap.size w w' := by
  go_enter Tryd.func16, Tryd.ntmps16
  go_wp2_with fail
  refine (Go.Proofs.Tryd.strings_Join_none a c ⟨#[47]⟩ _).mono ?_
  rintro e w1 ⟨rfl, rfl⟩
  go_wp2
  go_ret
  exact ⟨rfl, Below.refl _ _⟩
end Go.Proofs.YthifcodiphglaaaDoor
