/- topic: Levels, Filter, Name, match, covers, Matches. -/
import Derived.Test.YtbacnaplpfmpnaaDoorTopU
import Derived.Shelf.Strings.Split
namespace Go.Proofs.YtbacnaplpfmpnaaDoor
open Go.RowKit
set_option linter.unusedVariables false

/-- The library's MaxLen holds a number. -/
def Mx (w : World) : Prop := 0 < w.heap.size ∧ ∃ m, w.cell? ⟨0, 0, none⟩ = some (.int .i64 m)
theorem Mx.below {w w' : World} {B : Nat} (h : Mx w) (hb : Below B w w') (hB : 0 < B) : Mx w' :=
  ⟨Nat.lt_of_lt_of_le h.1 hb.size, by obtain ⟨m, hm⟩ := h.2; exact ⟨m, (hb.cell (p := ⟨0, 0, none⟩) hB).trans hm⟩⟩
theorem Mx.next {w w' : World} (h : Mx w) (hb : Below w.heap.size w w') : Mx w' := h.below hb h.1
theorem splitB_cells (s : List UInt8) : (Lib.splitB ⟨#[47]⟩ 0 (Lib.countB ⟨s.toArray⟩ ⟨#[47]⟩) ⟨s.toArray⟩).map Value.string = (splitS s).map fun l => Value.string ⟨l.toArray⟩ := by
  have h := Lib.splitB_data ⟨#[47]⟩ 0 (Lib.countB ⟨s.toArray⟩ ⟨#[47]⟩) ⟨s.toArray⟩
  have e : Lib.splitK [47] 0 (Lib.countB ⟨s.toArray⟩ ⟨#[47]⟩) s = splitS s := split_slash s
  have h2 : (Lib.splitB ⟨#[47]⟩ 0 (Lib.countB ⟨s.toArray⟩ ⟨#[47]⟩) ⟨s.toArray⟩).map (·.data.toList) = splitS s := h.trans e
  rw [← h2, List.map_map]
  apply List.map_congr_left
  intro x _
  simp
theorem countB_levels (s : List UInt8) : Lib.countB ⟨s.toArray⟩ ⟨#[47]⟩ + 1 = (splitS s).length := count_slash s
theorem below_al1 {w : World} {o : Obj} : Below w.heap.size w (w.alloc o) := (Below.refl _ _).alloc (Nat.le_refl _) _

theorem levels_any (s : List UInt8) (hs : s.length < 4294967281) (w : World) (hm : Mx w) :
    Calls Tryd.prog 90 #[.string ⟨s.toArray⟩] w fun e w' => e = .returned (.slice (some ⟨w.heap.size, 0, none⟩) (splitS s).length (splitS s).length) ∧ w' = w.alloc (.cells (cellsS (splitS s)) 9 (0, 0)) := by
  obtain ⟨m, hm⟩ := hm.2
  have c := Go.Proofs.Tryd.strings_Split ⟨s.toArray⟩ ⟨#[47]⟩ m w hs hm (by decide)
  rw [splitB_cells, countB_levels] at c
  clear hm
  go_enter Tryd.func90, Tryd.ntmps90
  go_wp2_with fail
  refine c.mono ?_
  rintro e w1 ⟨rfl, rfl⟩
  go_wp2
  go_ret
  exact ⟨rfl, rfl⟩

theorem len_split_le (s : List UInt8) : (splitS s).length ≤ s.length + 1 := by
  rw [length_split]; have := List.length_filter_le (· == 47) s; omega
theorem mem_split_le {s l : List UInt8} (h : l ∈ splitS s) : l.length ≤ s.length := by
  have hj := join_split s
  have : ∀ (ls : List (List UInt8)), l ∈ ls → l.length ≤ (joinS ls).length := by
    intro ls
    induction ls with
    | nil => intro h; cases h
    | cons a r ih =>
      intro h
      cases r with
      | nil =>
        rcases List.mem_cons.1 h with rfl | h
        · exact Nat.le_refl _
        · cases h
      | cons b r =>
        have e : joinS (a :: b :: r) = a ++ 47 :: joinS (b :: r) := rfl
        rw [e, List.length_append, List.length_cons]
        rcases List.mem_cons.1 h with rfl | h
        · omega
        · have := ih h; omega
  have := this _ h
  rwa [hj] at this

set_option maxRecDepth 100000 in
theorem filter_any (s : List UInt8) (hs : s.length < 4294967281) (w : World) (hm : Mx w) :
    Calls Tryd.prog 65 #[.string ⟨s.toArray⟩] w fun e w' => e = .returned (.bool (filterB s)) ∧ Below w.heap.size w w' := by
  have hlen : (splitS s).length ≤ 4294967281 := by have := len_split_le s; omega
  cases ht : textB s with
  | false =>
    have HF := Lib.hid (And.intro ht (show filterB s = false by unfold filterB; rw [ht]; rfl))
    rw [HF.out.2]
    clear ht
    go_enter Tryd.func65, Tryd.ntmps65
    go_wp2_with fail
    refine (text_any s (by omega) _).mono ?_
    rintro e w1 ⟨rfl, hb⟩
    rw [HF.out.1]
    go_wp2
    go_ret
    exact ⟨rfl, hb⟩
  | true =>
    have HF := Lib.hid (And.intro ht (show filterB s = levelsB (splitS s) by unfold filterB; rw [ht]; rfl))
    rw [HF.out.2]
    clear ht
    go_enter Tryd.func65, Tryd.ntmps65
    go_wp2_with fail
    refine (text_any s (by omega) _).mono ?_
    rintro e w1 ⟨rfl, hb⟩
    rw [HF.out.1]
    go_wp2_with fail
    refine (levels_any s hs _ (hm.next hb)).mono ?_
    rintro e w2 ⟨rfl, rfl⟩
    have O := Obj?.new w1 (cellsS (splitS s)) 9
    have hb2 := hb.alloc hb.size (.cells (cellsS (splitS s)) 9 (0, 0))
    have HR := Lib.hid (Row.of_obj O)
    clear O
    go_wp2_with fail
    refine (levelsfn_any _ _ _ _ hlen (fun x hx => by have := mem_split_le hx; omega) _ HR.out).mono ?_
    rintro e w3 ⟨rfl, hb3⟩
    go_wp2
    go_ret
    exact ⟨rfl, hb2.trans (hb3.mono hb2.size)⟩

theorem name_any (s : List UInt8) (hs : s.length < 4294967281) (w : World) :
    Calls Tryd.prog 40 #[.string ⟨s.toArray⟩] w fun e w' => e = .returned (.bool (nameB s)) ∧ Below w.heap.size w w' := by
  cases ht : textB s with
  | false =>
    have HF := Lib.hid (And.intro ht (show nameB s = false by unfold nameB; rw [ht]; rfl))
    rw [HF.out.2]
    clear ht
    go_enter Tryd.func40, Tryd.ntmps40
    go_wp2_with fail
    refine (text_any s (by omega) _).mono ?_
    rintro e w1 ⟨rfl, hb⟩
    rw [HF.out.1]
    go_wp2
    go_ret
    exact ⟨rfl, hb⟩
  | true =>
    have HF := Lib.hid (And.intro ht (show nameB s = !hasWild s by unfold nameB; rw [ht]; rfl))
    rw [HF.out.2]
    clear ht
    go_enter Tryd.func40, Tryd.ntmps40
    go_wp2_with fail
    refine (text_any s (by omega) _).mono ?_
    rintro e w1 ⟨rfl, hb⟩
    rw [HF.out.1]
    go_wp2_with fail
    refine (containsAny_any s hs _).mono ?_
    rintro e w2 ⟨rfl, hb2⟩
    go_wp2
    go_ret
    exact ⟨rfl, hb.trans (hb2.mono hb.size)⟩

/-- Where a slice of one less begins. -/
def tailA (a : Option Addr) (c : Nat) : Option Addr := if c = 1 then a else a.map (·.add 1)
theorem tailA_row {w : World} {b o c : Nat} {s : List UInt8} {l : List (List UInt8)} (h : Row w b o (s :: l)) (hc : l.length + 1 ≤ c) : l = [] ∨ ∃ b' o', tailA (some ⟨b, o, none⟩) c = some ⟨b', o', none⟩ ∧ Row w b' o' l := by
  cases l with
  | nil => exact .inl rfl
  | cons x r =>
    right
    refine ⟨b, o + 1, ?_, h.tail⟩
    unfold tailA
    rw [if_neg (by simp at hc; omega)]
    rfl
theorem run_tail (w : World) (a : Option Addr) (n c : Nat) : (Instr.slice 51 (.slice a (n + 1) c) (some (.int .i64 1)) none none).run Tryd.prog w = .ok (.slice (tailA a c) n (c - 1)) w := by
  have ht : Tryd.prog.underlying 51 = some (.slice (Tryd.prog.elem 51)) := by kernel_rfl
  have hz : ∀ w, (Go.sizeOf (Tryd.prog.elem 51)).run Tryd.prog w = .ok 1 w := by intro w; kernel_rfl
  rw [run_slice_l w 51 a (n + 1) c ht .i64 1 (by decide) (by omega), hz]
  simp [Result.andThen, sliced, tailA]
theorem matchL_nil (n : List (List UInt8)) : matchL [] n = n.isEmpty := rfl
/-- The slice reads as these texts. -/
def SRow (w : World) (a : Option Addr) (l : List (List UInt8)) : Prop := l = [] ∨ ∃ b o, a = some ⟨b, o, none⟩ ∧ Row w b o l
theorem SRow.drewN {w : World} {a : Option Addr} {l : List (List UInt8)} (h : SRow w a l) (n : Nat) : SRow (w.drewN n) a l := h

end Go.Proofs.YtbacnaplpfmpnaaDoor
