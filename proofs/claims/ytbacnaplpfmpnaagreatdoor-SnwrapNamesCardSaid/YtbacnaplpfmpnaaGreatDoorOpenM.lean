/- A message as an argument, opened: each cell is of its type. -/
import Derived.Test.YtbacnaplpfmpnaaGreatDoorOpenF
import Derived.Test.YtbacnaplpfmpnaaGreatDoorMsB
namespace Go.Proofs.YtbacnaplpfmpnaaGreatDoor
open Go.RowKit Go.ChangeShapes Go.WideShapes
set_option linter.unusedVariables false

theorem take_sub {cs : List Value} {o k j : Nat} {v : Value} (h : ((cs.drop o).take k)[j]? = some v) : cs[o + j]? = some v := by
  have hj : j < k := by
    rcases Nat.lt_or_ge j k with h1 | h1
    · exact h1
    · rw [List.getElem?_eq_none (by simp; omega)] at h; cases h
  rw [List.getElem?_take_of_lt hj, List.getElem?_drop] at h
  exact h
theorem sixteen_of {cs : Array Value} (h : cs.size = 16) {v0 v1 v2 v3 v4 v5 v6 v7 v8 v9 v10 v11 v12 v13 v14 v15 : Value} (h0 : cs.toList[0]? = some v0) (h1 : cs.toList[1]? = some v1) (h2 : cs.toList[2]? = some v2) (h3 : cs.toList[3]? = some v3) (h4 : cs.toList[4]? = some v4) (h5 : cs.toList[5]? = some v5) (h6 : cs.toList[6]? = some v6) (h7 : cs.toList[7]? = some v7) (h8 : cs.toList[8]? = some v8) (h9 : cs.toList[9]? = some v9) (h10 : cs.toList[10]? = some v10) (h11 : cs.toList[11]? = some v11) (h12 : cs.toList[12]? = some v12) (h13 : cs.toList[13]? = some v13) (h14 : cs.toList[14]? = some v14) (h15 : cs.toList[15]? = some v15) :
    cs = #[v0, v1, v2, v3, v4, v5, v6, v7, v8, v9, v10, v11, v12, v13, v14, v15] := by
  obtain ⟨l⟩ := cs
  match l, h with
  | [c0, c1, c2, c3, c4, c5, c6, c7, c8, c9, c10, c11, c12, c13, c14, c15], _ =>
    simp at h0 h1 h2 h3 h4 h5 h6 h7 h8 h9 h10 h11 h12 h13 h14 h15
    subst h0 h1 h2 h3 h4 h5 h6 h7 h8 h9 h10 h11 h12 h13 h14 h15
    rfl
/-- The numbers are numbers, the texts are no longer than texts are. -/
def MsWf (m : Ms) : Prop := ((Lit.int .i64 m.ty).wf = true ∧ (Lit.int .i64 m.gw).wf = true ∧ (Lit.int .i64 m.rad).wf = true ∧ (Lit.int .i64 m.time).wf = true ∧ (Lit.int .i64 m.tid).wf = true ∧ (Lit.int .i64 m.mid).wf = true ∧ (Lit.int .i64 m.code).wf = true) ∧ m.name.length ≤ maxLen ∧ m.data.length ≤ maxLen
set_option maxRecDepth 100000 in
/-- An argument of type api.Msg: its cells. -/
theorem open_msg_at {H : Type} {enc : TypeId × Value → H} {w : World} {base fuel : Nat} {spare : Nat → Bool} {held : Bool} {l : List Value} {x : DataW H × List MemPlace} (hsz : l.length = 16) (hf : DataW.trod enc Tryz.prog w base spare held fuel 25 l = some x) :
    ∃ m : Ms, l = m.cs.toList ∧ MsWf m := by
  have hcl : l.toArray.size = 16 := by simpa using hsz
  have hb : Tryz.prog.cellsOf 4 = 1 := by kernel_rfl
  have hi : Tryz.prog.cellsOf 3 = 1 := by kernel_rfl
  have hs : Tryz.prog.cellsOf 9 = 1 := by kernel_rfl
  obtain ⟨n0, e0, w0⟩ := leaf_int (ti := 0) Tryz.underlying25 hf 0 _ rfl hi .i64 Tryz.underlying3
  obtain ⟨f1, y1, hfl⟩ := trod_field Tryz.underlying25 hf 1 _ rfl 6 (by kernel_rfl)
  obtain ⟨b1, g1⟩ := leaf_bool Tryz.underlying23 hfl 0 _ rfl hb Tryz.underlying4
  obtain ⟨n2, g2, _⟩ := leaf_int (ti := 0) Tryz.underlying23 hfl 1 _ rfl hi .i64 Tryz.underlying3
  obtain ⟨b3, g3⟩ := leaf_bool Tryz.underlying23 hfl 2 _ rfl hb Tryz.underlying4
  obtain ⟨b4, g4⟩ := leaf_bool Tryz.underlying23 hfl 3 _ rfl hb Tryz.underlying4
  obtain ⟨b5, g5⟩ := leaf_bool Tryz.underlying23 hfl 4 _ rfl hb Tryz.underlying4
  obtain ⟨n6, g6, _⟩ := leaf_int (ti := 0) Tryz.underlying23 hfl 5 _ rfl hi .i64 Tryz.underlying3
  obtain ⟨n7, e7, w7⟩ := leaf_int (ti := 0) Tryz.underlying25 hf 2 _ rfl hi .i64 Tryz.underlying3
  obtain ⟨n8, e8, w8⟩ := leaf_int (ti := 0) Tryz.underlying25 hf 3 _ rfl hi .i64 Tryz.underlying3
  obtain ⟨n9, e9, w9⟩ := leaf_int (ti := 0) Tryz.underlying25 hf 4 _ rfl hi .i64 Tryz.underlying3
  obtain ⟨b10, e10⟩ := leaf_bool Tryz.underlying25 hf 5 _ rfl hb Tryz.underlying4
  obtain ⟨n11, e11, w11⟩ := leaf_int (ti := 0) Tryz.underlying25 hf 6 _ rfl hi .i64 Tryz.underlying3
  obtain ⟨n12, e12, w12⟩ := leaf_int (ti := 0) Tryz.underlying25 hf 7 _ rfl hi .i64 Tryz.underlying3
  obtain ⟨n13, e13, w13⟩ := leaf_int (ti := 0) Tryz.underlying25 hf 8 _ rfl hi .i64 Tryz.underlying3
  obtain ⟨s14, e14, w14⟩ := leaf_string Tryz.underlying25 hf 9 _ rfl hs Tryz.underlying9
  obtain ⟨s15, e15, w15⟩ := leaf_string Tryz.underlying25 hf 10 _ rfl hs Tryz.underlying9
  have e1 := take_sub g1
  have e2 := take_sub g2
  have e3 := take_sub g3
  have e4 := take_sub g4
  have e5 := take_sub g5
  have e6 := take_sub g6
  refine ⟨⟨n0, ⟨b1, n2, b3, b4, b5, n6⟩, n7, n8, n9, b10, n11, n12, n13, s14, s15⟩, ?_, ⟨w0, w7, w8, w9, w11, w12, w13⟩, w14, w15⟩
  exact congrArg Array.toList (sixteen_of hcl e0 e1 e2 e3 e4 e5 e6 e7 e8 e9 e10 e11 e12 e13 e14 e15)
end Go.Proofs.YtbacnaplpfmpnaaGreatDoor
