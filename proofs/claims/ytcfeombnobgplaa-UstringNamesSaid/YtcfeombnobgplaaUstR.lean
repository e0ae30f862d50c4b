/- polyglotlaw03.runes: the range over ustring.Runes. -/
import Derived.Test.YtcfeombnobgplaaUstI
namespace Go.Proofs.Ytcfeombnobgplaa
open Go.RowKit Go.Shelf

attribute [local go_sem] Oper.semAt_some

theorem keepsWalks_of {W W' : World} (h : KeepsOthers W W') : KeepsWalks W W' := ⟨h.size, fun k o hk ho => h.same k o hk (Obj.not_cells_of_walk ho)⟩
theorem Runes_any (t : List UInt8) (w : World) : Calls Try.prog 75 #[.string ⟨t.toArray⟩] w fun e w' =>
    e = .returned (.func (.func 83) #[] #[.pointer (some ⟨w.heap.size, 0, none⟩)]) ∧ w' = w.alloc (.cells #[.string ⟨t.toArray⟩] 9) := by
  have hmf : ∀ (fn : Fn) (first cap : Array Value) (w : World), (Instr.makeFunc fn first cap).run Try.prog w = .ok (.func fn first cap) w := fun _ _ _ _ => rfl
  go_enter Try.func75, Try.ntmps75
  go_wp2
  go_ret
  exact ⟨rfl, rfl⟩
/-- A list of runes, cell by cell. -/
def rcells (l : List (Nat × Nat)) : List Value := l.flatMap fun x => [.int .i64 (x.1 : Int), .int .i32 (x.2 : Int)]
theorem Try.infoRune : (Try.prog.info? 48).map (fun i => (i.zero, i.size, i.bytes)) = some (some (.agg #[.int .i64 0, .int .i32 0]), 2, 16) := by kernel_rfl

theorem runes_stops (n : Nat) (hn : 3 ≤ n) (Bn : Nat) (t : List UInt8) (ht : (t.length : Int) ≤ 9223372036854775807) (w : World) (hBl : Bn < w.heap.size) (hc : w.cell? ⟨Bn, 0, none⟩ = some (.string ⟨t.toArray⟩)) :
    SeqStopsK Fence.wide n Try.prog 83 #[.pointer (some ⟨Bn, 0, none⟩)] encR KeepsWalks (fun ys => ys = rn 0 t) (fun pre => pre <+: rn 0 t) (rn 0 t).length w := fun l J Jx W hW hJ _ hY h0 =>
  runes1_in n hn l Bn t ht J Jx W hJ hY ((hW.cell (p := ⟨Bn, 0, none⟩) hBl).trans hc) (Nat.lt_of_lt_of_le hBl hW.size) h0

theorem eql_func_nil (fn : Fn) (first cap : Array Value) (W : World) : (binOp .eql 88 (.func fn first cap) .nilFunc).run Try.prog W = .ok (.bool false) W := by
  have h : ∀ d, (Op.equalIn (d + 1) 88 (.func fn first cap) .nilFunc).run Try.prog W = .ok false W := fun d => by
    simp [Op.equalIn, run_underlying Try.underlying88]
  simp only [binOp]
  simp [Op.equal, Op.maxDepth, h 9999]

set_option maxRecDepth 100000 in
set_option maxHeartbeats 2000000 in
theorem lawRunes_any (t : List UInt8) (ht : t.length ≤ 100000) (w : World) :
    Calls Try.prog 36 #[.string ⟨t.toArray⟩] w fun e w' => ∃ v, e = .returned (.tuple #[v, .bool true]) ∧ w'.ownsRow w.heap.size 48 2 v (rn 0 t).length (rcells (rn 0 t)) ∧ Below w.heap.size w w' := by
  refine (callsIn_wide (n := 6)).1 ?_
  have hfn := eql_func_nil
  obtain ⟨i0, hi, hz0, hz1, hz2⟩ := info_parts Try.infoRune
  refine callsIn_of_wp_marks Try.func36 rfl trivial ?_ rfl
  simp only [Try.ntmps36, List.size_toArray, List.length_cons, List.length_nil, Nat.reduceAdd, Nat.reduceSub, Array.replicate_succ, Array.replicate_zero, List.push_toArray, List.append_toArray, List.nil_append, List.cons_append]
  gi_wp2_with fail
  refine ⟨trivial, (callsIn_wide.2 (Runes_any t _)).mono ?_⟩
  rintro e w' ⟨rfl, rfl⟩
  gi_wp2_with fail
  obtain ⟨W0, hW0⟩ : ∃ W0, W0 = (((((w.alloc (.cells #[.string ⟨t.toArray⟩] 9)).alloc (.cells #[.slice none 0 0] 44)).alloc (.cells #[.bool false] 4)).alloc (.cells #[.string ⟨t.toArray⟩] 9)).alloc (.cells #[.slice none 0 0] 44)) := ⟨_, rfl⟩
  have hsz : W0.heap.size = w.heap.size + 5 := by rw [hW0]; simp
  have b0 : Boxed W0 w.heap.size 9 (.string ⟨t.toArray⟩) := by rw [hW0]; exact ((((Boxed.new w _ _).alloc _).alloc _).alloc _).alloc _
  have b1 : Boxed W0 (w.heap.size + 1) 44 (.slice none 0 0) := by
    rw [hW0]
    have := Boxed.new (w.alloc (.cells #[.string ⟨t.toArray⟩] 9)) 44 (.slice none 0 0)
    rw [World.size_alloc] at this
    exact ((this.alloc _).alloc _).alloc _
  have b2 : Boxed W0 (w.heap.size + 2) 4 (.bool false) := by
    rw [hW0]
    have := Boxed.new ((w.alloc (.cells #[.string ⟨t.toArray⟩] 9)).alloc (.cells #[.slice none 0 0] 44)) 4 (.bool false)
    rw [World.size_alloc, World.size_alloc] at this
    exact (this.alloc _).alloc _
  have b3 : Boxed W0 (w.heap.size + 3) 9 (.string ⟨t.toArray⟩) := by
    rw [hW0]
    have := Boxed.new (((w.alloc (.cells #[.string ⟨t.toArray⟩] 9)).alloc (.cells #[.slice none 0 0] 44)).alloc (.cells #[.bool false] 4)) 9 (.string ⟨t.toArray⟩)
    rw [World.size_alloc, World.size_alloc, World.size_alloc] at this
    exact this.alloc _
  have b4 : Boxed W0 (w.heap.size + 4) 44 (.slice none 0 0) := by
    rw [hW0]
    have := Boxed.new ((((w.alloc (.cells #[.string ⟨t.toArray⟩] 9)).alloc (.cells #[.slice none 0 0] 44)).alloc (.cells #[.bool false] 4)).alloc (.cells #[.string ⟨t.toArray⟩] 9)) 44 (.slice none 0 0)
    rw [World.size_alloc, World.size_alloc, World.size_alloc, World.size_alloc] at this
    exact this
  have hB0 : Below w.heap.size w W0 := by
    rw [hW0]
    exact (((((Below.refl _ w).alloc (Nat.le_refl _) _).alloc (by simp) _).alloc (by simp; omega) _).alloc (by simp; omega) _).alloc (by simp; omega) _
  rw [← hW0]
  clear hW0 hfn
  have hrl := rn_le t 0
  refine wpIn_rangeFunc_ownG rfl (by omega) (gf := 83) (lb := #[.pointer (some ⟨w.heap.size + 3, 0, none⟩)]) rfl trivial (enters_of Try.func83 (by kernel_rfl) rfl)
    (runes_stops 5 (by omega) (w.heap.size + 3) t (by omega) W0 (by omega) b3.cell) walksK_t (fun W l o o' _ h hc hw => KeepsWalks.putObj o' h hw) (Below.refl _ _) (fun _ => rfl)
    (fun pre W => ((∃ v, Boxed W (w.heap.size + 4) 44 v ∧ W.ownsRow (w.heap.size + 4) 48 2 v pre.length (rcells pre) ∧ True) ∧ Below (w.heap.size + 4) W0 W) ∧ Below w.heap.size w W)
    (fun _ _ _ => False)
    (OwnFrom.and (OwnFrom.and (Own.from (holdsRow_own (w.heap.size + 4) (w.heap.size + 4) 44 48 2 (fun pre => pre.length) (fun pre => rcells pre) (fun _ _ => True)) _) (ownFrom_below (by omega) (by omega))) (ownFrom_below (Nat.le_refl _) (by omega)))
    (fun _ _ _ _ _ hs _ _ => hs)
    ⟨⟨⟨_, b4, World.ownsRow_nil _ _ _ _, trivial⟩, Below.refl _ _⟩, hB0⟩
    (fun x => { tmps := #[.string ⟨t.toArray⟩, .pointer (some ⟨w.heap.size, 0, none⟩), .pointer (some ⟨w.heap.size + 1, 0, none⟩), .pointer (some ⟨w.heap.size + 1 + 1, 0, none⟩), .func (.func 83) #[] #[.pointer (some ⟨w.heap.size + 1 + 1 + 1, 0, none⟩)], .pointer (some ⟨w.heap.size + 1 + 1 + 1 + 1, 0, none⟩), .int .i64 (x.1 : Int), .int .i32 (x.2 : Int), .string ⟨t.toArray⟩, .func (.func 83) #[] #[.pointer (some ⟨w.heap.size + 1 + 1 + 1, 0, none⟩)], .func (.func 83) #[] #[.pointer (some ⟨w.heap.size + 1 + 1 + 1, 0, none⟩)], .bool false, .func (.func 83) #[] #[.pointer (some ⟨w.heap.size + 1 + 1 + 1, 0, none⟩)], .int .i64 (x.1 : Int), .int .i32 (x.2 : Int), undef, undef, undef, undef, undef, undef, undef, undef, undef, undef, undef, undef], defers := [] }) ?assign ?body ?done ?stop
  case assign =>
    intro l x W K hK
    dsimp only [encR]
    gi_wp2
    exact hK
  case body =>
    rintro l pre x W ⟨⟨⟨v, hv, hrow, _⟩, hB4⟩, hB⟩ hlt
    have hc := hv.cell
    have hs := (hB4.cell (p := ⟨w.heap.size, 0, none⟩) (by simp)).trans b0.cell
    obtain ⟨va, vcap, rfl⟩ := owns_shape (by decide) hrow
    have hpl : pre.length ≤ 100000 := by omega
    have hpt : ¬ (t.length : Int) < (pre.length : Int) := by omega
    gi_wp2_with (gi_at_builtin; refine wpListIn_append_own _ rfl _ _ 44 rfl (w.heap.size + 4) 48 i0 (.agg #[.int .i64 0, .int .i32 0]) 2 16 Try.underlying44 hi hz0 hz1 hz2 rfl (by decide) _ _ _ rfl (hrow.alloc _) ⟨W.heap.size, 0, none⟩ 1 1 [.int .i64 (x.1 : Int), .int .i32 (x.2 : Int)] rfl rfl (cell_two_new _ _ _ _) (by simp [Value.oneCell']) (by unfold maxLen; omega) (by omega) (by have := hB4.size; simp; omega) ?_; intro v' w1 hown' hgrow _; obtain ⟨g', cap', rfl⟩ := owns_succ hown'; obtain ⟨hv1, hv2, hr2, hk2, hb2⟩ := hv.appended (by decide) hrow (by have := hB4.size; omega) (Nat.le_refl _) hown' hgrow; have hc1 := hv1.cell; have hf1 := hv1.frozen)
    exact ⟨hk2.from _, keepsWalks_of hk2, ⟨⟨_, hv2, by simpa [rcells] using hr2⟩, hB4.trans hb2⟩, hB.trans (hb2.mono (by omega))⟩
  case done =>
    rintro D ys W hD rfl ⟨⟨⟨v, hv, hrow, _⟩, hB4⟩, hB⟩ hK
    have hc := hv.cell
    have b1' : Boxed W (w.heap.size + 1) 44 (.slice none 0 0) := (hB4.block _ (by omega)).trans b1
    have b2' : Boxed W (w.heap.size + 2) 4 (.bool false) := (hB4.block _ (by omega)).trans b2
    have r1 := b1'.cell
    have r2 := b2'.cell
    have f1 := b1'.frozen
    have f2 := b2'.frozen
    obtain ⟨va, vcap, rfl⟩ := owns_shape (by decide) hrow
    gi_wp2
    have hK' := (KeepsOthers.trans (KeepsOthers.setCell W ⟨w.heap.size + 1, 0, none⟩ (.slice va (rn 0 t).length vcap)) (KeepsOthers.setCell _ ⟨w.heap.size + 2, 0, none⟩ (.bool true))).same D _ hK rfl
    refine ⟨by simp, .inl ⟨_, _, rfl, run_takeDeferred hK', ?_⟩⟩
    have q1 : Boxed (((W.setCell ⟨w.heap.size + 1, 0, none⟩ (.slice va (rn 0 t).length vcap)).setCell ⟨w.heap.size + 2, 0, none⟩ (.bool true)).putObj D (.deferred none)) (w.heap.size + 1) 44 (.slice va (rn 0 t).length vcap) :=
      ((b1'.set _).kept (grownBy_setCell' _ _ _) (by simp)).kept (grownBy_putObj' _ D _) (by simp; omega)
    have q2 : Boxed (((W.setCell ⟨w.heap.size + 1, 0, none⟩ (.slice va (rn 0 t).length vcap)).setCell ⟨w.heap.size + 2, 0, none⟩ (.bool true)).putObj D (.deferred none)) (w.heap.size + 2) 4 (.bool true) :=
      ((b2'.kept (grownBy_setCell' _ _ _) (by simp)).set _).kept (grownBy_putObj' _ D _) (by simp; omega)
    have c1 := q1.cell
    have c2 := q2.cell
    refine ⟨.tuple #[.slice va (rn 0 t).length vcap, .bool true], by simp [results, Try.results36, go_sem, c1, c2], .slice va (rn 0 t).length vcap, rfl, ?_, ?_⟩
    · have h1 := hrow.kept (grownBy_setCell' W (w.heap.size + 1) (.slice va (rn 0 t).length vcap)) (.inr fun e => b1'.not_row (by decide) hrow e.symm)
      have h2 := h1.kept (grownBy_setCell' _ (w.heap.size + 2) (.bool true)) (.inr fun e => (b2'.kept (grownBy_setCell' _ _ _) (by simp)).not_row (by decide) h1 e.symm)
      have h3 := ownsRow_putObj h2 (.deferred none) hK' rfl
      obtain ⟨h4, h5⟩ := h3
      refine ⟨h4, h5.imp id ?_⟩
      rintro ⟨g, cap, cur, e1, e2, e3⟩
      exact ⟨g, cap, cur, e1, by omega, e3⟩
    · exact ((hB.setCell (p := ⟨w.heap.size + 1, 0, none⟩) (by simp) _).setCell (p := ⟨w.heap.size + 2, 0, none⟩) (by simp) _).grown (grownBy_putObj' _ D _) (by have := hB.size; simp; omega) (fun k e => by cases e; omega)
  case stop =>
    rintro D c pre W _ _ h _
    exact h.elim
end Go.Proofs.Ytcfeombnobgplaa
