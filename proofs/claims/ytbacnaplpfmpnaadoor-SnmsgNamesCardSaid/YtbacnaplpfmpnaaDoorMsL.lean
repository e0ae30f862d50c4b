/- snmsg: through, in each of the three modes; rest. -/
import Derived.Test.YtbacnaplpfmpnaaDoorMsJ
import Derived.Test.YtbacnaplpfmpnaaDoorMsF
import Derived.Test.YtbacnaplpfmpnaaDoorMsG
import Derived.Test.YtbacnaplpfmpnaaDoorMsH
import Derived.Deep.WholeRow
import Derived.Deep.Cut
namespace Go.Proofs.YtbacnaplpfmpnaaDoor
open Go.RowKit
set_option linter.unusedVariables false

def lookAll (m : Ms) : Ms × Bool := (layoutF m.ty).foldl (fun s p => lookP p s) (m, false)
def restL (m : Ms) : List UInt8 := (layoutF m.ty).foldl (fun s p => s ++ writeP p m) []
def readAll (k : Int) (t : List UInt8) (s : Rd) : Rd := (layoutF k).foldl (fun s p => readP p t s) s

theorem through_look {w : World} {cb : Nat} {m : Ms} (hk : kindM m.ty = true) (h : Obj? w cb (lkC m false) 69) :
    Calls Tryd.prog 33 #[.pointer (some ⟨cb, 0, none⟩)] w fun r w' => r = .returned (.tuple #[]) ∧ Obj? w' cb (lkC (lookAll m).1 (lookAll m).2) 69 ∧ Kp w.heap.size cb cb w w' := by
  have hlt := h.lt
  refine (through_gen (σ := Ms × Bool) lookP w cb cb m.ty hk (h.cell 2 _ rfl) hlt hlt (m, false) (fun B k w s => Obj? w cb (lkC s.1 s.2) 69) (fun w' hb => h.below hb hlt) (fun B k w' s q hi => hi) ?_).mono ?_
  · intro B p k w' s hk hB1 hB2 hi
    refine (look_all p w' cb s.1 s.2 hi).mono ?_
    rintro r w2 ⟨rfl, ho, hkp⟩
    exact ⟨rfl, ho, hkp B hB2⟩
  · rintro r w' ⟨rfl, ⟨B, k, _, _, ho⟩, hkp⟩
    exact ⟨rfl, ho, hkp⟩

theorem putL_le2 (x n : Int) (hn : n = 1 ∨ n = 2) : ((putL x n).length : Int) ≤ 2 := by
  rw [length_putL]; rcases hn with rfl | rfl <;> decide
theorem writeP_len (p : Pt) {m : Ms} (hn : (m.name.length : Int) ≤ 100000) (hd : (m.data.length : Int) ≤ 100000) : ((writeP p m).length : Int) ≤ 100002 := by
  have h1 := fun x => putL_le2 x 1 (.inl rfl)
  have h2 := fun x => putL_le2 x 2 (.inr rfl)
  cases p
  case gateway => have := h1 m.gw; simp only [writeP]; omega
  case radius => have := h1 m.rad; simp only [writeP]; omega
  case code => have := h1 m.code; simp only [writeP]; omega
  case time => have := h2 m.time; simp only [writeP]; omega
  case id => have := h2 m.tid; simp only [writeP]; omega
  case msg => have := h2 m.mid; simp only [writeP]; omega
  case name => simp only [writeP]; omega
  case data => simp only [writeP]; omega
  case flags => have := h1 (flagV m.fl).1; simp only [writeP]; omega
  case protocol => have := h1 1; simp only [writeP]; omega
  case will => have := h1 (flagV m.fl).1; simp only [writeP]; split <;> simp <;> omega
  case topic => have := h2 m.tid; simp only [writeP]; split <;> omega
  case duration => have := h2 m.time; simp only [writeP]; split <;> simp <;> omega
theorem through_write {w : World} {cb : Nat} {m : Ms} (hk : kindM m.ty = true) (hm : MsOk m) (h : Obj? w cb (wrC m (.slice none 0 0)) 69) :
    Calls Tryd.prog 33 #[.pointer (some ⟨cb, 0, none⟩)] w fun r w' => r = .returned (.tuple #[]) ∧ (∃ B v, w.heap.size ≤ B ∧ Obj? w' cb (wrC m v) 69 ∧ w'.ownsRow B 5 1 v (restL m).length (u8s (restL m))) ∧ ((restL m).length : Int) ≤ 400008 ∧ Kp w.heap.size cb cb w w' := by
  have hlt := h.lt
  refine (through_gen (σ := List UInt8) (fun p s => s ++ writeP p m) w cb cb m.ty hk (h.cell 2 _ rfl) hlt hlt [] (fun B k w s => InvW w B cb m s ∧ (s.length : Int) ≤ 100002 * (k : Int)) (fun w' hb => ⟨⟨Nat.lt_of_lt_of_le hlt hb.size, Nat.le_refl _, .slice none 0 0, h.below hb hlt, ?_⟩, by simp⟩) (fun B k w' s q hi => hi) ?_).mono ?_
  · exact World.ownsRow_nil _ _ _ _
  · intro B p k w' s hk hB1 hB2 hi
    refine (write_all p w' B cb m s hi.1 hm (by have := hi.2; omega)).mono ?_
    rintro r w2 ⟨rfl, ho, hkp⟩
    refine ⟨rfl, ⟨ho, ?_⟩, hkp⟩
    have h1 := writeP_len p hm.2.2.2.2.2.2.1 hm.2.2.2.2.2.2.2.1
    have h2 := hi.2
    rw [List.length_append]; push_cast; omega
  · rintro r w' ⟨rfl, ⟨B, k, hB, hk4, ho, hl⟩, hkp⟩
    obtain ⟨_, _, v, h3, h4⟩ := ho
    refine ⟨rfl, ⟨B, v, hB, h3, h4⟩, ?_, hkp⟩
    unfold restL
    omega
theorem through_read {w : World} {cb cu : Nat} {t : List UInt8} {s : Rd} (hk : kindM s.m.ty = true) (h : InvR w cb cu t s) (hne : cu ≠ cb) (ht : (t.length : Int) ≤ 9223372036854775807) :
    Calls Tryd.prog 33 #[.pointer (some ⟨cb, 0, none⟩)] w fun r w' => r = .returned (.tuple #[]) ∧ InvR w' cb cu t (readAll s.m.ty t s) ∧ Kp w.heap.size cb cu w w' := by
  have hlt := Obj?.lt h.1
  have hlu := Obj?.lt h.2.1
  refine (through_gen (σ := Rd) (fun p s => readP p t s) w cb cu s.m.ty hk (Obj?.cell h.1 2 _ rfl) hlt hlu s (fun B k w s => InvR w cb cu t s) (fun w' hb => h.below hb) (fun B k w' s q hi => hi.drewN q) ?_).mono ?_
  · intro B p k w' s hk hB1 hB2 hi
    exact read_all p w' B cb cu t s hi hne ht hB2
  · rintro r w' ⟨rfl, ⟨B, k, _, _, ho⟩, hkp⟩
    exact ⟨rfl, ho, hkp⟩

theorem size_alloc1 (w : World) (o : Obj) : (w.alloc o).heap.size = w.heap.size + 1 := by show (w.heap.push o).size = _; exact Array.size_push _
theorem heap_alloc_last2 (w : World) (o o' : Obj) : ((w.alloc o).alloc o').heap[w.heap.size + 1]? = some o' := by
  rw [← size_alloc1 w o]; exact heap_alloc_last _ _
theorem setRow_alloc_new2 (w : World) (o : Obj) (c c' : Array Value) (t : TypeId) : ((w.alloc o).alloc (.cells c t)).setRow (w.heap.size + 1) c' = (w.alloc o).alloc (.cells c' t) := by
  rw [← size_alloc1 w o]; exact World.setRow_alloc_new _ _ _ _
theorem owns_zero' {W : World} {base : Nat} {e : TypeId} {size : Nat} {v : Value} {xs : List Value} (h : W.ownsRow base e size v 0 xs) : v = .slice none 0 0 ∨ ∃ g c, v = .slice (some ⟨g, 0, none⟩) 0 c := by
  rcases h.2 with ⟨h, _⟩ | ⟨g, c, _, h, _⟩
  · exact .inl h
  · exact .inr ⟨g, c, h⟩
theorem strOf_u8s (l : List UInt8) : strOfNums (l.map fun b => (b.toNat : Int)) = ⟨l.toArray⟩ := by
  unfold strOfNums
  congr 2
  rw [List.map_map]
  have : ((fun n : Int => UInt8.ofNat n.toNat) ∘ fun b : UInt8 => (b.toNat : Int)) = id := by funext b; simp
  rw [this, List.map_id]
theorem conv_own {w : World} {B : Nat} {v : Value} {l : List UInt8} (h : w.ownsRow B 5 1 v l.length (u8s l)) : (convert 62 9 v).run Tryd.prog w = .ok (.string ⟨l.toArray⟩) w := by
  cases l with
  | nil =>
    rcases owns_zero' h with rfl | ⟨g, c, rfl⟩
    · exact run_convert_bytes_nil (P := Tryd.prog) w 62 5 Tryd.underlying62 Tryd.underlying5 0 0 9 Tryd.underlying9
    · exact run_convert_bytes_arg (P := Tryd.prog) w 62 5 Tryd.underlying62 Tryd.underlying5 g 0 0 c [] rfl (fun i hi => by omega) 9 Tryd.underlying9
  | cons a l =>
    obtain ⟨g, c, rfl⟩ := owns_succ h
    have h2 : w.ownsRow B 5 1 (.slice (some ⟨g, 0, none⟩) (l.length + 1) c) (l.length + 1) (((a :: l).map fun b => (b.toNat : Int)).map (Value.int .u8)) := by
      rw [List.map_map]; exact h
    have hc := run_convert_bytes_arg (P := Tryd.prog) w 62 5 Tryd.underlying62 Tryd.underlying5 g 0 (l.length + 1) c ((a :: l).map fun b => (b.toNat : Int)) (by simp) (owns_ints h2 (by simp)) 9 Tryd.underlying9
    rw [strOf_u8s] at hc
    exact hc
theorem infoMs : (Tryd.prog.info? 25).map (·.size) = some 16 := by kernel_rfl
theorem infoCd : (Tryd.prog.info? 69).map (·.size) = some 20 := by kernel_rfl
set_option maxRecDepth 100000 in
set_option maxHeartbeats 1600000 in
theorem msrest_any (m : Ms) (hk : kindM m.ty = true) (hm : MsOk m) (w : World) :
    Calls Tryd.prog 38 #[.agg m.cs] w fun r w' => r = .returned (.string ⟨(restL m).toArray⟩) ∧ ((restL m).length : Int) ≤ 400008 ∧ Below w.heap.size w w' := by
  unfold Ms.cs
  go_enter Tryd.func38, Tryd.ntmps38
  go_upto_region 1 with fail
  go_step
  refine wpList_load_row rfl 25 _ rfl _ rfl 25 _ _ _ (heap_alloc_last _ _) Tryd.underlying25 rfl infoMs ?_
  go_step
  go_step
  go_step
  go_step
  go_step
  go_step
  refine wpList_store_rowTo rfl 69 _ _ rfl rfl _ _ rfl rfl 69 _ (heap_alloc_last2 _ _ _) infoCd rfl (by simp [Value.oneCell']) ?_
  rw [setRow_alloc_new2]
  have hO1 := Obj?.new (w.alloc (.cells m.cs 25 (0, 0))) (wrC m (.slice none 0 0)) 69
  rw [size_alloc1] at hO1
  have H := Lib.hid (through_write hk hm hO1)
  have HB0 := Lib.hid (below_al (below_al (Below.refl _ w) (.cells m.cs 25 (0, 0))) (.cells (wrC m (.slice none 0 0)) 69 (0, 0)))
  clear hO1
  unfold wrC cdC Ms.cs at H HB0
  go_wp2_with fail
  refine H.out.mono ?_
  rintro r w2 ⟨rfl, ⟨B, v, hB, ho, hr⟩, hl, hkp⟩
  have kc := Obj?.cells ho
  have hconv := conv_own hr
  have HF := Lib.hid (And.intro hl (HB0.out.trans (hkp.to_below (by omega) (by omega) (by simp; omega))))
  clear H hkp ho hr HB0
  go_wp2
  go_ret
  exact ⟨rfl, HF.out.1, HF.out.2⟩
end Go.Proofs.YtbacnaplpfmpnaaDoor
