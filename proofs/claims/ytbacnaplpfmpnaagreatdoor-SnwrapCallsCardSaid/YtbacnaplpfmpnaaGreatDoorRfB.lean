/- polyglotref22: numbers in memory; has, fits, Short, Name; parts. polyglotref22: parts. -/
import Derived.Test.YtbacnaplpfmpnaaGreatDoorRfA
import Derived.Test.YtbacnaplpfmpnaaGreatDoorRefT
import Derived.Test.YtbacnaplpfmpnaaGreatDoorSnK
import Derived.Test.YtbacnaplpfmpnaaGreatDoorLkC
import Derived.Deep.LoopGhost
namespace Go.Proofs.YtbacnaplpfmpnaaGreatDoor
open Go.RowKit
set_option linter.unusedVariables false
set_option linter.unusedSimpArgs false
attribute [local go_sem ↓] load_Msg store_Msg
attribute [local irreducible] rowSem rowStore

/-- Numbers lie in memory. -/
def IntsAt (w : World) (v : Value) (l : List Int) : Prop :=
  ∃ a cap, v = .slice a l.length cap ∧ l.length ≤ 100000 ∧ (l = [] ∨ ∃ b off, a = some ⟨b, off, none⟩ ∧ b < w.heap.size ∧ ∀ i (hi : i < l.length), w.cell? ⟨b, off + i, none⟩ = some (.int .i64 l[i]))
theorem IntsAt.below {w w' : World} {v : Value} {l : List Int} (h : IntsAt w v l) (hb : Below w.heap.size w w') : IntsAt w' v l := by
  obtain ⟨a, cap, rfl, hl, hc⟩ := h
  refine ⟨a, cap, rfl, hl, ?_⟩
  rcases hc with hc | ⟨b, off, rfl, hlt, hc⟩
  · exact .inl hc
  · exact .inr ⟨b, off, rfl, Nat.lt_of_lt_of_le hlt hb.size, fun i hi => (hb.cell (p := ⟨b, _, none⟩) hlt).trans (hc i hi)⟩
theorem intsat_nil (w : World) : IntsAt w (.slice none 0 0) [] := ⟨none, 0, rfl, by simp, .inl rfl⟩
theorem intsat_new (w : World) (l : List Int) (cs : Array Value) (hcs : cs = (l.map (Value.int .i64)).toArray) (hl : l.length ≤ 100000) (n : Nat) (hn : n = l.length) : IntsAt (w.alloc (.cells cs 3 (0, 0))) (.slice (some ⟨w.heap.size, 0, none⟩) n n) l := by
  subst hn
  refine ⟨_, _, rfl, hl, .inr ⟨w.heap.size, 0, rfl, by rw [World.size_alloc]; omega, fun i hi => ?_⟩⟩
  refine (Obj?.new w cs 3).cell _ _ ?_
  rw [hcs, Nat.zero_add]
  simp [hi]
theorem intat_cell {w : World} {a : Option Addr} {cap n : Nat} {l : List Int} (h : IntsAt w (.slice a n cap) l) (k : Nat) (hk : k < l.length) :
    ∃ b off, a = some ⟨b, off, none⟩ ∧ b < w.heap.size ∧ w.cell? ⟨b, off + k, none⟩ = some (.int .i64 l[k]) := by
  obtain ⟨a', cap', e1, -, hc⟩ := h
  obtain ⟨b, off, rfl, hlb, hc⟩ := hc.resolve_left (fun e => by rw [e] at hk; cases hk)
  cases e1
  exact ⟨b, off, rfl, hlb, hc k hk⟩
set_option maxHeartbeats 800000 in
theorem rhas22_any {v : Value} {l : List Int} {w : World} (hI : IntsAt w v l) (p : Int) :
    Calls Tryz.prog 104 #[v, .int .i64 p] w fun e w' => e = .returned (.bool (l.contains p)) ∧ w = w' := by
  have HI := Lib.hid hI
  obtain ⟨a, cap, rfl, hl, -⟩ := hI
  obtain ⟨n, hN⟩ : ∃ n, n = l.length := ⟨_, rfl⟩
  obtain ⟨q, hq⟩ : ∃ q, q = l.contains p := ⟨_, rfl⟩
  rw [← hN] at hl HI ⊢
  rw [← hq]
  have HN := Lib.hid hN
  have HQ := Lib.hid hq
  clear hN hq
  go_enter Tryz.func104, Tryz.ntmps104
  go_wp2
  go_loop [5] (fun i => ∃ k : Nat, k ≤ n ∧ i = .int .i64 k ∧ Hid (∀ j (hj : j < l.length), j < k → l[j] ≠ p)) (fun i => n - (intOf i).toNat)
  case atStart => exact ⟨0, by omega, rfl, Lib.hid (fun _ _ h => by omega)⟩
  case round =>
    obtain ⟨k, hkn, rfl, HT⟩ := hrel
    by_cases hlt : k < n
    · have hk : k < l.length := by rw [← HN.out]; exact hlt
      obtain ⟨b, off, rfl, hb, k1⟩ := intat_cell HI.out k hk
      have hyes : l[k] = p → q = true := fun h => by
        rw [HQ.out, List.contains_iff_mem, ← h]; exact List.getElem_mem hk
      have hno : l[k] ≠ p → ∀ j (hj : j < l.length), j < k + 1 → l[j] ≠ p := fun h j hj hjk => by
        by_cases e : j = k
        · subst e; exact h
        · exact HT.out j hj (by omega)
      obtain ⟨x, hx⟩ : ∃ x, x = l[k] := ⟨_, rfl⟩
      rw [← hx] at k1 hyes hno
      have d1 : decide ((k : Int) < n) = true := decide_eq_true (by omega)
      have hki : (k : Int) < n := by omega
      clear hx hk
      by_cases hxp : x = p
      · have d2 : (x == p) = true := by simpa using hxp
        have HY := Lib.hid (hyes hxp)
        clear hyes hno hxp hlt
        go_wp2
        rw [HY.out]
        go_ret
        exact ⟨rfl, rfl⟩
      · have d2 : (x == p) = false := by simpa using hxp
        have HS := Lib.hid (hno hxp)
        clear hyes hno hxp
        go_wp2
        go_round
        case rel => exact ⟨k + 1, by omega, by go_num, HS⟩
        case measure => simp [intOf]; omega
    · obtain rfl : k = n := by omega
      have HS := Lib.hid (show q = false from by
        rw [HQ.out]
        cases hc : l.contains p with
        | false => rfl
        | true =>
          obtain ⟨j, hj, e⟩ := List.mem_iff_getElem.1 (List.contains_iff_mem.1 hc)
          exact (HT.out j hj (by rw [HN.out]; exact hj) e).elim)
      go_wp2
      rw [HS.out]
      go_ret
      exact ⟨rfl, rfl⟩
theorem rfits_any (n most : Int) (used : Bool) (w : World) : Calls Tryz.prog 105 #[.int .i64 n, .int .i64 most, .bool used] w fun e w' => e = .returned (.bool (fitB n most used)) ∧ w = w' := by
  have HE := Lib.hid (show fitB n most used = ((decide (0 ≤ n) && decide (n ≤ most)) && (used || n == 0)) by unfold fitB; simp only [Bool.decide_and])
  rw [HE.out]
  by_cases h0 : 0 ≤ n
  · by_cases h1 : n ≤ most
    · cases used
      · by_cases h2 : n = 0
        · subst h2
          go_enter Tryz.func105, Tryz.ntmps105
          go_wp2
          go_ret
          exact ⟨ret_val (congrArg Value.bool (by first | rfl | (simp; done) | (simp; omega) | (simp [*]; done))), rfl⟩
        · have d2 : (n == 0) = false := by simpa using h2
          go_enter Tryz.func105, Tryz.ntmps105
          go_wp2
          go_ret
          exact ⟨ret_val (congrArg Value.bool (by first | rfl | (simp; done) | (simp; omega) | (simp [*]; done))), rfl⟩
      · go_enter Tryz.func105, Tryz.ntmps105
        go_wp2
        go_ret
        exact ⟨ret_val (congrArg Value.bool (by first | rfl | (simp; done) | (simp; omega) | (simp [*]; done))), rfl⟩
    · have h1' : most < n := by omega
      go_enter Tryz.func105, Tryz.ntmps105
      go_wp2
      go_ret
      exact ⟨ret_val (congrArg Value.bool (by first | rfl | (simp; done) | (simp; omega) | (simp [*]; done))), rfl⟩
  · have h0' : n < 0 := by omega
    go_enter Tryz.func105, Tryz.ntmps105
    go_wp2
    go_ret
    exact ⟨ret_val (congrArg Value.bool (by first | rfl | (simp; done) | (simp; omega) | (simp [*]; done))), rfl⟩
theorem rshort22_any (s : List UInt8) (hs : (s.length : Int) ≤ 4611686018427380000) (w : World) :
    Calls Tryz.prog 15 #[.string ⟨s.toArray⟩] w fun e w' => e = .returned (.tuple #[.int .i64 (shortF s).1, .bool (shortF s).2]) ∧ w = w' := by
  have HN := Lib.hid (fun w => rtname_any s hs w)
  by_cases h1 : s.length = 2
  · have d1 : ((s.length : Int) == 2) = true := by rw [h1]; rfl
    have d2 : ((s.length : Int) != 2) = false := by rw [h1]; rfl
    cases hb : nameB s with
    | false =>
      rw [show shortF s = (0, false) by unfold shortF; rw [if_neg (by simp [hb])]]
      rw [hb] at HN
      clear hb h1
      go_enter Tryz.func15, Tryz.ntmps15
      go_wp2_with fail
      refine (HN.out _).mono ?_
      rintro r w' ⟨rfl, rfl⟩
      go_wp2
      go_ret2
      exact ⟨rfl, rfl⟩
    | true =>
      have e := show shortF s = (getL s, true) by unfold shortF; rw [if_pos ⟨h1, hb⟩]
      rw [e]
      rw [hb] at HN
      have HR := Lib.hid (fun w => rnumber_any s (by omega) w)
      have hg : getB s = getL s := by unfold getL; rw [h1]; rfl
      rw [hg] at HR
      obtain ⟨g1, g2⟩ := getL_two' s h1
      have hw : IntKind.i64.wrap (getL s) = getL s := by rw [IntKind.wrap_i64]; omega
      obtain ⟨g, hgg⟩ : ∃ g, g = getL s := ⟨_, rfl⟩
      rw [← hgg] at HR g1 g2 hw ⊢
      clear hb h1 e hg hgg
      go_enter Tryz.func15, Tryz.ntmps15
      go_wp2_with fail
      refine (HN.out _).mono ?_
      rintro r w' ⟨rfl, rfl⟩
      go_wp2_with fail
      refine (HR.out _).mono ?_
      rintro r w' ⟨rfl, rfl⟩
      go_wp2
      go_ret2
      exact ⟨rfl, rfl⟩
  · have d1 : ((s.length : Int) == 2) = false := by apply beq_eq_false_iff_ne.2; omega
    have d2 : ((s.length : Int) != 2) = true := by simp; omega
    rw [show shortF s = (0, false) by unfold shortF; rw [if_neg (by simp [h1])]]
    clear h1
    go_enter Tryz.func15, Tryz.ntmps15
    go_wp2
    go_ret2
    exact ⟨rfl, rfl⟩
theorem rnameof22_any (id : Int) (w : World) :
    Calls Tryz.prog 17 #[.int .i64 id] w fun e w' => e = .returned (.tuple #[.string ⟨(nameOfF id).1.toArray⟩, .bool (nameOfF id).2]) ∧ Below w.heap.size w w' := by
  by_cases h0 : id < 0
  · rw [show nameOfF id = ([], false) by unfold nameOfF; rw [if_neg (by omega)]]
    go_enter Tryz.func17, Tryz.ntmps17
    go_wp2
    go_ret2
    exact ⟨rfl, Below.refl _ _⟩
  by_cases h1 : 65535 < id
  · rw [show nameOfF id = ([], false) by unfold nameOfF; rw [if_neg (by omega)]]
    have h0' : 0 ≤ id := by omega
    go_enter Tryz.func17, Tryz.ntmps17
    go_wp2
    go_ret2
    exact ⟨rfl, Below.refl _ _⟩
  have h0' : 0 ≤ id := by omega
  have h1' : id ≤ 65535 := by omega
  have hu : IntKind.u64.wrap id = id := wraps_u64 _ (by omega) (by omega)
  have hl2 : (putL id 2).length = 2 := by rw [length_putL]; rfl
  have HB := Lib.hid (fun w => rbig_any id (by omega) (by omega) 2 (by decide) w)
  have HS := Lib.hid (fun w => rshort22_any (putL id 2) (by rw [hl2]; decide) w)
  have hpp : putB id 2 = putL id 2 := rfl
  rw [hpp] at HB
  have hsf : (shortF (putL id 2)).2 = nameB (putL id 2) := by unfold shortF; cases h : nameB (putL id 2) <;> simp [h, hl2]
  have hno : nameOfF id = if nameB (putL id 2) = true then (putL id 2, true) else ([], false) := by unfold nameOfF; by_cases h : nameB (putL id 2) = true <;> simp [h, h0', h1']
  obtain ⟨q, hq⟩ : ∃ q, q = putL id 2 := ⟨_, rfl⟩
  obtain ⟨x, hx⟩ : ∃ x, x = (shortF (putL id 2)).1 := ⟨_, rfl⟩
  rw [hsf, ← hx, ← hq] at HS
  rw [← hq] at HB hno
  rw [hno]
  clear hpp hsf hno hq hl2 h0 h1 hx
  cases hb : nameB q with
  | false =>
    rw [hb] at HS
    simp only [Bool.false_eq_true, if_false]
    clear hb
    go_enter Tryz.func17, Tryz.ntmps17
    go_wp2_with fail
    refine (HB.out _).mono ?_
    rintro r w1 ⟨rfl, hb⟩
    have HB1 := Lib.hid hb
    clear hb
    go_wp2_with fail
    refine (HS.out _).mono ?_
    rintro r w2 ⟨rfl, hw⟩
    subst hw
    go_wp2
    go_ret2
    exact ⟨rfl, HB1.out⟩
  | true =>
    rw [hb] at HS
    simp only [if_true]
    clear hb
    go_enter Tryz.func17, Tryz.ntmps17
    go_wp2_with fail
    refine (HB.out _).mono ?_
    rintro r w1 ⟨rfl, hb⟩
    have HB1 := Lib.hid hb
    clear hb
    go_wp2_with fail
    refine (HS.out _).mono ?_
    rintro r w2 ⟨rfl, hw⟩
    subst hw
    go_wp2
    go_ret2
    exact ⟨rfl, HB1.out⟩
end Go.Proofs.YtbacnaplpfmpnaaGreatDoor
namespace Go.Proofs.YtbacnaplpfmpnaaGreatDoor
open Go.RowKit
set_option linter.unusedVariables false
set_option linter.unusedSimpArgs false

def PartsSaid (w : World) (l : List Int) (e : Ending) (w' : World) : Prop := ∃ v, e = .returned v ∧ IntsAt w' v l ∧ Below w.heap.size w w'
theorem parts_new (w : World) (C : Array Value) (l : List Int) (hl : l.length ≤ 100000) (n : Nat) (hn : n = l.length) : PartsSaid w l (.returned (.slice (some ⟨w.heap.size + 1, 0, none⟩) n n)) ((w.alloc (.cells C 25 (0, 0))).alloc (.cells (l.map (Value.int .i64)).toArray 3 (0, 0))) := by
  refine ⟨_, rfl, ?_, below_al (below_al (Below.refl _ _) _) _⟩
  have := intsat_new (w.alloc (.cells C 25 (0, 0))) l _ rfl hl n hn
  rw [World.size_alloc] at this
  exact this
theorem parts_nil (w : World) (C : Array Value) : PartsSaid w [] (.returned (.slice none 0 0)) (w.alloc (.cells C 25 (0, 0))) := ⟨_, rfl, intsat_nil _, below_al (Below.refl _ _) _⟩
theorem rparts_0 (dup : Bool) (q : Int) (retain will clean : Bool) (typ gw rad time : Int) (timed : Bool) (tid mid code : Int) (name data : List UInt8) (w : World) : Calls Tryz.prog 88 #[.agg (Ms.cs ⟨0, ⟨dup, q, retain, will, clean, typ⟩, gw, rad, time, timed, tid, mid, code, name, data⟩)] w (PartsSaid w [3, 6]) := by
  unfold Ms.cs
  dsimp only
  go_enter Tryz.func88, Tryz.ntmps88
  go_wp2
  go_ret
  exact parts_new w _ [3, 6] (by decide) 2 rfl
theorem rparts_1 (dup : Bool) (q : Int) (retain will clean : Bool) (typ gw rad time : Int) (timed : Bool) (tid mid code : Int) (name data : List UInt8) (w : World) : Calls Tryz.prog 88 #[.agg (Ms.cs ⟨1, ⟨dup, q, retain, will, clean, typ⟩, gw, rad, time, timed, tid, mid, code, name, data⟩)] w (PartsSaid w [4]) := by
  unfold Ms.cs
  dsimp only
  go_enter Tryz.func88, Tryz.ntmps88
  go_wp2
  go_ret
  exact parts_new w _ [4] (by decide) 1 rfl
theorem rparts_2 (dup : Bool) (q : Int) (retain will clean : Bool) (typ gw rad time : Int) (timed : Bool) (tid mid code : Int) (name data : List UInt8) (w : World) : Calls Tryz.prog 88 #[.agg (Ms.cs ⟨2, ⟨dup, q, retain, will, clean, typ⟩, gw, rad, time, timed, tid, mid, code, name, data⟩)] w (PartsSaid w [3, 9]) := by
  unfold Ms.cs
  dsimp only
  go_enter Tryz.func88, Tryz.ntmps88
  go_wp2
  go_ret
  exact parts_new w _ [3, 9] (by decide) 2 rfl
theorem rparts_4 (dup : Bool) (q : Int) (retain will clean : Bool) (typ gw rad time : Int) (timed : Bool) (tid mid code : Int) (name data : List UInt8) (w : World) : Calls Tryz.prog 88 #[.agg (Ms.cs ⟨4, ⟨dup, q, retain, will, clean, typ⟩, gw, rad, time, timed, tid, mid, code, name, data⟩)] w (PartsSaid w [1, 2, 6, 9]) := by
  unfold Ms.cs
  dsimp only
  go_enter Tryz.func88, Tryz.ntmps88
  go_wp2
  go_ret
  exact parts_new w _ [1, 2, 6, 9] (by decide) 4 rfl
theorem rparts_5 (dup : Bool) (q : Int) (retain will clean : Bool) (typ gw rad time : Int) (timed : Bool) (tid mid code : Int) (name data : List UInt8) (w : World) : Calls Tryz.prog 88 #[.agg (Ms.cs ⟨5, ⟨dup, q, retain, will, clean, typ⟩, gw, rad, time, timed, tid, mid, code, name, data⟩)] w (PartsSaid w [5]) := by
  unfold Ms.cs
  dsimp only
  go_enter Tryz.func88, Tryz.ntmps88
  go_wp2
  go_ret
  exact parts_new w _ [5] (by decide) 1 rfl
theorem rparts_6 (dup : Bool) (q : Int) (retain will clean : Bool) (typ gw rad time : Int) (timed : Bool) (tid mid code : Int) (name data : List UInt8) (w : World) : Calls Tryz.prog 88 #[.agg (Ms.cs ⟨6, ⟨dup, q, retain, will, clean, typ⟩, gw, rad, time, timed, tid, mid, code, name, data⟩)] w (PartsSaid w []) := by
  unfold Ms.cs
  dsimp only
  go_enter Tryz.func88, Tryz.ntmps88
  go_wp2
  go_ret
  exact parts_nil w _
theorem rparts_7_e (dup : Bool) (q : Int) (retain will clean : Bool) (typ gw rad time : Int) (timed : Bool) (tid mid code : Int) (name data : List UInt8) (h : name = []) (w : World) : Calls Tryz.prog 88 #[.agg (Ms.cs ⟨7, ⟨dup, q, retain, will, clean, typ⟩, gw, rad, time, timed, tid, mid, code, name, data⟩)] w (PartsSaid w []) := by
  unfold Ms.cs
  dsimp only
  subst h
  go_enter Tryz.func88, Tryz.ntmps88
  go_wp2
  go_ret
  exact parts_nil w _
theorem rparts_7_n (dup : Bool) (q : Int) (retain will clean : Bool) (typ gw rad time : Int) (timed : Bool) (tid mid code : Int) (name data : List UInt8) (h : name ≠ []) (w : World) : Calls Tryz.prog 88 #[.agg (Ms.cs ⟨7, ⟨dup, q, retain, will, clean, typ⟩, gw, rad, time, timed, tid, mid, code, name, data⟩)] w (PartsSaid w [1, 9]) := by
  unfold Ms.cs
  dsimp only
  have d1 : name.isEmpty = false := by cases name with | nil => exact (h rfl).elim | cons _ _ => rfl
  have d2 : (name == []) = false := by simpa using h
  go_enter Tryz.func88, Tryz.ntmps88
  go_wp2
  go_ret
  exact parts_new w _ [1, 9] (by decide) 2 rfl
theorem rparts_8 (dup : Bool) (q : Int) (retain will clean : Bool) (typ gw rad time : Int) (timed : Bool) (tid mid code : Int) (name data : List UInt8) (w : World) : Calls Tryz.prog 88 #[.agg (Ms.cs ⟨8, ⟨dup, q, retain, will, clean, typ⟩, gw, rad, time, timed, tid, mid, code, name, data⟩)] w (PartsSaid w []) := by
  unfold Ms.cs
  dsimp only
  go_enter Tryz.func88, Tryz.ntmps88
  go_wp2
  go_ret
  exact parts_nil w _
theorem rparts_9 (dup : Bool) (q : Int) (retain will clean : Bool) (typ gw rad time : Int) (timed : Bool) (tid mid code : Int) (name data : List UInt8) (w : World) : Calls Tryz.prog 88 #[.agg (Ms.cs ⟨9, ⟨dup, q, retain, will, clean, typ⟩, gw, rad, time, timed, tid, mid, code, name, data⟩)] w (PartsSaid w [10]) := by
  unfold Ms.cs
  dsimp only
  go_enter Tryz.func88, Tryz.ntmps88
  go_wp2
  go_ret
  exact parts_new w _ [10] (by decide) 1 rfl
theorem rparts_10 (dup : Bool) (q : Int) (retain will clean : Bool) (typ gw rad time : Int) (timed : Bool) (tid mid code : Int) (name data : List UInt8) (w : World) : Calls Tryz.prog 88 #[.agg (Ms.cs ⟨10, ⟨dup, q, retain, will, clean, typ⟩, gw, rad, time, timed, tid, mid, code, name, data⟩)] w (PartsSaid w [7, 8, 9]) := by
  unfold Ms.cs
  dsimp only
  go_enter Tryz.func88, Tryz.ntmps88
  go_wp2
  go_ret
  exact parts_new w _ [7, 8, 9] (by decide) 3 rfl
theorem rparts_11 (dup : Bool) (q : Int) (retain will clean : Bool) (typ gw rad time : Int) (timed : Bool) (tid mid code : Int) (name data : List UInt8) (w : World) : Calls Tryz.prog 88 #[.agg (Ms.cs ⟨11, ⟨dup, q, retain, will, clean, typ⟩, gw, rad, time, timed, tid, mid, code, name, data⟩)] w (PartsSaid w [7, 8, 5]) := by
  unfold Ms.cs
  dsimp only
  go_enter Tryz.func88, Tryz.ntmps88
  go_wp2
  go_ret
  exact parts_new w _ [7, 8, 5] (by decide) 3 rfl
theorem rparts_12 (dup : Bool) (q : Int) (retain will clean : Bool) (typ gw rad time : Int) (timed : Bool) (tid mid code : Int) (name data : List UInt8) (w : World) : Calls Tryz.prog 88 #[.agg (Ms.cs ⟨12, ⟨dup, q, retain, will, clean, typ⟩, gw, rad, time, timed, tid, mid, code, name, data⟩)] w (PartsSaid w [1, 7, 8, 10]) := by
  unfold Ms.cs
  dsimp only
  go_enter Tryz.func88, Tryz.ntmps88
  go_wp2
  go_ret
  exact parts_new w _ [1, 7, 8, 10] (by decide) 4 rfl
theorem rparts_13 (dup : Bool) (q : Int) (retain will clean : Bool) (typ gw rad time : Int) (timed : Bool) (tid mid code : Int) (name data : List UInt8) (w : World) : Calls Tryz.prog 88 #[.agg (Ms.cs ⟨13, ⟨dup, q, retain, will, clean, typ⟩, gw, rad, time, timed, tid, mid, code, name, data⟩)] w (PartsSaid w [7, 8, 5]) := by
  unfold Ms.cs
  dsimp only
  go_enter Tryz.func88, Tryz.ntmps88
  go_wp2
  go_ret
  exact parts_new w _ [7, 8, 5] (by decide) 3 rfl
theorem rparts_14 (dup : Bool) (q : Int) (retain will clean : Bool) (typ gw rad time : Int) (timed : Bool) (tid mid code : Int) (name data : List UInt8) (w : World) : Calls Tryz.prog 88 #[.agg (Ms.cs ⟨14, ⟨dup, q, retain, will, clean, typ⟩, gw, rad, time, timed, tid, mid, code, name, data⟩)] w (PartsSaid w [8]) := by
  unfold Ms.cs
  dsimp only
  go_enter Tryz.func88, Tryz.ntmps88
  go_wp2
  go_ret
  exact parts_new w _ [8] (by decide) 1 rfl
theorem rparts_15 (dup : Bool) (q : Int) (retain will clean : Bool) (typ gw rad time : Int) (timed : Bool) (tid mid code : Int) (name data : List UInt8) (w : World) : Calls Tryz.prog 88 #[.agg (Ms.cs ⟨15, ⟨dup, q, retain, will, clean, typ⟩, gw, rad, time, timed, tid, mid, code, name, data⟩)] w (PartsSaid w [8]) := by
  unfold Ms.cs
  dsimp only
  go_enter Tryz.func88, Tryz.ntmps88
  go_wp2
  go_ret
  exact parts_new w _ [8] (by decide) 1 rfl
theorem rparts_16 (dup : Bool) (q : Int) (retain will clean : Bool) (typ gw rad time : Int) (timed : Bool) (tid mid code : Int) (name data : List UInt8) (w : World) : Calls Tryz.prog 88 #[.agg (Ms.cs ⟨16, ⟨dup, q, retain, will, clean, typ⟩, gw, rad, time, timed, tid, mid, code, name, data⟩)] w (PartsSaid w [8]) := by
  unfold Ms.cs
  dsimp only
  go_enter Tryz.func88, Tryz.ntmps88
  go_wp2
  go_ret
  exact parts_new w _ [8] (by decide) 1 rfl
theorem rparts_18_e (dup : Bool) (q : Int) (retain will clean : Bool) (typ gw rad time : Int) (timed : Bool) (tid mid code : Int) (name data : List UInt8) (h : typ = 0) (w : World) : Calls Tryz.prog 88 #[.agg (Ms.cs ⟨18, ⟨dup, q, retain, will, clean, typ⟩, gw, rad, time, timed, tid, mid, code, name, data⟩)] w (PartsSaid w [1, 8, 9]) := by
  unfold Ms.cs
  dsimp only
  subst h
  go_enter Tryz.func88, Tryz.ntmps88
  go_wp2
  go_ret
  exact parts_new w _ [1, 8, 9] (by decide) 3 rfl
theorem rparts_18_n (dup : Bool) (q : Int) (retain will clean : Bool) (typ gw rad time : Int) (timed : Bool) (tid mid code : Int) (name data : List UInt8) (h : typ ≠ 0) (w : World) : Calls Tryz.prog 88 #[.agg (Ms.cs ⟨18, ⟨dup, q, retain, will, clean, typ⟩, gw, rad, time, timed, tid, mid, code, name, data⟩)] w (PartsSaid w [1, 8, 7]) := by
  unfold Ms.cs
  dsimp only
  have d1 : (typ == 0) = false := by simpa using h
  go_enter Tryz.func88, Tryz.ntmps88
  go_wp2
  go_ret
  exact parts_new w _ [1, 8, 7] (by decide) 3 rfl
theorem rparts_19 (dup : Bool) (q : Int) (retain will clean : Bool) (typ gw rad time : Int) (timed : Bool) (tid mid code : Int) (name data : List UInt8) (w : World) : Calls Tryz.prog 88 #[.agg (Ms.cs ⟨19, ⟨dup, q, retain, will, clean, typ⟩, gw, rad, time, timed, tid, mid, code, name, data⟩)] w (PartsSaid w [1, 7, 8, 5]) := by
  unfold Ms.cs
  dsimp only
  go_enter Tryz.func88, Tryz.ntmps88
  go_wp2
  go_ret
  exact parts_new w _ [1, 7, 8, 5] (by decide) 4 rfl
theorem rparts_20_e (dup : Bool) (q : Int) (retain will clean : Bool) (typ gw rad time : Int) (timed : Bool) (tid mid code : Int) (name data : List UInt8) (h : typ = 0) (w : World) : Calls Tryz.prog 88 #[.agg (Ms.cs ⟨20, ⟨dup, q, retain, will, clean, typ⟩, gw, rad, time, timed, tid, mid, code, name, data⟩)] w (PartsSaid w [1, 8, 9]) := by
  unfold Ms.cs
  dsimp only
  subst h
  go_enter Tryz.func88, Tryz.ntmps88
  go_wp2
  go_ret
  exact parts_new w _ [1, 8, 9] (by decide) 3 rfl
theorem rparts_20_n (dup : Bool) (q : Int) (retain will clean : Bool) (typ gw rad time : Int) (timed : Bool) (tid mid code : Int) (name data : List UInt8) (h : typ ≠ 0) (w : World) : Calls Tryz.prog 88 #[.agg (Ms.cs ⟨20, ⟨dup, q, retain, will, clean, typ⟩, gw, rad, time, timed, tid, mid, code, name, data⟩)] w (PartsSaid w [1, 8, 7]) := by
  unfold Ms.cs
  dsimp only
  have d1 : (typ == 0) = false := by simpa using h
  go_enter Tryz.func88, Tryz.ntmps88
  go_wp2
  go_ret
  exact parts_new w _ [1, 8, 7] (by decide) 3 rfl
theorem rparts_21 (dup : Bool) (q : Int) (retain will clean : Bool) (typ gw rad time : Int) (timed : Bool) (tid mid code : Int) (name data : List UInt8) (w : World) : Calls Tryz.prog 88 #[.agg (Ms.cs ⟨21, ⟨dup, q, retain, will, clean, typ⟩, gw, rad, time, timed, tid, mid, code, name, data⟩)] w (PartsSaid w [8]) := by
  unfold Ms.cs
  dsimp only
  go_enter Tryz.func88, Tryz.ntmps88
  go_wp2
  go_ret
  exact parts_new w _ [8] (by decide) 1 rfl
theorem rparts_22 (dup : Bool) (q : Int) (retain will clean : Bool) (typ gw rad time : Int) (timed : Bool) (tid mid code : Int) (name data : List UInt8) (w : World) : Calls Tryz.prog 88 #[.agg (Ms.cs ⟨22, ⟨dup, q, retain, will, clean, typ⟩, gw, rad, time, timed, tid, mid, code, name, data⟩)] w (PartsSaid w [9]) := by
  unfold Ms.cs
  dsimp only
  go_enter Tryz.func88, Tryz.ntmps88
  go_wp2
  go_ret
  exact parts_new w _ [9] (by decide) 1 rfl
theorem rparts_23 (dup : Bool) (q : Int) (retain will clean : Bool) (typ gw rad time : Int) (timed : Bool) (tid mid code : Int) (name data : List UInt8) (w : World) : Calls Tryz.prog 88 #[.agg (Ms.cs ⟨23, ⟨dup, q, retain, will, clean, typ⟩, gw, rad, time, timed, tid, mid, code, name, data⟩)] w (PartsSaid w []) := by
  unfold Ms.cs
  dsimp only
  go_enter Tryz.func88, Tryz.ntmps88
  go_wp2
  go_ret
  exact parts_nil w _
theorem rparts_24_e (dup : Bool) (q : Int) (retain will clean : Bool) (typ gw rad time : Int) (timed : Bool) (tid mid code : Int) (name data : List UInt8) (h : timed = false) (w : World) : Calls Tryz.prog 88 #[.agg (Ms.cs ⟨24, ⟨dup, q, retain, will, clean, typ⟩, gw, rad, time, timed, tid, mid, code, name, data⟩)] w (PartsSaid w []) := by
  unfold Ms.cs
  dsimp only
  subst h
  go_enter Tryz.func88, Tryz.ntmps88
  go_wp2
  go_ret
  exact parts_nil w _
theorem rparts_24_n (dup : Bool) (q : Int) (retain will clean : Bool) (typ gw rad time : Int) (timed : Bool) (tid mid code : Int) (name data : List UInt8) (h : timed = true) (w : World) : Calls Tryz.prog 88 #[.agg (Ms.cs ⟨24, ⟨dup, q, retain, will, clean, typ⟩, gw, rad, time, timed, tid, mid, code, name, data⟩)] w (PartsSaid w [6]) := by
  unfold Ms.cs
  dsimp only
  subst h
  go_enter Tryz.func88, Tryz.ntmps88
  go_wp2
  go_ret
  exact parts_new w _ [6] (by decide) 1 rfl
theorem rparts_26_e (dup : Bool) (q : Int) (retain will clean : Bool) (typ gw rad time : Int) (timed : Bool) (tid mid code : Int) (name data : List UInt8) (h : name = []) (w : World) : Calls Tryz.prog 88 #[.agg (Ms.cs ⟨26, ⟨dup, q, retain, will, clean, typ⟩, gw, rad, time, timed, tid, mid, code, name, data⟩)] w (PartsSaid w []) := by
  unfold Ms.cs
  dsimp only
  subst h
  go_enter Tryz.func88, Tryz.ntmps88
  go_wp2
  go_ret
  exact parts_nil w _
theorem rparts_26_n (dup : Bool) (q : Int) (retain will clean : Bool) (typ gw rad time : Int) (timed : Bool) (tid mid code : Int) (name data : List UInt8) (h : name ≠ []) (w : World) : Calls Tryz.prog 88 #[.agg (Ms.cs ⟨26, ⟨dup, q, retain, will, clean, typ⟩, gw, rad, time, timed, tid, mid, code, name, data⟩)] w (PartsSaid w [1, 9]) := by
  unfold Ms.cs
  dsimp only
  have d1 : name.isEmpty = false := by cases name with | nil => exact (h rfl).elim | cons _ _ => rfl
  have d2 : (name == []) = false := by simpa using h
  go_enter Tryz.func88, Tryz.ntmps88
  go_wp2
  go_ret
  exact parts_new w _ [1, 9] (by decide) 2 rfl
theorem rparts_27 (dup : Bool) (q : Int) (retain will clean : Bool) (typ gw rad time : Int) (timed : Bool) (tid mid code : Int) (name data : List UInt8) (w : World) : Calls Tryz.prog 88 #[.agg (Ms.cs ⟨27, ⟨dup, q, retain, will, clean, typ⟩, gw, rad, time, timed, tid, mid, code, name, data⟩)] w (PartsSaid w [5]) := by
  unfold Ms.cs
  dsimp only
  go_enter Tryz.func88, Tryz.ntmps88
  go_wp2
  go_ret
  exact parts_new w _ [5] (by decide) 1 rfl
theorem rparts_28 (dup : Bool) (q : Int) (retain will clean : Bool) (typ gw rad time : Int) (timed : Bool) (tid mid code : Int) (name data : List UInt8) (w : World) : Calls Tryz.prog 88 #[.agg (Ms.cs ⟨28, ⟨dup, q, retain, will, clean, typ⟩, gw, rad, time, timed, tid, mid, code, name, data⟩)] w (PartsSaid w [10]) := by
  unfold Ms.cs
  dsimp only
  go_enter Tryz.func88, Tryz.ntmps88
  go_wp2
  go_ret
  exact parts_new w _ [10] (by decide) 1 rfl
theorem rparts_29 (dup : Bool) (q : Int) (retain will clean : Bool) (typ gw rad time : Int) (timed : Bool) (tid mid code : Int) (name data : List UInt8) (w : World) : Calls Tryz.prog 88 #[.agg (Ms.cs ⟨29, ⟨dup, q, retain, will, clean, typ⟩, gw, rad, time, timed, tid, mid, code, name, data⟩)] w (PartsSaid w [5]) := by
  unfold Ms.cs
  dsimp only
  go_enter Tryz.func88, Tryz.ntmps88
  go_wp2
  go_ret
  exact parts_new w _ [5] (by decide) 1 rfl
theorem rparts_any (m : Ms) (hk : kindM m.ty = true) (w : World) : Calls Tryz.prog 88 #[.agg m.cs] w (PartsSaid w (partsM m)) := by
  obtain ⟨ty, ⟨dup, q, retain, will, clean, typ⟩, gw, rad, time, timed, tid, mid, code, name, data⟩ := m
  simp only at hk
  rcases kinds_of hk with rfl | rfl | rfl | rfl | rfl | rfl | rfl | rfl | rfl | rfl | rfl | rfl | rfl | rfl | rfl | rfl | rfl | rfl | rfl | rfl | rfl | rfl | rfl | rfl | rfl | rfl | rfl
  · exact rparts_0 dup q retain will clean typ gw rad time timed tid mid code name data w
  · exact rparts_1 dup q retain will clean typ gw rad time timed tid mid code name data w
  · exact rparts_2 dup q retain will clean typ gw rad time timed tid mid code name data w
  · exact rparts_4 dup q retain will clean typ gw rad time timed tid mid code name data w
  · exact rparts_5 dup q retain will clean typ gw rad time timed tid mid code name data w
  · exact rparts_6 dup q retain will clean typ gw rad time timed tid mid code name data w
  · by_cases h : name = []
    · have e : partsM ⟨7, ⟨dup, q, retain, will, clean, typ⟩, gw, rad, time, timed, tid, mid, code, name, data⟩ = [] := by simp [partsM, layoutF, partOf, h]
      rw [e]; exact rparts_7_e dup q retain will clean typ gw rad time timed tid mid code name data h w
    · have e : partsM ⟨7, ⟨dup, q, retain, will, clean, typ⟩, gw, rad, time, timed, tid, mid, code, name, data⟩ = [1, 9] := by simp [partsM, layoutF, partOf, h]
      rw [e]; exact rparts_7_n dup q retain will clean typ gw rad time timed tid mid code name data (h) w
  · exact rparts_8 dup q retain will clean typ gw rad time timed tid mid code name data w
  · exact rparts_9 dup q retain will clean typ gw rad time timed tid mid code name data w
  · exact rparts_10 dup q retain will clean typ gw rad time timed tid mid code name data w
  · exact rparts_11 dup q retain will clean typ gw rad time timed tid mid code name data w
  · exact rparts_12 dup q retain will clean typ gw rad time timed tid mid code name data w
  · exact rparts_13 dup q retain will clean typ gw rad time timed tid mid code name data w
  · exact rparts_14 dup q retain will clean typ gw rad time timed tid mid code name data w
  · exact rparts_15 dup q retain will clean typ gw rad time timed tid mid code name data w
  · exact rparts_16 dup q retain will clean typ gw rad time timed tid mid code name data w
  · by_cases h : typ = 0
    · have e : partsM ⟨18, ⟨dup, q, retain, will, clean, typ⟩, gw, rad, time, timed, tid, mid, code, name, data⟩ = [1, 8, 9] := by simp [partsM, layoutF, partOf, h]
      rw [e]; exact rparts_18_e dup q retain will clean typ gw rad time timed tid mid code name data h w
    · have e : partsM ⟨18, ⟨dup, q, retain, will, clean, typ⟩, gw, rad, time, timed, tid, mid, code, name, data⟩ = [1, 8, 7] := by simp [partsM, layoutF, partOf, h]
      rw [e]; exact rparts_18_n dup q retain will clean typ gw rad time timed tid mid code name data (h) w
  · exact rparts_19 dup q retain will clean typ gw rad time timed tid mid code name data w
  · by_cases h : typ = 0
    · have e : partsM ⟨20, ⟨dup, q, retain, will, clean, typ⟩, gw, rad, time, timed, tid, mid, code, name, data⟩ = [1, 8, 9] := by simp [partsM, layoutF, partOf, h]
      rw [e]; exact rparts_20_e dup q retain will clean typ gw rad time timed tid mid code name data h w
    · have e : partsM ⟨20, ⟨dup, q, retain, will, clean, typ⟩, gw, rad, time, timed, tid, mid, code, name, data⟩ = [1, 8, 7] := by simp [partsM, layoutF, partOf, h]
      rw [e]; exact rparts_20_n dup q retain will clean typ gw rad time timed tid mid code name data (h) w
  · exact rparts_21 dup q retain will clean typ gw rad time timed tid mid code name data w
  · exact rparts_22 dup q retain will clean typ gw rad time timed tid mid code name data w
  · exact rparts_23 dup q retain will clean typ gw rad time timed tid mid code name data w
  · by_cases h : timed = false
    · have e : partsM ⟨24, ⟨dup, q, retain, will, clean, typ⟩, gw, rad, time, timed, tid, mid, code, name, data⟩ = [] := by simp [partsM, layoutF, partOf, h]
      rw [e]; exact rparts_24_e dup q retain will clean typ gw rad time timed tid mid code name data h w
    · have e : partsM ⟨24, ⟨dup, q, retain, will, clean, typ⟩, gw, rad, time, timed, tid, mid, code, name, data⟩ = [6] := by simp [partsM, layoutF, partOf, h]
      rw [e]; exact rparts_24_n dup q retain will clean typ gw rad time timed tid mid code name data (by simpa using h) w
  · by_cases h : name = []
    · have e : partsM ⟨26, ⟨dup, q, retain, will, clean, typ⟩, gw, rad, time, timed, tid, mid, code, name, data⟩ = [] := by simp [partsM, layoutF, partOf, h]
      rw [e]; exact rparts_26_e dup q retain will clean typ gw rad time timed tid mid code name data h w
    · have e : partsM ⟨26, ⟨dup, q, retain, will, clean, typ⟩, gw, rad, time, timed, tid, mid, code, name, data⟩ = [1, 9] := by simp [partsM, layoutF, partOf, h]
      rw [e]; exact rparts_26_n dup q retain will clean typ gw rad time timed tid mid code name data (h) w
  · exact rparts_27 dup q retain will clean typ gw rad time timed tid mid code name data w
  · exact rparts_28 dup q retain will clean typ gw rad time timed tid mid code name data w
  · exact rparts_29 dup q retain will clean typ gw rad time timed tid mid code name data w
end Go.Proofs.YtbacnaplpfmpnaaGreatDoor
