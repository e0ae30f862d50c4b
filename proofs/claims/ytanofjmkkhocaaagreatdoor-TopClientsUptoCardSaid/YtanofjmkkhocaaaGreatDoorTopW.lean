/- Topics, plain: a range over a text meets its '+' and '#' as code points. topic: the walks of text and wild. topic: the walks of strings.HasPrefix, strings.CutPrefix, Dollar. topic: the walk of strings.IndexRune at "+#", whatever the rune. topic: strings.IndexAny and ContainsAny at "+#", whatever the text. topic: the walks over levels: levels, Levels, Filter, Name, match, covers, Matches. topic: Levels, Filter, Name, match, covers, Matches. -/
import Derived.Test.YtanofjmkkhocaaaGreatDoorTopA
import Derived.Test.YtanofjmkkhocaaaGreatDoorUstA
import Derived.Test.YtanofjmkkhocaaaGreatDoorShelf
import Derived.Laws.Runes
import Derived.WalkMore
import Derived.Lib.OthersKept
import Derived.Shelf.Strings.Split
set_option linter.unusedVariables false
set_option linter.unusedSimpArgs false
set_option maxRecDepth 100000
set_option maxHeartbeats 1600000
namespace Go.Proofs.YtanofjmkkhocaaaGreatDoor
theorem wild_high (l : List UInt8) (y : Nat) (h : ∀ k, k < y → 128 ≤ g l k) : hasWild (l.take y) = false := by
 cases hw : hasWild (l.take y) with
 | false => rfl
 | true =>
  exfalso
  simp only [hasWild, List.any_eq_true] at hw
  obtain ⟨x, hx, he⟩ := hw
  obtain ⟨k, hk, e⟩ := List.getElem_of_mem hx
  rw [List.length_take] at hk
  have hk1 : k < y := by omega
  have hkl : k < l.length := by omega
  have hk2 := h k hk1
  have e2 : g l k = x.toNat := by
   rw [List.getElem_take] at e
   simp [g, List.getD, List.getElem?_eq_getElem hkl, e]
  simp only [Bool.or_eq_true, beq_iff_eq] at he
  rcases he with rfl | rfl
  ·rw [e2] at hk2; exact absurd hk2 (by decide)
  ·rw [e2] at hk2; exact absurd hk2 (by decide)
theorem cb_high {l : List UInt8} {k : Nat} (h : cb l k = true) : 128 ≤ g l k := by have := (cb_lt h).2; omega
theorem range_wild (l : List UInt8) (hl : 0 < l.length) (m y : Nat) (h : (if (pt l).2 = 0 then (65533, 1) else pt l) = (m, y)) :
  1 ≤ y ∧ y ≤ l.length ∧ hasWild (l.take y) = (m == 43 || m == 35) ∧ (m < 128 ∨ 128 ≤ m) ∧ m ≤ 1114111 ∧ (m < 55296 ∨ 57343 < m) := by
 have big : ∀ y, 1 ≤ y → y ≤ l.length → 128 ≤ m → m ≤ 1114111 → (m < 55296 ∨ 57343 < m) → (∀ k, k < y → 128 ≤ g l k) → 1 ≤ y ∧ y ≤ l.length ∧ hasWild (l.take y) = (m == 43 || m == 35) ∧ (m < 128 ∨ 128 ≤ m) ∧ m ≤ 1114111 ∧ (m < 55296 ∨ 57343 < m) := by
  intro y h1 h2 h3 h4 h5 h6
  refine ⟨h1, h2, ?_, .inr h3, h4, h5⟩
  rw [wild_high l y h6]
  have e1 : (m == 43) = false := by simp; omega
  have e2 : (m == 35) = false := by simp; omega
  rw [e1, e2]; rfl
 by_cases h0 : g l 0 < 128
 ·have e : pt l = (g l 0, 1) := by unfold pt; rw [if_neg (by omega), if_pos h0]
  rw [e] at h
  simp only [Nat.one_ne_zero, if_false, Prod.mk.injEq] at h
  obtain ⟨rfl, rfl⟩ := h
  refine ⟨Nat.le_refl _, hl, ?_, .inl h0, by omega, by omega⟩
  cases l with
  | nil => simp at hl
  | cons c r =>
   have hg : g (c :: r) 0 = c.toNat := rfl
   rw [hg]
   show hasWild [c] = _
   simp only [hasWild, List.any_cons, List.any_nil, Bool.or_false]
   congr 1
   ·rw [Bool.eq_iff_iff]; simp [← UInt8.toNat_inj]
   ·rw [Bool.eq_iff_iff]; simp [← UInt8.toNat_inj]
 ·have b0 := g_lt l 0
  have h1 : 128 ≤ g l 0 := by omega
  by_cases hz : (pt l).2 = 0
  ·rw [if_pos hz] at h
   simp only [Prod.mk.injEq] at h
   obtain ⟨rfl, rfl⟩ := h
   exact big 1 (Nat.le_refl _) hl (by decide) (by decide) (.inr (by decide)) (fun k hk => by obtain rfl : k = 0 := (by omega); exact h1)
  ·rw [if_neg hz] at h
   have hsz := (pt_size l).1
   unfold pt at h hz
   rw [if_neg (by omega), if_neg h0] at h hz
   split at h
   ·rename_i q
    rw [if_pos q] at hz
    split at h
    ·simp only [Prod.mk.injEq] at h
     obtain ⟨hm, rfl⟩ := h
     have := (cb_lt q.2).1
     refine big 2 (by omega) (by omega) (by omega) (by omega) (by omega) (fun k hk => ?_)
     rcases (by omega : k = 0 ∨ k = 1) with rfl | rfl
     ·exact h1
     ·exact cb_high q.2
    ·rename_i q2; rw [if_neg q2] at hz; simp at hz
   rename_i q0
   rw [if_neg q0] at hz
   split at h
   ·rename_i q
    rw [if_pos q] at hz
    split at h
    ·rename_i q3
     simp only [Prod.mk.injEq] at h
     obtain ⟨hm, rfl⟩ := h
     have := (cb_lt q.2.2).1
     refine big 3 (by omega) (by omega) (by omega) (by omega) (by omega) (fun k hk => ?_)
     rcases (by omega : k = 0 ∨ k = 1 ∨ k = 2) with rfl | rfl | rfl
     ·exact h1
     ·exact cb_high q.2.1
     ·exact cb_high q.2.2
    ·rename_i q2; rw [if_neg q2] at hz; simp at hz
   rename_i q1
   rw [if_neg q1] at hz
   split at h
   ·rename_i q
    rw [if_pos q] at hz
    split at h
    ·rename_i q3
     simp only [Prod.mk.injEq] at h
     obtain ⟨hm, rfl⟩ := h
     have := (cb_lt q.2.2.2).1
     refine big 4 (by omega) (by omega) (by omega) (by omega) (by omega) (fun k hk => ?_)
     rcases (by omega : k = 0 ∨ k = 1 ∨ k = 2 ∨ k = 3) with rfl | rfl | rfl | rfl
     ·exact h1
     ·exact cb_high q.2.1
     ·exact cb_high q.2.2.1
     ·exact cb_high q.2.2.2
    ·rename_i q2; rw [if_neg q2] at hz; simp at hz
   ·rename_i q2; rw [if_neg q2] at hz; simp at hz
theorem wild_take_step (t : List UInt8) (p y : Nat) : hasWild (t.take (p + y)) = (hasWild (t.take p) || hasWild ((t.drop p).take y)) := by
 rw [List.take_add]; simp [hasWild]
end Go.Proofs.YtanofjmkkhocaaaGreatDoor
namespace Go.Proofs.YtanofjmkkhocaaaGreatDoor
open Go.RowKit
theorem wild_any (t : List UInt8) (w : World) : Calls Tryz.prog 331 #[.string ⟨t.toArray⟩] w fun e w' => e = .returned (.bool (wildB t)) ∧ w = w' := by
 by_cases h1 : t = [43]
 ·subst h1
  go_enter Tryz.func331, Tryz.ntmps331
  go_wp2
  go_ret
  exact ⟨rfl, rfl⟩
 have h1' : (t == [43]) = false := by simpa using h1
 have HK := Lib.hid (show (t == [43] || t == [35]) = wildB t from rfl)
 go_enter Tryz.func331, Tryz.ntmps331
 go_wp2
 go_ret
 exact ⟨by rw [← HK.out, h1']; rfl, rfl⟩
theorem text_any (t : List UInt8) (ht : (t.length : Int) ≤ 9223372036854775807) (w : World) :
  Calls Tryz.prog 59 #[.string ⟨t.toArray⟩] w fun e w' => e = .returned (.bool (textB t)) ∧ Below w.heap.size w w' := by
 by_cases h1 : t = []
 ·subst h1
  go_enter Tryz.func59, Tryz.ntmps59
  go_wp2
  go_ret
  exact ⟨rfl, Below.refl _ _⟩
 have HK := Lib.hid (show textB t = vld t by
  unfold textB
  cases t with
  | nil => exact absurd rfl h1
  | cons a b => rfl)
 go_enter Tryz.func59, Tryz.ntmps59
 go_wp2_with fail
 refine (valid_any t ht _).mono ?_
 rintro e w1 ⟨rfl, hb⟩
 go_wp2
 go_ret
 exact ⟨rfl, hb⟩
end Go.Proofs.YtanofjmkkhocaaaGreatDoor
namespace Go.Proofs.YtanofjmkkhocaaaGreatDoor
open Go.RowKit
end Go.Proofs.YtanofjmkkhocaaaGreatDoor
namespace Go.Proofs.YtanofjmkkhocaaaGreatDoor
open Go.RowKit
def pmI (r : Int) : Int := if r = 43 then 0 else if r = 35 then 1 else -1
theorem pm_ascii (r : Int) (h0 : 0 ≤ r) (h1 : r < 128) : Lib.indexByte [43, 35] r.toNat.toUInt8 = pmI r := by
 obtain ⟨n, rfl⟩ := Int.eq_ofNat_of_zero_le h0
 have hn : n < 128 := by omega
 have H : ∀ k : Nat, k < 128 → Lib.indexByte [43, 35] (Nat.toUInt8 k) = pmI (Int.ofNat k) := by decide
 exact H n (by omega)
theorem indexRune_ascii (r : Int) (h0 : 0 ≤ r) (h1 : r < 128) (w : World) :
  Calls Tryz.prog 95 #[.string ⟨#[43, 35]⟩, .int .i32 r] w fun e w' => e = .returned (.int .i64 (pmI r)) ∧ Below w.heap.size w w' :=
 (Go.Proofs.Tryz.strings_IndexRune_ascii ⟨#[43, 35]⟩ r w h0 h1).mono fun e w' ⟨h, hw⟩ => ⟨h.trans (by rw [← pm_ascii r h0 h1]), hw ▸ Below.refl _ _⟩
theorem utf8_valid_of {r : Int} (h : Lib.validRune r = true) : Utf8.valid r = true := by
 rw [validRune_eq]; exact h
theorem pmI_else {r : Int} (h : 128 ≤ r) : pmI r = -1 := by unfold pmI; rw [if_neg (by omega), if_neg (by omega)]
theorem indexRune_high (r : Int) (h0 : 128 ≤ r) (h1 : r ≠ 65533) (hv : Lib.validRune r = true) (w : World) :
  Calls Tryz.prog 95 #[.string ⟨#[43, 35]⟩, .int .i32 r] w fun e w' => e = .returned (.int .i64 (-1)) ∧ Below w.heap.size w w' := by
 have q1 : decide (r < 128) = false := by simpa using h0
 have q2 : decide ((0 : Int) ≤ r) = true := by simp; omega
 have q3 : (r == 65533) = false := by simpa using h1
 have HV := Lib.hid hv
 clear hv
 go_enter Tryz.func95, Tryz.ntmps95
 go_wp2_with fail
 refine (Go.Proofs.Tryz.utf8_ValidRune r _).mono ?_
 rintro e w1 ⟨rfl, rfl⟩
 rw [HV.out]
 go_wp2
 obtain ⟨hs2, hs4, hlast⟩ := encode_facts r (utf8_valid_of HV.out) h0
 obtain ⟨b, hb⟩ : ∃ b, b = Utf8.encode r := ⟨_, rfl⟩
 rw [← hb] at hs2 hs4 hlast
 have hs2' : (2 : Int) ≤ (b.size : Int) := by omega
 have hs4' : (b.size : Int) ≤ 4 := by omega
 have HB := Lib.hid hlast
 clear hlast
 have hcv : (convert 21 9 (.int .i32 r)).run Tryz.prog w1 = .ok (.string b) w1 := by
  rw [hb]; exact run_convert_int_string w1 _ _ _ _ (by kernel_rfl) (by kernel_rfl)
 clear hb
 go_step3
 go_wp2
 go_loopw [9] (fun i wr => i = .int .i64 ((b.size : Int) - 1) ∧ wr = w1) (fun _ _ => 0)
 case atStart => exact ⟨rfl, rfl⟩
 case round =>
  obtain ⟨rfl, rfl⟩ := hrel
  by_cases h2 : b.size = 2
  ·obtain ⟨⟨l⟩⟩ := b
   match l, h2, HB, hcv with
   | [x0, x1], h2, HB, hcv =>
   have hx : 128 ≤ x1.toNat := HB.out (by show 1 < 2; decide)
   have hne : ((35 : Int) != (x1.toNat : Int)) = true := by simp; omega
   have hne' : ((35 : UInt8) == x1) = false := by
    apply beq_eq_false_iff_ne.2; intro h; rw [← h] at hx; exact absurd hx (by decide)
   have e0 : (35 == (x1.toNat : Int)) = false := by simp; omega
   go_wp2
   go_step3
   go_wp2
   have hsz : (ByteArray.mk ⟨[x0, x1]⟩).size = 2 := rfl
   have hix : (ByteArray.mk ⟨[x0, x1]⟩)[1]'(by show 1 < 2; decide) = x1 := rfl
   have h21 : ((2 : Nat) : Int) - 1 = 1 := rfl
   simp only [hsz, h21]
   have h35 : (((ByteArray.mk #[43, 35])[1]'(by decide)).toNat : Int) != (x1.toNat : Int) := by
    show ((35 : Int) != (x1.toNat : Int)) = true
    exact hne
   go_region
   go_wp2
   have hdr : (ByteArray.mk #[43, 35]).extract 2 2 = ByteArray.mk #[] := by rfl
   have h22 : ((2 : Nat) : Int) = 2 := rfl
   try simp only [h22]
   go_region_with ((go_at_call 103; ((with_reducible refine (Go.Proofs.Tryz.strings_IndexByte _ _ _).mono ?_); (rintro e w' ⟨rfl, rfl⟩))))
   all_goals try (rename_i hx2; exfalso; apply hx2; decide)
   all_goals
    have e1 : Lib.indexByte [] x1 = -1 := rfl
    rw [e1]
    go_wp2
    rw [Exit.noGoto_ret]
    simp (zetaDelta := true) only [Exit.inBlock, Exit.then]
    (try rw [Exit.noGoto_ret])
    go_ret
    exact ⟨rfl, (Below.refl _ _).drew.drew⟩
  ·have hlt : decide ((b.size : Int) - 1 < 2) = false := by simp; omega
   go_wp2
   rw [Exit.noGoto_ret]
   go_ret
   exact ⟨rfl, Below.refl _ _⟩
end Go.Proofs.YtanofjmkkhocaaaGreatDoor
namespace Go.Proofs.YtanofjmkkhocaaaGreatDoor
open Go.RowKit
theorem next_pt_at {P : Program} (w : World) (k : Nat) (t : List UInt8) (pos : Nat) (hk : w.heap[k]? = some (.stringIter ⟨t.toArray⟩ pos)) (hlt : pos < t.length) (m y : Nat) (hm : (if (pt (t.drop pos)).2 = 0 then (65533, 1) else pt (t.drop pos)) = (m, y)) (ty : TypeId) :
  (Instr.next (.pointer (some ⟨k, 0, none⟩)) true ty).run P w = .ok (.tuple #[.bool true, .int .i64 pos, .int .i32 (m : Int)]) (w.iterAt k ⟨t.toArray⟩ (pos + y)) := by
 have h := Lib.run_next_any_at (P := P) w k ⟨t.toArray⟩ pos ty hk hlt
 rw [decode_pt t pos hlt, hm] at h
 exact h
theorem indexRune_fffd (w : World) :
  Calls Tryz.prog 95 #[.string ⟨#[43, 35]⟩, .int .i32 65533] w fun e w' => e = .returned (.int .i64 (-1)) ∧ Below w.heap.size w w' := by
 have n0 := fun ty => run_next_ascii (P := Tryz.prog) w ⟨#[43, 35]⟩ 0 ty (by decide) (by decide)
 have n1 := fun ty => run_next_ascii (P := Tryz.prog) w ⟨#[43, 35]⟩ 1 ty (by decide) (by decide)
 have n2 := fun ty => run_next_end (P := Tryz.prog) w ⟨#[43, 35]⟩ 2 ty (by decide)
 have hB : ∀ p, Below w.heap.size w (w.iter ⟨#[43, 35]⟩ p) := fun p => iter_below _ _ _
 go_enter Tryz.func95, Tryz.ntmps95
 go_wp2
 go_loopw [] (fun wr => ∃ pos, pos ≤ 2 ∧ wr = w.iter ⟨#[43, 35]⟩ pos) (fun wr => 2 - wr.iterPos w.heap.size)
 case atStart => exact ⟨0, by omega, rfl⟩
 case round =>
  obtain ⟨pos, hp, rfl⟩ := hrel
  rcases (by omega : pos = 0 ∨ pos = 1 ∨ pos = 2) with rfl | rfl | rfl
  ·go_wp2
   go_roundw
   case rel => exact ⟨1, by omega, rfl⟩
   case measure => simp
  ·go_wp2
   go_roundw
   case rel => exact ⟨2, by omega, rfl⟩
   case measure => simp
  ·go_wp2
   go_ret
   exact ⟨rfl, hB _⟩
theorem anyRune (m : Nat) (h : m ≤ 1114111) (h2 : m < 55296 ∨ 57343 < m) (w : World) :
  Calls Tryz.prog 95 #[.string ⟨#[43, 35]⟩, .int .i32 (m : Int)] w fun e w' => e = .returned (.int .i64 (pmI m)) ∧ Below w.heap.size w w' := by
 by_cases h1 : m < 128
 ·exact indexRune_ascii m (by omega) (by omega) w
 ·have e : pmI m = -1 := pmI_else (by omega)
  rw [e]
  by_cases h3 : m = 65533
  ·subst h3
   exact indexRune_fffd w
  ·exact indexRune_high m (by omega) (by omega) (by unfold Lib.validRune; simp; omega) w
def AnyAt (t : List UInt8) (w : World) (e : Ending) (w' : World) : Prop := ∃ r : Int, e = .returned (.int .i64 r) ∧ decide (0 ≤ r) = hasWild t ∧ Below w.heap.size w w'
theorem wild_mono {t : List UInt8} {n : Nat} (h : hasWild (t.take n) = true) : hasWild t = true := by
 unfold hasWild at h ⊢
 rw [List.any_eq_true] at h ⊢
 obtain ⟨x, hx, hp⟩ := h
 exact ⟨x, List.mem_of_mem_take hx, hp⟩
theorem pmI_ge (m : Nat) (h : (m == 43 || m == 35) = true) : 0 ≤ pmI m := by
 unfold pmI
 simp at h
 rcases h with rfl | rfl <;> simp
theorem pmI_lt (m : Nat) (h : (m == 43 || m == 35) = false) : pmI m < 0 := by
 unfold pmI
 simp at h
 rw [if_neg (by omega), if_neg (by omega)]; decide
theorem indexAny_short (t : List UInt8) (h8 : t.length ≤ 8) (w : World) :
  Calls Tryz.prog 85 #[.string ⟨t.toArray⟩, .string ⟨#[43, 35]⟩] w (AnyAt t w) := by
 have h8z : decide ((8 : Int) < (t.length : Int)) = false := decide_eq_false (by omega)
 go_enter Tryz.func85, Tryz.ntmps85
 go_wp2_with fail
 refine (Go.Proofs.Tryz.strings_shouldUseASCIISet _ _).mono ?_
 rintro e w' ⟨rfl, hw⟩
 replace hw := hw.symm
 subst hw
 rw [h8z]
 go_wp2
 go_loopw [] (fun wr => ∃ pos, pos ≤ t.length ∧ wr.heap[w.heap.size]? = some (.stringIter ⟨t.toArray⟩ pos) ∧ Below w.heap.size w wr ∧ hasWild (t.take pos) = false) (fun wr => t.length - wr.iterPos w.heap.size)
 case atStart => exact ⟨0, Nat.zero_le _, by simp [World.iter_heap], iter_below _ _ _, rfl⟩
 case round =>
  obtain ⟨pos, hp, hk, hB, hno⟩ := hrel
  have HK := Lib.hid hk
  have HN := Lib.hid hno
  have hit : wr.iterPos w.heap.size = pos := by simp [World.iterPos, hk]
  have HI := Lib.hid hit
  clear hno hit
  by_cases hlt : pos < t.length
  ·obtain ⟨m, y, hmy⟩ : ∃ m y, (if (pt (t.drop pos)).2 = 0 then (65533, 1) else pt (t.drop pos)) = (m, y) := ⟨_, _, rfl⟩
   have R := range_wild (t.drop pos) (by simp; omega) m y hmy
   have hnx := next_pt_at (P := Tryz.prog) wr w.heap.size t pos hk hlt m y hmy
   have HM := Lib.hid hmy
   obtain ⟨r1, r2, r3, r4, r5, r6⟩ := R
   have hle : pos + y ≤ t.length := by simp at r2; omega
   have hstep := wild_take_step t pos y
   rw [HN.out, Bool.false_or, r3] at hstep
   have HS := Lib.hid hstep
   clear hmy r3 r4 hstep hk
   have hk2 : (wr.iterAt w.heap.size ⟨t.toArray⟩ (pos + y)).heap[w.heap.size]? = some (.stringIter ⟨t.toArray⟩ (pos + y)) := Lib.iterAt_heap _ _ _ _ _ HK.out
   have hB2 := Lib.below_iterAt hB (Nat.le_refl _) ⟨t.toArray⟩ (pos + y)
   have hsz : w.heap.size < (wr.iterAt w.heap.size ⟨t.toArray⟩ (pos + y)).heap.size := (Array.getElem?_eq_some_iff.1 hk2).1
   obtain ⟨w2, hw2⟩ : ∃ w2, w2 = wr.iterAt w.heap.size ⟨t.toArray⟩ (pos + y) := ⟨_, rfl⟩
   rw [← hw2] at hnx hk2 hB2 hsz
   have HK2 := Lib.hid hk2
   clear hw2 hk2
   cases hc : (m == 43 || m == 35) with
   | true =>
    have hx := pmI_ge m hc
    have HC := Lib.hid hc
    clear hc
    obtain ⟨x, hxe⟩ : ∃ x, x = pmI (m : Int) := ⟨_, rfl⟩
    rw [← hxe] at hx
    have HX := Lib.hid hxe
    clear hxe
    go_wp2_with fail
    refine (anyRune m r5 r6 _).mono ?_
    rintro e w3 ⟨rfl, hb⟩
    rw [← HX.out]
    go_wp2
    go_ret
    exact ⟨(pos : Int), rfl, by rw [wild_mono (HS.out.trans HC.out)]; simp, hB2.trans (hb.mono hB2.size)⟩
   | false =>
    have hx := pmI_lt m hc
    have HC := Lib.hid hc
    clear hc
    obtain ⟨x, hxe⟩ : ∃ x, x = pmI (m : Int) := ⟨_, rfl⟩
    rw [← hxe] at hx
    have HX := Lib.hid hxe
    clear hxe
    go_wp2_with fail
    refine (anyRune m r5 r6 _).mono ?_
    rintro e w3 ⟨rfl, hb⟩
    rw [← HX.out]
    have hk3 : w3.heap[w.heap.size]? = some (.stringIter ⟨t.toArray⟩ (pos + y)) := by rw [hb.block _ hsz]; exact HK2.out
    have HK3 := Lib.hid hk3
    clear hk3 hnx
    go_wp2
    go_roundw
    case rel => exact ⟨pos + y, hle, HK3.out, hB2.trans (hb.mono hB2.size), HS.out.trans HC.out⟩
    case measure =>
     have e1 : w3.iterPos w.heap.size = pos + y := by simp [World.iterPos, HK3.out]
     have e2 := HI.out
     rw [e1, e2]; omega
  ·have hnx := fun ty => Lib.run_next_end_at (P := Tryz.prog) wr w.heap.size ⟨t.toArray⟩ pos ty hk (show ¬ pos < (ByteArray.mk t.toArray).size from hlt)
   have hw : hasWild t = false := by have := HN.out; rwa [List.take_of_length_le (by omega)] at this
   have HW := Lib.hid hw
   clear hk hw
   go_wp2
   go_ret
   exact ⟨-1, rfl, by rw [HW.out]; rfl, hB⟩
theorem containsAny_any (t : List UInt8) (ht : t.length < 4294967281) (w : World) :
  Calls Tryz.prog 60 #[.string ⟨t.toArray⟩, .string ⟨#[43, 35]⟩] w fun e w' => e = .returned (.bool (hasWild t)) ∧ Below w.heap.size w w' := by
 have key : Calls Tryz.prog 85 #[.string ⟨t.toArray⟩, .string ⟨#[43, 35]⟩] w (AnyAt t w) := by
  by_cases h8 : t.length ≤ 8
  ·exact indexAny_short t h8 w
  ·have hac : ∀ (j : Nat) (b : UInt8), ([43, 35] : List UInt8)[j]? = some b → b.toNat < 128 := fun j b h => by
    match j, h with
    | 0, h => cases h; decide
    | 1, h => cases h; decide
    | j + 2, h => cases h
   have hz := zero_of_info (P := Tryz.prog) (t := 200) (show (Tryz.prog.info? 200).map (fun i => (i.zero, i.size)) = some (some (.agg (Array.replicate 256 (.bool false))), 256) by kernel_rfl)
   refine (Go.Proofs.Tryz.strings_IndexAny_long hz.1 ⟨t.toArray⟩ ⟨#[43, 35]⟩ w (by decide) (by show 8 < t.length; omega) ht (by decide) hac).mono ?_
   rintro e w' ⟨rfl, rfl⟩
   exact ⟨_, rfl, anyL_eq t, ((Below.refl _ _).alloc (Nat.le_refl _) _).alloc (by simp) _⟩
 go_enter Tryz.func60, Tryz.ntmps60
 go_wp2_with fail
 refine key.mono ?_
 rintro e w' ⟨r, rfl, hr, hb⟩
 have HR := Lib.hid hr
 clear hr
 go_wp2
 go_ret
 exact ⟨by rw [← HR.out]; rfl, hb⟩
end Go.Proofs.YtanofjmkkhocaaaGreatDoor
namespace Go.Proofs.YtanofjmkkhocaaaGreatDoor
open Go.RowKit
def Row (w : World) (b o : Nat) (l : List (List UInt8)) : Prop := b < w.heap.size ∧ ∀ (j : Nat) (s : List UInt8), l[j]? = some s → w.cell? ⟨b, o + j, none⟩ = some (.string ⟨s.toArray⟩)
theorem Row.head {w : World} {b o : Nat} {s : List UInt8} {l : List (List UInt8)} (h : Row w b o (s :: l)) : w.cell? ⟨b, o, none⟩ = some (.string ⟨s.toArray⟩) := h.2 0 s rfl
theorem Row.below {B : Nat} {w w' : World} {b o : Nat} {l : List (List UInt8)} (h : Row w b o l) (hb : Below B w w') (hlt : b < B) : Row w' b o l :=
 ⟨Nat.lt_of_lt_of_le h.1 hb.size, fun j s hj => (hb.cell (p := ⟨b, o + j, none⟩) hlt).trans (h.2 j s hj)⟩
theorem Row.tail {w : World} {b o : Nat} {s : List UInt8} {l : List (List UInt8)} (h : Row w b o (s :: l)) : Row w b (o + 1) l :=
 ⟨h.1, fun j x hj => by have := h.2 (j + 1) x (by simpa using hj); rwa [Nat.add_assoc, Nat.add_comm 1 j]⟩
theorem Row.drewN {w : World} {b o : Nat} {l : List (List UInt8)} (h : Row w b o l) (n : Nat) : Row (w.drewN n) b o l := h
def cellsS (l : List (List UInt8)) : Array Value := (l.map fun s => Value.string ⟨s.toArray⟩).toArray
theorem Row.of_obj {w : World} {b : Nat} {l : List (List UInt8)} {t : TypeId} (h : Obj? w b (cellsS l) t) : Row w b 0 l :=
 ⟨h.lt, fun j s hj => by rw [Nat.zero_add]; exact h.cell j _ (by simp [cellsS, hj])⟩
theorem levelsB_cons (s : List UInt8) (r : List (List UInt8)) : levelsB (s :: r) = (!(s == [35] && !r.isEmpty) && !(!wildB s && hasWild s) && levelsB r) := rfl
theorem levelsfn_any (b o c : Nat) (l : List (List UInt8)) (hl : l.length ≤ 4294967281) (hs : ∀ s ∈ l, s.length < 4294967281) (w : World) (hr : Row w b o l) :
  Calls Tryz.prog 314 #[.slice (some ⟨b, o, none⟩) l.length c] w fun e w' => e = .returned (.bool (levelsB l)) ∧ Below w.heap.size w w' := by
 obtain ⟨N, hN⟩ : ∃ N, N = l.length := ⟨_, rfl⟩
 rw [← hN] at hl ⊢
 have HN := Lib.hid hN
 have HR := Lib.hid hr
 have hblt := hr.1
 clear hN hr
 go_enter Tryz.func314, Tryz.ntmps314
 go_wp2
 go_loopw [8] (fun i wr => ∃ k, k ≤ N ∧ i = .int .i64 k ∧ Below w.heap.size w wr ∧ levelsB l = levelsB (l.drop k)) (fun i _ => N - (intOf i).toNat)
 case atStart => exact ⟨0, Nat.zero_le _, rfl, Below.refl _ _, rfl⟩
 case round =>
  obtain ⟨k, hk, rfl, hB, hlv⟩ := hrel
  by_cases hlt : k < N
  ·have hkl : k < l.length := by have := HN.out; omega
   obtain ⟨s, hse⟩ : ∃ s, l[k]? = some s := ⟨_, List.getElem?_eq_getElem hkl⟩
   have hsl := hs s (List.mem_of_getElem? hse)
   have hdrop : l.drop k = s :: l.drop (k + 1) := by
    rw [List.drop_eq_getElem_cons hkl]
    rw [List.getElem?_eq_getElem hkl] at hse
    rw [Option.some.inj hse]
   rw [hdrop, levelsB_cons] at hlv
   have hemp : (l.drop (k + 1)).isEmpty = decide (k + 1 = N) := by
    rw [Bool.eq_iff_iff]; simp; have := HN.out; omega
   rw [hemp] at hlv
   have hc : wr.cell? ⟨b, o + k, none⟩ = some (.string ⟨s.toArray⟩) := (hB.cell (p := ⟨b, o + k, none⟩) hblt).trans (HR.out.2 k s hse)
   have HL := Lib.hid hlv
   clear hlv hse hdrop hemp
   by_cases h35 : s = [35]
   ·subst h35
    by_cases hlast : k + 1 = N
    ·have hd : ((k : Int) + 1 == (N : Int)) = true := by simp; omega
     have HT := Lib.hid (show levelsB l = levelsB (l.drop (k + 1)) by have := HL.out; rw [this]; simp [hlast, wildB])
     clear hlast
     go_wp2_with fail
     refine (wild_any [35] _).mono ?_
     rintro e w' ⟨rfl, rfl⟩
     rw [show wildB [35] = true from rfl]
     go_wp2
     go_roundw
     case rel => exact ⟨k + 1, by omega, by go_num, hB, HT.out⟩
     case measure => simp [intOf]; omega
    ·have hd : ((k : Int) + 1 == (N : Int)) = false := by simp; omega
     have HT := Lib.hid (show levelsB l = false by have := HL.out; rw [this]; simp [hlast])
     clear hlast
     go_wp2
     go_ret
     exact ⟨by rw [HT.out]; rfl, hB⟩
   ·have h35' : (s == [35]) = false := by simpa using h35
    cases hwd : wildB s with
    | true =>
     have HT := Lib.hid (show levelsB l = levelsB (l.drop (k + 1)) by have := HL.out; rw [this]; simp [h35', hwd])
     have HW := Lib.hid hwd
     clear hwd h35
     go_wp2_with fail
     refine (wild_any s _).mono ?_
     rintro e w' ⟨rfl, rfl⟩
     rw [HW.out]
     go_wp2
     go_roundw
     case rel => exact ⟨k + 1, by omega, by go_num, hB, HT.out⟩
     case measure => simp [intOf]; omega
    | false =>
     cases hhw : hasWild s with
     | true =>
      have HT := Lib.hid (show levelsB l = false by have := HL.out; rw [this]; simp [hwd, hhw])
      have HW := Lib.hid (And.intro hwd hhw)
      clear hwd h35 hhw
      go_wp2_with fail
      refine (wild_any s _).mono ?_
      rintro e w' ⟨rfl, rfl⟩
      rw [HW.out.1]
      go_wp2_with fail
      refine (containsAny_any s hsl _).mono ?_
      rintro e w2 ⟨rfl, hb⟩
      rw [HW.out.2]
      go_wp2
      go_ret
      exact ⟨by rw [HT.out]; rfl, hB.trans (hb.mono hB.size)⟩
     | false =>
      have HT := Lib.hid (show levelsB l = levelsB (l.drop (k + 1)) by have := HL.out; rw [this]; simp [h35', hwd, hhw])
      have HW := Lib.hid (And.intro hwd hhw)
      clear hwd h35 hhw
      go_wp2_with fail
      refine (wild_any s _).mono ?_
      rintro e w' ⟨rfl, rfl⟩
      rw [HW.out.1]
      go_wp2_with fail
      refine (containsAny_any s hsl _).mono ?_
      rintro e w2 ⟨rfl, hb⟩
      rw [HW.out.2]
      clear hc
      go_wp2
      go_roundw
      case rel => exact ⟨k + 1, by omega, by go_num, hB.trans (hb.mono hB.size), HT.out⟩
      case measure => simp [intOf]; omega
  ·have HT := Lib.hid (show levelsB l = true by rw [hlv, List.drop_of_length_le (by have := HN.out; omega)]; rfl)
   clear hlv
   go_wp2
   go_ret
   exact ⟨by rw [HT.out]; rfl, hB⟩
end Go.Proofs.YtanofjmkkhocaaaGreatDoor
namespace Go.Proofs.YtanofjmkkhocaaaGreatDoor
open Go.RowKit
def Mx (w : World) : Prop := 0 < w.heap.size ∧ ∃ m, w.cell? ⟨0, 0, none⟩ = some (.int .i64 m)
theorem Mx.below {w w' : World} {B : Nat} (h : Mx w) (hb : Below B w w') (hB : 0 < B) : Mx w' :=
 ⟨Nat.lt_of_lt_of_le h.1 hb.size, by obtain ⟨m, hm⟩ := h.2; exact ⟨m, (hb.cell (p := ⟨0, 0, none⟩) hB).trans hm⟩⟩
theorem Mx.next {w w' : World} (h : Mx w) (hb : Below w.heap.size w w') : Mx w' := h.below hb h.1
theorem splitB_cells (s : List UInt8) : (Lib.splitB ⟨#[47]⟩ 0 (Lib.countB ⟨s.toArray⟩ ⟨#[47]⟩) ⟨s.toArray⟩).map Value.string = (splitS s).map fun l => Value.string ⟨l.toArray⟩ := by
 have h := Lib.splitB_data ⟨#[47]⟩ 0 (Lib.countB ⟨s.toArray⟩ ⟨#[47]⟩) ⟨s.toArray⟩
 have e : Lib.splitK [47] 0 (Lib.countB ⟨s.toArray⟩ ⟨#[47]⟩) s = splitS s := split_slash s
 have h2 : (Lib.splitB ⟨#[47]⟩ 0 (Lib.countB ⟨s.toArray⟩ ⟨#[47]⟩) ⟨s.toArray⟩).map (·.data.toList) = splitS s := h.trans e
 rw [← h2, List.map_map]
 apply List.map_congr_left
 intro x _
 simp
theorem countB_levels (s : List UInt8) : Lib.countB ⟨s.toArray⟩ ⟨#[47]⟩ + 1 = (splitS s).length := count_slash s
theorem levels_any (s : List UInt8) (hs : s.length < 4294967281) (w : World) (hm : Mx w) :
  Calls Tryz.prog 315 #[.string ⟨s.toArray⟩] w fun e w' => e = .returned (.slice (some ⟨w.heap.size, 0, none⟩) (splitS s).length (splitS s).length) ∧ w' = w.alloc (.cells (cellsS (splitS s)) 9 (0, 0)) := by
 obtain ⟨m, hm⟩ := hm.2
 have c := Go.Proofs.Tryz.strings_Split ⟨s.toArray⟩ ⟨#[47]⟩ m w hs hm (by decide)
 rw [splitB_cells, countB_levels] at c
 clear hm
 go_enter Tryz.func315, Tryz.ntmps315
 go_wp2_with fail
 refine c.mono ?_
 rintro e w1 ⟨rfl, rfl⟩
 go_wp2
 go_ret
 exact ⟨rfl, rfl⟩
theorem len_split_le (s : List UInt8) : (splitS s).length ≤ s.length + 1 := by
 rw [length_split]; have := List.length_filter_le (· == 47) s; omega
theorem mem_split_le {s l : List UInt8} (h : l ∈ splitS s) : l.length ≤ s.length := by
 have hj := join_split s
 have : ∀ (ls : List (List UInt8)), l ∈ ls → l.length ≤ (joinS ls).length := by
  intro ls
  induction ls with
  | nil => intro h; cases h
  | cons a r ih =>
   intro h
   cases r with
   | nil =>
    rcases List.mem_cons.1 h with rfl | h
    ·exact Nat.le_refl _
    ·cases h
   | cons b r =>
    have e : joinS (a :: b :: r) = a ++ 47 :: joinS (b :: r) := rfl
    rw [e, List.length_append, List.length_cons]
    rcases List.mem_cons.1 h with rfl | h
    ·omega
    ·have := ih h; omega
 have := this _ h
 rwa [hj] at this
theorem filter_any (s : List UInt8) (hs : s.length < 4294967281) (w : World) (hm : Mx w) :
  Calls Tryz.prog 280 #[.string ⟨s.toArray⟩] w fun e w' => e = .returned (.bool (filterB s)) ∧ Below w.heap.size w w' := by
 have hlen : (splitS s).length ≤ 4294967281 := by have := len_split_le s; omega
 cases ht : textB s with
 | false =>
  have HF := Lib.hid (And.intro ht (show filterB s = false by unfold filterB; rw [ht]; rfl))
  rw [HF.out.2]
  clear ht
  go_enter Tryz.func280, Tryz.ntmps280
  go_wp2_with fail
  refine (text_any s (by omega) _).mono ?_
  rintro e w1 ⟨rfl, hb⟩
  rw [HF.out.1]
  go_wp2
  go_ret
  exact ⟨rfl, hb⟩
 | true =>
  have HF := Lib.hid (And.intro ht (show filterB s = levelsB (splitS s) by unfold filterB; rw [ht]; rfl))
  rw [HF.out.2]
  clear ht
  go_enter Tryz.func280, Tryz.ntmps280
  go_wp2_with fail
  refine (text_any s (by omega) _).mono ?_
  rintro e w1 ⟨rfl, hb⟩
  rw [HF.out.1]
  go_wp2_with fail
  refine (levels_any s hs _ (hm.next hb)).mono ?_
  rintro e w2 ⟨rfl, rfl⟩
  have O := Obj?.new w1 (cellsS (splitS s)) 9
  have hb2 := hb.alloc hb.size (.cells (cellsS (splitS s)) 9 (0, 0))
  have HR := Lib.hid (Row.of_obj O)
  clear O
  go_wp2_with fail
  refine (levelsfn_any _ _ _ _ hlen (fun x hx => by have := mem_split_le hx; omega) _ HR.out).mono ?_
  rintro e w3 ⟨rfl, hb3⟩
  go_wp2
  go_ret
  exact ⟨rfl, hb2.trans (hb3.mono hb2.size)⟩
theorem name_any (s : List UInt8) (hs : s.length < 4294967281) (w : World) :
  Calls Tryz.prog 37 #[.string ⟨s.toArray⟩] w fun e w' => e = .returned (.bool (nameB s)) ∧ Below w.heap.size w w' := by
 cases ht : textB s with
 | false =>
  have HF := Lib.hid (And.intro ht (show nameB s = false by unfold nameB; rw [ht]; rfl))
  rw [HF.out.2]
  clear ht
  go_enter Tryz.func37, Tryz.ntmps37
  go_wp2_with fail
  refine (text_any s (by omega) _).mono ?_
  rintro e w1 ⟨rfl, hb⟩
  rw [HF.out.1]
  go_wp2
  go_ret
  exact ⟨rfl, hb⟩
 | true =>
  have HF := Lib.hid (And.intro ht (show nameB s = !hasWild s by unfold nameB; rw [ht]; rfl))
  rw [HF.out.2]
  clear ht
  go_enter Tryz.func37, Tryz.ntmps37
  go_wp2_with fail
  refine (text_any s (by omega) _).mono ?_
  rintro e w1 ⟨rfl, hb⟩
  rw [HF.out.1]
  go_wp2_with fail
  refine (containsAny_any s hs _).mono ?_
  rintro e w2 ⟨rfl, hb2⟩
  go_wp2
  go_ret
  exact ⟨rfl, hb.trans (hb2.mono hb.size)⟩
def SRow (w : World) (a : Option Addr) (l : List (List UInt8)) : Prop := l = [] ∨ ∃ b o, a = some ⟨b, o, none⟩ ∧ Row w b o l
theorem SRow.drewN {w : World} {a : Option Addr} {l : List (List UInt8)} (h : SRow w a l) (n : Nat) : SRow (w.drewN n) a l := h
end Go.Proofs.YtanofjmkkhocaaaGreatDoor
