/- Code points in bytes: plain Lean. What is valid, code points: plain Lean. ustring: the walks of whole, Bad, Valid, Count. -/
import Derived.Test.YtanofjmkkhocaaaGreatDoorBase
import Derived.Laws.RangeAny
import Derived.Test.YtanofjmkkhocaaaGreatDoorChecked
set_option maxRecDepth 100000
set_option maxHeartbeats 800000
namespace Go.Proofs.YtanofjmkkhocaaaGreatDoor
open Go.RowKit
def g (l : List UInt8) (k : Nat) : Nat := (l.getD k 0).toNat
def cb (l : List UInt8) (k : Nat) : Bool := decide (k < l.length) && (g l k / 64 == 2)
def pt (l : List UInt8) : Nat × Nat :=
 if l.length = 0 then (0, 0)
 else if g l 0 < 128 then (g l 0, 1)
 else if g l 0 / 32 = 6 ∧ cb l 1 = true then (if 128 ≤ g l 0 % 32 * 64 + g l 1 % 64 then (g l 0 % 32 * 64 + g l 1 % 64, 2) else (0, 0))
 else if g l 0 / 16 = 14 ∧ cb l 1 = true ∧ cb l 2 = true then
  (if 2048 ≤ g l 0 % 16 * 4096 + g l 1 % 64 * 64 + g l 2 % 64 ∧ ¬ (55296 ≤ g l 0 % 16 * 4096 + g l 1 % 64 * 64 + g l 2 % 64 ∧ g l 0 % 16 * 4096 + g l 1 % 64 * 64 + g l 2 % 64 ≤ 57343) then (g l 0 % 16 * 4096 + g l 1 % 64 * 64 + g l 2 % 64, 3) else (0, 0))
 else if g l 0 / 8 = 30 ∧ cb l 1 = true ∧ cb l 2 = true ∧ cb l 3 = true then
  (if 65536 ≤ g l 0 % 8 * 262144 + g l 1 % 64 * 4096 + g l 2 % 64 * 64 + g l 3 % 64 ∧ g l 0 % 8 * 262144 + g l 1 % 64 * 4096 + g l 2 % 64 * 64 + g l 3 % 64 ≤ 1114111 then (g l 0 % 8 * 262144 + g l 1 % 64 * 4096 + g l 2 % 64 * 64 + g l 3 % 64, 4) else (0, 0))
 else (0, 0)
theorem g_lt (l : List UInt8) (k : Nat) : g l k < 256 := (l.getD k 0).toNat_lt
theorem g_get (t : List UInt8) (pos k : Nat) : ((ByteArray.mk t.toArray).get! (pos + k)).toNat = g (t.drop pos) k := by
 have e : (ByteArray.mk t.toArray).get! (pos + k) = t.getD (pos + k) 0 := by
  show t.toArray[pos + k]! = _
  simp [List.getD, getElem!_def]
  cases t[pos + k]? <;> rfl
 rw [e]; simp [g, List.getD]
theorem decode_pt (t : List UInt8) (pos : Nat) (h : pos < t.length) :
  Utf8.decode ⟨t.toArray⟩ pos = if (pt (t.drop pos)).2 = 0 then (65533, 1) else pt (t.drop pos) := by
 have hc : ∀ k, (decide (pos + k < (ByteArray.mk t.toArray).size) && (g (t.drop pos) k / 64 == 2)) = cb (t.drop pos) k := by
  intro k
  unfold cb
  congr 1
  have : (ByteArray.mk t.toArray).size = t.length := rfl
  rw [this]
  simp only [List.length_drop, decide_eq_decide]; omega
 unfold Utf8.decode
 simp only [g_get]
 simp only [hc]
 have hl : ¬ (t.drop pos).length = 0 := by simp; omega
 unfold pt
 rw [if_neg hl]
 clear hc hl h
 generalize t.drop pos = l
 have b0 := g_lt l 0
 have b1 := g_lt l 1
 have b2 := g_lt l 2
 have b3 := g_lt l 3
 simp only [Utf8.runeError, Utf8.valid, ge_iff_le, beq_iff_eq, Bool.and_eq_true, Bool.or_eq_true, decide_eq_true_eq]
 generalize g l 0 = x0 at *
 generalize g l 1 = x1 at *
 generalize g l 2 = x2 at *
 generalize g l 3 = x3 at *
 by_cases h1 : x0 < 128
 ·simp [h1]
 simp only [h1, if_false]
 by_cases h2 : x0 / 32 = 6 ∧ cb l 1 = true
 ·simp only [h2, and_self, if_true]
  split <;> simp
 simp only [h2, if_false]
 by_cases h3 : x0 / 16 = 14 ∧ cb l 1 = true ∧ cb l 2 = true
 ·obtain ⟨p1, p2, p3⟩ := h3
  simp only [p1, p2, p3, and_self, if_true]
  generalize hn : x0 % 16 * 4096 + x1 % 64 * 64 + x2 % 64 = n
  by_cases q : 2048 ≤ n ∧ ¬ (55296 ≤ n ∧ n ≤ 57343)
  ·rw [if_pos q, if_pos ⟨q.1, by omega⟩]; simp
  ·rw [if_neg q, if_neg (by omega)]; simp
 rw [if_neg h3, if_neg (by rintro ⟨⟨p1, p2⟩, p3⟩; exact h3 ⟨p1, p2, p3⟩)]
 by_cases h4 : x0 / 8 = 30 ∧ cb l 1 = true ∧ cb l 2 = true ∧ cb l 3 = true
 ·obtain ⟨p1, p2, p3, p4⟩ := h4
  simp only [p1, p2, p3, p4, and_self, if_true]
  generalize hn : x0 % 8 * 262144 + x1 % 64 * 4096 + x2 % 64 * 64 + x3 % 64 = n
  by_cases q : 65536 ≤ n ∧ n ≤ 1114111
  ·rw [if_pos q, if_pos ⟨q.1, by omega⟩]; simp
  ·rw [if_neg q, if_neg (by omega)]; simp
 rw [if_neg h4, if_neg (by rintro ⟨⟨⟨p1, p2⟩, p3⟩, p4⟩; exact h4 ⟨p1, p2, p3, p4⟩)]
 simp
theorem cb_lt {l : List UInt8} {k : Nat} (h : cb l k = true) : k < l.length ∧ g l k / 64 = 2 := by
 unfold cb at h; simpa using h
theorem pt_size (l : List UInt8) : (pt l).2 ≤ l.length ∧ (pt l).2 ≤ 4 := by
 unfold pt
 split
 ·simp
 split
 ·simp; omega
 split
 ·rename_i h; have := (cb_lt h.2).1; split <;> simp; omega
 split
 ·rename_i h; have := (cb_lt h.2.2).1; split <;> simp; omega
 split
 ·rename_i h; have := (cb_lt h.2.2.2).1; split <;> simp; omega
 ·simp
theorem pt_max (l : List UInt8) : (pt l).1 ≤ 1114111 := by
 have b0 := g_lt l 0
 unfold pt
 split
 ·simp
 split
 ·simp; omega
 split
 ·split <;> simp; omega
 split
 ·split <;> simp; omega
 split
 ·split
  ·rename_i h; exact h.2
  ·simp
 ·simp
theorem pt_front (l r : List UInt8) (h0 : (pt l).2 ≠ 0) (hr : r.take (pt l).2 = l.take (pt l).2) : pt r = pt l := by
 have hsz := (pt_size l).1
 have hlen : (pt l).2 ≤ r.length := by
  have := congrArg List.length hr
  simp at this; omega
 have hg : ∀ k, k < (pt l).2 → g r k = g l k := by
  intro k hk
  have e1 : (r.take (pt l).2)[k]? = (l.take (pt l).2)[k]? := by rw [hr]
  rw [List.getElem?_take_of_lt hk, List.getElem?_take_of_lt hk] at e1
  simp [g, List.getD, e1]
 have hcb : ∀ k, k < (pt l).2 → cb r k = cb l k := by
  intro k hk
  unfold cb
  rw [hg k hk]
  congr 1
  simp only [decide_eq_decide]; omega
 have hl0 : ¬ l.length = 0 := by omega
 have hr0 : ¬ r.length = 0 := by omega
 have e0 := hg 0 (by omega)
 have key : ∀ n, pt l = n → n.2 ≠ 0 → pt r = n := by
  intro n hn hn0
  have hn' := hn
  unfold pt at hn
  rw [if_neg hl0] at hn
  unfold pt
  rw [if_neg hr0, e0]
  by_cases h1 : g l 0 < 128
  ·rw [if_pos h1] at hn ⊢; exact hn
  rw [if_neg h1] at hn ⊢
  by_cases h2 : g l 0 / 32 = 6 ∧ cb l 1 = true
  ·rw [if_pos h2] at hn
   split at hn
   ·have hs : (pt l).2 = 2 := by rw [hn', ← hn]
    rw [hcb 1 (by omega), if_pos h2, hg 1 (by omega), if_pos ‹_›]; exact hn
   ·rw [← hn] at hn0; simp at hn0
  rw [if_neg h2] at hn
  by_cases h3 : g l 0 / 16 = 14 ∧ cb l 1 = true ∧ cb l 2 = true
  ·rw [if_pos h3] at hn
   split at hn
   ·have hs : (pt l).2 = 3 := by rw [hn', ← hn]
    rw [if_neg (by omega), hcb 1 (by omega), hcb 2 (by omega), if_pos h3, hg 1 (by omega), hg 2 (by omega), if_pos ‹_›]; exact hn
   ·rw [← hn] at hn0; simp at hn0
  rw [if_neg h3] at hn
  by_cases h4 : g l 0 / 8 = 30 ∧ cb l 1 = true ∧ cb l 2 = true ∧ cb l 3 = true
  ·rw [if_pos h4] at hn
   split at hn
   ·have hs : (pt l).2 = 4 := by rw [hn', ← hn]
    rw [if_neg (by omega), if_neg (by omega), hcb 1 (by omega), hcb 2 (by omega), hcb 3 (by omega), if_pos h4, hg 1 (by omega), hg 2 (by omega), hg 3 (by omega), if_pos ‹_›]; exact hn
   ·rw [← hn] at hn0; simp at hn0
  rw [if_neg h4] at hn
  rw [← hn] at hn0; simp at hn0
 exact key _ rfl h0
theorem three_of (l : List UInt8) (c3 : 2 < l.length) (e0 : g l 0 = 239) (e1 : g l 1 = 191) (e2 : g l 2 = 189) : l.take 3 = [239, 191, 189] := by
 match l, c3 with
 | a :: b :: c :: r, _ =>
  have f0 : a = 239 := UInt8.toNat.inj e0
  have f1 : b = 191 := UInt8.toNat.inj e1
  have f2 : c = 189 := UInt8.toNat.inj e2
  rw [f0, f1, f2]; rfl
theorem pt_fffd (l : List UInt8) (h0 : (pt l).2 ≠ 0) (h : (pt l).1 = 65533) : l.take 3 = [239, 191, 189] ∧ 3 ≤ l.length := by
 have b0 := g_lt l 0
 have b1 := g_lt l 1
 have b2 := g_lt l 2
 have hl0 : ¬ l.length = 0 := by have := (pt_size l).1; omega
 unfold pt at h h0
 rw [if_neg hl0] at h h0
 split at h
 ·have h' : g l 0 = 65533 := h
  omega
 rename_i h1
 rw [if_neg h1] at h0
 split at h
 ·rename_i h2; rw [if_pos h2] at h0
  split at h
  ·have h' : g l 0 % 32 * 64 + g l 1 % 64 = 65533 := h
   omega
  ·cases h
 rename_i h2
 rw [if_neg h2] at h0
 split at h
 ·rename_i h3
  obtain ⟨p1, p2, p3⟩ := h3
  have c1 := (cb_lt p2).2
  have c2 := cb_lt p3
  split at h
  ·have h' : g l 0 % 16 * 4096 + g l 1 % 64 * 64 + g l 2 % 64 = 65533 := h
   have e0 : g l 0 = 239 := by omega
   have e1 : g l 1 = 191 := by omega
   have e2 : g l 2 = 189 := by omega
   refine ⟨?_, by omega⟩
   have c3 := c2.1
   clear h h' h0 c1 c2 p1 p2 p3 h1 h2 b0 b1 b2 hl0
   exact three_of l c3 e0 e1 e2
  ·cases h
 rename_i h3
 split at h
 ·split at h
  ·rename_i h4 h5
   have h' : g l 0 % 8 * 262144 + g l 1 % 64 * 4096 + g l 2 % 64 * 64 + g l 3 % 64 = 65533 := h
   omega
  ·cases h
 ·cases h
theorem pt_whole (l : List UInt8) (h : l.take 3 = [239, 191, 189]) : pt l = (65533, 3) := by
 have e : pt [239, 191, 189] = (65533, 3) := by decide
 rw [← e]
 exact pt_front _ _ (by rw [e]; decide) (by rw [e]; exact h)
end Go.Proofs.YtanofjmkkhocaaaGreatDoor
namespace Go.Proofs.YtanofjmkkhocaaaGreatDoor
open Go.RowKit
def off (l : List UInt8) : Bool := (pt l).2 == 0 || (pt l).1 == 0
def bdK : Nat → List UInt8 → Option Nat
 | 0, _ => none
 | k + 1, l => if l.length = 0 then none else if off l then some 0 else (bdK k (l.drop (pt l).2)).map (· + (pt l).2)
def bd (l : List UInt8) : Option Nat := bdK l.length l
def rnK : Nat → Nat → List UInt8 → List (Nat × Nat)
 | 0, _, _ => []
 | k + 1, at_, l => if l.length = 0 then [] else if off l then [] else (at_, (pt l).1) :: rnK k (at_ + (pt l).2) (l.drop (pt l).2)
def rn (at_ : Nat) (l : List UInt8) : List (Nat × Nat) := rnK l.length at_ l
def badI (l : List UInt8) : Int := match bd l with | none => -1 | some p => p
def vld (l : List UInt8) : Bool := decide (l.length ≤ 65535) && (bd l).isNone
def cnt (l : List UInt8) : Nat := if vld l then (rn 0 l).length else 0
theorem on_size {l : List UInt8} (h : off l = false) : 1 ≤ (pt l).2 ∧ (pt l).2 ≤ l.length ∧ (pt l).2 ≠ 0 ∧ (pt l).1 ≠ 0 := by
 unfold off at h
 simp at h
 have := (pt_size l).1
 exact ⟨by omega, this, h.1, h.2⟩
theorem bdK_more : ∀ (k m : Nat) (l : List UInt8), l.length ≤ k → l.length ≤ m → bdK k l = bdK m l
 | 0, 0, _, _, _ => rfl
 | 0, m + 1, l, h, _ => by
  obtain rfl : l = [] := List.length_eq_zero_iff.1 (by omega)
  rfl
 | k + 1, 0, l, _, h => by
  obtain rfl : l = [] := List.length_eq_zero_iff.1 (by omega)
  rfl
 | k + 1, m + 1, l, h1, h2 => by
  unfold bdK
  split
  ·rfl
  split
  ·rfl
  ·rename_i h3
   have hs := on_size (l := l) (by simpa using h3)
   rw [bdK_more k m _ (by simp; omega) (by simp; omega)]
theorem bd_off {l : List UInt8} (h0 : 0 < l.length) (h : off l = true) : bd l = some 0 := by
 unfold bd
 obtain ⟨k, hk⟩ : ∃ k, l.length = k + 1 := ⟨l.length - 1, by omega⟩
 rw [hk, bdK, if_neg (by omega), if_pos h]
theorem bd_on {l : List UInt8} (h : off l = false) : bd l = (bd (l.drop (pt l).2)).map (· + (pt l).2) := by
 have hs := on_size h
 unfold bd
 obtain ⟨k, hk⟩ : ∃ k, l.length = k + 1 := ⟨l.length - 1, by omega⟩
 rw [hk, bdK, if_neg (by omega), if_neg (by simp [h]), bdK_more k (l.drop (pt l).2).length _ (by simp; omega) (Nat.le_refl _)]
end Go.Proofs.YtanofjmkkhocaaaGreatDoor
namespace Go.Proofs.YtanofjmkkhocaaaGreatDoor
open Go.RowKit
theorem whole_yes (l : List UInt8) (h : l.take 3 = [239, 191, 189]) (h3 : 3 ≤ l.length) (w : World) : Calls Tryz.prog 102 #[.string ⟨l.toArray⟩] w fun e w' => e = .returned (.bool true) ∧ w = w' := by
 have hx : (ByteArray.mk l.toArray).extract 0 3 = ByteArray.mk #[239, 191, 189] := by rw [ByteArray.extract_mk]; simp [h]
 have H := Lib.hid h
 clear h
 go_enter Tryz.func102, Tryz.ntmps102
 go_wp2
 go_ret
 exact ⟨rfl, rfl⟩
theorem whole_no (l : List UInt8) (h : ¬ l.take 3 = [239, 191, 189]) (w : World) : Calls Tryz.prog 102 #[.string ⟨l.toArray⟩] w fun e w' => e = .returned (.bool false) ∧ w = w' := by
 have hx : (ByteArray.mk l.toArray).extract 0 3 = ByteArray.mk (l.take 3).toArray := by rw [ByteArray.extract_mk]; simp
 have hd : (l.take 3 == [239, 191, 189]) = false := beq_eq_false_iff_ne.2 h
 have H := Lib.hid h
 clear h
 by_cases h3 : 3 ≤ l.length
 ·go_enter Tryz.func102, Tryz.ntmps102
  go_wp2
  go_ret
  exact ⟨rfl, rfl⟩
 ·go_enter Tryz.func102, Tryz.ntmps102
  go_wp2
  go_ret
  exact ⟨ret_val (by simp), rfl⟩
theorem pos_drop {t : List UInt8} {pos : Nat} : (ByteArray.mk t.toArray).extract pos t.length = ByteArray.mk (t.drop pos).toArray := by rw [ByteArray.extract_mk]; simp [List.take_of_length_le]
theorem next_pt {P : Program} (w : World) (t : List UInt8) (pos : Nat) (n z : Nat) (hlt : pos < t.length) (hpt : pt (t.drop pos) = (n, z)) (m y : Nat) (hm : (if z = 0 then (65533, 1) else (n, z)) = (m, y)) (ty : TypeId) :
  (Instr.next (.pointer (some ⟨w.heap.size, 0, none⟩)) true ty).run P (w.iter ⟨t.toArray⟩ pos) = .ok (.tuple #[.bool true, .int .i64 pos, .int .i32 (m : Int)]) (w.iter ⟨t.toArray⟩ (pos + y)) := by
 have h := run_next_any (P := P) w ⟨t.toArray⟩ pos ty hlt
 rw [decode_pt t pos hlt, hpt] at h
 rw [h]
 simp only at hm ⊢
 rw [hm]
theorem iter_below (w : World) (s : ByteArray) (p : Nat) : Below w.heap.size w (w.iter s p) := (Below.refl _ _).alloc (Nat.le_refl _) _
theorem bd_at {t : List UInt8} {pos : Nat} (h : off (t.drop pos) = true) (hlt : pos < t.length) (hb : bd t = (bd (t.drop pos)).map (· + pos)) : badI t = pos := by
 unfold badI
 rw [hb, bd_off (by simp; omega) h]
 simp
theorem bd_go {t : List UInt8} {pos : Nat} (h : off (t.drop pos) = false) (hb : bd t = (bd (t.drop pos)).map (· + pos)) :
  pos + (pt (t.drop pos)).2 ≤ t.length ∧ bd t = (bd (t.drop (pos + (pt (t.drop pos)).2))).map (· + (pos + (pt (t.drop pos)).2)) := by
 have hs := on_size h
 have := hs.2.1
 simp at this
 refine ⟨by omega, ?_⟩
 rw [hb, bd_on h, List.drop_drop, Option.map_map]
 congr 1
 funext x
 simp; omega
theorem bad_any (t : List UInt8) (_ht : (t.length : Int) ≤ 9223372036854775807) (w : World) :
  Calls Tryz.prog 94 #[.string ⟨t.toArray⟩] w fun e w' => e = .returned (.int .i64 (badI t)) ∧ Below w.heap.size w w' := by
 go_enter Tryz.func94, Tryz.ntmps94
 go_wp2
 go_loopw [] (fun wr => ∃ pos, pos ≤ t.length ∧ wr = w.iter ⟨t.toArray⟩ pos ∧ bd t = (bd (t.drop pos)).map (· + pos)) (fun wr => t.length - wr.iterPos w.heap.size)
 case atStart => exact ⟨0, Nat.zero_le _, rfl, by simp⟩
 case round =>
  obtain ⟨pos, hp, rfl, hbd⟩ := hrel
  by_cases hlt : pos < t.length
  ·obtain ⟨n, z, hpt⟩ : ∃ n z, pt (t.drop pos) = (n, z) := ⟨_, _, rfl⟩
   have hb := Lib.hid hbd
   have hP := Lib.hid hpt
   have hmx : n ≤ 1114111 := by have := pt_max (t.drop pos); rw [hpt] at this; exact this
   have hx := @pos_drop t pos
   clear hbd
   by_cases hz : z = 0
   ·have hnx := next_pt (P := Tryz.prog) w t pos n z hlt hpt 65533 1 (by rw [if_pos hz])
    have hoff : off (t.drop pos) = true := by unfold off; rw [hpt]; simp [hz]
    have hnw : ¬ (t.drop pos).take 3 = [239, 191, 189] := fun e => by rw [pt_whole _ e] at hpt; cases hpt; cases hz
    have HO := Lib.hid (bd_at hoff hlt hb.out)
    clear hpt hz hoff
    go_wp2_with fail
    refine (whole_no _ hnw _).mono ?_
    rintro e w' ⟨rfl, rfl⟩
    go_wp2
    go_ret
    exact ⟨ret_int HO.out.symm, iter_below _ _ _⟩
   ·have hnx := next_pt (P := Tryz.prog) w t pos n z hlt hpt n z (by rw [if_neg hz])
    by_cases hn : n = 0
    ·have hoff : off (t.drop pos) = true := by unfold off; rw [hpt]; simp [hn]
     have HO := Lib.hid (bd_at hoff hlt hb.out)
     have hd : ((n : Int) == 0) = true := by simp [hn]
     clear hpt hz hoff hn
     go_wp2_with fail
     go_ret
     exact ⟨ret_int HO.out.symm, iter_below _ _ _⟩
    ·have hoff : off (t.drop pos) = false := by unfold off; rw [hpt]; simp [hn, hz]
     have hgo := bd_go hoff hb.out
     rw [hpt] at hgo
     have HG := Lib.hid hgo
     have hd : ((n : Int) == 0) = false := by simp [hn]
     have hle := hgo.1
     simp only at hle
     by_cases hf : n = 65533
     ·have hd2 : ((n : Int) == 65533) = true := by simp [hf]
      have hw := pt_fffd (t.drop pos) (by rw [hpt]; exact hz) (by rw [hpt]; exact hf)
      have HZ := Lib.hid hz
      clear hpt hz hoff hn hf hgo
      go_wp2_with fail
      refine (whole_yes _ hw.1 hw.2 _).mono ?_
      rintro e w' ⟨rfl, rfl⟩
      clear hw
      go_wp2
      go_roundw
      case rel => exact ⟨pos + z, hle, rfl, HG.out.2⟩
      case measure => have := HZ.out; simp; omega
     ·have hd2 : ((n : Int) == 65533) = false := by simp; omega
      have HZ := Lib.hid hz
      clear hpt hz hoff hn hf hgo
      go_wp2
      go_roundw
      case rel => exact ⟨pos + z, hle, rfl, HG.out.2⟩
      case measure => have := HZ.out; simp; omega
  ·have hnx := fun ty => run_next_end (P := Tryz.prog) w ⟨t.toArray⟩ pos ty (show ¬ pos < (ByteArray.mk t.toArray).size from hlt)
   have hbn : badI t = -1 := by unfold badI; rw [hbd, List.drop_of_length_le (by omega)]; rfl
   have HB := Lib.hid hbn
   clear hbd hbn
   go_wp2
   go_ret
   exact ⟨ret_int HB.out.symm, iter_below _ _ _⟩
theorem valid_any (t : List UInt8) (ht : (t.length : Int) ≤ 9223372036854775807) (w : World) :
  Calls Tryz.prog 84 #[.string ⟨t.toArray⟩] w fun e w' => e = .returned (.bool (vld t)) ∧ Below w.heap.size w w' := by
 by_cases hl : t.length ≤ 65535
 ·have hd : decide (t.length ≤ 65535) = true := by simpa using hl
  go_enter Tryz.func84, Tryz.ntmps84
  go_wp2_with fail
  refine (bad_any t ht _).mono ?_
  rintro e w1 ⟨rfl, hb⟩
  have hv : (badI t == -1) = vld t := by
   unfold badI vld
   rw [hd]
   cases bd t with
   | none => rfl
   | some p => simp
  go_wp2
  go_ret
  exact ⟨rfl, hb⟩
 ·have hv : vld t = false := by unfold vld; simp [hl]
  have HV := Lib.hid hv
  clear hv
  go_enter Tryz.func84, Tryz.ntmps84
  go_wp2
  go_ret
  exact ⟨ret_val (by rw [HV.out]; simp), Below.refl _ _⟩
end Go.Proofs.YtanofjmkkhocaaaGreatDoor
