/- TopicShares. -/
import Derived.Test.YthifcodiphglaaaDoorTopP
import Derived.Test.YthifcodiphglaaaDoorUstV
namespace Go.Proofs.YthifcodiphglaaaDoor
open Go.RowKit
set_option linter.unusedVariables false

set_option maxRecDepth 100000 in
theorem topicShares_long (a b : List UInt8) (h : 200 < a.length ∨ (a.length ≤ 200 ∧ 200 < b.length)) (w : World) (hm : Mx w) :
    Calls Tryd.prog 4 #[.string ⟨a.toArray⟩, .string ⟨b.toArray⟩] w fun e w' => e = .returned (.bool true) ∧ Below w.heap.size w w' := by
  rcases h with h | ⟨h, h2⟩
  all_goals
    go_enter Tryd.func4, Tryd.ntmps4
    go_wp2_with fail
    refine (lives04 _ hm).mono ?_
    rintro e w1 ⟨rfl, hb⟩
    go_wp2_with fail
    go_ret
    exact ⟨rfl, hb⟩
/-- What the reader of a shared filter says of "$share/" + a + "/" + b. -/
def shS (a b : List UInt8) : List UInt8 := shareP ++ a ++ [47] ++ b
theorem shS_eq (a b : List UInt8) : shS a b = shareP ++ (a ++ 47 :: b) := by simp [shS]
theorem shS_len (a b : List UInt8) : (shS a b).length = a.length + b.length + 8 := by simp [shS, shareP]; omega
theorem sharedE_of {s g f : List UInt8} {k : Bool} (h : sharedF s = (g, f, k)) : sharedE s = .returned (.tuple #[.string ⟨g.toArray⟩, .string ⟨f.toArray⟩, .bool k]) := by unfold sharedE; rw [h]
theorem share_cat (a b : List UInt8) : ByteArray.mk #[36, 115, 104, 97, 114, 101, 47] ++ ByteArray.mk a.toArray = ByteArray.mk (shareP ++ a).toArray := ByteArray.mk_append_mk _ _
theorem slash_cat (a : List UInt8) : ByteArray.mk a.toArray ++ ByteArray.mk #[47] = ByteArray.mk (a ++ [47]).toArray := ByteArray.mk_append_mk _ _
theorem cat2 (a b : List UInt8) : ByteArray.mk a.toArray ++ ByteArray.mk b.toArray = ByteArray.mk (a ++ b).toArray := ByteArray.mk_append_mk _ _

set_option maxRecDepth 100000 in
set_option maxHeartbeats 1600000 in
theorem ts_c1  (b : List UInt8) (hb : b.length ≤ 200)  (u1 u2 S : List UInt8) (hn1 : u1.length ≤ 300) (hn2 : u2.length ≤ 300) (hsl : S.length ≤ 500) (hx1 : ByteArray.mk #[36, 115, 104, 97, 114, 101, 47] ++ ByteArray.mk ([] : List UInt8).toArray = ByteArray.mk u1.toArray) (hx2 : ByteArray.mk u1.toArray ++ ByteArray.mk #[47] = ByteArray.mk u2.toArray) (hx3 : ByteArray.mk u2.toArray ++ ByteArray.mk b.toArray = ByteArray.mk S.toArray) (hS : Hid (sharedE S = .returned (.tuple #[.string ⟨#[]⟩, .string ⟨#[]⟩, .bool false]))) (w : World) (hm : Mx w) :
    Calls Tryd.prog 4 #[.string ⟨([] : List UInt8).toArray⟩, .string ⟨b.toArray⟩] w fun e w' => e = .returned (.bool true) ∧ Below w.heap.size w w' := by
  have he : ByteArray.mk #[] ++ ByteArray.mk #[] = ByteArray.mk #[] := rfl
  go_enter Tryd.func4, Tryd.ntmps4
  have hB0 : Below w.heap.size w w := Below.refl _ _
  go_wp2_with fail
  refine (lives04 _ (hm.next hB0)).mono ?_
  rintro e w1 ⟨rfl, hb⟩
  have hB1 := hB0.trans (hb.mono hB0.size)
  clear hb
  go_wp2_with fail
  refine (shared_any [] (by decide) _ (hm.next hB1)).mono ?_
  rintro e w2 ⟨rfl, hb⟩
  rw [show sharedE [] = .returned (.tuple #[.string ⟨#[]⟩, .string ⟨#[]⟩, .bool false]) from rfl]
  have hB2 := hB1.trans (hb.mono hB1.size)
  clear hb
  go_wp2_with fail
  refine (shared_any S (by omega) _ (hm.next hB2)).mono ?_
  rintro e w3 ⟨rfl, hb⟩
  rw [hS.out]
  have hB3 := hB2.trans (hb.mono hB2.size)
  clear hb
  go_wp2_with fail
  refine (levels_any [] (by decide) _ (hm.next hB3)).mono ?_
  rintro e w4 ⟨rfl, rfl⟩
  have hB4 := below_alT hB3 (.cells (cellsS (splitS [])) 9 (0, 0))
  rw [show (splitS []).length = 1 from rfl]
  go_wp2
  go_ret
  exact ⟨rfl, hB4⟩

set_option maxRecDepth 100000 in
set_option maxHeartbeats 1600000 in
theorem ts_c2 (a : List UInt8) (ha : a.length ≤ 200) (b : List UInt8) (hb : b.length ≤ 200) (hne : ¬ a = []) (hN : Hid (nameB a = false)) (hL : Hid ((splitS a).length = 1)) (u1 u2 S : List UInt8) (hn1 : u1.length ≤ 300) (hn2 : u2.length ≤ 300) (hsl : S.length ≤ 500) (hx1 : ByteArray.mk #[36, 115, 104, 97, 114, 101, 47] ++ ByteArray.mk a.toArray = ByteArray.mk u1.toArray) (hx2 : ByteArray.mk u1.toArray ++ ByteArray.mk #[47] = ByteArray.mk u2.toArray) (hx3 : ByteArray.mk u2.toArray ++ ByteArray.mk b.toArray = ByteArray.mk S.toArray) (hI : Hid (sharedE a = .returned (.tuple #[.string ⟨#[]⟩, .string ⟨#[]⟩, .bool false]))) (hS : Hid (sharedE S = .returned (.tuple #[.string ⟨#[]⟩, .string ⟨#[]⟩, .bool false]))) (w : World) (hm : Mx w) :
    Calls Tryd.prog 4 #[.string ⟨a.toArray⟩, .string ⟨b.toArray⟩] w fun e w' => e = .returned (.bool true) ∧ Below w.heap.size w w' := by
  have he : ByteArray.mk #[] ++ ByteArray.mk #[] = ByteArray.mk #[] := rfl
  go_enter Tryd.func4, Tryd.ntmps4
  have hB0 : Below w.heap.size w w := Below.refl _ _
  go_wp2_with fail
  refine (lives04 _ (hm.next hB0)).mono ?_
  rintro e w1 ⟨rfl, hb⟩
  have hB1 := hB0.trans (hb.mono hB0.size)
  clear hb
  go_wp2_with fail
  refine (shared_any a (by omega) _ (hm.next hB1)).mono ?_
  rintro e w2 ⟨rfl, hb⟩
  rw [hI.out]
  have hB2 := hB1.trans (hb.mono hB1.size)
  clear hb
  go_wp2_with fail
  refine (name_any a (by omega) _).mono ?_
  rintro e w3 ⟨rfl, hb⟩
  rw [hN.out]
  have hB3 := hB2.trans (hb.mono hB2.size)
  clear hb
  go_wp2_with fail
  refine (shared_any S (by omega) _ (hm.next hB3)).mono ?_
  rintro e w4 ⟨rfl, hb⟩
  rw [hS.out]
  have hB4 := hB3.trans (hb.mono hB3.size)
  clear hb
  go_wp2_with fail
  refine (levels_any a (by omega) _ (hm.next hB4)).mono ?_
  rintro e w5 ⟨rfl, rfl⟩
  have hB5 := below_alT hB4 (.cells (cellsS (splitS a)) 9 (0, 0))
  rw [hL.out]
  go_wp2
  go_ret
  exact ⟨rfl, hB5⟩

set_option maxRecDepth 100000 in
set_option maxHeartbeats 1600000 in
theorem ts_c3i (a : List UInt8) (ha : a.length ≤ 200) (b : List UInt8) (hb : b.length ≤ 200) (hne : ¬ a = []) (hN : Hid (nameB a = false)) (L : Nat) (hL : Hid ((splitS a).length = L)) (hL2 : (2 : Int) ≤ (L : Int)) (u1 u2 S : List UInt8) (hn1 : u1.length ≤ 300) (hn2 : u2.length ≤ 300) (hsl : S.length ≤ 500) (hx1 : ByteArray.mk #[36, 115, 104, 97, 114, 101, 47] ++ ByteArray.mk a.toArray = ByteArray.mk u1.toArray) (hx2 : ByteArray.mk u1.toArray ++ ByteArray.mk #[47] = ByteArray.mk u2.toArray) (hx3 : ByteArray.mk u2.toArray ++ ByteArray.mk b.toArray = ByteArray.mk S.toArray) (v1 v2 g f : List UInt8) (hm1 : v1.length ≤ 300) (hm2 : v2.length ≤ 300) (hy1 : ByteArray.mk #[36, 115, 104, 97, 114, 101, 47] ++ ByteArray.mk g.toArray = ByteArray.mk v1.toArray) (hy2 : ByteArray.mk v1.toArray ++ ByteArray.mk #[47] = ByteArray.mk v2.toArray) (hy3 : ByteArray.mk v2.toArray ++ ByteArray.mk f.toArray = ByteArray.mk a.toArray) (hgl : g.length ≤ 200) (hfl : f.length ≤ 200) (hge : g.isEmpty = false) (hI : Hid (sharedE a = .returned (.tuple #[.string ⟨g.toArray⟩, .string ⟨f.toArray⟩, .bool true]) ∧ filterB f = true ∧ vld a = true)) (y z : List UInt8) (was : Bool) (hS : Hid (sharedE S = .returned (.tuple #[.string ⟨y.toArray⟩, .string ⟨z.toArray⟩, .bool was]))) (w : World) (hm : Mx w) :
    Calls Tryd.prog 4 #[.string ⟨a.toArray⟩, .string ⟨b.toArray⟩] w fun e w' => e = .returned (.bool true) ∧ Below w.heap.size w w' := by
  have he : ByteArray.mk #[] ++ ByteArray.mk #[] = ByteArray.mk #[] := rfl
  go_enter Tryd.func4, Tryd.ntmps4
  have hB0 : Below w.heap.size w w := Below.refl _ _
  go_wp2_with fail
  refine (lives04 _ (hm.next hB0)).mono ?_
  rintro e w1 ⟨rfl, hb⟩
  have hB1 := hB0.trans (hb.mono hB0.size)
  clear hb
  go_wp2_with fail
  refine (shared_any a (by omega) _ (hm.next hB1)).mono ?_
  rintro e w2 ⟨rfl, hb⟩
  rw [hI.out.1]
  have hB2 := hB1.trans (hb.mono hB1.size)
  clear hb
  go_wp2_with fail
  refine (filter_any f (by omega) _ (hm.next hB2)).mono ?_
  rintro e w3 ⟨rfl, hb⟩
  rw [hI.out.2.1]
  have hB3 := hB2.trans (hb.mono hB2.size)
  clear hb
  go_wp2_with fail
  refine (rvalid_any a (by omega) _).mono ?_
  rintro e w' ⟨rfl, rfl⟩
  rw [hI.out.2.2]
  go_wp2_with fail
  refine (name_any a (by omega) _).mono ?_
  rintro e w4 ⟨rfl, hb⟩
  rw [hN.out]
  have hB4 := hB3.trans (hb.mono hB3.size)
  clear hb
  go_wp2_with fail
  refine (shared_any S (by omega) _ (hm.next hB4)).mono ?_
  rintro e w5 ⟨rfl, hb⟩
  rw [hS.out]
  have hB5 := hB4.trans (hb.mono hB4.size)
  clear hb
  go_wp2_with fail
  refine (levels_any a (by omega) _ (hm.next hB5)).mono ?_
  rintro e w6 ⟨rfl, rfl⟩
  have hB6 := below_alT hB5 (.cells (cellsS (splitS a)) 9 (0, 0))
  rw [hL.out]
  go_wp2
  go_ret
  exact ⟨rfl, hB6⟩

set_option maxRecDepth 100000 in
set_option maxHeartbeats 1600000 in
theorem ts_c3 (a : List UInt8) (ha : a.length ≤ 200) (b : List UInt8) (hb : b.length ≤ 200) (hne : ¬ a = []) (hN : Hid (nameB a = false)) (L : Nat) (hL : Hid ((splitS a).length = L)) (hL2 : (2 : Int) ≤ (L : Int)) (u1 u2 S : List UInt8) (hn1 : u1.length ≤ 300) (hn2 : u2.length ≤ 300) (hsl : S.length ≤ 500) (hx1 : ByteArray.mk #[36, 115, 104, 97, 114, 101, 47] ++ ByteArray.mk a.toArray = ByteArray.mk u1.toArray) (hx2 : ByteArray.mk u1.toArray ++ ByteArray.mk #[47] = ByteArray.mk u2.toArray) (hx3 : ByteArray.mk u2.toArray ++ ByteArray.mk b.toArray = ByteArray.mk S.toArray) (hI : Hid (sharedE a = .returned (.tuple #[.string ⟨#[]⟩, .string ⟨#[]⟩, .bool false]))) (y z : List UInt8) (was : Bool) (hS : Hid (sharedE S = .returned (.tuple #[.string ⟨y.toArray⟩, .string ⟨z.toArray⟩, .bool was]))) (w : World) (hm : Mx w) :
    Calls Tryd.prog 4 #[.string ⟨a.toArray⟩, .string ⟨b.toArray⟩] w fun e w' => e = .returned (.bool true) ∧ Below w.heap.size w w' := by
  have he : ByteArray.mk #[] ++ ByteArray.mk #[] = ByteArray.mk #[] := rfl
  go_enter Tryd.func4, Tryd.ntmps4
  have hB0 : Below w.heap.size w w := Below.refl _ _
  go_wp2_with fail
  refine (lives04 _ (hm.next hB0)).mono ?_
  rintro e w1 ⟨rfl, hb⟩
  have hB1 := hB0.trans (hb.mono hB0.size)
  clear hb
  go_wp2_with fail
  refine (shared_any a (by omega) _ (hm.next hB1)).mono ?_
  rintro e w2 ⟨rfl, hb⟩
  rw [hI.out]
  have hB2 := hB1.trans (hb.mono hB1.size)
  clear hb
  go_wp2_with fail
  refine (name_any a (by omega) _).mono ?_
  rintro e w3 ⟨rfl, hb⟩
  rw [hN.out]
  have hB3 := hB2.trans (hb.mono hB2.size)
  clear hb
  go_wp2_with fail
  refine (shared_any S (by omega) _ (hm.next hB3)).mono ?_
  rintro e w4 ⟨rfl, hb⟩
  rw [hS.out]
  have hB4 := hB3.trans (hb.mono hB3.size)
  clear hb
  go_wp2_with fail
  refine (levels_any a (by omega) _ (hm.next hB4)).mono ?_
  rintro e w5 ⟨rfl, rfl⟩
  have hB5 := below_alT hB4 (.cells (cellsS (splitS a)) 9 (0, 0))
  rw [hL.out]
  go_wp2
  go_ret
  exact ⟨rfl, hB5⟩

set_option maxRecDepth 100000 in
set_option maxHeartbeats 1600000 in
theorem ts_c4 (a : List UInt8) (ha : a.length ≤ 200) (b : List UInt8) (hb : b.length ≤ 200) (hne : ¬ a = []) (hN : Hid (nameB a = true)) (hL : Hid ((splitS a).length = 1)) (hF : Hid (filterB b = true)) (u1 u2 S : List UInt8) (hn1 : u1.length ≤ 300) (hn2 : u2.length ≤ 300) (hsl : S.length ≤ 500) (hx1 : ByteArray.mk #[36, 115, 104, 97, 114, 101, 47] ++ ByteArray.mk a.toArray = ByteArray.mk u1.toArray) (hx2 : ByteArray.mk u1.toArray ++ ByteArray.mk #[47] = ByteArray.mk u2.toArray) (hx3 : ByteArray.mk u2.toArray ++ ByteArray.mk b.toArray = ByteArray.mk S.toArray) (hI : Hid (sharedE a = .returned (.tuple #[.string ⟨#[]⟩, .string ⟨#[]⟩, .bool false]))) (hS : Hid (sharedE S = .returned (.tuple #[.string ⟨a.toArray⟩, .string ⟨b.toArray⟩, .bool true]))) (w : World) (hm : Mx w) :
    Calls Tryd.prog 4 #[.string ⟨a.toArray⟩, .string ⟨b.toArray⟩] w fun e w' => e = .returned (.bool true) ∧ Below w.heap.size w w' := by
  have he : ByteArray.mk #[] ++ ByteArray.mk #[] = ByteArray.mk #[] := rfl
  go_enter Tryd.func4, Tryd.ntmps4
  have hB0 : Below w.heap.size w w := Below.refl _ _
  go_wp2_with fail
  refine (lives04 _ (hm.next hB0)).mono ?_
  rintro e w1 ⟨rfl, hb⟩
  have hB1 := hB0.trans (hb.mono hB0.size)
  clear hb
  go_wp2_with fail
  refine (shared_any a (by omega) _ (hm.next hB1)).mono ?_
  rintro e w2 ⟨rfl, hb⟩
  rw [hI.out]
  have hB2 := hB1.trans (hb.mono hB1.size)
  clear hb
  go_wp2_with fail
  refine (name_any a (by omega) _).mono ?_
  rintro e w3 ⟨rfl, hb⟩
  rw [hN.out]
  have hB3 := hB2.trans (hb.mono hB2.size)
  clear hb
  go_wp2_with fail
  refine (levels_any a (by omega) _ (hm.next hB3)).mono ?_
  rintro e w4 ⟨rfl, rfl⟩
  have hB4 := below_alT hB3 (.cells (cellsS (splitS a)) 9 (0, 0))
  rw [hL.out]
  go_wp2_with fail
  refine (filter_any b (by omega) _ (hm.next hB4)).mono ?_
  rintro e w5 ⟨rfl, hb⟩
  rw [hF.out]
  have hB5 := hB4.trans (hb.mono hB4.size)
  clear hb
  go_wp2_with fail
  refine (shared_any S (by omega) _ (hm.next hB5)).mono ?_
  rintro e w6 ⟨rfl, hb⟩
  rw [hS.out]
  have hB6 := hB5.trans (hb.mono hB5.size)
  clear hb
  go_wp2
  go_ret
  exact ⟨rfl, hB6⟩

set_option maxRecDepth 100000 in
set_option maxHeartbeats 1600000 in
theorem ts_c5 (a : List UInt8) (ha : a.length ≤ 200) (b : List UInt8) (hb : b.length ≤ 200) (hne : ¬ a = []) (hN : Hid (nameB a = true)) (hL : Hid ((splitS a).length = 1)) (hF : Hid (filterB b = false)) (u1 u2 S : List UInt8) (hn1 : u1.length ≤ 300) (hn2 : u2.length ≤ 300) (hsl : S.length ≤ 500) (hx1 : ByteArray.mk #[36, 115, 104, 97, 114, 101, 47] ++ ByteArray.mk a.toArray = ByteArray.mk u1.toArray) (hx2 : ByteArray.mk u1.toArray ++ ByteArray.mk #[47] = ByteArray.mk u2.toArray) (hx3 : ByteArray.mk u2.toArray ++ ByteArray.mk b.toArray = ByteArray.mk S.toArray) (hI : Hid (sharedE a = .returned (.tuple #[.string ⟨#[]⟩, .string ⟨#[]⟩, .bool false]))) (hS : Hid (sharedE S = .returned (.tuple #[.string ⟨#[]⟩, .string ⟨#[]⟩, .bool false]))) (w : World) (hm : Mx w) :
    Calls Tryd.prog 4 #[.string ⟨a.toArray⟩, .string ⟨b.toArray⟩] w fun e w' => e = .returned (.bool true) ∧ Below w.heap.size w w' := by
  have he : ByteArray.mk #[] ++ ByteArray.mk #[] = ByteArray.mk #[] := rfl
  go_enter Tryd.func4, Tryd.ntmps4
  have hB0 : Below w.heap.size w w := Below.refl _ _
  go_wp2_with fail
  refine (lives04 _ (hm.next hB0)).mono ?_
  rintro e w1 ⟨rfl, hb⟩
  have hB1 := hB0.trans (hb.mono hB0.size)
  clear hb
  go_wp2_with fail
  refine (shared_any a (by omega) _ (hm.next hB1)).mono ?_
  rintro e w2 ⟨rfl, hb⟩
  rw [hI.out]
  have hB2 := hB1.trans (hb.mono hB1.size)
  clear hb
  go_wp2_with fail
  refine (name_any a (by omega) _).mono ?_
  rintro e w3 ⟨rfl, hb⟩
  rw [hN.out]
  have hB3 := hB2.trans (hb.mono hB2.size)
  clear hb
  go_wp2_with fail
  refine (levels_any a (by omega) _ (hm.next hB3)).mono ?_
  rintro e w4 ⟨rfl, rfl⟩
  have hB4 := below_alT hB3 (.cells (cellsS (splitS a)) 9 (0, 0))
  rw [hL.out]
  go_wp2_with fail
  refine (filter_any b (by omega) _ (hm.next hB4)).mono ?_
  rintro e w5 ⟨rfl, hb⟩
  rw [hF.out]
  have hB5 := hB4.trans (hb.mono hB4.size)
  clear hb
  go_wp2_with fail
  refine (shared_any S (by omega) _ (hm.next hB5)).mono ?_
  rintro e w6 ⟨rfl, hb⟩
  rw [hS.out]
  have hB6 := hB5.trans (hb.mono hB5.size)
  clear hb
  go_wp2_with fail
  refine (levels_any a (by omega) _ (hm.next hB6)).mono ?_
  rintro e w7 ⟨rfl, rfl⟩
  have hB7 := below_alT hB6 (.cells (cellsS (splitS a)) 9 (0, 0))
  rw [hL.out]
  go_wp2
  go_ret
  exact ⟨rfl, hB7⟩

set_option maxRecDepth 100000 in
set_option maxHeartbeats 1600000 in
theorem ts_c6i (a : List UInt8) (ha : a.length ≤ 200) (b : List UInt8) (hb : b.length ≤ 200) (hne : ¬ a = []) (hN : Hid (nameB a = true)) (L : Nat) (hL : Hid ((splitS a).length = L)) (hL2 : (2 : Int) ≤ (L : Int)) (u1 u2 S : List UInt8) (hn1 : u1.length ≤ 300) (hn2 : u2.length ≤ 300) (hsl : S.length ≤ 500) (hx1 : ByteArray.mk #[36, 115, 104, 97, 114, 101, 47] ++ ByteArray.mk a.toArray = ByteArray.mk u1.toArray) (hx2 : ByteArray.mk u1.toArray ++ ByteArray.mk #[47] = ByteArray.mk u2.toArray) (hx3 : ByteArray.mk u2.toArray ++ ByteArray.mk b.toArray = ByteArray.mk S.toArray) (v1 v2 g f : List UInt8) (hm1 : v1.length ≤ 300) (hm2 : v2.length ≤ 300) (hy1 : ByteArray.mk #[36, 115, 104, 97, 114, 101, 47] ++ ByteArray.mk g.toArray = ByteArray.mk v1.toArray) (hy2 : ByteArray.mk v1.toArray ++ ByteArray.mk #[47] = ByteArray.mk v2.toArray) (hy3 : ByteArray.mk v2.toArray ++ ByteArray.mk f.toArray = ByteArray.mk a.toArray) (hgl : g.length ≤ 200) (hfl : f.length ≤ 200) (hge : g.isEmpty = false) (hI : Hid (sharedE a = .returned (.tuple #[.string ⟨g.toArray⟩, .string ⟨f.toArray⟩, .bool true]) ∧ filterB f = true ∧ vld a = true)) (y z : List UInt8) (was : Bool) (hS : Hid (sharedE S = .returned (.tuple #[.string ⟨y.toArray⟩, .string ⟨z.toArray⟩, .bool was]))) (w : World) (hm : Mx w) :
    Calls Tryd.prog 4 #[.string ⟨a.toArray⟩, .string ⟨b.toArray⟩] w fun e w' => e = .returned (.bool true) ∧ Below w.heap.size w w' := by
  have he : ByteArray.mk #[] ++ ByteArray.mk #[] = ByteArray.mk #[] := rfl
  go_enter Tryd.func4, Tryd.ntmps4
  have hB0 : Below w.heap.size w w := Below.refl _ _
  go_wp2_with fail
  refine (lives04 _ (hm.next hB0)).mono ?_
  rintro e w1 ⟨rfl, hb⟩
  have hB1 := hB0.trans (hb.mono hB0.size)
  clear hb
  go_wp2_with fail
  refine (shared_any a (by omega) _ (hm.next hB1)).mono ?_
  rintro e w2 ⟨rfl, hb⟩
  rw [hI.out.1]
  have hB2 := hB1.trans (hb.mono hB1.size)
  clear hb
  go_wp2_with fail
  refine (filter_any f (by omega) _ (hm.next hB2)).mono ?_
  rintro e w3 ⟨rfl, hb⟩
  rw [hI.out.2.1]
  have hB3 := hB2.trans (hb.mono hB2.size)
  clear hb
  go_wp2_with fail
  refine (rvalid_any a (by omega) _).mono ?_
  rintro e w' ⟨rfl, rfl⟩
  rw [hI.out.2.2]
  go_wp2_with fail
  refine (name_any a (by omega) _).mono ?_
  rintro e w4 ⟨rfl, hb⟩
  rw [hN.out]
  have hB4 := hB3.trans (hb.mono hB3.size)
  clear hb
  go_wp2_with fail
  refine (levels_any a (by omega) _ (hm.next hB4)).mono ?_
  rintro e w5 ⟨rfl, rfl⟩
  have hB5 := below_alT hB4 (.cells (cellsS (splitS a)) 9 (0, 0))
  rw [hL.out]
  go_wp2_with fail
  refine (shared_any S (by omega) _ (hm.next hB5)).mono ?_
  rintro e w6 ⟨rfl, hb⟩
  rw [hS.out]
  have hB6 := hB5.trans (hb.mono hB5.size)
  clear hb
  go_wp2_with fail
  refine (levels_any a (by omega) _ (hm.next hB6)).mono ?_
  rintro e w7 ⟨rfl, rfl⟩
  have hB7 := below_alT hB6 (.cells (cellsS (splitS a)) 9 (0, 0))
  rw [hL.out]
  go_wp2
  go_ret
  exact ⟨rfl, hB7⟩

set_option maxRecDepth 100000 in
set_option maxHeartbeats 1600000 in
theorem ts_c6 (a : List UInt8) (ha : a.length ≤ 200) (b : List UInt8) (hb : b.length ≤ 200) (hne : ¬ a = []) (hN : Hid (nameB a = true)) (L : Nat) (hL : Hid ((splitS a).length = L)) (hL2 : (2 : Int) ≤ (L : Int)) (u1 u2 S : List UInt8) (hn1 : u1.length ≤ 300) (hn2 : u2.length ≤ 300) (hsl : S.length ≤ 500) (hx1 : ByteArray.mk #[36, 115, 104, 97, 114, 101, 47] ++ ByteArray.mk a.toArray = ByteArray.mk u1.toArray) (hx2 : ByteArray.mk u1.toArray ++ ByteArray.mk #[47] = ByteArray.mk u2.toArray) (hx3 : ByteArray.mk u2.toArray ++ ByteArray.mk b.toArray = ByteArray.mk S.toArray) (hI : Hid (sharedE a = .returned (.tuple #[.string ⟨#[]⟩, .string ⟨#[]⟩, .bool false]))) (y z : List UInt8) (was : Bool) (hS : Hid (sharedE S = .returned (.tuple #[.string ⟨y.toArray⟩, .string ⟨z.toArray⟩, .bool was]))) (w : World) (hm : Mx w) :
    Calls Tryd.prog 4 #[.string ⟨a.toArray⟩, .string ⟨b.toArray⟩] w fun e w' => e = .returned (.bool true) ∧ Below w.heap.size w w' := by
  have he : ByteArray.mk #[] ++ ByteArray.mk #[] = ByteArray.mk #[] := rfl
  go_enter Tryd.func4, Tryd.ntmps4
  have hB0 : Below w.heap.size w w := Below.refl _ _
  go_wp2_with fail
  refine (lives04 _ (hm.next hB0)).mono ?_
  rintro e w1 ⟨rfl, hb⟩
  have hB1 := hB0.trans (hb.mono hB0.size)
  clear hb
  go_wp2_with fail
  refine (shared_any a (by omega) _ (hm.next hB1)).mono ?_
  rintro e w2 ⟨rfl, hb⟩
  rw [hI.out]
  have hB2 := hB1.trans (hb.mono hB1.size)
  clear hb
  go_wp2_with fail
  refine (name_any a (by omega) _).mono ?_
  rintro e w3 ⟨rfl, hb⟩
  rw [hN.out]
  have hB3 := hB2.trans (hb.mono hB2.size)
  clear hb
  go_wp2_with fail
  refine (levels_any a (by omega) _ (hm.next hB3)).mono ?_
  rintro e w4 ⟨rfl, rfl⟩
  have hB4 := below_alT hB3 (.cells (cellsS (splitS a)) 9 (0, 0))
  rw [hL.out]
  go_wp2_with fail
  refine (shared_any S (by omega) _ (hm.next hB4)).mono ?_
  rintro e w5 ⟨rfl, hb⟩
  rw [hS.out]
  have hB5 := hB4.trans (hb.mono hB4.size)
  clear hb
  go_wp2_with fail
  refine (levels_any a (by omega) _ (hm.next hB5)).mono ?_
  rintro e w6 ⟨rfl, rfl⟩
  have hB6 := below_alT hB5 (.cells (cellsS (splitS a)) 9 (0, 0))
  rw [hL.out]
  go_wp2
  go_ret
  exact ⟨rfl, hB6⟩

theorem topicShares_walk (a b : List UInt8) (w : World) (hm : Mx w) :
    Calls Tryd.prog 4 #[.string ⟨a.toArray⟩, .string ⟨b.toArray⟩] w fun e w' => e = .returned (.bool true) ∧ Below w.heap.size w w' := by
  by_cases ha : a.length ≤ 200
  rotate_left
  · exact topicShares_long a b (by omega) w hm
  by_cases hb : b.length ≤ 200
  rotate_left
  · exact topicShares_long a b (by omega) w hm
  have n1 : (shareP ++ a).length ≤ 300 := by simp [shareP]; omega
  have n2 : (shareP ++ a ++ [47]).length ≤ 300 := by simp [shareP]; omega
  have n3 : (shS a b).length ≤ 500 := by rw [shS_len]; omega
  have x1 := share_cat a b
  have x2 := slash_cat (shareP ++ a)
  have x3 : ByteArray.mk (shareP ++ a ++ [47]).toArray ++ ByteArray.mk b.toArray = ByteArray.mk (shS a b).toArray := cat2 _ _
  by_cases hne : a = []
  · subst hne
    exact ts_c1 b hb _ _ _ n1 n2 n3 x1 x2 x3 (Lib.hid (sharedE_of (by rw [shS_eq, shared_of rfl (by decide) hb]; rfl))) w hm
  have hL1 : ∀ h : noSlash a = true, (splitS a).length = 1 := fun h => (one_level a).2 h
  have hL2 : ∀ h : noSlash a = false, (2 : Int) ≤ ((splitS a).length : Int) := fun h => by
    have h0 := List.length_pos_iff.2 (splitS_ne a)
    have h1 : (splitS a).length ≠ 1 := fun e => by rw [(one_level a).1 e] at h; cases h
    omega
  have hno : ∀ h : noSlash a = true, sharedF (shS a b) = if nameB a && filterB b then (a, b, true) else ([], [], false) := fun h => by rw [shS_eq, shared_of h ha hb]
  rcases shared_cases a with ⟨g, f, hs⟩ | hs
  · obtain ⟨e1, e2, e3, e4, e5, e6⟩ := shared_inv hs
    have hgl : g.length ≤ 200 := by rw [e1] at ha; simp at ha; omega
    have hfl : f.length ≤ 200 := by rw [e1] at ha; simp at ha; omega
    have m1 : (shareP ++ g).length ≤ 300 := by simp [shareP]; omega
    have m2 : (shareP ++ g ++ [47]).length ≤ 300 := by simp [shareP]; omega
    have y1 := share_cat g b
    have y2 := slash_cat (shareP ++ g)
    have y3 : ByteArray.mk (shareP ++ g ++ [47]).toArray ++ ByteArray.mk f.toArray = ByteArray.mk a.toArray := by
      have : a = shareP ++ g ++ [47] ++ f := by rw [e1]; simp
      conv => rhs; rw [this]
      exact cat2 _ _
    have HI := Lib.hid (And.intro (sharedE_of hs) (And.intro e3 e4))
    have hq : noSlash a = false := by
      rw [e1]
      simp [noSlash, shareP]
    cases hn : nameB a with
    | false => exact ts_c3i a ha b hb hne (Lib.hid hn) _ (Lib.hid rfl) (hL2 hq) _ _ _ n1 n2 n3 x1 x2 x3 _ _ g f m1 m2 y1 y2 y3 hgl hfl (by cases g with | nil => exact absurd rfl e2 | cons _ _ => rfl) HI _ _ _ (Lib.hid rfl) w hm
    | true => exact ts_c6i a ha b hb hne (Lib.hid hn) _ (Lib.hid rfl) (hL2 hq) _ _ _ n1 n2 n3 x1 x2 x3 _ _ g f m1 m2 y1 y2 y3 hgl hfl (by cases g with | nil => exact absurd rfl e2 | cons _ _ => rfl) HI _ _ _ (Lib.hid rfl) w hm
  · have HI := Lib.hid (sharedE_of hs)
    cases hn : nameB a with
    | false =>
      cases hq : noSlash a with
      | true => exact ts_c2 a ha b hb hne (Lib.hid hn) (Lib.hid (hL1 hq)) _ _ _ n1 n2 n3 x1 x2 x3 HI (Lib.hid (sharedE_of (by rw [hno hq, hn]; rfl))) w hm
      | false => exact ts_c3 a ha b hb hne (Lib.hid hn) _ (Lib.hid rfl) (hL2 hq) _ _ _ n1 n2 n3 x1 x2 x3 HI _ _ _ (Lib.hid rfl) w hm
    | true =>
      cases hq : noSlash a with
      | false => exact ts_c6 a ha b hb hne (Lib.hid hn) _ (Lib.hid rfl) (hL2 hq) _ _ _ n1 n2 n3 x1 x2 x3 HI _ _ _ (Lib.hid rfl) w hm
      | true =>
        cases hf : filterB b with
        | true => exact ts_c4 a ha b hb hne (Lib.hid hn) (Lib.hid (hL1 hq)) (Lib.hid hf) _ _ _ n1 n2 n3 x1 x2 x3 HI (Lib.hid (sharedE_of (by rw [hno hq, hn, hf]; rfl))) w hm
        | false => exact ts_c5 a ha b hb hne (Lib.hid hn) (Lib.hid (hL1 hq)) (Lib.hid hf) _ _ _ n1 n2 n3 x1 x2 x3 HI (Lib.hid (sharedE_of (by rw [hno hq, hn, hf]; rfl))) w hm
end Go.Proofs.YthifcodiphglaaaDoor
