/- TopicWithin. -/
import Derived.Test.YthifcodiphglaaaDoorTopP
import Derived.Test.YthifcodiphglaaaDoorTopC
namespace Go.Proofs.YthifcodiphglaaaDoor
open Go.RowKit
set_option linter.unusedVariables false

set_option maxRecDepth 100000 in
theorem topicWithin_long (a b c x : List UInt8) (h : 200 < a.length ∨ (a.length ≤ 200 ∧ 200 < b.length) ∨ (a.length ≤ 200 ∧ b.length ≤ 200 ∧ 200 < c.length) ∨ (a.length ≤ 200 ∧ b.length ≤ 200 ∧ c.length ≤ 200 ∧ 200 < x.length)) (w : World) (hm : Mx w) :
    Calls Tryd.prog 3 #[.string ⟨a.toArray⟩, .string ⟨b.toArray⟩, .string ⟨c.toArray⟩, .string ⟨x.toArray⟩] w fun e w' => e = .returned (.bool true) ∧ Below w.heap.size w w' := by
  rcases h with h | ⟨h, h2⟩ | ⟨h, h2, h3⟩ | ⟨h, h2, h3, h4⟩
  all_goals
    go_enter Tryd.func3, Tryd.ntmps3
    go_wp2_with fail
    refine (lives04 _ hm).mono ?_
    rintro e w1 ⟨rfl, hb⟩
    go_wp2_with fail
    go_ret
    exact ⟨rfl, hb⟩

set_option maxRecDepth 100000 in
set_option maxHeartbeats 800000 in
theorem tw_0 (a b c x : List UInt8) (ha : a.length ≤ 200) (hb : b.length ≤ 200) (hc : c.length ≤ 200) (hx : x.length ≤ 200) (HR : Hid (withinB a a = filterB a)) (Hwab : Hid (withinB a b = false)) (Hnma : Hid (nameB a = false)) (w : World) (hm : Mx w) :
    Calls Tryd.prog 3 #[.string ⟨a.toArray⟩, .string ⟨b.toArray⟩, .string ⟨c.toArray⟩, .string ⟨x.toArray⟩] w fun e w' => e = .returned (.bool true) ∧ Below w.heap.size w w' := by
  go_enter Tryd.func3, Tryd.ntmps3
  have hB0 : Below w.heap.size w w := Below.refl _ _
  go_wp2_with fail
  refine (lives04 _ (hm.next hB0)).mono ?_
  rintro e w1 ⟨rfl, hb⟩
  have hB1 := hB0.trans (hb.mono hB0.size)
  clear hb
  go_wp2_with fail
  refine (filter_any a (by omega) _ (hm.next hB1)).mono ?_
  rintro e w2 ⟨rfl, hb⟩
  have hB2 := hB1.trans (hb.mono hB1.size)
  clear hb
  go_wp2_with fail
  refine (within_any a a (by omega) (by omega) _ (hm.next hB2)).mono ?_
  rintro e w3 ⟨rfl, hb⟩
  rw [HR.out]
  have hB3 := hB2.trans (hb.mono hB2.size)
  clear hb
  go_wp2_with fail
  refine (within_any a b (by omega) (by omega) _ (hm.next hB3)).mono ?_
  rintro e w4 ⟨rfl, hb⟩
  rw [Hwab.out]
  have hB4 := hB3.trans (hb.mono hB3.size)
  clear hb
  go_wp2_with fail
  refine (name_any a (by omega) _).mono ?_
  rintro e w5 ⟨rfl, hb⟩
  rw [Hnma.out]
  have hB5 := hB4.trans (hb.mono hB4.size)
  clear hb
  go_wp2
  go_ret
  exact ⟨rfl, hB5⟩

set_option maxRecDepth 100000 in
set_option maxHeartbeats 800000 in
theorem tw_0n (a b c x : List UInt8) (ha : a.length ≤ 200) (hb : b.length ≤ 200) (hc : c.length ≤ 200) (hx : x.length ≤ 200) (HR : Hid (withinB a a = filterB a)) (Hwab : Hid (withinB a b = false)) (Hnma : Hid (nameB a = true)) (Hmba : Hid (matchesB b a = false)) (w : World) (hm : Mx w) :
    Calls Tryd.prog 3 #[.string ⟨a.toArray⟩, .string ⟨b.toArray⟩, .string ⟨c.toArray⟩, .string ⟨x.toArray⟩] w fun e w' => e = .returned (.bool true) ∧ Below w.heap.size w w' := by
  go_enter Tryd.func3, Tryd.ntmps3
  have hB0 : Below w.heap.size w w := Below.refl _ _
  go_wp2_with fail
  refine (lives04 _ (hm.next hB0)).mono ?_
  rintro e w1 ⟨rfl, hb⟩
  have hB1 := hB0.trans (hb.mono hB0.size)
  clear hb
  go_wp2_with fail
  refine (filter_any a (by omega) _ (hm.next hB1)).mono ?_
  rintro e w2 ⟨rfl, hb⟩
  have hB2 := hB1.trans (hb.mono hB1.size)
  clear hb
  go_wp2_with fail
  refine (within_any a a (by omega) (by omega) _ (hm.next hB2)).mono ?_
  rintro e w3 ⟨rfl, hb⟩
  rw [HR.out]
  have hB3 := hB2.trans (hb.mono hB2.size)
  clear hb
  go_wp2_with fail
  refine (within_any a b (by omega) (by omega) _ (hm.next hB3)).mono ?_
  rintro e w4 ⟨rfl, hb⟩
  rw [Hwab.out]
  have hB4 := hB3.trans (hb.mono hB3.size)
  clear hb
  go_wp2_with fail
  refine (name_any a (by omega) _).mono ?_
  rintro e w5 ⟨rfl, hb⟩
  rw [Hnma.out]
  have hB5 := hB4.trans (hb.mono hB4.size)
  clear hb
  go_wp2_with fail
  refine (within_any a b (by omega) (by omega) _ (hm.next hB5)).mono ?_
  rintro e w6 ⟨rfl, hb⟩
  rw [Hwab.out]
  have hB6 := hB5.trans (hb.mono hB5.size)
  clear hb
  go_wp2_with fail
  refine (matches_any b a (by omega) (by omega) _ (hm.next hB6)).mono ?_
  rintro e w7 ⟨rfl, hb⟩
  rw [Hmba.out]
  have hB7 := hB6.trans (hb.mono hB6.size)
  clear hb
  go_wp2
  go_ret
  exact ⟨rfl, hB7⟩

set_option maxRecDepth 100000 in
set_option maxHeartbeats 800000 in
theorem tw_1 (a b c x : List UInt8) (ha : a.length ≤ 200) (hb : b.length ≤ 200) (hc : c.length ≤ 200) (hx : x.length ≤ 200) (HR : Hid (withinB a a = filterB a)) (Hwab : Hid (withinB a b = true)) (Hmax : Hid (matchesB a x = true)) (Hmbx : Hid (matchesB b x = true)) (Hwbc : Hid (withinB b c = false)) (Hnma : Hid (nameB a = false)) (w : World) (hm : Mx w) :
    Calls Tryd.prog 3 #[.string ⟨a.toArray⟩, .string ⟨b.toArray⟩, .string ⟨c.toArray⟩, .string ⟨x.toArray⟩] w fun e w' => e = .returned (.bool true) ∧ Below w.heap.size w w' := by
  go_enter Tryd.func3, Tryd.ntmps3
  have hB0 : Below w.heap.size w w := Below.refl _ _
  go_wp2_with fail
  refine (lives04 _ (hm.next hB0)).mono ?_
  rintro e w1 ⟨rfl, hb⟩
  have hB1 := hB0.trans (hb.mono hB0.size)
  clear hb
  go_wp2_with fail
  refine (filter_any a (by omega) _ (hm.next hB1)).mono ?_
  rintro e w2 ⟨rfl, hb⟩
  have hB2 := hB1.trans (hb.mono hB1.size)
  clear hb
  go_wp2_with fail
  refine (within_any a a (by omega) (by omega) _ (hm.next hB2)).mono ?_
  rintro e w3 ⟨rfl, hb⟩
  rw [HR.out]
  have hB3 := hB2.trans (hb.mono hB2.size)
  clear hb
  go_wp2_with fail
  refine (within_any a b (by omega) (by omega) _ (hm.next hB3)).mono ?_
  rintro e w4 ⟨rfl, hb⟩
  rw [Hwab.out]
  have hB4 := hB3.trans (hb.mono hB3.size)
  clear hb
  go_wp2_with fail
  refine (matches_any a x (by omega) (by omega) _ (hm.next hB4)).mono ?_
  rintro e w5 ⟨rfl, hb⟩
  rw [Hmax.out]
  have hB5 := hB4.trans (hb.mono hB4.size)
  clear hb
  go_wp2_with fail
  refine (matches_any b x (by omega) (by omega) _ (hm.next hB5)).mono ?_
  rintro e w6 ⟨rfl, hb⟩
  rw [Hmbx.out]
  have hB6 := hB5.trans (hb.mono hB5.size)
  clear hb
  go_wp2_with fail
  refine (within_any b c (by omega) (by omega) _ (hm.next hB6)).mono ?_
  rintro e w7 ⟨rfl, hb⟩
  rw [Hwbc.out]
  have hB7 := hB6.trans (hb.mono hB6.size)
  clear hb
  go_wp2_with fail
  refine (name_any a (by omega) _).mono ?_
  rintro e w8 ⟨rfl, hb⟩
  rw [Hnma.out]
  have hB8 := hB7.trans (hb.mono hB7.size)
  clear hb
  go_wp2
  go_ret
  exact ⟨rfl, hB8⟩

set_option maxRecDepth 100000 in
set_option maxHeartbeats 800000 in
theorem tw_1n (a b c x : List UInt8) (ha : a.length ≤ 200) (hb : b.length ≤ 200) (hc : c.length ≤ 200) (hx : x.length ≤ 200) (HR : Hid (withinB a a = filterB a)) (Hwab : Hid (withinB a b = true)) (Hmax : Hid (matchesB a x = true)) (Hmbx : Hid (matchesB b x = true)) (Hwbc : Hid (withinB b c = false)) (Hnma : Hid (nameB a = true)) (Hmba : Hid (matchesB b a = true)) (w : World) (hm : Mx w) :
    Calls Tryd.prog 3 #[.string ⟨a.toArray⟩, .string ⟨b.toArray⟩, .string ⟨c.toArray⟩, .string ⟨x.toArray⟩] w fun e w' => e = .returned (.bool true) ∧ Below w.heap.size w w' := by
  go_enter Tryd.func3, Tryd.ntmps3
  have hB0 : Below w.heap.size w w := Below.refl _ _
  go_wp2_with fail
  refine (lives04 _ (hm.next hB0)).mono ?_
  rintro e w1 ⟨rfl, hb⟩
  have hB1 := hB0.trans (hb.mono hB0.size)
  clear hb
  go_wp2_with fail
  refine (filter_any a (by omega) _ (hm.next hB1)).mono ?_
  rintro e w2 ⟨rfl, hb⟩
  have hB2 := hB1.trans (hb.mono hB1.size)
  clear hb
  go_wp2_with fail
  refine (within_any a a (by omega) (by omega) _ (hm.next hB2)).mono ?_
  rintro e w3 ⟨rfl, hb⟩
  rw [HR.out]
  have hB3 := hB2.trans (hb.mono hB2.size)
  clear hb
  go_wp2_with fail
  refine (within_any a b (by omega) (by omega) _ (hm.next hB3)).mono ?_
  rintro e w4 ⟨rfl, hb⟩
  rw [Hwab.out]
  have hB4 := hB3.trans (hb.mono hB3.size)
  clear hb
  go_wp2_with fail
  refine (matches_any a x (by omega) (by omega) _ (hm.next hB4)).mono ?_
  rintro e w5 ⟨rfl, hb⟩
  rw [Hmax.out]
  have hB5 := hB4.trans (hb.mono hB4.size)
  clear hb
  go_wp2_with fail
  refine (matches_any b x (by omega) (by omega) _ (hm.next hB5)).mono ?_
  rintro e w6 ⟨rfl, hb⟩
  rw [Hmbx.out]
  have hB6 := hB5.trans (hb.mono hB5.size)
  clear hb
  go_wp2_with fail
  refine (within_any b c (by omega) (by omega) _ (hm.next hB6)).mono ?_
  rintro e w7 ⟨rfl, hb⟩
  rw [Hwbc.out]
  have hB7 := hB6.trans (hb.mono hB6.size)
  clear hb
  go_wp2_with fail
  refine (name_any a (by omega) _).mono ?_
  rintro e w8 ⟨rfl, hb⟩
  rw [Hnma.out]
  have hB8 := hB7.trans (hb.mono hB7.size)
  clear hb
  go_wp2_with fail
  refine (within_any a b (by omega) (by omega) _ (hm.next hB8)).mono ?_
  rintro e w9 ⟨rfl, hb⟩
  rw [Hwab.out]
  have hB9 := hB8.trans (hb.mono hB8.size)
  clear hb
  go_wp2_with fail
  refine (matches_any b a (by omega) (by omega) _ (hm.next hB9)).mono ?_
  rintro e w10 ⟨rfl, hb⟩
  rw [Hmba.out]
  have hB10 := hB9.trans (hb.mono hB9.size)
  clear hb
  go_wp2
  go_ret
  exact ⟨rfl, hB10⟩

set_option maxRecDepth 100000 in
set_option maxHeartbeats 800000 in
theorem tw_2 (a b c x : List UInt8) (ha : a.length ≤ 200) (hb : b.length ≤ 200) (hc : c.length ≤ 200) (hx : x.length ≤ 200) (HR : Hid (withinB a a = filterB a)) (Hwab : Hid (withinB a b = true)) (Hmax : Hid (matchesB a x = true)) (Hmbx : Hid (matchesB b x = true)) (Hwbc : Hid (withinB b c = true)) (Hwac : Hid (withinB a c = true)) (Hnma : Hid (nameB a = false)) (w : World) (hm : Mx w) :
    Calls Tryd.prog 3 #[.string ⟨a.toArray⟩, .string ⟨b.toArray⟩, .string ⟨c.toArray⟩, .string ⟨x.toArray⟩] w fun e w' => e = .returned (.bool true) ∧ Below w.heap.size w w' := by
  go_enter Tryd.func3, Tryd.ntmps3
  have hB0 : Below w.heap.size w w := Below.refl _ _
  go_wp2_with fail
  refine (lives04 _ (hm.next hB0)).mono ?_
  rintro e w1 ⟨rfl, hb⟩
  have hB1 := hB0.trans (hb.mono hB0.size)
  clear hb
  go_wp2_with fail
  refine (filter_any a (by omega) _ (hm.next hB1)).mono ?_
  rintro e w2 ⟨rfl, hb⟩
  have hB2 := hB1.trans (hb.mono hB1.size)
  clear hb
  go_wp2_with fail
  refine (within_any a a (by omega) (by omega) _ (hm.next hB2)).mono ?_
  rintro e w3 ⟨rfl, hb⟩
  rw [HR.out]
  have hB3 := hB2.trans (hb.mono hB2.size)
  clear hb
  go_wp2_with fail
  refine (within_any a b (by omega) (by omega) _ (hm.next hB3)).mono ?_
  rintro e w4 ⟨rfl, hb⟩
  rw [Hwab.out]
  have hB4 := hB3.trans (hb.mono hB3.size)
  clear hb
  go_wp2_with fail
  refine (matches_any a x (by omega) (by omega) _ (hm.next hB4)).mono ?_
  rintro e w5 ⟨rfl, hb⟩
  rw [Hmax.out]
  have hB5 := hB4.trans (hb.mono hB4.size)
  clear hb
  go_wp2_with fail
  refine (matches_any b x (by omega) (by omega) _ (hm.next hB5)).mono ?_
  rintro e w6 ⟨rfl, hb⟩
  rw [Hmbx.out]
  have hB6 := hB5.trans (hb.mono hB5.size)
  clear hb
  go_wp2_with fail
  refine (within_any b c (by omega) (by omega) _ (hm.next hB6)).mono ?_
  rintro e w7 ⟨rfl, hb⟩
  rw [Hwbc.out]
  have hB7 := hB6.trans (hb.mono hB6.size)
  clear hb
  go_wp2_with fail
  refine (within_any a c (by omega) (by omega) _ (hm.next hB7)).mono ?_
  rintro e w8 ⟨rfl, hb⟩
  rw [Hwac.out]
  have hB8 := hB7.trans (hb.mono hB7.size)
  clear hb
  go_wp2_with fail
  refine (name_any a (by omega) _).mono ?_
  rintro e w9 ⟨rfl, hb⟩
  rw [Hnma.out]
  have hB9 := hB8.trans (hb.mono hB8.size)
  clear hb
  go_wp2
  go_ret
  exact ⟨rfl, hB9⟩

set_option maxRecDepth 100000 in
set_option maxHeartbeats 800000 in
theorem tw_2n (a b c x : List UInt8) (ha : a.length ≤ 200) (hb : b.length ≤ 200) (hc : c.length ≤ 200) (hx : x.length ≤ 200) (HR : Hid (withinB a a = filterB a)) (Hwab : Hid (withinB a b = true)) (Hmax : Hid (matchesB a x = true)) (Hmbx : Hid (matchesB b x = true)) (Hwbc : Hid (withinB b c = true)) (Hwac : Hid (withinB a c = true)) (Hnma : Hid (nameB a = true)) (Hmba : Hid (matchesB b a = true)) (w : World) (hm : Mx w) :
    Calls Tryd.prog 3 #[.string ⟨a.toArray⟩, .string ⟨b.toArray⟩, .string ⟨c.toArray⟩, .string ⟨x.toArray⟩] w fun e w' => e = .returned (.bool true) ∧ Below w.heap.size w w' := by
  go_enter Tryd.func3, Tryd.ntmps3
  have hB0 : Below w.heap.size w w := Below.refl _ _
  go_wp2_with fail
  refine (lives04 _ (hm.next hB0)).mono ?_
  rintro e w1 ⟨rfl, hb⟩
  have hB1 := hB0.trans (hb.mono hB0.size)
  clear hb
  go_wp2_with fail
  refine (filter_any a (by omega) _ (hm.next hB1)).mono ?_
  rintro e w2 ⟨rfl, hb⟩
  have hB2 := hB1.trans (hb.mono hB1.size)
  clear hb
  go_wp2_with fail
  refine (within_any a a (by omega) (by omega) _ (hm.next hB2)).mono ?_
  rintro e w3 ⟨rfl, hb⟩
  rw [HR.out]
  have hB3 := hB2.trans (hb.mono hB2.size)
  clear hb
  go_wp2_with fail
  refine (within_any a b (by omega) (by omega) _ (hm.next hB3)).mono ?_
  rintro e w4 ⟨rfl, hb⟩
  rw [Hwab.out]
  have hB4 := hB3.trans (hb.mono hB3.size)
  clear hb
  go_wp2_with fail
  refine (matches_any a x (by omega) (by omega) _ (hm.next hB4)).mono ?_
  rintro e w5 ⟨rfl, hb⟩
  rw [Hmax.out]
  have hB5 := hB4.trans (hb.mono hB4.size)
  clear hb
  go_wp2_with fail
  refine (matches_any b x (by omega) (by omega) _ (hm.next hB5)).mono ?_
  rintro e w6 ⟨rfl, hb⟩
  rw [Hmbx.out]
  have hB6 := hB5.trans (hb.mono hB5.size)
  clear hb
  go_wp2_with fail
  refine (within_any b c (by omega) (by omega) _ (hm.next hB6)).mono ?_
  rintro e w7 ⟨rfl, hb⟩
  rw [Hwbc.out]
  have hB7 := hB6.trans (hb.mono hB6.size)
  clear hb
  go_wp2_with fail
  refine (within_any a c (by omega) (by omega) _ (hm.next hB7)).mono ?_
  rintro e w8 ⟨rfl, hb⟩
  rw [Hwac.out]
  have hB8 := hB7.trans (hb.mono hB7.size)
  clear hb
  go_wp2_with fail
  refine (name_any a (by omega) _).mono ?_
  rintro e w9 ⟨rfl, hb⟩
  rw [Hnma.out]
  have hB9 := hB8.trans (hb.mono hB8.size)
  clear hb
  go_wp2_with fail
  refine (within_any a b (by omega) (by omega) _ (hm.next hB9)).mono ?_
  rintro e w10 ⟨rfl, hb⟩
  rw [Hwab.out]
  have hB10 := hB9.trans (hb.mono hB9.size)
  clear hb
  go_wp2_with fail
  refine (matches_any b a (by omega) (by omega) _ (hm.next hB10)).mono ?_
  rintro e w11 ⟨rfl, hb⟩
  rw [Hmba.out]
  have hB11 := hB10.trans (hb.mono hB10.size)
  clear hb
  go_wp2
  go_ret
  exact ⟨rfl, hB11⟩

set_option maxRecDepth 100000 in
set_option maxHeartbeats 800000 in
theorem tw_3 (a b c x : List UInt8) (ha : a.length ≤ 200) (hb : b.length ≤ 200) (hc : c.length ≤ 200) (hx : x.length ≤ 200) (HR : Hid (withinB a a = filterB a)) (Hwab : Hid (withinB a b = true)) (Hmax : Hid (matchesB a x = false)) (Hwbc : Hid (withinB b c = false)) (Hnma : Hid (nameB a = false)) (w : World) (hm : Mx w) :
    Calls Tryd.prog 3 #[.string ⟨a.toArray⟩, .string ⟨b.toArray⟩, .string ⟨c.toArray⟩, .string ⟨x.toArray⟩] w fun e w' => e = .returned (.bool true) ∧ Below w.heap.size w w' := by
  go_enter Tryd.func3, Tryd.ntmps3
  have hB0 : Below w.heap.size w w := Below.refl _ _
  go_wp2_with fail
  refine (lives04 _ (hm.next hB0)).mono ?_
  rintro e w1 ⟨rfl, hb⟩
  have hB1 := hB0.trans (hb.mono hB0.size)
  clear hb
  go_wp2_with fail
  refine (filter_any a (by omega) _ (hm.next hB1)).mono ?_
  rintro e w2 ⟨rfl, hb⟩
  have hB2 := hB1.trans (hb.mono hB1.size)
  clear hb
  go_wp2_with fail
  refine (within_any a a (by omega) (by omega) _ (hm.next hB2)).mono ?_
  rintro e w3 ⟨rfl, hb⟩
  rw [HR.out]
  have hB3 := hB2.trans (hb.mono hB2.size)
  clear hb
  go_wp2_with fail
  refine (within_any a b (by omega) (by omega) _ (hm.next hB3)).mono ?_
  rintro e w4 ⟨rfl, hb⟩
  rw [Hwab.out]
  have hB4 := hB3.trans (hb.mono hB3.size)
  clear hb
  go_wp2_with fail
  refine (matches_any a x (by omega) (by omega) _ (hm.next hB4)).mono ?_
  rintro e w5 ⟨rfl, hb⟩
  rw [Hmax.out]
  have hB5 := hB4.trans (hb.mono hB4.size)
  clear hb
  go_wp2_with fail
  refine (within_any b c (by omega) (by omega) _ (hm.next hB5)).mono ?_
  rintro e w6 ⟨rfl, hb⟩
  rw [Hwbc.out]
  have hB6 := hB5.trans (hb.mono hB5.size)
  clear hb
  go_wp2_with fail
  refine (name_any a (by omega) _).mono ?_
  rintro e w7 ⟨rfl, hb⟩
  rw [Hnma.out]
  have hB7 := hB6.trans (hb.mono hB6.size)
  clear hb
  go_wp2
  go_ret
  exact ⟨rfl, hB7⟩

set_option maxRecDepth 100000 in
set_option maxHeartbeats 800000 in
theorem tw_3n (a b c x : List UInt8) (ha : a.length ≤ 200) (hb : b.length ≤ 200) (hc : c.length ≤ 200) (hx : x.length ≤ 200) (HR : Hid (withinB a a = filterB a)) (Hwab : Hid (withinB a b = true)) (Hmax : Hid (matchesB a x = false)) (Hwbc : Hid (withinB b c = false)) (Hnma : Hid (nameB a = true)) (Hmba : Hid (matchesB b a = true)) (w : World) (hm : Mx w) :
    Calls Tryd.prog 3 #[.string ⟨a.toArray⟩, .string ⟨b.toArray⟩, .string ⟨c.toArray⟩, .string ⟨x.toArray⟩] w fun e w' => e = .returned (.bool true) ∧ Below w.heap.size w w' := by
  go_enter Tryd.func3, Tryd.ntmps3
  have hB0 : Below w.heap.size w w := Below.refl _ _
  go_wp2_with fail
  refine (lives04 _ (hm.next hB0)).mono ?_
  rintro e w1 ⟨rfl, hb⟩
  have hB1 := hB0.trans (hb.mono hB0.size)
  clear hb
  go_wp2_with fail
  refine (filter_any a (by omega) _ (hm.next hB1)).mono ?_
  rintro e w2 ⟨rfl, hb⟩
  have hB2 := hB1.trans (hb.mono hB1.size)
  clear hb
  go_wp2_with fail
  refine (within_any a a (by omega) (by omega) _ (hm.next hB2)).mono ?_
  rintro e w3 ⟨rfl, hb⟩
  rw [HR.out]
  have hB3 := hB2.trans (hb.mono hB2.size)
  clear hb
  go_wp2_with fail
  refine (within_any a b (by omega) (by omega) _ (hm.next hB3)).mono ?_
  rintro e w4 ⟨rfl, hb⟩
  rw [Hwab.out]
  have hB4 := hB3.trans (hb.mono hB3.size)
  clear hb
  go_wp2_with fail
  refine (matches_any a x (by omega) (by omega) _ (hm.next hB4)).mono ?_
  rintro e w5 ⟨rfl, hb⟩
  rw [Hmax.out]
  have hB5 := hB4.trans (hb.mono hB4.size)
  clear hb
  go_wp2_with fail
  refine (within_any b c (by omega) (by omega) _ (hm.next hB5)).mono ?_
  rintro e w6 ⟨rfl, hb⟩
  rw [Hwbc.out]
  have hB6 := hB5.trans (hb.mono hB5.size)
  clear hb
  go_wp2_with fail
  refine (name_any a (by omega) _).mono ?_
  rintro e w7 ⟨rfl, hb⟩
  rw [Hnma.out]
  have hB7 := hB6.trans (hb.mono hB6.size)
  clear hb
  go_wp2_with fail
  refine (within_any a b (by omega) (by omega) _ (hm.next hB7)).mono ?_
  rintro e w8 ⟨rfl, hb⟩
  rw [Hwab.out]
  have hB8 := hB7.trans (hb.mono hB7.size)
  clear hb
  go_wp2_with fail
  refine (matches_any b a (by omega) (by omega) _ (hm.next hB8)).mono ?_
  rintro e w9 ⟨rfl, hb⟩
  rw [Hmba.out]
  have hB9 := hB8.trans (hb.mono hB8.size)
  clear hb
  go_wp2
  go_ret
  exact ⟨rfl, hB9⟩

set_option maxRecDepth 100000 in
set_option maxHeartbeats 800000 in
theorem tw_4 (a b c x : List UInt8) (ha : a.length ≤ 200) (hb : b.length ≤ 200) (hc : c.length ≤ 200) (hx : x.length ≤ 200) (HR : Hid (withinB a a = filterB a)) (Hwab : Hid (withinB a b = true)) (Hmax : Hid (matchesB a x = false)) (Hwbc : Hid (withinB b c = true)) (Hwac : Hid (withinB a c = true)) (Hnma : Hid (nameB a = false)) (w : World) (hm : Mx w) :
    Calls Tryd.prog 3 #[.string ⟨a.toArray⟩, .string ⟨b.toArray⟩, .string ⟨c.toArray⟩, .string ⟨x.toArray⟩] w fun e w' => e = .returned (.bool true) ∧ Below w.heap.size w w' := by
  go_enter Tryd.func3, Tryd.ntmps3
  have hB0 : Below w.heap.size w w := Below.refl _ _
  go_wp2_with fail
  refine (lives04 _ (hm.next hB0)).mono ?_
  rintro e w1 ⟨rfl, hb⟩
  have hB1 := hB0.trans (hb.mono hB0.size)
  clear hb
  go_wp2_with fail
  refine (filter_any a (by omega) _ (hm.next hB1)).mono ?_
  rintro e w2 ⟨rfl, hb⟩
  have hB2 := hB1.trans (hb.mono hB1.size)
  clear hb
  go_wp2_with fail
  refine (within_any a a (by omega) (by omega) _ (hm.next hB2)).mono ?_
  rintro e w3 ⟨rfl, hb⟩
  rw [HR.out]
  have hB3 := hB2.trans (hb.mono hB2.size)
  clear hb
  go_wp2_with fail
  refine (within_any a b (by omega) (by omega) _ (hm.next hB3)).mono ?_
  rintro e w4 ⟨rfl, hb⟩
  rw [Hwab.out]
  have hB4 := hB3.trans (hb.mono hB3.size)
  clear hb
  go_wp2_with fail
  refine (matches_any a x (by omega) (by omega) _ (hm.next hB4)).mono ?_
  rintro e w5 ⟨rfl, hb⟩
  rw [Hmax.out]
  have hB5 := hB4.trans (hb.mono hB4.size)
  clear hb
  go_wp2_with fail
  refine (within_any b c (by omega) (by omega) _ (hm.next hB5)).mono ?_
  rintro e w6 ⟨rfl, hb⟩
  rw [Hwbc.out]
  have hB6 := hB5.trans (hb.mono hB5.size)
  clear hb
  go_wp2_with fail
  refine (within_any a c (by omega) (by omega) _ (hm.next hB6)).mono ?_
  rintro e w7 ⟨rfl, hb⟩
  rw [Hwac.out]
  have hB7 := hB6.trans (hb.mono hB6.size)
  clear hb
  go_wp2_with fail
  refine (name_any a (by omega) _).mono ?_
  rintro e w8 ⟨rfl, hb⟩
  rw [Hnma.out]
  have hB8 := hB7.trans (hb.mono hB7.size)
  clear hb
  go_wp2
  go_ret
  exact ⟨rfl, hB8⟩

set_option maxRecDepth 100000 in
set_option maxHeartbeats 800000 in
theorem tw_4n (a b c x : List UInt8) (ha : a.length ≤ 200) (hb : b.length ≤ 200) (hc : c.length ≤ 200) (hx : x.length ≤ 200) (HR : Hid (withinB a a = filterB a)) (Hwab : Hid (withinB a b = true)) (Hmax : Hid (matchesB a x = false)) (Hwbc : Hid (withinB b c = true)) (Hwac : Hid (withinB a c = true)) (Hnma : Hid (nameB a = true)) (Hmba : Hid (matchesB b a = true)) (w : World) (hm : Mx w) :
    Calls Tryd.prog 3 #[.string ⟨a.toArray⟩, .string ⟨b.toArray⟩, .string ⟨c.toArray⟩, .string ⟨x.toArray⟩] w fun e w' => e = .returned (.bool true) ∧ Below w.heap.size w w' := by
  go_enter Tryd.func3, Tryd.ntmps3
  have hB0 : Below w.heap.size w w := Below.refl _ _
  go_wp2_with fail
  refine (lives04 _ (hm.next hB0)).mono ?_
  rintro e w1 ⟨rfl, hb⟩
  have hB1 := hB0.trans (hb.mono hB0.size)
  clear hb
  go_wp2_with fail
  refine (filter_any a (by omega) _ (hm.next hB1)).mono ?_
  rintro e w2 ⟨rfl, hb⟩
  have hB2 := hB1.trans (hb.mono hB1.size)
  clear hb
  go_wp2_with fail
  refine (within_any a a (by omega) (by omega) _ (hm.next hB2)).mono ?_
  rintro e w3 ⟨rfl, hb⟩
  rw [HR.out]
  have hB3 := hB2.trans (hb.mono hB2.size)
  clear hb
  go_wp2_with fail
  refine (within_any a b (by omega) (by omega) _ (hm.next hB3)).mono ?_
  rintro e w4 ⟨rfl, hb⟩
  rw [Hwab.out]
  have hB4 := hB3.trans (hb.mono hB3.size)
  clear hb
  go_wp2_with fail
  refine (matches_any a x (by omega) (by omega) _ (hm.next hB4)).mono ?_
  rintro e w5 ⟨rfl, hb⟩
  rw [Hmax.out]
  have hB5 := hB4.trans (hb.mono hB4.size)
  clear hb
  go_wp2_with fail
  refine (within_any b c (by omega) (by omega) _ (hm.next hB5)).mono ?_
  rintro e w6 ⟨rfl, hb⟩
  rw [Hwbc.out]
  have hB6 := hB5.trans (hb.mono hB5.size)
  clear hb
  go_wp2_with fail
  refine (within_any a c (by omega) (by omega) _ (hm.next hB6)).mono ?_
  rintro e w7 ⟨rfl, hb⟩
  rw [Hwac.out]
  have hB7 := hB6.trans (hb.mono hB6.size)
  clear hb
  go_wp2_with fail
  refine (name_any a (by omega) _).mono ?_
  rintro e w8 ⟨rfl, hb⟩
  rw [Hnma.out]
  have hB8 := hB7.trans (hb.mono hB7.size)
  clear hb
  go_wp2_with fail
  refine (within_any a b (by omega) (by omega) _ (hm.next hB8)).mono ?_
  rintro e w9 ⟨rfl, hb⟩
  rw [Hwab.out]
  have hB9 := hB8.trans (hb.mono hB8.size)
  clear hb
  go_wp2_with fail
  refine (matches_any b a (by omega) (by omega) _ (hm.next hB9)).mono ?_
  rintro e w10 ⟨rfl, hb⟩
  rw [Hmba.out]
  have hB10 := hB9.trans (hb.mono hB9.size)
  clear hb
  go_wp2
  go_ret
  exact ⟨rfl, hB10⟩

theorem topicWithin_walk (a b c x : List UInt8) (w : World) (hm : Mx w) :
    Calls Tryd.prog 3 #[.string ⟨a.toArray⟩, .string ⟨b.toArray⟩, .string ⟨c.toArray⟩, .string ⟨x.toArray⟩] w fun e w' => e = .returned (.bool true) ∧ Below w.heap.size w w' := by
  by_cases ha : a.length ≤ 200
  rotate_left
  · exact topicWithin_long a b c x (by omega) w hm
  by_cases hb : b.length ≤ 200
  rotate_left
  · exact topicWithin_long a b c x (by omega) w hm
  by_cases hc : c.length ≤ 200
  rotate_left
  · exact topicWithin_long a b c x (by omega) w hm
  by_cases hx : x.length ≤ 200
  rotate_left
  · exact topicWithin_long a b c x (by omega) w hm
  have HR := Lib.hid (within_refl a)
  cases h1 : withinB a b with
  | false =>
    cases hn : nameB a with
    | false => exact tw_0 a b c x ha hb hc hx HR (Lib.hid h1) (Lib.hid hn) w hm
    | true => exact tw_0n a b c x ha hb hc hx HR (Lib.hid h1) (Lib.hid hn) (Lib.hid ((within_name hn).symm.trans h1)) w hm
  | true =>
  cases h2 : matchesB a x with
  | true =>
    have h3 := within_matches h1 h2
    cases h4 : withinB b c with
    | false =>
      cases hn : nameB a with
      | false => exact tw_1 a b c x ha hb hc hx HR (Lib.hid h1) (Lib.hid h2) (Lib.hid h3) (Lib.hid h4) (Lib.hid hn) w hm
      | true => exact tw_1n a b c x ha hb hc hx HR (Lib.hid h1) (Lib.hid h2) (Lib.hid h3) (Lib.hid h4) (Lib.hid hn) (Lib.hid ((within_name hn).symm.trans h1)) w hm
    | true =>
      have h5 := within_trans h1 h4
      cases hn : nameB a with
      | false => exact tw_2 a b c x ha hb hc hx HR (Lib.hid h1) (Lib.hid h2) (Lib.hid h3) (Lib.hid h4) (Lib.hid h5) (Lib.hid hn) w hm
      | true => exact tw_2n a b c x ha hb hc hx HR (Lib.hid h1) (Lib.hid h2) (Lib.hid h3) (Lib.hid h4) (Lib.hid h5) (Lib.hid hn) (Lib.hid ((within_name hn).symm.trans h1)) w hm
  | false =>
    cases h4 : withinB b c with
    | false =>
      cases hn : nameB a with
      | false => exact tw_3 a b c x ha hb hc hx HR (Lib.hid h1) (Lib.hid h2) (Lib.hid h4) (Lib.hid hn) w hm
      | true => exact tw_3n a b c x ha hb hc hx HR (Lib.hid h1) (Lib.hid h2) (Lib.hid h4) (Lib.hid hn) (Lib.hid ((within_name hn).symm.trans h1)) w hm
    | true =>
      have h5 := within_trans h1 h4
      cases hn : nameB a with
      | false => exact tw_4 a b c x ha hb hc hx HR (Lib.hid h1) (Lib.hid h2) (Lib.hid h4) (Lib.hid h5) (Lib.hid hn) w hm
      | true => exact tw_4n a b c x ha hb hc hx HR (Lib.hid h1) (Lib.hid h2) (Lib.hid h4) (Lib.hid h5) (Lib.hid hn) (Lib.hid ((within_name hn).symm.trans h1)) w hm
end Go.Proofs.YthifcodiphglaaaDoor
