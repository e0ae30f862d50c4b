/- ustring: the walks of whole, Bad, Valid, Count. -/
import Derived.Test.YtbacnaplpfmpnaaDoorChecked
import Derived.Test.YtbacnaplpfmpnaaDoorUstB
namespace Go.Proofs.YtbacnaplpfmpnaaDoor
open Go.RowKit

theorem whole_yes (l : List UInt8) (h : l.take 3 = [239, 191, 189]) (h3 : 3 ≤ l.length) (w : World) : Calls Tryd.prog 97 #[.string ⟨l.toArray⟩] w fun e w' => e = .returned (.bool true) ∧ w = w' := by
  have hx : (ByteArray.mk l.toArray).extract 0 3 = ByteArray.mk #[239, 191, 189] := by rw [ByteArray.extract_mk]; simp [h]
  have H := Lib.hid h
  clear h
  go_enter Tryd.func97, Tryd.ntmps97
  go_wp2
  go_ret
  exact ⟨rfl, rfl⟩
theorem whole_no (l : List UInt8) (h : ¬ l.take 3 = [239, 191, 189]) (w : World) : Calls Tryd.prog 97 #[.string ⟨l.toArray⟩] w fun e w' => e = .returned (.bool false) ∧ w = w' := by
  have hx : (ByteArray.mk l.toArray).extract 0 3 = ByteArray.mk (l.take 3).toArray := by rw [ByteArray.extract_mk]; simp
  have hd : (l.take 3 == [239, 191, 189]) = false := beq_eq_false_iff_ne.2 h
  have H := Lib.hid h
  clear h
  by_cases h3 : 3 ≤ l.length
  · go_enter Tryd.func97, Tryd.ntmps97
    go_wp2
    go_ret
    exact ⟨rfl, rfl⟩
  · go_enter Tryd.func97, Tryd.ntmps97
    go_wp2
    go_ret
    exact ⟨ret_val (by simp), rfl⟩

theorem pos_drop {t : List UInt8} {pos : Nat} : (ByteArray.mk t.toArray).extract pos t.length = ByteArray.mk (t.drop pos).toArray := by rw [ByteArray.extract_mk]; simp [List.take_of_length_le]
/-- One step of a range over a text: the code point there; U+FFFD, and one byte, where none is. -/
theorem next_pt {P : Program} (w : World) (t : List UInt8) (pos : Nat) (n z : Nat) (hlt : pos < t.length) (hpt : pt (t.drop pos) = (n, z)) (m y : Nat) (hm : (if z = 0 then (65533, 1) else (n, z)) = (m, y)) (ty : TypeId) :
    (Instr.next (.pointer (some ⟨w.heap.size, 0, none⟩)) true ty).run P (w.iter ⟨t.toArray⟩ pos) = .ok (.tuple #[.bool true, .int .i64 pos, .int .i32 (m : Int)]) (w.iter ⟨t.toArray⟩ (pos + y)) := by
  have h := run_next_any (P := P) w ⟨t.toArray⟩ pos ty hlt
  rw [decode_pt t pos hlt, hpt] at h
  rw [h]
  simp only at hm ⊢
  rw [hm]
theorem iter_below (w : World) (s : ByteArray) (p : Nat) : Below w.heap.size w (w.iter s p) := (Below.refl _ _).alloc (Nat.le_refl _) _
theorem bd_at {t : List UInt8} {pos : Nat} (h : off (t.drop pos) = true) (hlt : pos < t.length) (hb : bd t = (bd (t.drop pos)).map (· + pos)) : badI t = pos := by
  unfold badI
  rw [hb, bd_off (by simp; omega) h]
  simp
theorem bd_go {t : List UInt8} {pos : Nat} (h : off (t.drop pos) = false) (hb : bd t = (bd (t.drop pos)).map (· + pos)) :
    pos + (pt (t.drop pos)).2 ≤ t.length ∧ bd t = (bd (t.drop (pos + (pt (t.drop pos)).2))).map (· + (pos + (pt (t.drop pos)).2)) := by
  have hs := on_size h
  have := hs.2.1
  simp at this
  refine ⟨by omega, ?_⟩
  rw [hb, bd_on h, List.drop_drop, Option.map_map]
  congr 1
  funext x
  simp; omega

set_option maxRecDepth 100000 in
set_option maxHeartbeats 800000 in
theorem bad_any (t : List UInt8) (_ht : (t.length : Int) ≤ 9223372036854775807) (w : World) :
    Calls Tryd.prog 88 #[.string ⟨t.toArray⟩] w fun e w' => e = .returned (.int .i64 (badI t)) ∧ Below w.heap.size w w' := by
  go_enter Tryd.func88, Tryd.ntmps88
  go_wp2
  go_loopw [] (fun wr => ∃ pos, pos ≤ t.length ∧ wr = w.iter ⟨t.toArray⟩ pos ∧ bd t = (bd (t.drop pos)).map (· + pos)) (fun wr => t.length - wr.iterPos w.heap.size)
  case atStart => exact ⟨0, Nat.zero_le _, rfl, by simp⟩
  case round =>
    obtain ⟨pos, hp, rfl, hbd⟩ := hrel
    by_cases hlt : pos < t.length
    · obtain ⟨n, z, hpt⟩ : ∃ n z, pt (t.drop pos) = (n, z) := ⟨_, _, rfl⟩
      have hb := Lib.hid hbd
      have hP := Lib.hid hpt
      have hmx : n ≤ 1114111 := by have := pt_max (t.drop pos); rw [hpt] at this; exact this
      have hx := @pos_drop t pos
      clear hbd
      by_cases hz : z = 0
      · have hnx := next_pt (P := Tryd.prog) w t pos n z hlt hpt 65533 1 (by rw [if_pos hz])
        have hoff : off (t.drop pos) = true := by unfold off; rw [hpt]; simp [hz]
        have hnw : ¬ (t.drop pos).take 3 = [239, 191, 189] := fun e => by rw [pt_whole _ e] at hpt; cases hpt; cases hz
        have HO := Lib.hid (bd_at hoff hlt hb.out)
        clear hpt hz hoff
        go_wp2_with fail
        refine (whole_no _ hnw _).mono ?_
        rintro e w' ⟨rfl, rfl⟩
        go_wp2
        go_ret
        exact ⟨ret_int HO.out.symm, iter_below _ _ _⟩
      · have hnx := next_pt (P := Tryd.prog) w t pos n z hlt hpt n z (by rw [if_neg hz])
        by_cases hn : n = 0
        · have hoff : off (t.drop pos) = true := by unfold off; rw [hpt]; simp [hn]
          have HO := Lib.hid (bd_at hoff hlt hb.out)
          have hd : ((n : Int) == 0) = true := by simp [hn]
          clear hpt hz hoff hn
          go_wp2_with fail
          go_ret
          exact ⟨ret_int HO.out.symm, iter_below _ _ _⟩
        · have hoff : off (t.drop pos) = false := by unfold off; rw [hpt]; simp [hn, hz]
          have hgo := bd_go hoff hb.out
          rw [hpt] at hgo
          have HG := Lib.hid hgo
          have hd : ((n : Int) == 0) = false := by simp [hn]
          have hle := hgo.1
          simp only at hle
          by_cases hf : n = 65533
          · have hd2 : ((n : Int) == 65533) = true := by simp [hf]
            have hw := pt_fffd (t.drop pos) (by rw [hpt]; exact hz) (by rw [hpt]; exact hf)
            have HZ := Lib.hid hz
            clear hpt hz hoff hn hf hgo
            go_wp2_with fail
            refine (whole_yes _ hw.1 hw.2 _).mono ?_
            rintro e w' ⟨rfl, rfl⟩
            clear hw
            go_wp2
            go_roundw
            case rel => exact ⟨pos + z, hle, rfl, HG.out.2⟩
            case measure => have := HZ.out; simp; omega
          · have hd2 : ((n : Int) == 65533) = false := by simp; omega
            have HZ := Lib.hid hz
            clear hpt hz hoff hn hf hgo
            go_wp2
            go_roundw
            case rel => exact ⟨pos + z, hle, rfl, HG.out.2⟩
            case measure => have := HZ.out; simp; omega
    · have hnx := fun ty => run_next_end (P := Tryd.prog) w ⟨t.toArray⟩ pos ty (show ¬ pos < (ByteArray.mk t.toArray).size from hlt)
      have hbn : badI t = -1 := by unfold badI; rw [hbd, List.drop_of_length_le (by omega)]; rfl
      have HB := Lib.hid hbn
      clear hbd hbn
      go_wp2
      go_ret
      exact ⟨ret_int HB.out.symm, iter_below _ _ _⟩

set_option maxHeartbeats 400000 in
theorem valid_any (t : List UInt8) (ht : (t.length : Int) ≤ 9223372036854775807) (w : World) :
    Calls Tryd.prog 64 #[.string ⟨t.toArray⟩] w fun e w' => e = .returned (.bool (vld t)) ∧ Below w.heap.size w w' := by
  by_cases hl : t.length ≤ 65535
  · have hd : decide (t.length ≤ 65535) = true := by simpa using hl
    go_enter Tryd.func64, Tryd.ntmps64
    go_wp2_with fail
    refine (bad_any t ht _).mono ?_
    rintro e w1 ⟨rfl, hb⟩
    have hv : (badI t == -1) = vld t := by
      unfold badI vld
      rw [hd]
      cases bd t with
      | none => rfl
      | some p => simp
    go_wp2
    go_ret
    exact ⟨rfl, hb⟩
  · have hv : vld t = false := by unfold vld; simp [hl]
    have HV := Lib.hid hv
    clear hv
    go_enter Tryd.func64, Tryd.ntmps64
    go_wp2
    go_ret
    exact ⟨ret_val (by rw [HV.out]; simp), Below.refl _ _⟩

/-- Along a valid text: how many code points are still to come. -/
theorem cnt_go {t : List UInt8} {pos : Nat} (h : off (t.drop pos) = false) :
    pos + (pt (t.drop pos)).2 ≤ t.length ∧ (pt (t.drop pos)).2 ≠ 0 ∧ (rn 0 (t.drop pos)).length = (rn 0 (t.drop (pos + (pt (t.drop pos)).2))).length + 1 ∧
    (bd (t.drop pos) = none → bd (t.drop (pos + (pt (t.drop pos)).2)) = none) := by
  have hs := on_size h
  have := hs.2.1
  simp at this
  refine ⟨by omega, hs.2.2.1, ?_, ?_⟩
  · rw [rn_on 0 h, List.drop_drop, List.length_cons, rn_length _ 0 (0 + (pt (t.drop pos)).2)]
  · intro hn
    rw [bd_on h, List.drop_drop] at hn
    cases hb : bd (t.drop (pos + (pt (t.drop pos)).2)) with
    | none => rfl
    | some q => rw [hb] at hn; cases hn
theorem rn_le (l : List UInt8) : ∀ a, (rn a l).length ≤ l.length := by
  refine byPoints (P := fun l => ∀ a, (rn a l).length ≤ l.length) ?_ ?_ ?_ l
  · intro a; simp [rn_nil]
  · intro l _ ho a; rw [rn_off a ho]; simp
  · intro l ho ih a
    have hs := on_size ho
    rw [rn_on a ho, List.length_cons]
    have := ih (a + (pt l).2)
    simp at this; omega
theorem vld_bd {t : List UInt8} (h : vld t = true) : t.length ≤ 65535 ∧ bd t = none := by
  unfold vld at h; simp at h; exact h

end Go.Proofs.YtbacnaplpfmpnaaDoor
