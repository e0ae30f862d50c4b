/- varint: the reference's reader. -/
import Derived.Test.YtcfeombnobgplaaVarR
namespace Go.Proofs.Ytcfeombnobgplaa
open Go.RowKit

/-- Block b is the reference's reader. -/
def RRdr (w : World) (b : Nat) (S : List UInt8) (E : Int) : Prop := Obj? w b #[.string ⟨S.toArray⟩, .int .i64 E] 86
theorem RRdr.cells {w : World} {b : Nat} {S : List UInt8} {E : Int} (h : RRdr w b S E) :
    w.cell? ⟨b, 0, none⟩ = some (.string ⟨S.toArray⟩) ∧ w.cell? ⟨b, 1, none⟩ = some (.int .i64 E) ∧ w.frozen? ⟨b, 0, none⟩ = false ∧ w.frozen? ⟨b, 1, none⟩ = false :=
  ⟨Obj?.cell h 0 _ rfl, Obj?.cell h 1 _ rfl, Obj?.frozen h 0, Obj?.frozen h 1⟩
theorem RRdr.kept {w w' : World} {row : Option Nat} {b : Nat} {S : List UInt8} {E : Int} (h : RRdr w b S E) (hg : w.grownBy w' row) (hne : row ≠ some b) : RRdr w' b S E := Obj?.kept h hg hne
/-- The two readers agree. -/
def VRel (s : VSt) (S : List UInt8) (E : Int) : Prop :=
  s.size = S.length ∧ VOk s ∧ ((s.done = false ∧ s.bad = false ∧ E = 0 ∧ vread S = (0, 0, 3) ∧ ∀ r, vread (S ++ r) = vrun s r) ∨
    (s.done = true ∧ s.bad = false ∧ E = 0 ∧ vread S = (s.n, (s.size : Int), 0)) ∨ (s.done = false ∧ s.bad = true ∧ E = 5 ∧ vread S = (0, 0, 5)))
theorem VRel.new : VRel VSt.new [] 0 := ⟨rfl, VSt.new_ok, .inl ⟨rfl, rfl, rfl, rfl, fun _ => rfl⟩⟩
theorem verr_cases (s : VSt) (c : Int) (hd : s.done = false) (hb : s.bad = false) : verr s c = 0 ∨ verr s c = 5 := by
  unfold verr; rw [hd, hb]; simp only [Bool.or_false, Bool.false_eq_true, if_false]; split <;> simp

theorem rvnew_any (w : World) : Calls Try.prog 27 #[] w fun e w' => ∃ b, e = .returned (.pointer (some ⟨b, 0, none⟩)) ∧ w.heap.size ≤ b ∧ RRdr w' b [] 0 ∧ w.grownBy w' none := by
  go_enter Try.func27, Try.ntmps27
  go_wp2
  go_ret
  exact ⟨_, rfl, Nat.le_refl _, Obj?.new _ _ _, World.grownBy_alloc _ _ _⟩
theorem rvsize_any {w : World} {b : Nat} {S : List UInt8} {E : Int} (h : RRdr w b S E) : Calls Try.prog 35 #[.pointer (some ⟨b, 0, none⟩)] w fun e w' => e = .returned (.int .i64 S.length) ∧ w = w' := by
  obtain ⟨c0, c1, f0, f1⟩ := h.cells
  clear h
  go_enter Try.func35, Try.ntmps35
  go_wp2
  go_ret
  exact ⟨rfl, rfl⟩
theorem rvreset_any {w : World} {b : Nat} {S : List UInt8} {E : Int} (h : RRdr w b S E) : Calls Try.prog 29 #[.pointer (some ⟨b, 0, none⟩)] w fun e w' => e = .returned (.tuple #[]) ∧ RRdr w' b [] 0 ∧ w.grownBy w' (some b) := by
  obtain ⟨c0, c1, f0, f1⟩ := h.cells
  have H := Lib.hid h
  clear h
  go_enter Try.func29, Try.ntmps29
  go_wp2
  go_end0
  exact ⟨rfl, Obj?.set (Obj?.set H.out 0 _) 1 _, grown_set (g := b) (p := ⟨b, 1, none⟩) (grown_set (g := b) (p := ⟨b, 0, none⟩) (World.grownBy.refl _ _) rfl _) rfl _⟩
theorem rvvalue_any {w : World} {b : Nat} {S : List UInt8} {E : Int} (h : RRdr w b S E) (hl : (S.length : Int) ≤ 9223372036854775807) :
    Calls Try.prog 33 #[.pointer (some ⟨b, 0, none⟩)] w fun e w' => e = .returned (.tuple #[.int .i64 (vread S).1, .bool ((vread S).2.2 == 0)]) ∧ w = w' := by
  obtain ⟨c0, c1, f0, f1⟩ := h.cells
  clear h
  go_enter Try.func33, Try.ntmps33
  go_wp2_with fail
  refine (rvread_any S hl _).mono ?_
  rintro r w ⟨rfl, rfl⟩
  go_wp2
  go_ret2
  exact ⟨rfl, rfl⟩

set_option maxRecDepth 100000 in
set_option maxHeartbeats 1600000 in
theorem rvpush_any {w : World} {b : Nat} {s : VSt} {S : List UInt8} {E : Int} (h : RRdr w b S E) (hr : VRel s S E) (hl : S.length ≤ 100) (c : UInt8) :
    Calls Try.prog 31 #[.pointer (some ⟨b, 0, none⟩), .int .u8 c.toNat] w fun e w' => e = .returned (.tuple #[.bool (vdone s c.toNat), .int .i64 (verr s c.toNat)]) ∧
      ∃ S' E', VRel (vpush s c.toNat) S' E' ∧ S'.length ≤ S.length + 1 ∧ RRdr w' b S' E' ∧ w.grownBy w' (some b) := by
  obtain ⟨c0, c1, f0, f1⟩ := h.cells
  obtain ⟨h1, h2, h3⟩ := hr
  rcases h3 with ⟨hd, hb, rfl, hv, hrun⟩ | ⟨hd, hb, rfl, hv⟩ | ⟨hd, hb, rfl, hv⟩
  · have hrc := hrun [c]
    have HH := Lib.hid (And.intro h1 (And.intro hd (And.intro hb (And.intro hv (And.intro hrun hrc)))))
    clear h1 hd hb hv hrun hrc
    go_enter Try.func31, Try.ntmps31
    go_wp2_with fail
    refine (rvvalue_any h (by omega)).mono ?_
    rintro r w ⟨rfl, rfl⟩
    rw [HH.out.2.2.2.1]
    have H := Lib.hid h
    clear h
    go_wp2_with fail
    have hconv : ∀ w' : World, w'.cell? ⟨w.heap.size, 0, none⟩ = some (.int .u8 (c.toNat : Int)) → (convert 82 9 (.slice (some ⟨w.heap.size, 0, none⟩) 1 1)).run Try.prog w' = .ok (.string ⟨#[c]⟩) w' := fun w' hc => by
      have h1 : ∀ i, i < 1 → w'.cell? ⟨w.heap.size, 0 + i, none⟩ = some (.int .u8 ([(c.toNat : Int)].getD i 0)) := by
        intro i hi
        obtain rfl : i = 0 := by omega
        exact hc
      have := run_convert_bytes_arg (P := Try.prog) w' 82 5 Try.underlying82 Try.underlying5 w.heap.size 0 1 1 [(c.toNat : Int)] rfl h1 9 Try.underlying9
      rw [this]
      congr 2
      simp [strOfNums]
    have hbl : b < w.heap.size := Obj?.lt H.out
    have hap : (ByteArray.mk S.toArray) ++ ByteArray.mk #[c] = ByteArray.mk (S ++ [c]).toArray := ByteArray.mk_append_mk S [c]
    go_region
    clear hconv
    have hl2 : ((S ++ [c]).length : Int) ≤ 9223372036854775807 := by simp; omega
    go_wp2_with fail
    refine (rvread_any (S ++ [c]) hl2 _).mono ?_
    rintro r w1 ⟨rfl, hw⟩
    have R1 : RRdr w1 b (S ++ [c]) 0 := by rw [← hw]; exact Obj?.alloc (Obj?.set H.out 0 _) _
    have G1 : w.grownBy w1 (some b) := by rw [← hw]; exact grown_drew (grown_alloc (grown_set (World.grownBy.refl _ _) rfl _) _)
    clear hw
    obtain ⟨d0, d1, g0, g1⟩ := R1.cells
    have HR := Lib.hid R1
    have hrc := HH.out.2.2.2.2.2
    have hlen : (S ++ [c]).length = S.length + 1 := by simp
    have HLen := Lib.hid hlen
    clear R1 c0 c1 f0 f1 hap hlen
    rw [hrc]
    obtain ⟨k1, k2, k3, _, k5, _⟩ := HH.out
    have hsz : (vpush s c.toNat).size = S.length + 1 := by
      unfold vpush vstep; simp only [k2, k3, Bool.or_false, Bool.false_eq_true, if_false]
      split
      · show s.size + 1 = _; omega
      · split <;> (show s.size + 1 = _; omega)
    have hok := vpush_ok (c := (c.toNat : Int)) h2
    rcases verr_cases s c.toNat k2 k3 with he | he
    · cases hdn : vdone s c.toNat with
      | true =>
        have hrun : vrun s [c] = ((vpush s c.toNat).n, ((vpush s c.toNat).size : Int), 0) := by rw [vrun, if_neg (by simpa using he), if_pos hdn]
        have hfin : VRel (vpush s c.toNat) (S ++ [c]) 0 := by
          refine ⟨by rw [hsz, HLen.out], hok, .inr (.inl ⟨?_, ?_, rfl, by rw [hrc, hrun]⟩)⟩
          · simpa [vdone, vpush, k2, k3] using hdn
          · have := he; unfold verr at this; unfold vpush; simp only [k2, k3, Bool.or_false, Bool.false_eq_true, if_false] at this ⊢
            cases hh : (vstep s.n s.size c.toNat).bad with
            | false => rfl
            | true => rw [hh] at this; simp at this
        rw [hrun]
        have HE := Lib.hid (And.intro he hdn)
        have HF := Lib.hid hfin
        clear hrun hfin hrc he hdn hok hsz k1 k2 k3 k5
        go_wp2
        go_ret2
        exact ⟨by rw [HE.out.1, HE.out.2]; rfl, _, _, HF.out, by have := HLen.out; omega, HR.out, G1⟩
      | false =>
        have hrun : vrun s [c] = (0, 0, 3) := by rw [vrun, if_neg (by simpa using he), if_neg (by simp [hdn])]; rfl
        have hgo := vgoes he hdn
        have hfin : VRel (vpush s c.toNat) (S ++ [c]) 0 := by
          refine ⟨by rw [hsz, HLen.out], hok, .inl ⟨hgo.1, hgo.2, rfl, by rw [hrc, hrun], fun r => ?_⟩⟩
          rw [List.append_assoc, k5, List.singleton_append, vrun, if_neg (by simpa using he), if_neg (by simp [hdn])]
        rw [hrun]
        have HE := Lib.hid (And.intro he hdn)
        have HF := Lib.hid hfin
        clear hrun hfin hrc he hdn hok hsz k1 k2 k3 k5 hgo
        go_wp2
        go_ret2
        exact ⟨by rw [HE.out.1, HE.out.2]; rfl, _, _, HF.out, by have := HLen.out; omega, HR.out, G1⟩
    · have hbad : (vpush s c.toNat).bad = true ∧ (vpush s c.toNat).done = false ∧ vdone s c.toNat = false := by
        have := he; unfold verr at this; unfold vpush vdone; simp only [k2, k3, Bool.or_false, Bool.false_eq_true, if_false] at this ⊢
        cases hh : (vstep s.n s.size c.toNat).bad with
        | false => rw [hh] at this; simp at this
        | true =>
          refine ⟨rfl, ?_, ?_⟩ <;>
          · unfold vstep at hh ⊢
            split
            · rfl
            · split
              · rfl
              · rename_i q1 q2; rw [if_neg q1, if_neg q2] at hh; cases hh
      have hrun : vrun s [c] = (0, 0, 5) := by rw [vrun, if_pos (by rw [he]; decide), he]
      have hfin : VRel (vpush s c.toNat) (S ++ [c]) 5 := ⟨by rw [hsz, HLen.out], hok, .inr (.inr ⟨hbad.2.1, hbad.1, rfl, by rw [hrc, hrun]⟩)⟩
      have hdn := hbad.2.2
      rw [hrun]
      have HE := Lib.hid (And.intro he hdn)
      have HF := Lib.hid hfin
      clear hrun hfin hrc he hdn hok hsz k1 k2 k3 k5 hbad
      go_wp2
      go_ret2
      exact ⟨by rw [HE.out.1, HE.out.2]; rfl, _, _, HF.out, by have := HLen.out; omega, Obj?.set HR.out 1 _, grown_set G1 rfl _⟩
  · have HH := Lib.hid (And.intro h1 (And.intro hd (And.intro hb hv)))
    have hfin : VRel (vpush s c.toNat) S 0 := by
      have : vpush s c.toNat = s := by simp [vpush, hd]
      rw [this]; exact ⟨h1, h2, .inr (.inl ⟨hd, hb, rfl, hv⟩)⟩
    have e1 : vdone s c.toNat = false := by simp [vdone, hd]
    have e2 : verr s c.toNat = 13 := by simp [verr, hd]
    have HF := Lib.hid hfin
    clear h1 hd hb hfin
    rw [e1, e2]
    go_enter Try.func31, Try.ntmps31
    go_wp2_with fail
    refine (rvvalue_any h (by omega)).mono ?_
    rintro r w ⟨rfl, rfl⟩
    rw [hv]
    have H := Lib.hid h
    clear h hv e1 e2
    go_wp2
    go_ret2
    exact ⟨rfl, _, _, HF.out, by omega, H.out, World.grownBy.refl _ _⟩
  · have hfin : VRel (vpush s c.toNat) S 5 := by
      have : vpush s c.toNat = s := by simp [vpush, hb]
      rw [this]; exact ⟨h1, h2, .inr (.inr ⟨hd, hb, rfl, hv⟩)⟩
    have e1 : vdone s c.toNat = false := by simp [vdone, hb]
    have e2 : verr s c.toNat = 13 := by simp [verr, hb]
    have HF := Lib.hid hfin
    clear h1 hd hb hfin
    rw [e1, e2]
    go_enter Try.func31, Try.ntmps31
    go_wp2_with fail
    refine (rvvalue_any h (by omega)).mono ?_
    rintro r w ⟨rfl, rfl⟩
    rw [hv]
    have H := Lib.hid h
    clear h hv e1 e2
    go_wp2
    go_ret2
    exact ⟨rfl, _, _, HF.out, by omega, H.out, World.grownBy.refl _ _⟩
end Go.Proofs.Ytcfeombnobgplaa
