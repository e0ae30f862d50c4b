/- polyglotkit.Times. -/
import Derived.Test.YtbacnaplpfmpnaaGreatDoorBase
import Derived.Test.YtbacnaplpfmpnaaGreatDoorChecked
namespace Go.Proofs.YtbacnaplpfmpnaaGreatDoor
open Go.RowKit
set_option linter.unusedVariables false

/-- Bytes so many times. -/
def rep (n : Nat) (s : List UInt8) : List UInt8 := (List.replicate n s).flatten
theorem rep_zero (s : List UInt8) : rep 0 s = [] := rfl
theorem rep_succ (n : Nat) (s : List UInt8) : rep (n + 1) s = s ++ rep n s := by simp [rep, List.replicate_succ]
theorem rep_two (n : Nat) (s : List UInt8) : rep (2 * n) s = rep n (s ++ s) := by
  induction n with
  | zero => rfl
  | succ n ih => rw [show 2 * (n + 1) = 2 * n + 1 + 1 by omega, rep_succ, rep_succ, rep_succ, ih, List.append_assoc]
theorem length_rep (n : Nat) (s : List UInt8) : (rep n s).length = n * s.length := by simp [rep]
theorem rep_one (n : Nat) (c : UInt8) : rep n [c] = List.replicate n c := by
  induction n with
  | zero => rfl
  | succ n ih => rw [rep_succ, ih, List.replicate_succ]; rfl

set_option maxRecDepth 100000 in
set_option maxHeartbeats 800000 in
/-- polyglotkit.Times. -/
theorem times_any (s : List UInt8) (n : Nat) (hn : n ≤ 1000000) (hs : s.length ≤ 1000) (w : World) :
    Calls Tryz.prog 34 #[.string ⟨s.toArray⟩, .int .i64 n] w fun e w' => e = .returned (.string ⟨(rep n s).toArray⟩) ∧ w = w' := by
  have hap : ∀ a b : List UInt8, (ByteArray.mk a.toArray) ++ ByteArray.mk b.toArray = ByteArray.mk (a ++ b).toArray := fun a b => ByteArray.mk_append_mk _ _
  obtain ⟨T, hT⟩ : ∃ T, T = rep n s := ⟨_, rfl⟩
  have HT := Lib.hid hT
  have hTl : T.length ≤ 1000000000 := by
    rw [hT, length_rep]
    exact Nat.mul_le_mul hn hs
  rw [← hT]
  clear hT
  go_enter Tryz.func34, Tryz.ntmps34
  go_wp2
  go_loop [0, 1, 5] (fun x i o => ∃ (m : Nat) (a out : List UInt8), x = .string ⟨a.toArray⟩ ∧ i = .int .i64 m ∧ o = .string ⟨out.toArray⟩ ∧ m ≤ 1000000 ∧ a.length ≤ 2000000000 ∧ Hid (T = out ++ rep m a)) (fun _ i _ => (intOf i).toNat)
  case atStart => exact ⟨n, s, [], rfl, rfl, rfl, hn, by omega, HT.out⟩
  case round =>
    obtain ⟨m, a, out, rfl, rfl, rfl, hm, hal, ht⟩ := hrel
    have hl : out.length + (rep m a).length ≤ 1000000000 := by rw [← List.length_append, ← ht.out]; exact hTl
    by_cases h0 : 0 < m
    · have hal2 : a.length ≤ 1000000000 := by
        rw [length_rep] at hl
        have : 1 * a.length ≤ m * a.length := Nat.mul_le_mul_right _ h0
        omega
      have hol : out.length ≤ 1000000000 := by omega
      have hx1 := hap a a
      have hx2 := hap out a
      by_cases ho : m % 2 = 1
      · have hd : ((m : Int) % 2 == 1) = true := by simp; omega
        have HH := Lib.hid (show T = (out ++ a) ++ rep (m / 2) (a ++ a) by
          rw [← rep_two, List.append_assoc, ← rep_succ, show 2 * (m / 2) + 1 = m by omega]; exact ht.out)
        clear ho hl
        go_wp2
        go_round
        case rel => exact ⟨m / 2, a ++ a, out ++ a, rfl, by go_num, rfl, by omega, by simp; omega, HH.out⟩
        case measure => simp [intOf]; omega
      · have hd : ((m : Int) % 2 == 1) = false := by simp; omega
        have HH := Lib.hid (show T = out ++ rep (m / 2) (a ++ a) by
          rw [← rep_two, show 2 * (m / 2) = m by omega]; exact ht.out)
        clear ho hl
        go_wp2
        go_round
        case rel => exact ⟨m / 2, a ++ a, out, rfl, by go_num, rfl, by omega, by simp; omega, HH.out⟩
        case measure => simp [intOf]; omega
    · have hz : T = out := by rw [ht.out, show m = 0 by omega, rep_zero, List.append_nil]
      subst hz
      clear hl hap
      go_wp2
      go_ret
      exact ⟨rfl, rfl⟩
end Go.Proofs.YtbacnaplpfmpnaaGreatDoor
