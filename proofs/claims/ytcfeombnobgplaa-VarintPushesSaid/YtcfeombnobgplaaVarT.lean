/- VarintPushes: the walk. -/
import Derived.Test.YtcfeombnobgplaaVarB
import Derived.Test.YtcfeombnobgplaaVarS
namespace Go.Proofs.Ytcfeombnobgplaa
open Go.RowKit

theorem VRel.view {s : VSt} {S : List UInt8} {E : Int} (h : VRel s S E) : ((vread S).2.2 == 0) = s.done ∧ (s.done = true → (vread S).1 = s.n) ∧ s.size = S.length := by
  obtain ⟨h1, _, h3⟩ := h
  rcases h3 with ⟨hd, hb, _, hv, _⟩ | ⟨hd, hb, _, hv⟩ | ⟨hd, hb, _, hv⟩
  · rw [hv, hd]; exact ⟨rfl, fun h => by simp at h, h1⟩
  · rw [hv, hd]; exact ⟨rfl, fun _ => rfl, h1⟩
  · rw [hv, hd]; exact ⟨rfl, fun h => by simp at h, h1⟩

set_option maxRecDepth 100000 in
set_option maxHeartbeats 3200000 in
theorem varintPushes_walk (l : List UInt8) (a : Option Addr) (len cap : Nat) (zs : List Int) (w0 : World) (hz : Ints .i64 w0 a len zs) :
    Calls Try.prog 5 #[.string ⟨l.toArray⟩, .slice a len cap] w0 fun e w' => e = .returned (.bool true) ∧ Below w0.heap.size w0 w' := by
  obtain ⟨hlm, hzl, hz⟩ := hz
  unfold maxLen at hlm
  by_cases h40 : 40 < l.length
  · go_enter Try.func5, Try.ntmps5
    go_wp2_with fail
    refine (lives02 _).mono ?_
    rintro r w1 ⟨rfl, hB1⟩
    go_wp2
    go_ret
    exact ⟨rfl, hB1⟩
  by_cases h41 : 40 < len
  · go_enter Try.func5, Try.ntmps5
    go_wp2_with fail
    refine (lives02 _).mono ?_
    rintro r w1 ⟨rfl, hB1⟩
    go_wp2
    go_ret
    exact ⟨rfl, hB1⟩
  go_enter Try.func5, Try.ntmps5
  go_wp2_with fail
  refine (lives02 _).mono ?_
  rintro r w1 ⟨rfl, hB1⟩
  go_wp2_with fail
  refine (vnew_any _).mono ?_
  rintro r w2 ⟨br, rfl, hbr, R, hg⟩
  have hB2 := hB1.trans ((below_grown hg).mono hB1.size)
  have Lr : w0.heap.size ≤ br := Nat.le_trans hB1.size hbr
  have Nr := Obj?.lt R
  clear hg
  go_wp2_with fail
  refine (rvnew_any _).mono ?_
  rintro r w3 ⟨bo, rfl, hbo, O, hg⟩
  have hB3 := hB2.trans ((below_grown hg).mono hB2.size)
  have Lo : w0.heap.size ≤ bo := Nat.le_trans hB2.size hbo
  replace R := R.kept hg (by simp)
  have hne : br < bo := by omega
  clear hg
  go_wp2_with fail
  go_loopw [7] (fun x wr => ∃ (j : Nat) (s : VSt) (S : List UInt8) (E : Int), j ≤ l.length ∧ x = .int .i64 j ∧ S.length ≤ j ∧ Rdr wr br s ∧ RRdr wr bo S E ∧ VRel s S E ∧ Below w0.heap.size w0 wr) (fun x _ => l.length - (intOf x).toNat)
  case atStart => exact ⟨0, VSt.new, [], 0, Nat.zero_le _, rfl, Nat.le_refl _, R, O, VRel.new, hB3⟩
  case round =>
    clear R O hB1 hB2 hB3
    obtain ⟨j, s, S, E, hj, rfl, hS, R, O, hrel2, hB⟩ := hrel
    by_cases hlt : j < l.length
    · obtain ⟨wo, hwo⟩ : ∃ wo : World, wo = wr := ⟨_, rfl⟩
      rw [← hwo] at R O hB ⊢
      clear hwo
      go_wp2_with fail
      go_loopw [8] (fun x wr => ∃ (k : Nat) (s : VSt) (S : List UInt8) (E : Int), k ≤ len ∧ x = .int .i64 k ∧ S.length ≤ j ∧ Rdr wr br s ∧ RRdr wr bo S E ∧ VRel s S E ∧ Below w0.heap.size w0 wr) (fun x _ => len - (intOf x).toNat)
      case atStart => exact ⟨0, s, S, E, Nat.zero_le _, rfl, hS, R, O, hrel2, hB⟩
      case round =>
        clear R O hB hrel2 hS s S E
        obtain ⟨k, s, S, E, hk, rfl, hS, R, O, hrel2, hB⟩ := hrel
        by_cases hkl : k < len
        · rcases hz with hz | ⟨b, off, rfl, hb, hz⟩
          · omega
          obtain ⟨hc0, _⟩ := hz k (by omega)
          generalize zs[k]'(by omega) = n at hc0
          have hc1 := (hB.cell (p := ⟨b, off + k, none⟩) hb).trans hc0
          have HZ := Lib.hid hz
          have HR := Lib.hid hrel2
          clear hz hc0 hrel2
          by_cases hn : n = j
          · have hd : (n == (j : Int)) = true := by simp [hn]
            clear hn
            go_wp2_with fail
            refine (vreset_any R).mono ?_
            rintro r w4 ⟨rfl, R2, hg⟩
            replace hB := hB.grown hg hB.size (fun k e => by cases e; exact Lr)
            replace O := O.kept hg (by simp; omega)
            clear hg R
            go_wp2_with fail
            refine (rvreset_any O).mono ?_
            rintro r w5 ⟨rfl, O2, hg⟩
            replace hB := hB.grown hg hB.size (fun k e => by cases e; exact Lo)
            replace R2 := R2.kept hg (by simp; omega)
            clear hg O hc1
            go_wp2
            go_roundw
            case rel => exact ⟨k + 1, VSt.new, [], 0, by omega, by go_num, Nat.zero_le _, R2, O2, VRel.new, hB⟩
            case measure => simp [intOf]; omega
          · have hd : (n == (j : Int)) = false := by simp [hn]
            go_wp2
            go_roundw
            case rel => exact ⟨k + 1, s, S, E, by omega, by go_num, hS, R, O, HR.out, hB⟩
            case measure => simp [intOf]; omega
        · have HZ := Lib.hid hz
          have HR := Lib.hid hrel2
          have hok := hrel2.2.1
          clear hz hrel2
          have hc0 : (0 : Int) ≤ (l[j].toNat : Int) := by omega
          have hc1 : (l[j].toNat : Int) < 256 := by have := l[j].toNat_lt; omega
          go_wp2_with fail
          refine (vpush_any R hok _ hc0 hc1).mono ?_
          rintro r w4 ⟨rfl, R2, hg⟩
          replace hB := hB.grown hg hB.size (fun k e => by cases e; exact Lr)
          replace O := O.kept hg (by simp; omega)
          clear hg R
          go_wp2_with fail
          refine (rvpush_any O HR.out (by omega) l[j]).mono ?_
          rintro r w5 ⟨rfl, S', E', hrel3, hlen, O2, hg⟩
          replace hB := hB.grown hg hB.size (fun k e => by cases e; exact Lo)
          replace R2 := R2.kept hg (by simp; omega)
          clear hg O hok
          obtain ⟨v1, v2, v3⟩ := hrel3.view
          have HR2 := Lib.hid hrel3
          clear hrel3
          generalize vpush s (l[j].toNat : Int) = s2 at R2 v1 v2 v3 HR2
          generalize vdone s (l[j].toNat : Int) = dn
          generalize verr s (l[j].toNat : Int) = er
          obtain ⟨n2, z2, d2, b2⟩ := s2
          have hsz : (z2 : Int) = (S'.length : Int) := by simp only at v3; omega
          clear v3
          cases d2 with
          | true =>
            have hv2 : (vread S').1 = n2 := v2 rfl
            clear v2
            go_wp2_with fail
            refine (vvalue_any R2).mono ?_
            rintro r w ⟨rfl, rfl⟩
            go_wp2_with fail
            refine (rvvalue_any O2 (by omega)).mono ?_
            rintro r w ⟨rfl, rfl⟩
            rw [v1, hv2]
            have HV := Lib.hid (And.intro v1 hv2)
            clear v1 hv2
            go_wp2_with fail
            refine (vsize_any R2).mono ?_
            rintro r w ⟨rfl, rfl⟩
            go_wp2_with fail
            refine (rvsize_any O2).mono ?_
            rintro r w ⟨rfl, rfl⟩
            go_wp2
            go_roundw
            case rel => exact ⟨j + 1, _, S', E', by omega, by go_num, by omega, R2, O2, HR2.out, hB⟩
            case measure => simp [intOf]; omega
          | false =>
            skip
            clear v2
            go_wp2_with fail
            refine (vvalue_any R2).mono ?_
            rintro r w ⟨rfl, rfl⟩
            go_wp2_with fail
            refine (rvvalue_any O2 (by omega)).mono ?_
            rintro r w ⟨rfl, rfl⟩
            rw [v1]
            have HV := Lib.hid v1
            clear v1
            go_wp2_with fail
            refine (vsize_any R2).mono ?_
            rintro r w ⟨rfl, rfl⟩
            go_wp2_with fail
            refine (rvsize_any O2).mono ?_
            rintro r w ⟨rfl, rfl⟩
            go_wp2
            go_roundw
            case rel => exact ⟨j + 1, _, S', E', by omega, by go_num, by omega, R2, O2, HR2.out, hB⟩
            case measure => simp [intOf]; omega
    · go_wp2
      go_ret
      exact ⟨rfl, hB⟩
end Go.Proofs.Ytcfeombnobgplaa
