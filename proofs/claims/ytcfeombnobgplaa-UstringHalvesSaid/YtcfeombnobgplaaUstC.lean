/- Where the k-th code point stands: plain Lean. -/
import Derived.Test.YtcfeombnobgplaaUstI
namespace Go.Proofs.Ytcfeombnobgplaa
open Go.RowKit

/-- One code point alone. -/
theorem one_pt {D : List UInt8} (h : off D = false) : bd (D.take (pt D).2) = none ∧ ∀ a, rn a (D.take (pt D).2) = [(a, (pt D).1)] := by
  have hs := on_size h
  have hp := pt_front D (D.take (pt D).2) hs.2.2.1 (by rw [List.take_take, Nat.min_self])
  have ho : off (D.take (pt D).2) = false := by unfold off at *; rw [hp]; exact h
  have hd : (D.take (pt D).2).drop (pt D).2 = [] := List.drop_of_length_le (by simp; omega)
  refine ⟨by rw [bd_on ho, hp, hd]; rfl, fun a => by rw [rn_on a ho, hp, hd]; rfl⟩
theorem rn_split {t : List UInt8} {p : Nat} (hp : p ≤ t.length) (h : bd (t.take p) = none) : rn 0 t = rn 0 (t.take p) ++ rn p (t.drop p) := by
  have := rn_append (t.take p) (t.drop p) h 0
  rw [List.take_append_drop] at this
  rw [this]; simp [Nat.min_eq_left hp]
theorem rn_off_of {a : Nat} {t : List UInt8} (h : rn a t ≠ []) : off t = false := by
  cases ho : off t with
  | false => rfl
  | true => exact absurd (rn_off a ho) h
theorem at_k (t : List UInt8) : ∀ k, k < (rn 0 t).length → ∃ p, p ≤ t.length ∧ bd (t.take p) = none ∧ (rn 0 (t.take p)).length = k ∧ off (t.drop p) = false := by
  intro k
  induction k with
  | zero =>
    intro h
    exact ⟨0, Nat.zero_le _, rfl, rfl, rn_off_of (a := 0) (by intro e; rw [List.drop_zero] at e; rw [e] at h; simp at h)⟩
  | succ k ih =>
    intro h
    obtain ⟨p, hp, hb, hl, ho⟩ := ih (by omega)
    have hs := on_size ho
    have hz : (pt (t.drop p)).2 ≤ t.length - p := by have := hs.2.1; simpa using this
    obtain ⟨o1, o2⟩ := one_pt ho
    have ht : t.take (p + (pt (t.drop p)).2) = t.take p ++ (t.drop p).take (pt (t.drop p)).2 := List.take_add
    have hb2 : bd (t.take (p + (pt (t.drop p)).2)) = none := by rw [ht, bd_append _ _ hb, o1]; rfl
    have hl2 : (rn 0 (t.take (p + (pt (t.drop p)).2))).length = k + 1 := by rw [ht, rn_append _ _ hb, o2, List.length_append, hl]; rfl
    refine ⟨p + (pt (t.drop p)).2, by omega, hb2, hl2, ?_⟩
    apply rn_off_of (a := p + (pt (t.drop p)).2)
    intro e
    have := rn_split (by omega) hb2
    rw [e, List.append_nil] at this
    rw [this, hl2] at h
    omega
theorem vend_off {t : List UInt8} (h : off t = true) : vend t = 0 := by
  unfold vend
  rcases Nat.eq_zero_or_pos t.length with h0 | h0
  · obtain rfl := List.length_eq_zero_iff.1 h0; rfl
  · rw [bd_off h0 h]
/-- All that UstringHalves asks of the k-th code point of t. -/
theorem half (t : List UInt8) (k : Nat) (hk : k < (rn 0 t).length) : ∃ p c z, (rn 0 t)[k]? = some (p, c) ∧ p + z ≤ vend t ∧ bd (t.take p) = none ∧ (rn 0 (t.take p)).length = k ∧
    bd ((t.take (vend t)).drop p) = none ∧ (rn 0 ((t.take (vend t)).drop p)).length = (rn 0 t).length - k ∧ (bd t = none ↔ bd (t.drop p) = none) ∧
    pt (t.drop p) = (c, z) ∧ off (t.drop p) = false ∧ (∀ q, (rn 0 t)[k + 1]? = some q → q.1 = p + z) ∧ ((rn 0 t)[k + 1]? = none → vend t = p + z) := by
  obtain ⟨p, hp, hb, hl, ho⟩ := at_k t k hk
  have hs := on_size ho
  have hsp := rn_split hp hb
  have hrn := rn_on p ho
  have hbd := bd_append (t.take p) (t.drop p) hb
  rw [List.take_append_drop] at hbd
  have hlen : (t.take p).length = p := by simp; omega
  rw [hlen] at hbd
  have hve : vend t = p + vend (t.drop p) := by
    unfold vend
    rw [hbd]
    cases bd (t.drop p) with
    | none => simp; omega
    | some q => simp; omega
  have hvo := vend_on ho
  have hd : (t.take (vend t)).drop p = (t.drop p).take (vend (t.drop p)) := by rw [List.drop_take, hve]; congr 1; omega
  obtain ⟨v1, v2⟩ := vend_take (t.drop p)
  have hL : (rn 0 t).length = k + (rn p (t.drop p)).length := by rw [hsp, List.length_append, hl]
  refine ⟨p, (pt (t.drop p)).1, (pt (t.drop p)).2, ?_, by omega, hb, hl, by rw [hd]; exact v1, ?_, ?_, rfl, ho, ?_, ?_⟩
  · rw [hsp, List.getElem?_append_right (by omega), hl, Nat.sub_self, hrn]; rfl
  · rw [hd, v2, rn_length _ 0 p, hL]; omega
  · rw [hbd]; cases bd (t.drop p) <;> simp
  · intro q hq
    rw [hsp, List.getElem?_append_right (by omega), hl, show k + 1 - k = 1 by omega, hrn, List.getElem?_cons_succ] at hq
    cases hx : off ((t.drop p).drop (pt (t.drop p)).2) with
    | true => rw [rn_off _ hx] at hq; simp at hq
    | false => rw [rn_on _ hx] at hq; simp at hq; rw [← hq]
  · intro hq
    rw [hsp, List.getElem?_append_right (by omega), hl, show k + 1 - k = 1 by omega, hrn, List.getElem?_cons_succ] at hq
    have hx : off ((t.drop p).drop (pt (t.drop p)).2) = true := by
      cases hx : off ((t.drop p).drop (pt (t.drop p)).2) with
      | true => rfl
      | false => rw [rn_on _ hx] at hq; simp at hq
    rw [hve, hvo, vend_off hx]; omega

theorem u8_eq {a : UInt8} {n : Nat} (h : n = a.toNat) : UInt8.ofNat n = a := by rw [h]; simp
theorem enc1 (a : UInt8) (h : a.toNat < 128) : Utf8.encode (a.toNat : Int) = ⟨#[a]⟩ := by
  have hv : Utf8.valid (a.toNat : Int) = true := by unfold Utf8.valid; simp; omega
  unfold Utf8.encode
  simp only [hv, if_true, Int.toNat_natCast]
  rw [if_pos h]
  simp
theorem enc2 (a b : UInt8) (h : a.toNat / 32 = 6) (hb : b.toNat / 64 = 2) (n : Nat) (hn : a.toNat % 32 * 64 + b.toNat % 64 = n) (h3 : 128 ≤ n) : Utf8.encode (n : Int) = ⟨#[a, b]⟩ := by
  have hv : Utf8.valid (n : Int) = true := by unfold Utf8.valid; simp; omega
  unfold Utf8.encode
  simp only [hv, if_true, Int.toNat_natCast]
  rw [if_neg (by omega), if_pos (by omega), u8_eq (a := a) (by omega), u8_eq (a := b) (by omega)]
theorem enc3 (a b c : UInt8) (h : a.toNat / 16 = 14) (hb : b.toNat / 64 = 2) (hc : c.toNat / 64 = 2) (n : Nat) (hn : a.toNat % 16 * 4096 + b.toNat % 64 * 64 + c.toNat % 64 = n) (h4 : 2048 ≤ n) (h5 : ¬ (55296 ≤ n ∧ n ≤ 57343)) :
    Utf8.encode (n : Int) = ⟨#[a, b, c]⟩ := by
  have hv : Utf8.valid (n : Int) = true := by unfold Utf8.valid; simp; omega
  unfold Utf8.encode
  simp only [hv, if_true, Int.toNat_natCast]
  rw [if_neg (by omega), if_neg (by omega), if_pos (by omega), u8_eq (a := a) (by omega), u8_eq (a := b) (by omega), u8_eq (a := c) (by omega)]
theorem enc4 (a b c d : UInt8) (h : a.toNat / 8 = 30) (hb : b.toNat / 64 = 2) (hc : c.toNat / 64 = 2) (hd : d.toNat / 64 = 2) (n : Nat) (hn : a.toNat % 8 * 262144 + b.toNat % 64 * 4096 + c.toNat % 64 * 64 + d.toNat % 64 = n) (h4 : 65536 ≤ n) (h5 : n ≤ 1114111) :
    Utf8.encode (n : Int) = ⟨#[a, b, c, d]⟩ := by
  have hv : Utf8.valid (n : Int) = true := by unfold Utf8.valid; simp; omega
  unfold Utf8.encode
  simp only [hv, if_true, Int.toNat_natCast]
  rw [if_neg (by omega), if_neg (by omega), if_neg (by omega), u8_eq (a := a) (by omega), u8_eq (a := b) (by omega), u8_eq (a := c) (by omega), u8_eq (a := d) (by omega)]
theorem shape1 {D : List UInt8} (h : 0 < D.length) : ∃ a r, D = a :: r := by
  match D, h with
  | a :: r, _ => exact ⟨a, r, rfl⟩
theorem shape2 {D : List UInt8} (h : 1 < D.length) : ∃ a b r, D = a :: b :: r := by
  match D, h with
  | a :: b :: r, _ => exact ⟨a, b, r, rfl⟩
theorem shape3 {D : List UInt8} (h : 2 < D.length) : ∃ a b c r, D = a :: b :: c :: r := by
  match D, h with
  | a :: b :: c :: r, _ => exact ⟨a, b, c, r, rfl⟩
theorem shape4 {D : List UInt8} (h : 3 < D.length) : ∃ a b c d r, D = a :: b :: c :: d :: r := by
  match D, h with
  | a :: b :: c :: d :: r, _ => exact ⟨a, b, c, d, r, rfl⟩
/-- A code point's bytes are what Go encodes it as. -/
theorem encode_pt (D : List UInt8) (h : off D = false) : Utf8.encode ((pt D).1 : Int) = ⟨(D.take (pt D).2).toArray⟩ := by
  have hs := on_size h
  have hl : ¬ D.length = 0 := by omega
  have key : ∀ n : Nat × Nat, pt D = n → n.2 ≠ 0 → Utf8.encode (n.1 : Int) = ⟨(D.take n.2).toArray⟩ := by
    intro n hn hn0
    unfold pt at hn
    rw [if_neg hl] at hn
    by_cases h1 : g D 0 < 128
    · rw [if_pos h1] at hn
      obtain ⟨a, r, rfl⟩ := shape1 (D := D) (by omega)
      subst hn
      exact enc1 a h1
    rw [if_neg h1] at hn
    by_cases h2 : g D 0 / 32 = 6 ∧ cb D 1 = true
    · rw [if_pos h2] at hn
      have c1 := cb_lt h2.2
      split at hn
      · rename_i h3
        obtain ⟨a, b, r, rfl⟩ := shape2 c1.1
        subst hn
        exact enc2 a b h2.1 c1.2 _ rfl h3
      · subst hn; exact absurd rfl hn0
    rw [if_neg h2] at hn
    by_cases h3 : g D 0 / 16 = 14 ∧ cb D 1 = true ∧ cb D 2 = true
    · rw [if_pos h3] at hn
      have c1 := cb_lt h3.2.1
      have c2 := cb_lt h3.2.2
      split at hn
      · rename_i h4
        obtain ⟨a, b, c, r, rfl⟩ := shape3 c2.1
        subst hn
        exact enc3 a b c h3.1 c1.2 c2.2 _ rfl h4.1 h4.2
      · subst hn; exact absurd rfl hn0
    rw [if_neg h3] at hn
    by_cases h4 : g D 0 / 8 = 30 ∧ cb D 1 = true ∧ cb D 2 = true ∧ cb D 3 = true
    · rw [if_pos h4] at hn
      have c1 := cb_lt h4.2.1
      have c2 := cb_lt h4.2.2.1
      have c3 := cb_lt h4.2.2.2
      split at hn
      · rename_i h5
        obtain ⟨a, b, c, d, r, rfl⟩ := shape4 c3.1
        subst hn
        exact enc4 a b c d h4.1 c1.2 c2.2 c3.2 _ rfl h5.1 h5.2
      · subst hn; exact absurd rfl hn0
    rw [if_neg h4] at hn
    subst hn; exact absurd rfl hn0
  exact key _ rfl hs.2.2.1
end Go.Proofs.Ytcfeombnobgplaa
