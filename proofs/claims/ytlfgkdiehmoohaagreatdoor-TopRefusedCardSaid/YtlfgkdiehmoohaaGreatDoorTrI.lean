/- A stream's Need; next and Feed where no packet is whole. -/
import Derived.Test.YtlfgkdiehmoohaaGreatDoorTrE
import Derived.Test.YtlfgkdiehmoohaaGreatDoorTrB
namespace Go.Proofs.YtlfgkdiehmoohaaGreatDoor
open Go Go.RowKit
set_option linter.unusedVariables false
set_option linter.unusedSimpArgs false

/-- No packet: the cells of its zero. -/
def c00 : Array Value := #[.int .i64 0, .bool false, .bool false, .int .i64 0, .int .i64 0, .string ⟨#[]⟩, .string ⟨#[]⟩, .bool false, .int .i64 0, .string ⟨#[]⟩, .bool false, .string ⟨#[]⟩, .bool false, .string ⟨#[]⟩, .bool false, .string ⟨#[]⟩, .string ⟨#[]⟩, .int .i64 0, .bool false, .slice none 0 0, .bool false, .int .i64 0, .slice none 0 0, .slice none 0 0, .slice none 0 0]
theorem c00_lit : c00 = #[.int .i64 0, .bool false, .bool false, .int .i64 0, .int .i64 0, .string ⟨#[]⟩, .string ⟨#[]⟩, .bool false, .int .i64 0, .string ⟨#[]⟩, .bool false, .string ⟨#[]⟩, .bool false, .string ⟨#[]⟩, .bool false, .string ⟨#[]⟩, .string ⟨#[]⟩, .int .i64 0, .bool false, .slice none 0 0, .bool false, .int .i64 0, .slice none 0 0, .slice none 0 0, .slice none 0 0] := rfl
def p00 : Pk := ⟨⟨0, 0, 0, 0, 0, false, false, false, false, false, false, false, [], [], [], [], []⟩, ⟨[], [], 0, false, []⟩, [], [], []⟩
theorem c00_pk : c00 = pkCs p00 (.slice none 0 0) (.slice none 0 0) (.slice none 0 0) (.slice none 0 0) := rfl
theorem c00_info : (Tryz.prog.info? 55).map (·.size) = some c00.size := by rw [infoPk5]; rfl
theorem c00_one : c00.all (·.oneCell') = true := by unfold c00; exact pk_one (p := p00) (vw := (.slice none 0 0)) (vc := (.slice none 0 0)) (vf := (.slice none 0 0)) (vp := (.slice none 0 0)) rfl rfl rfl rfl
theorem store_00 {w : World} {b : Nat} (h : Obj? w b #[.int .i64 0, .bool false, .bool false, .int .i64 0, .int .i64 0, .string ⟨#[]⟩, .string ⟨#[]⟩, .bool false, .int .i64 0, .string ⟨#[]⟩, .bool false, .string ⟨#[]⟩, .bool false, .string ⟨#[]⟩, .bool false, .string ⟨#[]⟩, .string ⟨#[]⟩, .int .i64 0, .bool false, .slice none 0 0, .bool false, .int .i64 0, .slice none 0 0, .slice none 0 0, .slice none 0 0] 55) : (rowStore 55 ⟨b, 0, none⟩ (.agg #[.int .i64 0, .bool false, .bool false, .int .i64 0, .int .i64 0, .string ⟨#[]⟩, .string ⟨#[]⟩, .bool false, .int .i64 0, .string ⟨#[]⟩, .bool false, .string ⟨#[]⟩, .bool false, .string ⟨#[]⟩, .bool false, .string ⟨#[]⟩, .string ⟨#[]⟩, .int .i64 0, .bool false, .slice none 0 0, .bool false, .int .i64 0, .slice none 0 0, .slice none 0 0, .slice none 0 0])).run Tryz.prog w = .ok () (w.setRow b c00) := by
  have h := rowStore_run (P := Tryz.prog) _ b 55 55 _ c00 h c00_info rfl c00_one
  exact h
theorem store_any00 {w : World} {b : Nat} {c : Array Value} (hi : (Tryz.prog.info? 55).map (·.size) = some c.size) (hs : 25 = c.size) (h1 : c.all (·.oneCell') = true) (h : Obj? w b #[.int .i64 0, .bool false, .bool false, .int .i64 0, .int .i64 0, .string ⟨#[]⟩, .string ⟨#[]⟩, .bool false, .int .i64 0, .string ⟨#[]⟩, .bool false, .string ⟨#[]⟩, .bool false, .string ⟨#[]⟩, .bool false, .string ⟨#[]⟩, .string ⟨#[]⟩, .int .i64 0, .bool false, .slice none 0 0, .bool false, .int .i64 0, .slice none 0 0, .slice none 0 0, .slice none 0 0] 55) : (rowStore 55 ⟨b, 0, none⟩ (.agg c)).run Tryz.prog w = .ok () (w.setRow b c) :=
  rowStore_run (P := Tryz.prog) _ b 55 55 _ c h hi hs h1
theorem u8w_append (a b : List UInt8) : u8w (a ++ b) = u8w a ++ u8w b := by simp [u8w]
theorem strCells_w (l : List UInt8) : Lib.strCells ⟨l.toArray⟩ = u8w l := by simp [Lib.strCells, u8w]
theorem strOf_w (l : List UInt8) : strOfNums (l.map fun b => (b.toNat : Int)) = ⟨l.toArray⟩ := by
  unfold strOfNums
  congr 2
  rw [List.map_map]
  have : ((fun n : Int => UInt8.ofNat n.toNat) ∘ fun b : UInt8 => (b.toNat : Int)) = id := by funext b; simp
  rw [this, List.map_id]
theorem conv_w {w : World} {B g c : Nat} {l : List UInt8} (h : w.ownsRow B 5 1 (.slice (some ⟨g, 0, none⟩) l.length c) l.length (u8w l)) : (convert 65 9 (.slice (some ⟨g, 0, none⟩) l.length c)).run Tryz.prog w = .ok (.string ⟨l.toArray⟩) w := by
  have h2 : w.ownsRow B 5 1 (.slice (some ⟨g, 0, none⟩) l.length c) l.length ((l.map fun b => (b.toNat : Int)).map (Value.int .u8)) := by
    rw [List.map_map]; exact h
  have hc := run_convert_bytes_arg (P := Tryz.prog) w 65 5 Tryz.underlying65 Tryz.underlying5 g 0 l.length c (l.map fun b => (b.toNat : Int)) (by simp) (owns_ints h2 (by simp)) 9 Tryz.underlying9
  rw [strOf_w] at hc
  exact hc
theorem reads_w {w : World} {B g c : Nat} {l : List UInt8} (h : w.ownsRow B 5 1 (.slice (some ⟨g, 0, none⟩) l.length c) l.length (u8w l)) : Reads w (.slice (some ⟨g, 0, none⟩) l.length c) l := fun W hW => conv_w (row_belowh h hW)
theorem owns_le {w : World} {B n c : Nat} {al : Option Addr} {xs : List Value} {t : TypeId} (h : w.ownsRow B t 1 (.slice al n c) n xs) : n ≤ c := by
  rcases h.2 with ⟨h, h0⟩ | ⟨g, c', _, h, _, _, hn, _⟩
  · injection h with _ h1 h2; omega
  · injection h with _ _ h2; omega
theorem reads_any {w : World} {B c : Nat} {al : Option Addr} {l : List UInt8} (h : w.ownsRow B 5 1 (.slice al l.length c) l.length (u8w l)) (hl : l ≠ []) : Reads w (.slice al l.length c) l := by
  rcases h.2 with ⟨_, h0⟩ | ⟨g, c', _, he, _⟩
  · exact absurd (List.length_eq_zero_iff.1 h0) hl
  · injection he with e1 e2 e3
    subst e1
    exact reads_w h
attribute [local go_sem ↓] load_Pk store_Pk
attribute [local irreducible] rowSem rowStore c12 c00
set_option maxRecDepth 100000 in
set_option maxHeartbeats 1600000 in
theorem need_err {w : World} {sp : Nat} {v m a t e : Int} {kv : Value} (hO : Obj? w sp (stC v m kv a t e) 67) (he : e ≠ 0) :
    Calls Tryz.prog 12 #[.pointer (some ⟨sp, 0, none⟩)] w fun r w' => r = .returned (.int .i64 0) ∧ w' = w := by
  have c5 := hO.cell 5 (.int .i64 e) rfl
  have he2 : (e != 0) = true := by simpa using he
  clear hO
  go_enter Tryz.func12, Tryz.ntmps12
  go_wp2
  go_ret
  exact ⟨rfl, rfl⟩
set_option maxRecDepth 100000 in
set_option maxHeartbeats 1600000 in
theorem need_short {w : World} {sp : Nat} {v m a t : Int} {al : Option Addr} {n c : Nat} {ks : List UInt8} (hO : Obj? w sp (stC v m (.slice al n c) a t 0) 67) (hn5 : n ≤ 5) (hnc : n ≤ c) (hk : ks.length ≤ 5) (hR : Reads w (.slice al n c) ks) (hh : rdH v ks = (0, 0, 0, 0, 3)) :
    Calls Tryz.prog 12 #[.pointer (some ⟨sp, 0, none⟩)] w fun r w' => r = .returned (.int .i64 1) ∧ Below w.heap.size w w' := by
  have c5 := hO.cell 5 (.int .i64 0) rfl
  have HS := Lib.hid (size_short hO hn5 hnc hk hR hh trivial)
  clear hO hn5 hnc hk hR hh
  go_enter Tryz.func12, Tryz.ntmps12
  go_wp2_with fail
  refine HS.out.mono ?_
  rintro r w1 ⟨rfl, hb⟩
  have HB := Lib.hid hb
  clear hb HS c5
  go_wp2_with fail
  go_ret
  exact ⟨rfl, HB.out⟩
set_option maxRecDepth 100000 in
set_option maxHeartbeats 1600000 in
theorem need_ok {w : World} {sp : Nat} {v m a t : Int} {al : Option Addr} {n c : Nat} {ks : List UInt8} {k f l nn : Int} (hO : Obj? w sp (stC v m (.slice al n c) a t 0) 67) (hn5 : n ≤ 5) (hnc : n ≤ c) (hk : ks.length ≤ 5) (hR : Reads w (.slice al n c) ks) (hh : rdH v ks = (k, f, l, nn, 0)) (hr : 0 ≤ l ∧ l ≤ 268435455 ∧ 0 ≤ nn ∧ nn ≤ 5) :
    Calls Tryz.prog 12 #[.pointer (some ⟨sp, 0, none⟩)] w fun r w' => r = .returned (.int .i64 (nn + l - n)) ∧ Below w.heap.size w w' := by
  have c5 := hO.cell 5 (.int .i64 0) rfl
  have HS := Lib.hid (size_ok hO hn5 hnc hk hR hh hr)
  have HO := Lib.hid hO
  clear hO hnc hk hR hh
  go_enter Tryz.func12, Tryz.ntmps12
  go_wp2_with fail
  refine HS.out.mono ?_
  rintro r w1 ⟨rfl, hb⟩
  have c2 := (HO.out.below hb HO.out.lt).cell 2 (.slice al n c) rfl
  have HB := Lib.hid hb
  clear hb HS c5
  go_wp2_with fail
  go_ret
  exact ⟨rfl, HB.out⟩
set_option maxRecDepth 100000 in
set_option maxHeartbeats 1600000 in
theorem next_short {w : World} {sp : Nat} {v m a t : Int} {al : Option Addr} {n c : Nat} {ks : List UInt8} (hO : Obj? w sp (stC v m (.slice al n c) a t 0) 67) (hn5 : n ≤ 5) (hnc : n ≤ c) (hk : ks.length ≤ 5) (hR : Reads w (.slice al n c) ks) (hh : rdH v ks = (0, 0, 0, 0, 3)) :
    Calls Tryz.prog 20 #[.pointer (some ⟨sp, 0, none⟩)] w fun r w' => r = .returned (.tuple #[.agg c00, .int .i64 0, .int .i64 3]) ∧ Below w.heap.size w w' := by
  have HB0 := Lib.hid (below_al (Below.refl _ w) (.cells #[.int .i64 0, .bool false, .bool false, .int .i64 0, .int .i64 0, .string ⟨#[]⟩, .string ⟨#[]⟩, .bool false, .int .i64 0, .string ⟨#[]⟩, .bool false, .string ⟨#[]⟩, .bool false, .string ⟨#[]⟩, .bool false, .string ⟨#[]⟩, .string ⟨#[]⟩, .int .i64 0, .bool false, .slice none 0 0, .bool false, .int .i64 0, .slice none 0 0, .slice none 0 0, .slice none 0 0] 55 (0, 0)))
  have HP0 := Lib.hid (Obj?.new w #[.int .i64 0, .bool false, .bool false, .int .i64 0, .int .i64 0, .string ⟨#[]⟩, .string ⟨#[]⟩, .bool false, .int .i64 0, .string ⟨#[]⟩, .bool false, .string ⟨#[]⟩, .bool false, .string ⟨#[]⟩, .bool false, .string ⟨#[]⟩, .string ⟨#[]⟩, .int .i64 0, .bool false, .slice none 0 0, .bool false, .int .i64 0, .slice none 0 0, .slice none 0 0, .slice none 0 0] 55)
  have HO0 := Lib.hid (hO.alloc (.cells #[.int .i64 0, .bool false, .bool false, .int .i64 0, .int .i64 0, .string ⟨#[]⟩, .string ⟨#[]⟩, .bool false, .int .i64 0, .string ⟨#[]⟩, .bool false, .string ⟨#[]⟩, .bool false, .string ⟨#[]⟩, .bool false, .string ⟨#[]⟩, .string ⟨#[]⟩, .int .i64 0, .bool false, .slice none 0 0, .bool false, .int .i64 0, .slice none 0 0, .slice none 0 0, .slice none 0 0] 55 (0, 0)))
  have HS := Lib.hid (size_short (hO.alloc (.cells #[.int .i64 0, .bool false, .bool false, .int .i64 0, .int .i64 0, .string ⟨#[]⟩, .string ⟨#[]⟩, .bool false, .int .i64 0, .string ⟨#[]⟩, .bool false, .string ⟨#[]⟩, .bool false, .string ⟨#[]⟩, .bool false, .string ⟨#[]⟩, .string ⟨#[]⟩, .int .i64 0, .bool false, .slice none 0 0, .bool false, .int .i64 0, .slice none 0 0, .slice none 0 0, .slice none 0 0] 55 (0, 0))) hn5 hnc hk (hR.below (below_al (Below.refl _ w) _)) hh trivial)
  clear hO hnc hk hR hh
  go_enter Tryz.func20, Tryz.ntmps20
  go_wp2_with fail
  refine HS.out.mono ?_
  rintro r w1 ⟨rfl, hb⟩
  have HB := Lib.hid (below_thenh HB0.out hb)
  have HP1 := Lib.hid (HP0.out.below hb HP0.out.lt)
  have HO1 := Lib.hid (HO0.out.below hb HO0.out.lt)
  have hst := store_00 HP1.out
  clear hb HS HB0 HP0 HO0
  go_wp2_with fail
  refine bodyPost_ret (results_row_tmp2 rfl _ _ _ _ _ _ rfl (HP1.out.setRow c00) Tryz.underlying55 rfl c00_info) rfl ?_
  exact ⟨by rw [c00_lit]; rfl, below_row HB.out (Nat.le_refl _) _⟩
set_option maxRecDepth 100000 in
set_option maxHeartbeats 1600000 in
theorem next_long {w : World} {sp : Nat} {v m a t : Int} {al : Option Addr} {n c : Nat} {ks : List UInt8} {k f l nn : Int} (hO : Obj? w sp (stC v m (.slice al n c) a t 0) 67) (hn5 : n ≤ 5) (hnc : n ≤ c) (hk : ks.length ≤ 5) (hR : Reads w (.slice al n c) ks) (hh : rdH v ks = (k, f, l, nn, 0)) (hr : 0 ≤ l ∧ l ≤ 268435455 ∧ 0 ≤ nn ∧ nn ≤ 5) (hm : m < nn + l) :
    Calls Tryz.prog 20 #[.pointer (some ⟨sp, 0, none⟩)] w fun r w' => r = .returned (.tuple #[.agg c00, .int .i64 0, .int .i64 4]) ∧ Below w.heap.size w w' := by
  have HB0 := Lib.hid (below_al (Below.refl _ w) (.cells #[.int .i64 0, .bool false, .bool false, .int .i64 0, .int .i64 0, .string ⟨#[]⟩, .string ⟨#[]⟩, .bool false, .int .i64 0, .string ⟨#[]⟩, .bool false, .string ⟨#[]⟩, .bool false, .string ⟨#[]⟩, .bool false, .string ⟨#[]⟩, .string ⟨#[]⟩, .int .i64 0, .bool false, .slice none 0 0, .bool false, .int .i64 0, .slice none 0 0, .slice none 0 0, .slice none 0 0] 55 (0, 0)))
  have HP0 := Lib.hid (Obj?.new w #[.int .i64 0, .bool false, .bool false, .int .i64 0, .int .i64 0, .string ⟨#[]⟩, .string ⟨#[]⟩, .bool false, .int .i64 0, .string ⟨#[]⟩, .bool false, .string ⟨#[]⟩, .bool false, .string ⟨#[]⟩, .bool false, .string ⟨#[]⟩, .string ⟨#[]⟩, .int .i64 0, .bool false, .slice none 0 0, .bool false, .int .i64 0, .slice none 0 0, .slice none 0 0, .slice none 0 0] 55)
  have HO0 := Lib.hid (hO.alloc (.cells #[.int .i64 0, .bool false, .bool false, .int .i64 0, .int .i64 0, .string ⟨#[]⟩, .string ⟨#[]⟩, .bool false, .int .i64 0, .string ⟨#[]⟩, .bool false, .string ⟨#[]⟩, .bool false, .string ⟨#[]⟩, .bool false, .string ⟨#[]⟩, .string ⟨#[]⟩, .int .i64 0, .bool false, .slice none 0 0, .bool false, .int .i64 0, .slice none 0 0, .slice none 0 0, .slice none 0 0] 55 (0, 0)))
  have HS := Lib.hid (size_ok (hO.alloc (.cells #[.int .i64 0, .bool false, .bool false, .int .i64 0, .int .i64 0, .string ⟨#[]⟩, .string ⟨#[]⟩, .bool false, .int .i64 0, .string ⟨#[]⟩, .bool false, .string ⟨#[]⟩, .bool false, .string ⟨#[]⟩, .bool false, .string ⟨#[]⟩, .string ⟨#[]⟩, .int .i64 0, .bool false, .slice none 0 0, .bool false, .int .i64 0, .slice none 0 0, .slice none 0 0, .slice none 0 0] 55 (0, 0))) hn5 hnc hk (hR.below (below_al (Below.refl _ w) _)) hh hr)
  clear hO hnc hk hR hh
  go_enter Tryz.func20, Tryz.ntmps20
  go_wp2_with fail
  refine HS.out.mono ?_
  rintro r w1 ⟨rfl, hb⟩
  have HB := Lib.hid (below_thenh HB0.out hb)
  have HP1 := Lib.hid (HP0.out.below hb HP0.out.lt)
  have HO1 := Lib.hid (HO0.out.below hb HO0.out.lt)
  have hst := store_00 HP1.out
  have c1 := HO1.out.cell 1 (.int .i64 m) rfl
  obtain ⟨hr1, hr2, hr3, hr4⟩ := hr
  clear hb HS HB0 HP0 HO0
  go_wp2_with fail
  refine bodyPost_ret (results_row_tmp2 rfl _ _ _ _ _ _ rfl (HP1.out.setRow c00) Tryz.underlying55 rfl c00_info) rfl ?_
  exact ⟨by rw [c00_lit]; rfl, below_row HB.out (Nat.le_refl _) _⟩
set_option maxRecDepth 100000 in
set_option maxHeartbeats 1600000 in
theorem next_wait {w : World} {sp : Nat} {v m a t : Int} {al : Option Addr} {n c : Nat} {ks : List UInt8} {k f l nn : Int} (hO : Obj? w sp (stC v m (.slice al n c) a t 0) 67) (hn5 : n ≤ 5) (hnc : n ≤ c) (hk : ks.length ≤ 5) (hR : Reads w (.slice al n c) ks) (hh : rdH v ks = (k, f, l, nn, 0)) (hr : 0 ≤ l ∧ l ≤ 268435455 ∧ 0 ≤ nn ∧ nn ≤ 5) (hm : nn + l ≤ m) (hw : (n : Int) < nn + l) :
    Calls Tryz.prog 20 #[.pointer (some ⟨sp, 0, none⟩)] w fun r w' => r = .returned (.tuple #[.agg c00, .int .i64 0, .int .i64 3]) ∧ Below w.heap.size w w' := by
  have HB0 := Lib.hid (below_al (Below.refl _ w) (.cells #[.int .i64 0, .bool false, .bool false, .int .i64 0, .int .i64 0, .string ⟨#[]⟩, .string ⟨#[]⟩, .bool false, .int .i64 0, .string ⟨#[]⟩, .bool false, .string ⟨#[]⟩, .bool false, .string ⟨#[]⟩, .bool false, .string ⟨#[]⟩, .string ⟨#[]⟩, .int .i64 0, .bool false, .slice none 0 0, .bool false, .int .i64 0, .slice none 0 0, .slice none 0 0, .slice none 0 0] 55 (0, 0)))
  have HP0 := Lib.hid (Obj?.new w #[.int .i64 0, .bool false, .bool false, .int .i64 0, .int .i64 0, .string ⟨#[]⟩, .string ⟨#[]⟩, .bool false, .int .i64 0, .string ⟨#[]⟩, .bool false, .string ⟨#[]⟩, .bool false, .string ⟨#[]⟩, .bool false, .string ⟨#[]⟩, .string ⟨#[]⟩, .int .i64 0, .bool false, .slice none 0 0, .bool false, .int .i64 0, .slice none 0 0, .slice none 0 0, .slice none 0 0] 55)
  have HO0 := Lib.hid (hO.alloc (.cells #[.int .i64 0, .bool false, .bool false, .int .i64 0, .int .i64 0, .string ⟨#[]⟩, .string ⟨#[]⟩, .bool false, .int .i64 0, .string ⟨#[]⟩, .bool false, .string ⟨#[]⟩, .bool false, .string ⟨#[]⟩, .bool false, .string ⟨#[]⟩, .string ⟨#[]⟩, .int .i64 0, .bool false, .slice none 0 0, .bool false, .int .i64 0, .slice none 0 0, .slice none 0 0, .slice none 0 0] 55 (0, 0)))
  have HS := Lib.hid (size_ok (hO.alloc (.cells #[.int .i64 0, .bool false, .bool false, .int .i64 0, .int .i64 0, .string ⟨#[]⟩, .string ⟨#[]⟩, .bool false, .int .i64 0, .string ⟨#[]⟩, .bool false, .string ⟨#[]⟩, .bool false, .string ⟨#[]⟩, .bool false, .string ⟨#[]⟩, .string ⟨#[]⟩, .int .i64 0, .bool false, .slice none 0 0, .bool false, .int .i64 0, .slice none 0 0, .slice none 0 0, .slice none 0 0] 55 (0, 0))) hn5 hnc hk (hR.below (below_al (Below.refl _ w) _)) hh hr)
  clear hO hnc hk hR hh
  go_enter Tryz.func20, Tryz.ntmps20
  go_wp2_with fail
  refine HS.out.mono ?_
  rintro r w1 ⟨rfl, hb⟩
  have HB := Lib.hid (below_thenh HB0.out hb)
  have HP1 := Lib.hid (HP0.out.below hb HP0.out.lt)
  have HO1 := Lib.hid (HO0.out.below hb HO0.out.lt)
  have hst := store_00 HP1.out
  have c1 := HO1.out.cell 1 (.int .i64 m) rfl
  obtain ⟨hr1, hr2, hr3, hr4⟩ := hr
  have c2 := HO1.out.cell 2 (.slice al n c) rfl
  clear hb HS HB0 HP0 HO0
  go_wp2_with fail
  refine bodyPost_ret (results_row_tmp2 rfl _ _ _ _ _ _ rfl (HP1.out.setRow c00) Tryz.underlying55 rfl c00_info) rfl ?_
  exact ⟨by rw [c00_lit]; rfl, below_row HB.out (Nat.le_refl _) _⟩
/-- next tells no packet, and a code. -/
def NextSays (v m : Int) (ks : List UInt8) (code : Int) : Prop := ∀ (w : World) (sp : Nat) (a t : Int) (al : Option Addr) (c : Nat), Obj? w sp (stC v m (.slice al ks.length c) a t 0) 67 → ks.length ≤ c → Reads w (.slice al ks.length c) ks →
  Calls Tryz.prog 20 #[.pointer (some ⟨sp, 0, none⟩)] w fun r w' => r = .returned (.tuple #[.agg c00, .int .i64 0, .int .i64 code]) ∧ Below w.heap.size w w'
theorem store_new00 (w : World) : (rowStore 55 ⟨w.heap.size, 0, none⟩ (.agg c00)).run Tryz.prog (w.alloc (.cells #[.int .i64 0, .bool false, .bool false, .int .i64 0, .int .i64 0, .string ⟨#[]⟩, .string ⟨#[]⟩, .bool false, .int .i64 0, .string ⟨#[]⟩, .bool false, .string ⟨#[]⟩, .bool false, .string ⟨#[]⟩, .bool false, .string ⟨#[]⟩, .string ⟨#[]⟩, .int .i64 0, .bool false, .slice none 0 0, .bool false, .int .i64 0, .slice none 0 0, .slice none 0 0, .slice none 0 0] 55 (0, 0))) = .ok () (w.alloc (.cells c00 55 (0, 0))) := by
  have h := store_any00 c00_info (by unfold c00; rfl) c00_one (Obj?.new w #[.int .i64 0, .bool false, .bool false, .int .i64 0, .int .i64 0, .string ⟨#[]⟩, .string ⟨#[]⟩, .bool false, .int .i64 0, .string ⟨#[]⟩, .bool false, .string ⟨#[]⟩, .bool false, .string ⟨#[]⟩, .bool false, .string ⟨#[]⟩, .string ⟨#[]⟩, .int .i64 0, .bool false, .slice none 0 0, .bool false, .int .i64 0, .slice none 0 0, .slice none 0 0, .slice none 0 0] 55)
  rw [World.setRow_alloc_new] at h
  exact h
set_option maxRecDepth 100000 in
set_option maxHeartbeats 3200000 in
theorem feed_wait {w : World} {sp B : Nat} {v m a t : Int} {kv : Value} {ks cs ks2 : List UInt8} (hks : ks2 = ks ++ cs) (hO : Obj? w sp (stC v m kv a t 0) 67) (hown : w.ownsRow B 5 1 kv ks.length (u8w ks)) (hsp : sp < B) (hB : B ≤ w.heap.size) (hl : ks2.length ≤ 5) (hne : cs ≠ []) (hN : NextSays v m ks2 3) :
    Calls Tryz.prog 10 #[.pointer (some ⟨sp, 0, none⟩), .string ⟨cs.toArray⟩] w fun r w' => ∃ kv', r = .returned (.tuple #[.slice none 0 0, .int .i64 0]) ∧ Below sp w w' ∧ Obj? w' sp (stC v m kv' a t 0) 67 ∧ w'.ownsRow B 5 1 kv' ks2.length (u8w ks2) := by
  obtain ⟨i0, hi, hz0, hz1, hz2⟩ := info_parts Tryz.infoU8
  have hlen : ks2.length = ks.length + cs.length := by rw [hks]; simp
  have c5 := hO.cell 5 (.int .i64 0) rfl
  have c2 := hO.cell 2 kv rfl
  obtain ⟨al0, cap0, rfl⟩ := owns_shape (by decide) hown
  have HO := Lib.hid hO
  have HN := Lib.hid hN
  have hne2 : ks2 ≠ [] := by rw [hks]; simp [hne]
  have HL := Lib.hid (And.intro hlen (And.intro hks hne2))
  have h5 : ks.length + cs.length ≤ 5 := by omega
  clear hO hN hl hne hne2 hks hlen
  go_enter Tryz.func10, Tryz.ntmps10
  refine wp_hide fun Q1 hQ1 => ?_
  have HQ1 := Lib.hid hQ1
  clear hQ1
  go_upto_region 5 with fail
  go_wp2_with (at_builtin; refine Lib.wpList_append_own_string _ rfl _ _ 65 9 rfl B 5 i0 Tryz.underlying65 Tryz.underlying9 hi hz0 hz1 hz2 _ ks.length (u8w ks) rfl hown ⟨cs.toArray⟩ rfl (by show ks.length + cs.length ≤ _; unfold maxLen; omega) (by show ks.length + cs.length ≤ _; omega) hB ?_; intro v' w1 hown1 hgrow _; replace hown1 : w1.ownsRow B 5 1 v' ks2.length (u8w ks2) := (by rw [HL.out.1, HL.out.2.1, u8w_append, ← strCells_w]; exact hown1); obtain ⟨al1, cap1, rfl⟩ := owns_shape (by decide) hown1; have HO1 := Lib.hid (show Obj? w1 sp (stC v m (.slice al0 ks.length cap0) a t 0) 67 from HO.out.kept hgrow (fun e => by have := (hown.lt _ e).1; omega)); have HB1 := Lib.hid ((Below.refl sp w).grown hgrow (by omega) (fun k e => by have := (hown.lt k e).1; omega)); have f2 := HO1.out.frozen 2; have HW1 := Lib.hid hown1; have k2 := HO1.out.cell 2 (.slice al0 ks.length cap0) rfl; clear hown1 hgrow c5 c2)
  have HO2 := Lib.hid (show Obj? (w1.setCell ⟨sp, 2, none⟩ (.slice al1 ks2.length cap1)) sp (stC v m (.slice al1 ks2.length cap1) a t 0) 67 from HO1.out.set 2 _)
  have HW2 := Lib.hid (show (w1.setCell ⟨sp, 2, none⟩ (.slice al1 ks2.length cap1)).ownsRow B 5 1 (.slice al1 ks2.length cap1) ks2.length (u8w ks2) from ownsRow_setCell_below (a := ⟨sp, 2, none⟩) HW1.out hsp _)
  have HB2 := Lib.hid (HB1.out.setCell (p := ⟨sp, 2, none⟩) (show sp ≤ sp from Nat.le_refl _) (.slice al1 ks2.length cap1))
  obtain ⟨W2, hW2⟩ : ∃ W, W = w1.setCell ⟨sp, 2, none⟩ (.slice al1 ks2.length cap1) := ⟨_, rfl⟩
  rw [← hW2] at HO2 HW2 HB2
  rw [← hW2]
  clear hW2 HO1 HW1 HB1 f2 k2 hown hi hz0 hz1 hz2
  refine wp_loop_rounds 1 ?_
  rw [rounds_succ]
  go_wp2_with fail
  refine (HN.out _ _ _ _ _ _ HO2.out (owns_le HW2.out) (reads_any HW2.out HL.out.2.2)).mono ?_
  rintro r w3 ⟨rfl, hb⟩
  have hst := store_new00 w3
  have HO3 := Lib.hid ((HO2.out.below hb HO2.out.lt).alloc (.cells c00 55 (0, 0)))
  have HW3 := Lib.hid (row_belowh (row_belowh HW2.out hb) (below_al (Below.refl _ _) (.cells c00 55 (0, 0))))
  have HB3 := Lib.hid (show Below sp w (w3.alloc (.cells c00 55 (0, 0))) from (HB2.out.trans (hb.mono (Nat.le_of_lt HO2.out.lt))).alloc (Nat.le_trans (Nat.le_of_lt HO2.out.lt) hb.size) _)
  clear hb HO2 HW2 HB2
  go_wp2_with fail
  refine HQ1.out _ _ _ ?_
  go_ret2
  exact ⟨_, rfl, HB3.out, HO3.out, HW3.out⟩
set_option maxRecDepth 100000 in
set_option maxHeartbeats 3200000 in
theorem feed_long {w : World} {sp B : Nat} {v m a t : Int} {kv : Value} {ks cs ks2 : List UInt8} (hks : ks2 = ks ++ cs) (hO : Obj? w sp (stC v m kv a t 0) 67) (hown : w.ownsRow B 5 1 kv ks.length (u8w ks)) (hsp : sp < B) (hB : B ≤ w.heap.size) (hl : ks2.length ≤ 5) (hne : cs ≠ []) (hN : NextSays v m ks2 4) :
    Calls Tryz.prog 10 #[.pointer (some ⟨sp, 0, none⟩), .string ⟨cs.toArray⟩] w fun r w' => r = .returned (.tuple #[.slice none 0 0, .int .i64 4]) ∧ Below sp w w' ∧ Obj? w' sp (stC v m (.slice none 0 0) a t 4) 67 := by
  obtain ⟨i0, hi, hz0, hz1, hz2⟩ := info_parts Tryz.infoU8
  have hlen : ks2.length = ks.length + cs.length := by rw [hks]; simp
  have c5 := hO.cell 5 (.int .i64 0) rfl
  have c2 := hO.cell 2 kv rfl
  obtain ⟨al0, cap0, rfl⟩ := owns_shape (by decide) hown
  have HO := Lib.hid hO
  have HN := Lib.hid hN
  have hne2 : ks2 ≠ [] := by rw [hks]; simp [hne]
  have HL := Lib.hid (And.intro hlen (And.intro hks hne2))
  have h5 : ks.length + cs.length ≤ 5 := by omega
  clear hO hN hl hne hne2 hks hlen
  go_enter Tryz.func10, Tryz.ntmps10
  refine wp_hide fun Q1 hQ1 => ?_
  have HQ1 := Lib.hid hQ1
  clear hQ1
  go_upto_region 5 with fail
  go_wp2_with (at_builtin; refine Lib.wpList_append_own_string _ rfl _ _ 65 9 rfl B 5 i0 Tryz.underlying65 Tryz.underlying9 hi hz0 hz1 hz2 _ ks.length (u8w ks) rfl hown ⟨cs.toArray⟩ rfl (by show ks.length + cs.length ≤ _; unfold maxLen; omega) (by show ks.length + cs.length ≤ _; omega) hB ?_; intro v' w1 hown1 hgrow _; replace hown1 : w1.ownsRow B 5 1 v' ks2.length (u8w ks2) := (by rw [HL.out.1, HL.out.2.1, u8w_append, ← strCells_w]; exact hown1); obtain ⟨al1, cap1, rfl⟩ := owns_shape (by decide) hown1; have HO1 := Lib.hid (show Obj? w1 sp (stC v m (.slice al0 ks.length cap0) a t 0) 67 from HO.out.kept hgrow (fun e => by have := (hown.lt _ e).1; omega)); have HB1 := Lib.hid ((Below.refl sp w).grown hgrow (by omega) (fun k e => by have := (hown.lt k e).1; omega)); have f2 := HO1.out.frozen 2; have HW1 := Lib.hid hown1; have k2 := HO1.out.cell 2 (.slice al0 ks.length cap0) rfl; clear hown1 hgrow c5 c2)
  have HO2 := Lib.hid (show Obj? (w1.setCell ⟨sp, 2, none⟩ (.slice al1 ks2.length cap1)) sp (stC v m (.slice al1 ks2.length cap1) a t 0) 67 from HO1.out.set 2 _)
  have HW2 := Lib.hid (show (w1.setCell ⟨sp, 2, none⟩ (.slice al1 ks2.length cap1)).ownsRow B 5 1 (.slice al1 ks2.length cap1) ks2.length (u8w ks2) from ownsRow_setCell_below (a := ⟨sp, 2, none⟩) HW1.out hsp _)
  have HB2 := Lib.hid (HB1.out.setCell (p := ⟨sp, 2, none⟩) (show sp ≤ sp from Nat.le_refl _) (.slice al1 ks2.length cap1))
  obtain ⟨W2, hW2⟩ : ∃ W, W = w1.setCell ⟨sp, 2, none⟩ (.slice al1 ks2.length cap1) := ⟨_, rfl⟩
  rw [← hW2] at HO2 HW2 HB2
  rw [← hW2]
  clear hW2 HO1 HW1 HB1 f2 k2 hown hi hz0 hz1 hz2
  refine wp_loop_rounds 1 ?_
  rw [rounds_succ]
  go_wp2_with fail
  refine (HN.out _ _ _ _ _ _ HO2.out (owns_le HW2.out) (reads_any HW2.out HL.out.2.2)).mono ?_
  rintro r w3 ⟨rfl, hb⟩
  have hst := store_new00 w3
  have HO3 := Lib.hid ((HO2.out.below hb HO2.out.lt).alloc (.cells c00 55 (0, 0)))
  have HW3 := Lib.hid (row_belowh (row_belowh HW2.out hb) (below_al (Below.refl _ _) (.cells c00 55 (0, 0))))
  have HB3 := Lib.hid (show Below sp w (w3.alloc (.cells c00 55 (0, 0))) from (HB2.out.trans (hb.mono (Nat.le_of_lt HO2.out.lt))).alloc (Nat.le_trans (Nat.le_of_lt HO2.out.lt) hb.size) _)
  clear hb HO2 HW2 HB2
  have f2 := HO3.out.frozen 2
  have f5 := HO3.out.frozen 5
  have g2 := HO3.out.cell 2 (.slice al1 ks2.length cap1) rfl
  have g5 := HO3.out.cell 5 (.int .i64 0) rfl
  have HO4 := Lib.hid ((HO3.out.set 2 (.slice none 0 0)).set 5 (.int .i64 4))
  have HB4 := Lib.hid ((HB3.out.setCell (p := ⟨sp, 2, none⟩) (show sp ≤ sp from Nat.le_refl _) (.slice none 0 0)).setCell (p := ⟨sp, 5, none⟩) (show sp ≤ sp from Nat.le_refl _) (.int .i64 4))
  go_wp2_with fail
  refine HQ1.out _ _ _ ?_
  go_ret2
  exact ⟨rfl, HB4.out, HO4.out⟩
end Go.Proofs.YtlfgkdiehmoohaaGreatDoor
