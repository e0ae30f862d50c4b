/- polyglotref23: Read. -/
import Derived.Test.YtbacnaplpfmpnaaGreatDoorWrP
import Derived.Test.YtbacnaplpfmpnaaGreatDoorWrU
import Derived.Test.YtbacnaplpfmpnaaGreatDoorRfV
namespace Go.Proofs.YtbacnaplpfmpnaaGreatDoor
open Go Go.RowKit Go.Shelf
set_option linter.unusedVariables false
set_option linter.unusedSimpArgs false
attribute [local go_sem ↓] load_Msg store_Msg load_Dg store_Dg
attribute [local irreducible] rowSem rowStore

/-- Where the reading of hops stands. -/
def RAt (s : List UInt8) (ds : List Hp) (X : List UInt8) : Prop :=
  hopsR 4 s = (ds ++ (hopsR (4 - ds.length) X).1, (hopsR (4 - ds.length) X).2) ∧ ds.length ≤ 4 ∧ X.length ≤ s.length ∧ ∀ x ∈ ds, x.node.length ≤ 35
theorem RAt.err {s X : List UInt8} {ds : List Hp} (h : RAt s ds X) (he : (snR X).2.2.2 ≠ 0) : (hopsR 4 s).2.2 = (snR X).2.2.2 := by rw [h.1, hopsR_err he]
theorem RAt.fin {s X : List UInt8} {ds : List Hp} (h : RAt s ds X) (he : (snR X).2.2.2 = 0) (hk : (snR X).1 ≠ 254) : hopsR 4 s = (ds, X, 0) := by rw [h.1, hopsR_end he hk]; simp
theorem RAt.bad {s X : List UInt8} {ds : List Hp} (h : RAt s ds X) (he : (snR X).2.2.2 = 0) (hk : (snR X).1 = 254) (hb : hopE (4 - ds.length) X ≠ 0) : (hopsR 4 s).2.2 = hopE (4 - ds.length) X := by rw [h.1, hopsR_bad he hk hb]
theorem RAt.step {s X : List UInt8} {ds : List Hp} (h : RAt s ds X) (he : (snR X).2.2.2 = 0) (hk : (snR X).1 = 254) (h4 : ds.length < 4) (hb : hopE (4 - ds.length) X = 0) (hl : (snR X).2.2.1 ≤ 35) : RAt s (ds ++ [hopOf X]) (X.drop (snR X).2.2.1.toNat) := by
  obtain ⟨h1, h2, h3, h5⟩ := h
  rw [show 4 - ds.length = (3 - ds.length) + 1 by omega] at hb h1
  rw [hopsR_go he hk hb] at h1
  refine ⟨?_, by simp; omega, by simp; omega, fun x hx => ?_⟩
  · rw [h1]; simp [show 4 - (ds.length + 1) = 3 - ds.length by omega]
  · rcases List.mem_append.1 hx with hx | hx
    · exact h5 x hx
    · rw [List.mem_singleton.1 hx]; unfold hopOf; simp; omega
def RInv (w : World) (bd : Nat) (ds : List Hp) (W : World) : Prop :=
  ∃ v, Obj? W bd (dgCs v ms0) 45 ∧ W.ownsRow (bd + 1) 49 2 v ds.length (hopCells ds) ∧ Obj? W (w.heap.size + 1) (dgCs nilV ms0) 45 ∧ Below w.heap.size w W ∧ bd + 1 ≤ W.heap.size ∧ w.heap.size + 1 < bd
theorem row_below3 {A B : World} {n1 : Nat} {e : TypeId} {sz : Nat} {v : Value} {k : Nat} {xs : List Value} (h : A.ownsRow n1 e sz v k xs) (hb : Below A.heap.size A B) : B.ownsRow n1 e sz v k xs :=
  row_far h (grown_of_below (row := none) hb) (fun j e => by cases e)
theorem RInv.below {w : World} {bd : Nat} {ds : List Hp} {A B : World} (h : RInv w bd ds A) (hb : Below A.heap.size A B) : RInv w bd ds B := by
  obtain ⟨v, h1, h2, h3, h4, h5, h6⟩ := h
  exact ⟨v, h1.below hb h1.lt, row_below3 h2 hb, h3.below hb h3.lt, h4.trans (hb.mono h4.size), Nat.le_trans h5 hb.size, h6⟩
theorem dg_set (v v' : Value) (m : Ms) : (dgCs v m).setIfInBounds 0 v' = dgCs v' m := by unfold dgCs; rfl
theorem rinv_put {w w4 : World} {bd : Nat} {v v4 : Value} {ds' : List Hp} (OD : Obj? w4 bd (dgCs v ms0) 45) (hown : w4.ownsRow (bd + 1) 49 2 v4 ds'.length (hopCells ds')) (OR : Obj? w4 (w.heap.size + 1) (dgCs nilV ms0) 45) (hB : Below w.heap.size w w4) (hwb : w.heap.size + 1 < bd) :
    RInv w bd ds' (w4.setCell ⟨bd, 0, none⟩ v4) := by
  have hg := grown_set (World.grownBy.refl w4 (some bd)) (p := ⟨bd, 0, none⟩) rfl v4
  have h1 := OD.set 0 v4
  rw [dg_set] at h1
  refine ⟨v4, h1, hown.kept hg (.inr fun e => by have := (hown.lt bd e).1; omega), OR.kept hg (fun e => by have := Option.some.inj e; omega), hB.setCell (p := ⟨bd, 0, none⟩) (by show w.heap.size ≤ bd; omega) _, ?_, hwb⟩
  exact Nat.le_trans OD.lt hg.size
/-- The world of an error's return. -/
theorem rr_err {w W : World} (OR : Obj? W (w.heap.size + 1) (dgCs nilV ms0) 45) (hB : Below w.heap.size w W) :
    Obj? (W.setRow (w.heap.size + 1) (dgCs nilV ms0)) (w.heap.size + 1) (dgCs nilV ms0) 45 ∧ Below w.heap.size w (W.setRow (w.heap.size + 1) (dgCs nilV ms0)) :=
  ⟨OR.setRow _, below_row hB (Nat.le_succ _) _⟩
def strLen : Value → Nat
  | .string s => s.size
  | _ => 0
set_option maxRecDepth 100000 in
set_option maxHeartbeats 3200000 in
theorem rwrapread_any (s : List UInt8) (hs : (s.length : Int) ≤ 4611686018427380000) (mp md : Int) (w : World) :
    Calls Tryz.prog 36 #[.string ⟨s.toArray⟩, .agg #[.int .i64 mp, .int .i64 md]] w (WReadSaid w (wrapR s mp md).1 (wrapR s mp md).2.1 (wrapR s mp md).2.2) := by
  have HR := Lib.hid (fun w => right19_any mp md w)
  have HW := Lib.hid (show wrapR s mp md = if limOk mp md = false then ([], ms0, 2) else if mp < (s.length : Int) then ([], ms0, 4)
    else if (hopsR 4 s).2.2 ≠ 0 then ([], ms0, (hopsR 4 s).2.2)
    else if (readM (hopsR 4 s).2.1).2.2 ≠ 0 then ([], ms0, (readM (hopsR 4 s).2.1).2.2)
    else if (readM (hopsR 4 s).2.1).2.1 ≠ ((hopsR 4 s).2.1.length : Int) then ([], ms0, 5)
    else ((hopsR 4 s).1, (readM (hopsR 4 s).2.1).1, 0) from rfl)
  obtain ⟨L, hL⟩ : ∃ L, L = limOk mp md := ⟨_, rfl⟩
  rw [← hL] at HW HR
  clear hL
  obtain ⟨RH, hRH⟩ : ∃ x, x = (wrapR s mp md).1 := ⟨_, rfl⟩
  obtain ⟨RM, hRM⟩ : ∃ x, x = (wrapR s mp md).2.1 := ⟨_, rfl⟩
  obtain ⟨RE, hRE⟩ : ∃ x, x = (wrapR s mp md).2.2 := ⟨_, rfl⟩
  rw [← hRH, ← hRM, ← hRE]
  have HQ := Lib.hid (And.intro hRH (And.intro hRM hRE))
  clear hRH hRM hRE
  have O0 := (Obj?.new w #[.int .i64 mp, .int .i64 md] 56).alloc (.cells (dgCs nilV ms0) 45 (0, 0))
  have O1 := Obj?.new (w.alloc (.cells #[.int .i64 mp, .int .i64 md] 56 (0, 0))) (dgCs nilV ms0) 45
  rw [World.size_alloc] at O1
  have HO := Lib.hid (And.intro O0 (And.intro O1 (below_al (below_al (Below.refl _ w) (.cells #[.int .i64 mp, .int .i64 md] 56 (0, 0))) (.cells (dgCs nilV ms0) 45 (0, 0)))))
  clear O0 O1
  unfold dgCs ms0 Ms.bare fl0 nilV at HO
  dsimp only at HO
  go_enter Tryz.func36, Tryz.ntmps36
  refine wp_hide fun Q1 hQ1 => ?_
  have HQ1 := Lib.hid hQ1
  clear hQ1
  go_wp2_with fail
  refine (HR.out _).mono ?_
  rintro r w1 ⟨rfl, hb⟩
  have HO1 := Lib.hid (show Obj? w1 w.heap.size #[.int .i64 mp, .int .i64 md] 56 ∧ Obj? w1 (w.heap.size + 1) (dgCs nilV ms0) 45 ∧ Below w.heap.size w w1 from ⟨HO.out.1.below hb HO.out.1.lt, HO.out.2.1.below hb HO.out.2.1.lt, HO.out.2.2.trans (hb.mono HO.out.2.2.size)⟩)
  have kl := HO1.out.1.cells
  clear hb
  cases L with
  | false =>
    obtain ⟨rfl, rfl, rfl⟩ : RH = [] ∧ RM = ms0 ∧ RE = 2 := by
      rw [HQ.out.1, HQ.out.2.1, HQ.out.2.2, HW.out, if_pos rfl]
      exact ⟨rfl, rfl, rfl⟩
    have hst := store_dg (v0 := nilV) (m0 := ms0) (v := nilV) (m := ms0) rfl HO1.out.2.1
    have HF := Lib.hid (rr_err HO1.out.2.1 HO1.out.2.2)
    unfold dgCs ms0 Ms.bare fl0 nilV at hst
    dsimp only at hst
    go_wp2
    refine HQ1.out _ _ _ ?_
    (try simp only [Exit.inBlock, Exit.then])
    refine bodyPost_ret (results_row_tmp rfl _ _ _ _ _ _ rfl HF.out.1 Tryz.underlying45 rfl infoDg) rfl ?_
    exact ⟨nilV, rfl, hopsat_nil _, HF.out.2⟩
  | true =>
  by_cases h2 : mp < (s.length : Int)
  · obtain ⟨rfl, rfl, rfl⟩ : RH = [] ∧ RM = ms0 ∧ RE = 4 := by
      rw [HQ.out.1, HQ.out.2.1, HQ.out.2.2, HW.out, if_neg (by decide), if_pos h2]
      exact ⟨rfl, rfl, rfl⟩
    have hst := store_dg (v0 := nilV) (m0 := ms0) (v := nilV) (m := ms0) rfl HO1.out.2.1
    have HF := Lib.hid (rr_err HO1.out.2.1 HO1.out.2.2)
    unfold dgCs ms0 Ms.bare fl0 nilV at hst
    dsimp only at hst
    go_wp2
    refine HQ1.out _ _ _ ?_
    (try simp only [Exit.inBlock, Exit.then])
    refine bodyPost_ret (results_row_tmp rfl _ _ _ _ _ _ rfl HF.out.1 Tryz.underlying45 rfl infoDg) rfl ?_
    exact ⟨nilV, rfl, hopsat_nil _, HF.out.2⟩
  have hEE := HW.out
  rw [if_neg (by decide), if_neg h2] at hEE
  have HE := Lib.hid hEE
  clear hEE HW
  have HI0 := Lib.hid (show RInv w w1.heap.size [] (w1.alloc (.cells (dgCs nilV ms0) 45 (0, 0))) from ⟨nilV, Obj?.new _ _ _, World.ownsRow_nil _ _ _ _, HO1.out.2.1.alloc _, below_al HO1.out.2.2 _, by rw [World.size_alloc]; exact Nat.le_refl _, HO1.out.2.1.lt⟩)
  unfold dgCs ms0 Ms.bare fl0 nilV at HI0
  dsimp only at HI0
  go_wp2
  obtain ⟨bd, hbd⟩ : ∃ bd, bd = w1.heap.size := ⟨_, rfl⟩
  rw [← hbd] at HI0
  rw [← hbd]
  clear hbd kl
  go_loopw [0] (fun x wr => ∃ (ds : List Hp) (X : List UInt8), x = .string ⟨X.toArray⟩ ∧ Hid (RAt s ds X ∧ RInv w bd ds wr ∧ x = .string ⟨X.toArray⟩)) (fun x _ => strLen x)
  case atStart => exact ⟨[], s, rfl, Lib.hid ⟨⟨by simp, by simp, Nat.le_refl _, by simp⟩, HI0.out, rfl⟩⟩
  case round =>
    obtain ⟨ds, X, rfl, HV⟩ := hrel
    have hXs : X.length ≤ s.length := HV.out.1.2.2.1
    have HRd := Lib.hid (rsnread_any X (by omega))
    have hcs := snR_cases X
    obtain ⟨kind, hkind⟩ : ∃ x, x = (snR X).1 := ⟨_, rfl⟩
    obtain ⟨hd, hhd⟩ : ∃ x, x = (snR X).2.1 := ⟨_, rfl⟩
    obtain ⟨ln, hln⟩ : ∃ x, x = (snR X).2.2.1 := ⟨_, rfl⟩
    obtain ⟨er, her⟩ : ∃ x, x = (snR X).2.2.2 := ⟨_, rfl⟩
    rw [← hkind, ← hhd, ← hln, ← her] at HRd
    have HS := Lib.hid (And.intro hkind (And.intro hhd (And.intro hln her)))
    have HC := Lib.hid hcs
    have HXL := Lib.hid (show (X.length : Int) ≤ 4611686018427380000 by omega)
    clear hcs hkind hhd hln her hXs
    go_wp2_with fail
    refine (HRd.out _).mono ?_
    rintro r wq ⟨rfl, rfl⟩
    obtain ⟨v, OD, hrow, OR, hB, hbz, hwb⟩ := HV.out.2.1
    have HP := Lib.hid (And.intro OD (And.intro hrow (And.intro OR (And.intro hB (And.intro hbz hwb)))))
    clear OD hrow OR hB hbz hwb
    by_cases h1 : er = 0
    rotate_left
    · have hbd := HV.out.1.err (by rw [← HS.out.2.2.2]; exact h1)
      rw [← HS.out.2.2.2] at hbd
      have d1 : (er == 0) = false := by simpa using h1
      have d2 : (er != 0) = true := by simpa using h1
      obtain ⟨rfl, rfl, rfl⟩ : RH = [] ∧ RM = ms0 ∧ RE = er := by
        rw [HQ.out.1, HQ.out.2.1, HQ.out.2.2, HE.out, if_pos (by rw [hbd]; exact h1), hbd]
        exact ⟨rfl, rfl, rfl⟩
      clear hbd
      have hst := store_dg (v0 := nilV) (m0 := ms0) (v := nilV) (m := ms0) rfl HP.out.2.2.1
      have HF := Lib.hid (rr_err HP.out.2.2.1 HP.out.2.2.2.1)
      unfold dgCs ms0 Ms.bare fl0 nilV at hst
      dsimp only at hst
      skip
      go_wp2
      refine HQ1.out _ _ _ ?_
      (try simp only [Exit.inBlock, Exit.then])
      refine bodyPost_ret (results_row_tmp rfl _ _ _ _ _ _ rfl HF.out.1 Tryz.underlying45 rfl infoDg) rfl ?_
      exact ⟨nilV, rfl, hopsat_nil _, HF.out.2⟩
    subst h1
    by_cases h254 : kind = 254
    rotate_left
    · have hfin := HV.out.1.fin HS.out.2.2.2.symm (by rw [← HS.out.1]; exact h254)
      have d1 : (kind != 254) = true := by simpa using h254
      have d2 : (kind == 254) = false := by simpa using h254
      have HM := Lib.hid (qread_any X HXL.out)
      unfold QReadIs at HM
      have hEE := HE.out
      rw [hfin, if_neg (by simp)] at hEE
      simp only at hEE
      have hsm := readM_small (s := X) rfl
      obtain ⟨m, hm⟩ : ∃ x, x = (readM X).1 := ⟨_, rfl⟩
      obtain ⟨nn, hnn⟩ : ∃ x, x = (readM X).2.1 := ⟨_, rfl⟩
      obtain ⟨ee, hee⟩ : ∃ x, x = (readM X).2.2 := ⟨_, rfl⟩
      rw [← hm, ← hnn, ← hee] at HM hEE
      have HEE := Lib.hid hEE
      have HNL := Lib.hid (show (∀ x ∈ ds, (x.node.length : Int) ≤ 9223372036854775807) ∧ (ds.length : Int) ≤ 9223372036854775807 from ⟨fun x hx => by have := HV.out.1.2.2.2 x hx; omega, by have := HV.out.1.2.1; omega⟩)
      clear hEE hm hnn hee hfin h254 hsm
      go_wp2_with fail
      refine (HM.out _).mono ?_
      rintro r w3 ⟨rfl, hb⟩
      have hst := store_new w3 m
      obtain ⟨W4, hW4⟩ : ∃ W4, W4 = w3.alloc (.cells m.cs 25 (0, 0)) := ⟨_, rfl⟩
      have hb4 : Below wr.heap.size wr W4 := by rw [hW4]; exact below_al hb _
      have OM4 : Obj? W4 w3.heap.size m.cs 25 := by rw [hW4]; exact Obj?.new _ _ _
      rw [← hW4] at hst
      have hbmd : w3.heap.size ≠ bd := by have := HP.out.2.2.2.2.1; have := hb.size; omega
      have hbmr : w3.heap.size ≠ w.heap.size + 1 := by have := HP.out.2.2.2.2; have := hb.size; omega
      have HP4 := Lib.hid (show Obj? W4 bd (dgCs v ms0) 45 ∧ W4.ownsRow (bd + 1) 49 2 v ds.length (hopCells ds) ∧ Obj? W4 (w.heap.size + 1) (dgCs nilV ms0) 45 ∧ Below w.heap.size w W4 ∧ w.heap.size + 1 < bd ∧ Obj? W4 w3.heap.size m.cs 25 from
        ⟨HP.out.1.below hb4 HP.out.1.lt, row_below3 HP.out.2.1 hb4, HP.out.2.2.1.below hb4 HP.out.2.2.1.lt, HP.out.2.2.2.1.trans (hb4.mono HP.out.2.2.2.1.size), HP.out.2.2.2.2.2, OM4⟩)
      have HBM := Lib.hid (And.intro hbmd hbmr)
      clear hb hW4 hb4 hbmd hbmr
      by_cases he0 : ee = 0
      · subst he0
        by_cases hnl : nn = (X.length : Int)
        · obtain ⟨rfl, rfl, rfl⟩ : RH = ds ∧ RM = m ∧ RE = 0 := by
            rw [HQ.out.1, HQ.out.2.1, HQ.out.2.2, HEE.out, if_neg (by simp), if_neg (by simp [hnl])]
            exact ⟨rfl, rfl, rfl⟩
          have d3 : (nn == (X.length : Int)) = true := by simpa using hnl
          have d4 : (nn != (X.length : Int)) = false := by simpa using hnl
          have hld := load_msgA (A := RM.cs) (by unfold Ms.cs; rfl) HP4.out.2.2.2.2.2
          obtain ⟨hs1, hs2⟩ := store_dgmsg (v := v) (m0 := ms0) RM HP4.out.1
          obtain ⟨W5, hW5⟩ : ∃ W5, W5 = W4.setCells bd 1 RM.cs.toList := ⟨_, rfl⟩
          have hg5 : W4.grownBy W5 (some bd) := by rw [hW5]; exact setCells_grown bd _ 1 W4
          rw [← hW5] at hs1 hs2
          have r3 := Obj?.kept HP4.out.2.2.1 hg5 (fun e => by have := Option.some.inj e; have := HP4.out.2.2.2.2.1; omega)
          have r5 := HP4.out.2.2.2.1.grown hg5 (by exact HP4.out.2.2.2.1.size) (fun k e => by cases e; have := HP4.out.2.2.2.2.1; omega)
          have hrow5 := row_far HP4.out.2.1 hg5 (fun j e => by obtain rfl := Option.some.inj e; have := HP4.out.1.lt; omega)
          clear hW5
          have hld2 := load_dg hs2
          obtain ⟨a2, c2, rfl⟩ := owns_shape (by decide) HP4.out.2.1
          have hsd := store_dg (v0 := nilV) (m0 := ms0) (v := .slice a2 RH.length c2) (m := RM) rfl r3
          have HF := Lib.hid (And.intro (r3.setRow (dgCs (.slice a2 RH.length c2) RM)) (And.intro (below_row r5 (Nat.le_succ _) (dgCs (.slice a2 RH.length c2) RM)) (hopsat_of_row (row_far hrow5 (setRow_grown W5 (w.heap.size + 1) (dgCs (.slice a2 RH.length c2) RM)) (fun j e => by obtain rfl := Option.some.inj e; have := HP4.out.2.2.2.2.1; omega)) HNL.out.1 HNL.out.2)))
          clear r3 r5 hs2 hg5 hrow5
          unfold dgCs at hsd hld2
          go_wp2
          refine HQ1.out _ _ _ ?_
          (try simp only [Exit.inBlock, Exit.then])
          refine bodyPost_ret (results_row_tmp rfl _ _ _ _ _ _ rfl HF.out.1 Tryz.underlying45 rfl infoDg) rfl ?_
          exact ⟨_, rfl, HF.out.2.2, HF.out.2.1⟩
        · obtain ⟨rfl, rfl, rfl⟩ : RH = [] ∧ RM = ms0 ∧ RE = 5 := by
            rw [HQ.out.1, HQ.out.2.1, HQ.out.2.2, HEE.out, if_neg (by simp), if_pos (by simpa using hnl)]
            exact ⟨rfl, rfl, rfl⟩
          have d3 : (nn == (X.length : Int)) = false := by simpa using hnl
          have d4 : (nn != (X.length : Int)) = true := by simpa using hnl
          have hst1 := hst
          clear hst
          have hst := store_dg (v0 := nilV) (m0 := ms0) (v := nilV) (m := ms0) rfl HP4.out.2.2.1
          have HF := Lib.hid (rr_err HP4.out.2.2.1 HP4.out.2.2.2.1)
          unfold dgCs ms0 Ms.bare fl0 nilV at hst
          dsimp only at hst
          skip
          go_wp2
          refine HQ1.out _ _ _ ?_
          (try simp only [Exit.inBlock, Exit.then])
          refine bodyPost_ret (results_row_tmp rfl _ _ _ _ _ _ rfl HF.out.1 Tryz.underlying45 rfl infoDg) rfl ?_
          exact ⟨nilV, rfl, hopsat_nil _, HF.out.2⟩
      · have d3 : (ee == 0) = false := by simpa using he0
        have d4 : (ee != 0) = true := by simpa using he0
        obtain ⟨rfl, rfl, rfl⟩ : RH = [] ∧ RM = ms0 ∧ RE = ee := by
          rw [HQ.out.1, HQ.out.2.1, HQ.out.2.2, HEE.out, if_pos he0]
          exact ⟨rfl, rfl, rfl⟩
        have hst1 := hst
        clear hst
        have hst := store_dg (v0 := nilV) (m0 := ms0) (v := nilV) (m := ms0) rfl HP4.out.2.2.1
        have HF := Lib.hid (rr_err HP4.out.2.2.1 HP4.out.2.2.2.1)
        unfold dgCs ms0 Ms.bare fl0 nilV at hst
        dsimp only at hst
        skip
        go_wp2
        refine HQ1.out _ _ _ ?_
        (try simp only [Exit.inBlock, Exit.then])
        refine bodyPost_ret (results_row_tmp rfl _ _ _ _ _ _ rfl HF.out.1 Tryz.underlying45 rfl infoDg) rfl ?_
        exact ⟨nilV, rfl, hopsat_nil _, HF.out.2⟩
    subst h254
    have HC' := HC.out.resolve_left (fun h => h HS.out.2.2.2.symm)
    obtain ⟨kk, hN, lN, hs1, -, hhl, hl65, hht, -⟩ := HC'
    have hh1 : hd = hN := by rw [HS.out.2.1, hs1]
    have hh2 : ln = lN := by rw [HS.out.2.2.1, hs1]
    subst hh1 hh2
    have HSL := Lib.hid (show (snR X).2.1 = hN ∧ (snR X).2.2.1 = lN from ⟨HS.out.2.1.symm, HS.out.2.2.1.symm⟩)
    clear hs1 HC
    have kd := HP.out.1.cells
    obtain ⟨a2, c2, rfl⟩ := owns_shape (by decide) HP.out.2.1
    have hk5 : ds.length ≤ 4 := HV.out.1.2.1
    unfold dgCs ms0 Ms.bare fl0 at kd
    dsimp only at kd
    by_cases hk4 : ds.length = 4
    · have hE : hopE (4 - ds.length) X = 12 := by unfold hopE; rw [if_pos (by omega)]
      have hbd := HV.out.1.bad HS.out.2.2.2.symm HS.out.1.symm (by rw [hE]; decide)
      rw [hE] at hbd
      obtain ⟨rfl, rfl, rfl⟩ : RH = [] ∧ RM = ms0 ∧ RE = 12 := by
        rw [HQ.out.1, HQ.out.2.1, HQ.out.2.2, HE.out, if_pos (by rw [hbd]; decide), hbd]
        exact ⟨rfl, rfl, rfl⟩
      clear hbd
      have d4 : ((ds.length : Int) == 4) = true := by rw [hk4]; rfl
      have d4i : (ds.length : Int) = 4 := by omega
      clear hk4 hE
      have hst := store_dg (v0 := nilV) (m0 := ms0) (v := nilV) (m := ms0) rfl HP.out.2.2.1
      have HF := Lib.hid (rr_err HP.out.2.2.1 HP.out.2.2.2.1)
      unfold dgCs ms0 Ms.bare fl0 nilV at hst
      dsimp only at hst
      skip
      go_wp2
      refine HQ1.out _ _ _ ?_
      (try simp only [Exit.inBlock, Exit.then])
      refine bodyPost_ret (results_row_tmp rfl _ _ _ _ _ _ rfl HF.out.1 Tryz.underlying45 rfl infoDg) rfl ?_
      exact ⟨nilV, rfl, hopsat_nil _, HF.out.2⟩
    have hk4' : ds.length < 4 := by omega
    have d4 : ((ds.length : Int) == 4) = false := by apply beq_eq_false_iff_ne.2; omega
    have HE0 := Lib.hid (show hopE (4 - ds.length) X = if (hN : Int) ≠ 2 ∨ (lN : Int) ≤ 3 ∨ 35 < (lN : Int) then 5 else if (X.length : Int) < lN then 3 else if 3 < num X 2 1 then 5 else 0 by
      unfold hopE
      rw [if_neg (by omega), HSL.out.1, HSL.out.2])
    clear hk4
    by_cases hh : hN ≠ 2
    · have hE : hopE (4 - ds.length) X = 5 := by rw [HE0.out, if_pos (.inl (by omega))]
      have hbd := HV.out.1.bad HS.out.2.2.2.symm HS.out.1.symm (by rw [hE]; decide)
      rw [hE] at hbd
      obtain ⟨rfl, rfl, rfl⟩ : RH = [] ∧ RM = ms0 ∧ RE = 5 := by
        rw [HQ.out.1, HQ.out.2.1, HQ.out.2.2, HE.out, if_pos (by rw [hbd]; decide), hbd]
        exact ⟨rfl, rfl, rfl⟩
      clear hbd
      have d5 : ((hN : Int) != 2) = true := by simp; omega
      have d6 : ((hN : Int) == 2) = false := by apply beq_eq_false_iff_ne.2; omega
      clear hE
      have hst := store_dg (v0 := nilV) (m0 := ms0) (v := nilV) (m := ms0) rfl HP.out.2.2.1
      have HF := Lib.hid (rr_err HP.out.2.2.1 HP.out.2.2.2.1)
      unfold dgCs ms0 Ms.bare fl0 nilV at hst
      dsimp only at hst
      skip
      go_wp2
      refine HQ1.out _ _ _ ?_
      (try simp only [Exit.inBlock, Exit.then])
      refine bodyPost_ret (results_row_tmp rfl _ _ _ _ _ _ rfl HF.out.1 Tryz.underlying45 rfl infoDg) rfl ?_
      exact ⟨nilV, rfl, hopsat_nil _, HF.out.2⟩
    obtain rfl : hN = 2 := Decidable.not_not.1 hh
    by_cases hl3 : lN ≤ 3
    · have hE : hopE (4 - ds.length) X = 5 := by rw [HE0.out, if_pos (.inr (.inl (by omega)))]
      have hbd := HV.out.1.bad HS.out.2.2.2.symm HS.out.1.symm (by rw [hE]; decide)
      rw [hE] at hbd
      obtain ⟨rfl, rfl, rfl⟩ : RH = [] ∧ RM = ms0 ∧ RE = 5 := by
        rw [HQ.out.1, HQ.out.2.1, HQ.out.2.2, HE.out, if_pos (by rw [hbd]; decide), hbd]
        exact ⟨rfl, rfl, rfl⟩
      clear hbd
      have d5 : (lN : Int) < 4 := by omega
      clear hE
      have hst := store_dg (v0 := nilV) (m0 := ms0) (v := nilV) (m := ms0) rfl HP.out.2.2.1
      have HF := Lib.hid (rr_err HP.out.2.2.1 HP.out.2.2.2.1)
      unfold dgCs ms0 Ms.bare fl0 nilV at hst
      dsimp only at hst
      skip
      go_wp2
      refine HQ1.out _ _ _ ?_
      (try simp only [Exit.inBlock, Exit.then])
      refine bodyPost_ret (results_row_tmp rfl _ _ _ _ _ _ rfl HF.out.1 Tryz.underlying45 rfl infoDg) rfl ?_
      exact ⟨nilV, rfl, hopsat_nil _, HF.out.2⟩
    have d5 : ¬ (lN : Int) < 4 := by omega
    by_cases hl35 : 35 < lN
    · have hE : hopE (4 - ds.length) X = 5 := by rw [HE0.out, if_pos (.inr (.inr (by omega)))]
      have hbd := HV.out.1.bad HS.out.2.2.2.symm HS.out.1.symm (by rw [hE]; decide)
      rw [hE] at hbd
      obtain ⟨rfl, rfl, rfl⟩ : RH = [] ∧ RM = ms0 ∧ RE = 5 := by
        rw [HQ.out.1, HQ.out.2.1, HQ.out.2.2, HE.out, if_pos (by rw [hbd]; decide), hbd]
        exact ⟨rfl, rfl, rfl⟩
      clear hbd
      have d6 : (35 : Int) < lN := by omega
      clear hE
      have hst := store_dg (v0 := nilV) (m0 := ms0) (v := nilV) (m := ms0) rfl HP.out.2.2.1
      have HF := Lib.hid (rr_err HP.out.2.2.1 HP.out.2.2.2.1)
      unfold dgCs ms0 Ms.bare fl0 nilV at hst
      dsimp only at hst
      skip
      go_wp2
      refine HQ1.out _ _ _ ?_
      (try simp only [Exit.inBlock, Exit.then])
      refine bodyPost_ret (results_row_tmp rfl _ _ _ _ _ _ rfl HF.out.1 Tryz.underlying45 rfl infoDg) rfl ?_
      exact ⟨nilV, rfl, hopsat_nil _, HF.out.2⟩
    have d6 : ¬ (35 : Int) < lN := by omega
    by_cases hsh : X.length < lN
    · have hE : hopE (4 - ds.length) X = 3 := by rw [HE0.out, if_neg (by omega), if_pos (by omega)]
      have hbd := HV.out.1.bad HS.out.2.2.2.symm HS.out.1.symm (by rw [hE]; decide)
      rw [hE] at hbd
      obtain ⟨rfl, rfl, rfl⟩ : RH = [] ∧ RM = ms0 ∧ RE = 3 := by
        rw [HQ.out.1, HQ.out.2.1, HQ.out.2.2, HE.out, if_pos (by rw [hbd]; decide), hbd]
        exact ⟨rfl, rfl, rfl⟩
      clear hbd
      have d7 : (X.length : Int) < lN := by omega
      clear hE
      have hst := store_dg (v0 := nilV) (m0 := ms0) (v := nilV) (m := ms0) rfl HP.out.2.2.1
      have HF := Lib.hid (rr_err HP.out.2.2.1 HP.out.2.2.2.1)
      unfold dgCs ms0 Ms.bare fl0 nilV at hst
      dsimp only at hst
      skip
      go_wp2
      refine HQ1.out _ _ _ ?_
      (try simp only [Exit.inBlock, Exit.then])
      refine bodyPost_ret (results_row_tmp rfl _ _ _ _ _ _ rfl HF.out.1 Tryz.underlying45 rfl infoDg) rfl ?_
      exact ⟨nilV, rfl, hopsat_nil _, HF.out.2⟩
    have d7 : ¬ (X.length : Int) < lN := by omega
    have h2t : 2 < X.length := by omega
    have hb2 : (ByteArray.mk X.toArray)[2]'(by show 2 < X.toArray.size; simpa using h2t) = X[2] := rfl
    have hi2 : (2 : Int) < X.length := by omega
    have hn2 : num X 2 1 = (X[2].toNat : Int) := by
      match X, h2t with
      | a :: b :: c :: r, _ => exact getB_one c
    have hcu : (X[2].toNat : Int) < 256 := by have := X[2].toNat_lt; omega
    by_cases hr3 : 3 < X[2].toNat
    · have hE : hopE (4 - ds.length) X = 5 := by rw [HE0.out, if_neg (by omega), if_neg (by omega), hn2, if_pos (by omega)]
      have hbd := HV.out.1.bad HS.out.2.2.2.symm HS.out.1.symm (by rw [hE]; decide)
      rw [hE] at hbd
      obtain ⟨rfl, rfl, rfl⟩ : RH = [] ∧ RM = ms0 ∧ RE = 5 := by
        rw [HQ.out.1, HQ.out.2.1, HQ.out.2.2, HE.out, if_pos (by rw [hbd]; decide), hbd]
        exact ⟨rfl, rfl, rfl⟩
      clear hbd
      have d8 : (3 : Int) < X[2].toNat := by omega
      clear hE
      have hst := store_dg (v0 := nilV) (m0 := ms0) (v := nilV) (m := ms0) rfl HP.out.2.2.1
      have HF := Lib.hid (rr_err HP.out.2.2.1 HP.out.2.2.2.1)
      unfold dgCs ms0 Ms.bare fl0 nilV at hst
      dsimp only at hst
      skip
      go_wp2
      refine HQ1.out _ _ _ ?_
      (try simp only [Exit.inBlock, Exit.then])
      refine bodyPost_ret (results_row_tmp rfl _ _ _ _ _ _ rfl HF.out.1 Tryz.underlying45 rfl infoDg) rfl ?_
      exact ⟨nilV, rfl, hopsat_nil _, HF.out.2⟩
    have d8 : ¬ (3 : Int) < X[2].toNat := by omega
    have hE : hopE (4 - ds.length) X = 0 := by rw [HE0.out, if_neg (by omega), if_neg (by omega), hn2, if_neg (by omega)]
    have hstep := HV.out.1.step HS.out.2.2.2.symm HS.out.1.symm hk4' hE (by rw [HSL.out.2]; omega)
    have hhop : hopOf X = ⟨(X[2].toNat : Int), (X.take lN).drop 3⟩ := by unfold hopOf; rw [hn2, HSL.out.2]; rfl
    rw [hhop, HSL.out.2, Int.toNat_natCast] at hstep
    have hsl1 : (ByteArray.mk X.toArray).extract lN X.length = ByteArray.mk (X.drop lN).toArray := by
      rw [ByteArray.extract_mk]; simp
      exact List.take_of_length_le (by simp)
    have hsl2 : (ByteArray.mk X.toArray).extract 3 lN = ByteArray.mk ((X.take lN).drop 3).toArray := by
      rw [ByteArray.extract_mk]; simp [List.drop_take]
    have d9 : (3 : Int) ≤ lN := by omega
    have d10 : (lN : Int) ≤ X.length := by omega
    have hwr : IntKind.i64.wrap (X[2].toNat : Int) = (X[2].toNat : Int) := by rw [IntKind.wrap_i64]; omega
    have HST := Lib.hid hstep
    have HLN := Lib.hid (show 4 ≤ lN ∧ lN ≤ X.length by omega)
    obtain ⟨i0, hi, hz0, hz1, hz2⟩ := info_parts infoHop
    clear hstep hhop hE hh hl3 hl35 hsh hr3 hn2
    obtain ⟨T, hT⟩ : ∃ T, T = (X.take lN).drop 3 := ⟨_, rfl⟩
    rw [← hT] at hsl2 HST
    clear hT
    have hvB : ∀ g, Value.ownBlock (.slice a2 ds.length c2) = some g → bd + 1 ≤ g := fun g e => (HP.out.2.1.lt g e).1
    have HW18 := Lib.hid (show World.ownsRow (wr.alloc (.cells #[.int .i64 X[2].toNat, .string ⟨T.toArray⟩] 49 (0, 0))).drew (bd + 1) 49 2 (.slice a2 ds.length c2) ds.length (hopCells ds) from (show World.ownsRow wr.drew (bd + 1) 49 2 (.slice a2 ds.length c2) ds.length (hopCells ds) from HP.out.2.1).alloc _)
    have HC1 := Lib.hid (show ∀ (j : Nat) (u : Value), [Value.int .i64 X[2].toNat, Value.string ⟨T.toArray⟩][j]? = some u → (wr.alloc (.cells #[.int .i64 X[2].toNat, .string ⟨T.toArray⟩] 49 (0, 0))).drew.cell? ((⟨wr.heap.size, 0, none⟩ : Addr).add j) = some u from fun j u hj => by
      rw [Addr.add_mid, Nat.zero_add]
      have := (Obj?.new wr #[.int .i64 X[2].toNat, .string ⟨T.toArray⟩] 49).cell j u (by simpa using hj)
      simpa using this)
    have HOD := Lib.hid (show Obj? (wr.alloc (.cells #[.int .i64 X[2].toNat, .string ⟨T.toArray⟩] 49 (0, 0))).drew bd (dgCs (.slice a2 ds.length c2) ms0) 45 from HP.out.1.alloc _)
    have HNB := Lib.hid (show some bd ≠ Value.ownBlock (.slice a2 ds.length c2) from fun e => by have := hvB bd e.symm; omega)
    have HSN := Lib.hid (show hopCells ds ++ [.int .i64 X[2].toNat, .string ⟨T.toArray⟩] = hopCells (ds ++ [⟨X[2].toNat, T⟩]) ∧ ds.length + 1 = (ds ++ [(⟨X[2].toNat, T⟩ : Hp)]).length from ⟨(hopCells_snoc ds ⟨X[2].toNat, T⟩).symm, by simp⟩)
    have HBZ := Lib.hid (show bd + 1 ≤ (wr.alloc (.cells #[.int .i64 X[2].toNat, .string ⟨T.toArray⟩] 49 (0, 0))).drew.heap.size from by
      have := HP.out.2.2.2.2.1
      show bd + 1 ≤ (wr.alloc _).heap.size
      rw [World.size_alloc]; omega)
    have kdE : ∀ j, (wr.alloc (.cells #[.int .i64 X[2].toNat, .string ⟨T.toArray⟩] 49 (0, 0))).cell? ⟨bd, j, none⟩ = _ := HOD.out.cells
    unfold dgCs ms0 Ms.bare fl0 at kdE
    dsimp only at kdE
    go_upto_region 18 with fail
    go_region_law ((refine step_append_own rfl _ _ _ rfl (bd + 1) 49 i0 (.agg #[.int .i64 0, .string ⟨#[]⟩]) 2 24 Tryz.underlying42 hi hz0 hz1 hz2 rfl (by decide) (.slice a2 ds.length c2) ds.length (hopCells ds) (by rfl) HW18.out ⟨wr.heap.size, 0, none⟩ 1 1 [.int .i64 X[2].toNat, .string ⟨T.toArray⟩] (by rfl) rfl HC1.out (by simp [Value.oneCell']) (by unfold maxLen; omega) (by omega) HBZ.out ?_; intro v' w4 hown4 hgrow4; rw [HSN.out.1, HSN.out.2] at hown4; obtain ⟨a4, c4, rfl⟩ := owns_shape (by decide) hown4; have OD4 := HOD.out.kept hgrow4 HNB.out.symm; have kd4 := OD4.cell 0 (.slice a2 ds.length c2) rfl; have fd4 := OD4.frozen 0; have HF := Lib.hid (And.intro OD4 (And.intro hown4 hgrow4)); clear OD4 hown4 hgrow4))
    all_goals
      have hBE : Below w.heap.size w (wr.alloc (.cells #[.int .i64 X[2].toNat, .string ⟨T.toArray⟩] 49 (0, 0))).drew := below_drewM (below_al HP.out.2.2.2.1 _)
      have HJ := Lib.hid (rinv_put (w := w) (v4 := .slice a4 (ds ++ [(⟨X[2].toNat, T⟩ : Hp)]).length c4) (ds' := ds ++ [⟨X[2].toNat, T⟩]) HF.out.1 HF.out.2.1 (Obj?.kept (show Obj? (wr.alloc (.cells #[.int .i64 X[2].toNat, .string ⟨T.toArray⟩] 49 (0, 0))).drew (w.heap.size + 1) (dgCs nilV ms0) 45 from HP.out.2.2.1.alloc _) HF.out.2.2 (fun e => by have := hvB _ e; have := HP.out.2.2.2.2.2; omega)) (hBE.grown HF.out.2.2 hBE.size (fun k e => by have := hvB k e; have := HP.out.2.2.2.2.2; omega)) HP.out.2.2.2.2.2)
      clear hBE HF kd4 fd4
      go_wp2
      go_roundw
      case rel => exact ⟨ds ++ [⟨X[2].toNat, T⟩], X.drop lN, rfl, Lib.hid ⟨HST.out, by rw [HSN.out.2]; exact HJ.out, rfl⟩⟩
      case measure =>
        show (ByteArray.mk (X.drop lN).toArray).size < (ByteArray.mk X.toArray).size
        have := HLN.out
        simp [ByteArray.size]; omega
end Go.Proofs.YtbacnaplpfmpnaaGreatDoor
