/- polyglotref23: Hops, Same, Unwrap, Wrap; polyglotkit.SameDatagram. -/
import Derived.Test.YtbacnaplpfmpnaaGreatDoorWrP
import Derived.Deep.RegionHeld3
import Derived.Deep.LoopGhost
import Derived.BigQuiet
namespace Go.Proofs.YtbacnaplpfmpnaaGreatDoor
open Go Go.RowKit Go.Shelf
set_option linter.unusedVariables false
set_option linter.unusedSimpArgs false
attribute [local go_sem ↓] load_Msg store_Msg load_Dg store_Dg
attribute [local irreducible] rowSem rowStore

theorem right19_any (mp md : Int) (w : World) : Calls Tryz.prog 84 #[.agg #[.int .i64 mp, .int .i64 md]] w fun e w' => e = .returned (.bool (limOk mp md)) ∧ Below w.heap.size w w' := by
  have hB := below_al (Below.refl _ w) (.cells #[.int .i64 mp, .int .i64 md] 56 (0, 0))
  have HE := Lib.hid (show limOk mp md = (decide (16 ≤ mp) && (decide (mp ≤ 1048576) && (decide (0 ≤ md) && decide (md ≤ 32)))) by unfold limOk; simp only [Bool.decide_and])
  rw [HE.out]
  go_enter Tryz.func84, Tryz.ntmps84
  by_cases h1 : 16 ≤ mp
  · by_cases h2 : mp ≤ 1048576
    · by_cases h3 : 0 ≤ md
      · by_cases h4 : md ≤ 32
        · go_wp2
          go_ret
          exact ⟨ret_val (congrArg Value.bool (by first | rfl | (simp; done) | (simp; omega) | (simp [*]; done) | (simp [*]; omega))), hB⟩
        · have h4' : 32 < md := by omega
          go_wp2
          go_ret
          exact ⟨ret_val (congrArg Value.bool (by first | rfl | (simp; done) | (simp; omega) | (simp [*]; done) | (simp [*]; omega))), hB⟩
      · have h3' : md < 0 := by omega
        go_wp2
        go_ret
        exact ⟨ret_val (congrArg Value.bool (by first | rfl | (simp; done) | (simp; omega) | (simp [*]; done) | (simp [*]; omega))), hB⟩
    · have h2' : 1048576 < mp := by omega
      go_wp2
      go_ret
      exact ⟨ret_val (congrArg Value.bool (by first | rfl | (simp; done) | (simp; omega) | (simp [*]; done) | (simp [*]; omega))), hB⟩
  · have h1' : mp < 16 := by omega
    go_wp2
    go_ret
    exact ⟨ret_val (congrArg Value.bool (by first | rfl | (simp; done) | (simp; omega) | (simp [*]; done) | (simp [*]; omega))), hB⟩
theorem rhop_any (h : Hp) (hn : (h.node.length : Int) ≤ 9223372036854775807) (w : World) : Calls Tryz.prog 85 #[.agg #[.int .i64 h.rad, .string ⟨h.node.toArray⟩]] w fun e w' => e = .returned (.bool (hopOk h)) ∧ Below w.heap.size w w' := by
  obtain ⟨rad, node⟩ := h
  simp only at hn ⊢
  have hB := below_al (Below.refl _ w) (.cells #[.int .i64 rad, .string ⟨node.toArray⟩] 49 (0, 0))
  have HE := Lib.hid (show hopOk ⟨rad, node⟩ = (decide (0 ≤ rad) && (decide (rad ≤ 3) && (decide (1 ≤ node.length) && decide (node.length ≤ 32)))) by unfold hopOk; simp only [Bool.decide_and])
  rw [HE.out]
  clear hn
  go_enter Tryz.func85, Tryz.ntmps85
  by_cases h1 : 0 ≤ rad
  · by_cases h2 : rad ≤ 3
    · by_cases h3 : 1 ≤ node.length
      · by_cases h4 : node.length ≤ 32
        · have h3i : (1 : Int) ≤ node.length := by omega
          have h4i : (node.length : Int) ≤ 32 := by omega
          go_wp2
          go_ret
          exact ⟨ret_val (congrArg Value.bool (by first | rfl | (simp; done) | (simp; omega) | (simp [*]; done) | (simp [*]; omega))), hB⟩
        · have h3i : (1 : Int) ≤ node.length := by omega
          have h4i : (32 : Int) < node.length := by omega
          go_wp2
          go_ret
          exact ⟨ret_val (congrArg Value.bool (by first | rfl | (simp; done) | (simp; omega) | (simp [*]; done) | (simp [*]; omega))), hB⟩
      · have h3i : (node.length : Int) < 1 := by omega
        go_wp2
        go_ret
        exact ⟨ret_val (congrArg Value.bool (by first | rfl | (simp; done) | (simp; omega) | (simp [*]; done) | (simp [*]; omega))), hB⟩
    · have h2' : 3 < rad := by omega
      go_wp2
      go_ret
      exact ⟨ret_val (congrArg Value.bool (by first | rfl | (simp; done) | (simp; omega) | (simp [*]; done) | (simp [*]; omega))), hB⟩
  · have h1' : rad < 0 := by omega
    go_wp2
    go_ret
    exact ⟨ret_val (congrArg Value.bool (by first | rfl | (simp; done) | (simp; omega) | (simp [*]; done) | (simp [*]; omega))), hB⟩
theorem hopB3 {x : Hp} (hk : hopOk x = true) : ∃ T : List UInt8, T.length = 3 ∧ (∀ S : List UInt8, ByteArray.mk S.toArray ++ ByteArray.mk #[UInt8.ofNat x.node.length + 3, 254, UInt8.ofNat x.rad.toNat] = ByteArray.mk (S ++ T).toArray) ∧
    (∀ S : List UInt8, ByteArray.mk (S ++ T).toArray ++ ByteArray.mk x.node.toArray = ByteArray.mk (S ++ hopL x).toArray) ∧
    ByteArray.mk #[UInt8.ofNat x.node.length + 3, 254, UInt8.ofNat x.rad.toNat] ++ ByteArray.mk x.node.toArray = ByteArray.mk (hopL x).toArray := by
  obtain ⟨a, r, e, h1, h2⟩ := hopL_form hk
  have hr := a.toNat_lt
  have e1 : UInt8.ofNat x.node.length + 3 = a := by
    apply UInt8.toNat_inj.1
    rw [UInt8.toNat_add, UInt8.toNat_ofNat']
    show (x.node.length % 256 + 3) % 256 = a.toNat
    omega
  have e2 : UInt8.ofNat x.rad.toNat = r := by
    rw [show x.rad.toNat = r.toNat by omega]; simp
  refine ⟨[a, 254, r], rfl, fun S => ?_, fun S => ?_, ?_⟩
  · rw [e1, e2]; exact ByteArray.mk_append_mk _ _
  · rw [e]
    rw [show S ++ a :: 254 :: r :: x.node = S ++ [a, 254, r] ++ x.node by simp]
    exact ByteArray.mk_append_mk _ _
  · rw [e1, e2, e]; exact ByteArray.mk_append_mk _ _
set_option maxRecDepth 100000 in
set_option maxHeartbeats 3200000 in
theorem eql_msgs (a b : Ms) (w : World) : (binOp .eql 25 (.agg a.cs) (.agg b.cs)).run Tryz.prog w = .ok (.bool (decide (a = b))) w := by
  obtain ⟨tyA, ⟨dupA, qA, retainA, willA, cleanA, typA⟩, gwA, radA, timeA, timedA, tidA, midA, codeA, nameA, dataA⟩ := a
  obtain ⟨tyB, ⟨dupB, qB, retainB, willB, cleanB, typB⟩, gwB, radB, timeB, timedB, tidB, midB, codeB, nameB, dataB⟩ := b
  by_cases h_ty : tyA = tyB
  rotate_left
  · have e1 : (tyA == tyB) = false := beq_eq_false_iff_ne.2 h_ty
    rw [decide_eq_false (fun e => h_ty (congrArg (fun m : Ms => m.ty) e))]
    unfold Ms.cs
    clear h_ty
    go_simp
  subst h_ty
  by_cases h_dup : dupA = dupB
  rotate_left
  · have e1 : (dupA == dupB) = false := beq_eq_false_iff_ne.2 h_dup
    rw [decide_eq_false (fun e => h_dup (congrArg (fun m : Ms => m.fl.dup) e))]
    unfold Ms.cs
    clear h_dup
    go_simp
  subst h_dup
  by_cases h_q : qA = qB
  rotate_left
  · have e1 : (qA == qB) = false := beq_eq_false_iff_ne.2 h_q
    rw [decide_eq_false (fun e => h_q (congrArg (fun m : Ms => m.fl.q) e))]
    unfold Ms.cs
    clear h_q
    go_simp
  subst h_q
  by_cases h_retain : retainA = retainB
  rotate_left
  · have e1 : (retainA == retainB) = false := beq_eq_false_iff_ne.2 h_retain
    rw [decide_eq_false (fun e => h_retain (congrArg (fun m : Ms => m.fl.retain) e))]
    unfold Ms.cs
    clear h_retain
    go_simp
  subst h_retain
  by_cases h_will : willA = willB
  rotate_left
  · have e1 : (willA == willB) = false := beq_eq_false_iff_ne.2 h_will
    rw [decide_eq_false (fun e => h_will (congrArg (fun m : Ms => m.fl.will) e))]
    unfold Ms.cs
    clear h_will
    go_simp
  subst h_will
  by_cases h_clean : cleanA = cleanB
  rotate_left
  · have e1 : (cleanA == cleanB) = false := beq_eq_false_iff_ne.2 h_clean
    rw [decide_eq_false (fun e => h_clean (congrArg (fun m : Ms => m.fl.clean) e))]
    unfold Ms.cs
    clear h_clean
    go_simp
  subst h_clean
  by_cases h_typ : typA = typB
  rotate_left
  · have e1 : (typA == typB) = false := beq_eq_false_iff_ne.2 h_typ
    rw [decide_eq_false (fun e => h_typ (congrArg (fun m : Ms => m.fl.typ) e))]
    unfold Ms.cs
    clear h_typ
    go_simp
  subst h_typ
  by_cases h_gw : gwA = gwB
  rotate_left
  · have e1 : (gwA == gwB) = false := beq_eq_false_iff_ne.2 h_gw
    rw [decide_eq_false (fun e => h_gw (congrArg (fun m : Ms => m.gw) e))]
    unfold Ms.cs
    clear h_gw
    go_simp
  subst h_gw
  by_cases h_rad : radA = radB
  rotate_left
  · have e1 : (radA == radB) = false := beq_eq_false_iff_ne.2 h_rad
    rw [decide_eq_false (fun e => h_rad (congrArg (fun m : Ms => m.rad) e))]
    unfold Ms.cs
    clear h_rad
    go_simp
  subst h_rad
  by_cases h_time : timeA = timeB
  rotate_left
  · have e1 : (timeA == timeB) = false := beq_eq_false_iff_ne.2 h_time
    rw [decide_eq_false (fun e => h_time (congrArg (fun m : Ms => m.time) e))]
    unfold Ms.cs
    clear h_time
    go_simp
  subst h_time
  by_cases h_timed : timedA = timedB
  rotate_left
  · have e1 : (timedA == timedB) = false := beq_eq_false_iff_ne.2 h_timed
    rw [decide_eq_false (fun e => h_timed (congrArg (fun m : Ms => m.timed) e))]
    unfold Ms.cs
    clear h_timed
    go_simp
  subst h_timed
  by_cases h_tid : tidA = tidB
  rotate_left
  · have e1 : (tidA == tidB) = false := beq_eq_false_iff_ne.2 h_tid
    rw [decide_eq_false (fun e => h_tid (congrArg (fun m : Ms => m.tid) e))]
    unfold Ms.cs
    clear h_tid
    go_simp
  subst h_tid
  by_cases h_mid : midA = midB
  rotate_left
  · have e1 : (midA == midB) = false := beq_eq_false_iff_ne.2 h_mid
    rw [decide_eq_false (fun e => h_mid (congrArg (fun m : Ms => m.mid) e))]
    unfold Ms.cs
    clear h_mid
    go_simp
  subst h_mid
  by_cases h_code : codeA = codeB
  rotate_left
  · have e1 : (codeA == codeB) = false := beq_eq_false_iff_ne.2 h_code
    rw [decide_eq_false (fun e => h_code (congrArg (fun m : Ms => m.code) e))]
    unfold Ms.cs
    clear h_code
    go_simp
  subst h_code
  by_cases h_name : nameA = nameB
  rotate_left
  · have e1 : (nameA == nameB) = false := beq_eq_false_iff_ne.2 h_name
    rw [decide_eq_false (fun e => h_name (congrArg (fun m : Ms => m.name) e))]
    unfold Ms.cs
    clear h_name
    go_simp
  subst h_name
  by_cases h_data : dataA = dataB
  rotate_left
  · have e1 : (dataA == dataB) = false := beq_eq_false_iff_ne.2 h_data
    rw [decide_eq_false (fun e => h_data (congrArg (fun m : Ms => m.data) e))]
    unfold Ms.cs
    clear h_data
    go_simp
  subst h_data
  rw [decide_eq_true rfl]
  exact eql_self _ w
set_option maxRecDepth 100000 in
theorem same_any {va vb : Value} {ha hb : List Hp} (a b : Ms) {w : World} (hA : HopsAt w va ha) (hB : HopsAt w vb hb) :
    Calls Tryz.prog 27 #[.agg (dgCs va a), .agg (dgCs vb b)] w fun e w' => e = .returned (.bool (decide (a = b) && decide (ha = hb))) ∧ Below w.heap.size w w' := by
  by_cases hab : a = b
  · subst hab
    have := same_eq a hA hB
    rw [decide_eq_true rfl, Bool.true_and]
    exact this
  have OA := Obj?.new w (dgCs va a) 45
  have hB1 := below_al (Below.refl _ w) (.cells (dgCs va a) 45 (0, 0))
  have OB := Obj?.new (w.alloc (.cells (dgCs va a) 45 (0, 0))) (dgCs vb b) 45
  rw [World.size_alloc] at OB
  have OA1 := OA.alloc (.cells (dgCs vb b) 45 (0, 0))
  have HB := Lib.hid (below_al hB1 (.cells (dgCs vb b) 45 (0, 0)))
  have la := load_dgmsg OA1
  have lb := load_dgmsg OB
  have hcmp := fun w => eql_msgs a b w
  rw [decide_eq_false hab] at hcmp ⊢
  rw [Bool.false_and]
  clear hA hB OA OB OA1 hB1 hab
  unfold dgCs at *
  go_enter Tryz.func27, Tryz.ntmps27
  go_wp2
  go_ret
  exact ⟨rfl, HB.out⟩
set_option maxRecDepth 100000 in
set_option maxHeartbeats 1600000 in
theorem rhops_any {va vb : Value} {ha hb : List Hp} {w : World} (hA : HopsAt w va ha) (hB : HopsAt w vb hb) :
    Calls Tryz.prog 86 #[va, vb] w fun e w' => e = .returned (.bool (decide (ha = hb))) ∧ Below w.heap.size w w' := by
  have HA := Lib.hid hA
  have HB := Lib.hid hB
  obtain ⟨a, cap, rfl, -, la, -⟩ := hA
  obtain ⟨b, cap', rfl, -, lb, -⟩ := hB
  obtain ⟨n, hN⟩ : ∃ n, n = ha.length := ⟨_, rfl⟩
  obtain ⟨n', hN'⟩ : ∃ n', n' = hb.length := ⟨_, rfl⟩
  rw [← hN] at la HA
  rw [← hN'] at lb HB
  rw [← hN, ← hN']
  by_cases hne : n = n'
  rotate_left
  · have e : decide (ha = hb) = false := decide_eq_false (fun h => hne (by rw [hN, hN', h]))
    have d1 : ((n : Int) == n') = false := by apply beq_eq_false_iff_ne.2; omega
    have d2 : ((n : Int) != n') = true := by simp; omega
    rw [e]
    clear e hN hN' hne
    go_enter Tryz.func86, Tryz.ntmps86
    go_wp2
    go_ret
    exact ⟨rfl, Below.refl _ _⟩
  · subst hne
    have HN := Lib.hid (And.intro hN hN')
    clear hN hN' lb
    go_enter Tryz.func86, Tryz.ntmps86
    go_wp2
    go_loopg [5] (n + 1) (fun g i wr => ∃ k : Nat, g + k = n + 1 ∧ k ≤ n ∧ i = .int .i64 k ∧ Hid (ha.take k = hb.take k ∧ Below w.heap.size w wr))
    case atStart => exact ⟨0, by omega, by omega, rfl, Lib.hid ⟨rfl, Below.refl _ _⟩⟩
    case round =>
      obtain ⟨k, hgk, hkn, rfl, HI⟩ := hrel
      have HGK := Lib.hid (And.intro hgk hkn)
      clear hgk
      by_cases hlt : k < n
      · have hka : k < ha.length := by rw [← HN.out.1]; exact hlt
        have hkb : k < hb.length := by rw [← HN.out.2]; exact hlt
        obtain ⟨b1, o1, rfl, l1, c0, c1⟩ := hopat_cell HA.out k hka
        obtain ⟨b2, o2, rfl, l2, c2, c3⟩ := hopat_cell HB.out k hkb
        have k0 := (HI.out.2.cell (p := ⟨b1, o1 + k * 2, none⟩) l1).trans c0
        have k1 := (HI.out.2.cell (p := ⟨b1, o1 + k * 2 + 1, none⟩) l1).trans c1
        have k2 := (HI.out.2.cell (p := ⟨b2, o2 + k * 2, none⟩) l2).trans c2
        have k3 := (HI.out.2.cell (p := ⟨b2, o2 + k * 2 + 1, none⟩) l2).trans c3
        clear c0 c1 c2 c3
        have hst : ha[k] = hb[k] → ha.take (k + 1) = hb.take (k + 1) := fun e => by
          rw [List.take_succ_eq_append_getElem hka, List.take_succ_eq_append_getElem hkb, HI.out.1, e]
        have hno : ha[k] ≠ hb[k] → decide (ha = hb) = false := fun e => decide_eq_false (fun h => e (by subst h; rfl))
        rw [ne_eq, hop_ext] at hno
        rw [hop_ext] at hst
        obtain ⟨r1, hr1⟩ : ∃ r, r = ha[k].rad := ⟨_, rfl⟩
        obtain ⟨r2, hr2⟩ : ∃ r, r = hb[k].rad := ⟨_, rfl⟩
        obtain ⟨t1, ht1⟩ : ∃ r, r = ha[k].node := ⟨_, rfl⟩
        obtain ⟨t2, ht2⟩ : ∃ r, r = hb[k].node := ⟨_, rfl⟩
        rw [← hr1] at k0
        rw [← ht1] at k1
        rw [← hr2] at k2
        rw [← ht2] at k3
        rw [← hr1, ← hr2, ← ht1, ← ht2] at hst hno
        clear hr1 hr2 ht1 ht2 hka hkb
        have d1 : decide ((k : Int) < n) = true := decide_eq_true (by omega)
        have hki : (k : Int) < n := by omega
        by_cases hrr : r1 = r2
        · by_cases htt : t1 = t2
          · have HS := Lib.hid (hst ⟨hrr, htt⟩)
            subst hrr htt
            clear hst hno hlt
            go_wp2
            go_quiet (fail)
            go_wp2
            go_roundg (gk - 1)
            case measure => have := HGK.out; omega
            case rel => exact ⟨k + 1, by have := HGK.out; omega, by omega, by go_num, Lib.hid ⟨HS.out, HI.out.2.trans (below_drewN (Below.refl _ _) _)⟩⟩
          · have HS := Lib.hid (hno (fun h => htt h.2))
            have d2 : (t1 == t2) = false := by simpa using htt
            subst hrr
            clear hst hno hlt htt
            go_wp2
            go_quiet (fail)
            go_wp2
            rw [HS.out]
            go_ret
            exact ⟨rfl, below_drewN HI.out.2 _⟩
        · have HS := Lib.hid (hno (fun h => hrr h.1))
          have d2 : (r1 == r2) = false := by simpa using hrr
          clear hst hno hlt hrr
          go_wp2
          go_quiet (fail)
          go_wp2
          rw [HS.out]
          go_ret
          exact ⟨rfl, below_drewN HI.out.2 _⟩
      · obtain rfl : k = n := by omega
        have HS := Lib.hid (show decide (ha = hb) = true from decide_eq_true (by have := HI.out.1; rwa [HN.out.1, List.take_length, ← HN.out.1, HN.out.2, List.take_length] at this))
        go_wp2
        rw [HS.out]
        go_ret
        exact ⟨rfl, HI.out.2⟩
set_option maxRecDepth 100000 in
theorem rsame_eq {va vb : Value} {ha hb : List Hp} (m : Ms) {w : World} (hA : HopsAt w va ha) (hB : HopsAt w vb hb) :
    Calls Tryz.prog 41 #[.agg (dgCs va m), .agg (dgCs vb m)] w fun e w' => e = .returned (.bool (decide (ha = hb))) ∧ Below w.heap.size w w' := by
  have OA := Obj?.new w (dgCs va m) 45
  have hB1 := below_al (Below.refl _ w) (.cells (dgCs va m) 45 (0, 0))
  have OB := Obj?.new (w.alloc (.cells (dgCs va m) 45 (0, 0))) (dgCs vb m) 45
  rw [World.size_alloc] at OB
  have OA1 := OA.alloc (.cells (dgCs vb m) 45 (0, 0))
  have hB2 := below_al hB1 (.cells (dgCs vb m) 45 (0, 0))
  have ka : _ = some va := OA1.cell 0 va rfl
  have kb : _ = some vb := OB.cell 0 vb rfl
  have la := load_dgmsg OA1
  have lb := load_dgmsg OB
  have hcmp := fun w => eql_self m w
  have HE := Lib.hid (rhops_any (hA.below hB2) (hB.below hB2))
  have HB := Lib.hid hB2
  obtain ⟨q, hq⟩ : ∃ q, q = decide (ha = hb) := ⟨_, rfl⟩
  rw [← hq] at HE ⊢
  clear hq hA hB OA OB OA1 hB1 hB2
  unfold dgCs at *
  go_enter Tryz.func41, Tryz.ntmps41
  go_wp2_with fail
  refine HE.out.mono ?_
  rintro r w1 ⟨rfl, hb⟩
  have HB1 := Lib.hid (HB.out.trans (hb.mono HB.out.size))
  clear hb ka kb la lb
  cases q
  all_goals
    go_wp2
    go_ret
    exact ⟨rfl, HB1.out⟩
set_option maxRecDepth 100000 in
theorem rsame23_any {va vb : Value} {ha hb : List Hp} (a b : Ms) {w : World} (hA : HopsAt w va ha) (hB : HopsAt w vb hb) :
    Calls Tryz.prog 41 #[.agg (dgCs va a), .agg (dgCs vb b)] w fun e w' => e = .returned (.bool (decide (a = b) && decide (ha = hb))) ∧ Below w.heap.size w w' := by
  by_cases hab : a = b
  · subst hab
    have := rsame_eq a hA hB
    rw [decide_eq_true rfl, Bool.true_and]
    exact this
  have OA := Obj?.new w (dgCs va a) 45
  have hB1 := below_al (Below.refl _ w) (.cells (dgCs va a) 45 (0, 0))
  have OB := Obj?.new (w.alloc (.cells (dgCs va a) 45 (0, 0))) (dgCs vb b) 45
  rw [World.size_alloc] at OB
  have OA1 := OA.alloc (.cells (dgCs vb b) 45 (0, 0))
  have HB := Lib.hid (below_al hB1 (.cells (dgCs vb b) 45 (0, 0)))
  have la := load_dgmsg OA1
  have lb := load_dgmsg OB
  have hcmp := fun w => eql_msgs a b w
  rw [decide_eq_false hab] at hcmp ⊢
  rw [Bool.false_and]
  clear hA hB OA OB OA1 hB1 hab
  unfold dgCs at *
  go_enter Tryz.func41, Tryz.ntmps41
  go_wp2
  go_ret
  exact ⟨rfl, HB.out⟩
set_option maxRecDepth 100000 in
set_option maxHeartbeats 1600000 in
theorem samedg_eq {va vb : Value} {hs : List Hp} (m : Ms) {w : World} (hA : HopsAt w va hs) (hB : HopsAt w vb hs) :
    Calls Tryz.prog 39 #[.agg (dgCs va m), .agg (dgCs vb m)] w fun e w' => e = .returned (.bool true) ∧ Below w.heap.size w w' := by
  have HA := Lib.hid hA
  have HB := Lib.hid hB
  obtain ⟨a, cap, rfl, -, la, -⟩ := hA
  obtain ⟨b, cap', rfl, -, lb, -⟩ := hB
  obtain ⟨n, hN⟩ : ∃ n, n = hs.length := ⟨_, rfl⟩
  rw [← hN] at la HA HB lb
  rw [← hN]
  have OA := Obj?.new w (dgCs (.slice a n cap) m) 45
  have OB := Obj?.new (w.alloc (.cells (dgCs (.slice a n cap) m) 45 (0, 0))) (dgCs (.slice b n cap') m) 45
  rw [World.size_alloc] at OB
  have HOA := Lib.hid (OA.alloc (.cells (dgCs (.slice b n cap') m) 45 (0, 0)))
  have HOB := Lib.hid OB
  have HB2 := Lib.hid (below_al (below_al (Below.refl _ w) (.cells (dgCs (.slice a n cap) m) 45 (0, 0))) (.cells (dgCs (.slice b n cap') m) 45 (0, 0)))
  have lma := load_dgmsg HOA.out
  have lmb := load_dgmsg HOB.out
  have ka := HOA.out.cells
  have kb := HOB.out.cells
  have hcmp := fun w => neq_self m w
  have HN := Lib.hid hN
  clear OA OB hN lb
  unfold dgCs at *
  go_enter Tryz.func39, Tryz.ntmps39
  go_wp2
  go_loopg [5] (n + 1) (fun g i wr => ∃ k : Nat, g + k = n + 1 ∧ k ≤ n ∧ i = .int .i64 k ∧ Hid (Below w.heap.size w wr ∧ Obj? wr w.heap.size (dgCs (.slice a n cap) m) 45 ∧ Obj? wr (w.heap.size + 1) (dgCs (.slice b n cap') m) 45))
  case atStart => exact ⟨0, by omega, by omega, rfl, Lib.hid ⟨HB2.out, HOA.out, HOB.out⟩⟩
  case round =>
    obtain ⟨k, hgk, hkn, rfl, HI⟩ := hrel
    have HGK := Lib.hid (And.intro hgk hkn)
    clear hgk ka kb lma lmb
    have ka := HI.out.2.1.cells
    have kb := HI.out.2.2.cells
    unfold dgCs at ka kb
    by_cases hlt : k < n
    · have hk' : k < hs.length := by rw [← HN.out]; exact hlt
      obtain ⟨b1, o1, rfl, l1, c0, c1⟩ := hopat_cell HA.out k hk'
      obtain ⟨b2, o2, rfl, l2, c2, c3⟩ := hopat_cell HB.out k hk'
      have k0 := (HI.out.1.cell (p := ⟨b1, o1 + k * 2, none⟩) l1).trans c0
      have k1 := (HI.out.1.cell (p := ⟨b1, o1 + k * 2 + 1, none⟩) l1).trans c1
      have k2 := (HI.out.1.cell (p := ⟨b2, o2 + k * 2, none⟩) l2).trans c2
      have k3 := (HI.out.1.cell (p := ⟨b2, o2 + k * 2 + 1, none⟩) l2).trans c3
      clear c0 c1 c2 c3
      obtain ⟨x, hx⟩ : ∃ x, x = hs[k] := ⟨_, rfl⟩
      rw [← hx] at k0 k1 k2 k3
      obtain ⟨rad, node⟩ := x
      simp only at k0 k1 k2 k3
      have d1 : decide ((k : Int) < n) = true := decide_eq_true (by omega)
      have hki : (k : Int) < n := by omega
      clear hx hlt hk'
      go_wp2
      go_quiet (fail)
      go_wp2
      go_roundg (gk - 1)
      case measure => have := HGK.out; omega
      case rel => exact ⟨k + 1, by have := HGK.out; omega, by omega, by go_num, Lib.hid ⟨below_drewN HI.out.1 _, HI.out.2.1, HI.out.2.2⟩⟩
    · obtain rfl : k = n := by omega
      have hnj : ¬ ((k : Int) < k) := by omega
      go_wp2
      go_ret
      exact ⟨rfl, HI.out.1⟩
end Go.Proofs.YtbacnaplpfmpnaaGreatDoor
