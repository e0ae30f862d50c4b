/- A range over a function whose iterator keeps its state in a cell (block bx) that lay ahead of the loop: after the library's sixth form. snwrap: the iterator over hops. -/
import Derived.Test.YtbacnaplpfmpnaaGreatDoorBase
import Derived.RangeFuncNested
import Derived.RangeFuncBound
import Derived.RangeFuncCalls
import Derived.RangeFuncLeaves
import Derived.Test.YtbacnaplpfmpnaaGreatDoorWrB
import Derived.RangeFuncBox
import Derived.OwnWalkIn
import Derived.TacticsInMore
import Derived.LoopNIn
import Derived.LoopIn
import Derived.Maps.AppendAt
import Derived.Sort.LoopGhostIn
import Derived.Stop.RegionWithIn
import Derived.RegionIn
import Derived.BigRegionIn
import Derived.Sort.CutIn
import Derived.Shelf.Abstract
namespace Go.Proofs.YtbacnaplpfmpnaaGreatDoor
open Go Go.RowKit
set_option linter.unusedVariables false

/-- What abides whatever is laid, and whatever block bx comes to hold. -/
def AbidesAt {β : Type} (bx : Nat) (J : β → World → Prop) : Prop := ∀ s W W', J s W → W.grownBy W' (some bx) → J s W'
def SeqBoxed {α : Type} (F : Fence) (n : Nat) (P : Program) (g : Nat) (lb : Array Value) (encs : α → Array Value) (bx : Nat) (Kp : World → World → Prop) (S Sp : List α → World → Prop) (N : Nat) (w : World) : Prop :=
  ∀ (l : Nat) (J Jx : List α → World → Prop) (W : World), Below w.heap.size w W → AbidesAt bx J → AbidesAt bx Jx →
    (∀ pre x W1, J pre W1 → pre.length < N → YieldAt F (n - 1) P l (encs x) W1 fun e W' =>
      (e = .returned (.bool true) ∧ J (pre ++ [x]) W' ∧ Kp W1 W') ∨ (e = .returned (.bool false) ∧ Jx (pre ++ [x]) W')) →
    J [] W →
    CallsIn F n P g (#[.func (.yield l) #[] #[]] ++ lb) W fun e W' => (∃ v, e = .returned v) ∧ ((∃ xs, S xs W' ∧ J xs W') ∨ (∃ pre, Sp pre W' ∧ Jx pre W'))
variable {F : Fence} {n : Nat} {P : Program}
theorem wpIn_rangeFunc_boxed {α : Type} {g : Operand} {ps : Array Tmp} {assign body : Code} {Q : Exit → Act → World → Prop} {a : Act} {w : World}
    (hro : F.round = none) (h1 : 1 ≤ n) {gf : Nat} {lb : Array Value} (hg : a.eval g = .func (.func gf) #[] lb) (hFg : F.fn gf) (eg : ∀ args w, (callFunc gf args).run P w = .ok (.enter gf args) w)
    {encs : α → Array Value} {bx : Nat} {Kp : World → World → Prop} {S Sp : List α → World → Prop} {N : Nat} {w0 : World} (hseq : SeqBoxed F (n - 1) P gf lb encs bx Kp S Sp N w0) (hbx : bx < w.heap.size) (hS : ∀ xs W l o, w.heap.size ≤ l → S xs W → S xs (W.putObj l o)) (hSp : ∀ xs W l o, w.heap.size ≤ l → Sp xs W → Sp xs (W.putObj l o))
    (hKt : ∀ {A B C : World}, Kp A B → Kp B C → Kp A C) (hKb : ∀ (W : World) (l : Nat) (o o' : Obj), w.heap.size ≤ l → W.heap[l]? = some o → o.isCells = false → o.isWalk = false → Kp W (W.putObj l o')) (hb0 : Below w0.heap.size w0 w) (hps : ∀ x, (encs x).size = ps.size)
    (I : List α → World → Prop) (Ix : Code → List α → World → Prop) (hI : OwnFrom w.heap.size I) (hIx : ∀ c, OwnFrom w.heap.size (Ix c)) (hIb : AbidesAt bx I) (hIxb : ∀ c, AbidesAt bx (Ix c)) (h0 : I [] w) (Ax : α → Act → World → Prop) (hAx : ∀ x a', OwnFrom w.heap.size (fun (_ : Unit) W => Ax x a' W))
    (hassign : ∀ (l : Nat) (pre : List α) (x : α) (W : World) (K : Act → World → Prop), I pre W → (∀ a' W', KeepsFrom w.heap.size W W' → Kp W W' → I pre W' → Ax x a' W' → K a' W') →
      assign.wpIn (F.inRound l) (n - 1 - 1) P (Exit.then K (fun _ _ _ => False)) { tmps := (ps.zip (encs x)).foldl (fun t (p, v) => t.setIfInBounds p v) a.tmps, defers := [] } W)
    (hbody : ∀ (l : Nat) (pre : List α) (x : α) (a' : Act) (W : World), w.heap.size ≤ l → (∃ r, W.heap[l]? = some (.loop r)) → I pre W → Ax x a' W → pre.length < N → body.wpIn (F.inRound l) (n - 1 - 1) P (ownPostG w.heap.size Kp I Ix (pre ++ [x]) W) a' W)
    (hdone : ∀ (D : Nat) (xs : List α) (W : World), w.heap.size ≤ D → S xs W → I xs W → W.heap[D]? = some (.deferred (some [])) → Q .normal { a with defers := { target := .collected D, args := #[] } :: a.defers } W)
    (hstop : ∀ (D : Nat) (c : Code) (pre : List α) (W : World), w.heap.size ≤ D → Sp pre W → Ix c pre W → W.heap[D]? = some (.deferred (some [])) → c.wpIn F n P Q { a with defers := { target := .collected D, args := #[] } :: a.defers } W) :
    (Code.rangeFunc g ps assign body).wpIn F n P Q a w := by
  refine wpIn_rangeFunc ?_
  intro fn hfn
  rw [hro]
  obtain ⟨rec, hrec⟩ : ∃ rec : LoopState → Option Code → Loop, rec = fun st pe => { state := st, pending := pe, fn, tmps := a.tmps, params := ps, assign, body, defers := w.heap.size } := ⟨_, rfl⟩
  obtain ⟨W1, hW1⟩ : ∃ W1, (w.alloc (.deferred (some []))).alloc (.loop (rec .ready none)) = W1 := ⟨_, rfl⟩
  have hL1 : W1.heap[w.heap.size + 1]? = some (.loop (rec .ready none)) := by
    rw [← hW1]; have := World.alloc_heap_new (w.alloc (.deferred (some []))) (.loop (rec .ready none)); rwa [World.size_alloc] at this
  have hK1 : W1.heap[w.heap.size]? = some (.deferred (some [])) := by
    rw [← hW1]; exact (Below.heap_alloc _ _ _ (by simp)).trans (World.alloc_heap_new w _)
  have hI1 : I [] W1 := by rw [← hW1]; exact hI.alloc _ (hI.alloc _ h0)
  have hb1 : Below w0.heap.size w0 W1 := by
    rw [← hW1]; exact hb0.trans ((((Below.refl _ w).alloc (Nat.le_refl _) _).alloc (by simp) _).mono hb0.size)
  refine ⟨w.heap.size + 1, [{ target := .collected w.heap.size, args := #[] }], W1, { target := .fn (.func gf) lb, args := #[.func (.yield (w.heap.size + 1)) #[] #[]] }, W1, gf,
    #[.func (.yield (w.heap.size + 1)) #[] #[]] ++ lb, W1, ?_, ?_, ?_, ?_, fun _ => h1, ?_⟩
  · rw [← hW1, hrec]; exact run_enterLoop_outer _ _ _ _ _
  · simp only [resolve, hg]
    simp [go_sem]
  · intro f' hf'; simp [Target.leads] at hf'; subst hf'; exact hFg
  · simp [invoke, go_sem, eg]
  · -- THE ITERATOR's CONTRACT, AT THE CALLER's INVARIANT WITH THE TWO FACTS OF BOOK-KEEPING BESIDE IT
    refine (hseq (w.heap.size + 1)
      (fun pre W => I pre W ∧ W.heap[w.heap.size + 1]? = some (.loop (rec .ready none)) ∧ W.heap[w.heap.size]? = some (.deferred (some [])))
      (fun pre W => ∃ c, Ix c pre W ∧ W.heap[w.heap.size + 1]? = some (.loop (rec .done (some c))) ∧ W.heap[w.heap.size]? = some (.deferred (some [])))
      W1 hb1
      (fun s A B hs hg' => ⟨hIb s A B hs.1 hg', (hg'.block _ (Array.getElem?_eq_some_iff.1 hs.2.1).1 (by simp; omega)).trans hs.2.1, (hg'.block _ (Array.getElem?_eq_some_iff.1 hs.2.2).1 (by simp; omega)).trans hs.2.2⟩)
      (fun s A B hs hg' => by
        obtain ⟨c, hc, hl, hk⟩ := hs
        exact ⟨c, hIxb c s A B hc hg', (hg'.block _ (Array.getElem?_eq_some_iff.1 hl).1 (by simp; omega)).trans hl, (hg'.block _ (Array.getElem?_eq_some_iff.1 hk).1 (by simp; omega)).trans hk⟩)
      ?_ ⟨hI1, hL1, hK1⟩).mono ?_
    · rintro pre x W ⟨hi, hl, hk⟩ hlen
      have hlt : w.heap.size + 1 < W.heap.size := (Array.getElem?_eq_some_iff.1 hl).1
      have hy := run_yield (P := P) (args := encs x) hl (by rw [hrec]; exact hps x)
      rw [hrec] at hy
      refine ⟨fn, _, assign, body, hy, roundIn_of_wpIn hfn (hassign _ pre x W _ hi ?_)⟩
      clear hy
      intro a' Wa hkfa hkpa hia hax
      replace hl := hkfa.same _ _ (by omega) hl rfl
      replace hk := hkfa.same _ _ (Nat.le_refl _) hk rfl
      replace hlt : w.heap.size + 1 < Wa.heap.size := (Array.getElem?_eq_some_iff.1 hl).1
      replace hi := hia
      clear hia
      revert hkpa hkfa
      generalize W = Wb
      intro hkfa hkpa
      obtain ⟨W, rfl⟩ : ∃ W, W = Wa := ⟨_, rfl⟩
      refine ⟨_, run_beginRound hl (by rw [hrec]), ?_⟩
      have hl2 : (W.putObj (w.heap.size + 1) (.loop { rec .ready none with state := .busy })).heap[w.heap.size + 1]? = some (.loop { rec .ready none with state := .busy }) := World.putObj_heap_same hlt
      have hk2 : (W.putObj (w.heap.size + 1) (.loop { rec .ready none with state := .busy })).heap[w.heap.size]? = some (.deferred (some [])) := (World.putObj_heap_other (by omega)).trans hk
      have hw2 : Kp W (W.putObj (w.heap.size + 1) (.loop { rec .ready none with state := .busy })) := hKb _ _ _ _ (by omega) hl rfl rfl
      refine wpIn_mono (hbody _ pre x a' _ (by omega) ⟨_, hl2⟩ (hI.putObj _ hi (by omega) hl rfl) ((hAx x a').putObj (s := ()) _ hax (by omega) hl rfl) hlen) ?_
      have fin : ∀ (jump : Option Code) (W3 : World), KeepsFrom w.heap.size (W.putObj (w.heap.size + 1) (.loop { rec .ready none with state := .busy })) W3 →
          (Instr.endRound (w.heap.size + 1) jump).run P W3 = .ok (.bool jump.isNone) (W3.putObj (w.heap.size + 1) (.loop (rec (if jump.isNone then .ready else .done) jump))) ∧
          W3.heap[w.heap.size + 1]? = some (.loop { rec .ready none with state := .busy }) ∧
          (W3.putObj (w.heap.size + 1) (.loop (rec (if jump.isNone then .ready else .done) jump))).heap[w.heap.size + 1]? = some (.loop (rec (if jump.isNone then .ready else .done) jump)) ∧
          (W3.putObj (w.heap.size + 1) (.loop (rec (if jump.isNone then .ready else .done) jump))).heap[w.heap.size]? = some (.deferred (some [])) := fun jump W3 hk3 => by
        have hl3 := hk3.same _ _ (by omega) hl2 rfl
        have := run_endRound (P := P) jump hl3
        rw [hrec] at this ⊢
        exact ⟨this, by rw [hrec] at hl3; exact hl3, World.putObj_heap_same (Array.getElem?_eq_some_iff.1 hl3).1, (World.putObj_heap_other (by omega)).trans (hk3.same _ _ (Nat.le_refl _) hk2 rfl)⟩
      rintro e a3 W3 hp
      cases e with
      | normal =>
        obtain ⟨hk3, hkp3, hi3⟩ := hp
        obtain ⟨hr, hl3, hl4, hk4⟩ := fin none W3 hk3
        exact ⟨_, _, hr, .inl ⟨rfl, ⟨hI.putObj _ hi3 (by omega) hl3 rfl, hl4, hk4⟩, hKt hkpa (hKt (hKt hw2 hkp3) (hKb _ _ _ _ (by omega) hl3 rfl rfl))⟩⟩
      | ret =>
        obtain ⟨hk3, hi3⟩ := hp
        obtain ⟨hr, hl3, hl4, hk4⟩ := fin (some .ret) W3 hk3
        exact ⟨_, _, hr, .inr ⟨rfl, .ret, (hIx _).putObj _ hi3 (by omega) hl3 rfl, hl4, hk4⟩⟩
      | exit id =>
        obtain ⟨hk3, hi3⟩ := hp
        obtain ⟨hr, hl3, hl4, hk4⟩ := fin (some (.exit id)) W3 hk3
        exact ⟨_, _, hr, .inr ⟨rfl, .exit id, (hIx _).putObj _ hi3 (by omega) hl3 rfl, hl4, hk4⟩⟩
      | goto t =>
        obtain ⟨hk3, hi3⟩ := hp
        obtain ⟨hr, hl3, hl4, hk4⟩ := fin (some (.goto t)) W3 hk3
        exact ⟨_, _, hr, .inr ⟨rfl, .goto t, (hIx _).putObj _ hi3 (by omega) hl3 rfl, hl4, hk4⟩⟩
      | panic ch => exact hp.elim
      | outgrown => exact hp.elim
    · rintro e W2 ⟨⟨v, rfl⟩, (⟨xs, hS0, hi, hl, hk⟩ | ⟨pre, hSp0, c, hi, hl, hk⟩)⟩
      · exact ⟨none, _, by have := run_endLoop (P := P) hl (by rw [hrec]; simp); rw [hrec] at this; exact this, hdone _ xs _ (Nat.le_refl _) (hS _ _ _ _ (by omega) hS0) (hI.putObj _ hi (by omega) hl rfl) ((World.putObj_heap_other (by omega)).trans hk)⟩
      · exact ⟨some c, _, by have := run_endLoop (P := P) hl (by rw [hrec]; simp); rw [hrec] at this; exact this, hstop _ c pre _ (Nat.le_refl _) (hSp _ _ _ _ (by omega) hSp0) ((hIx c).putObj _ hi (by omega) hl rfl) ((World.putObj_heap_other (by omega)).trans hk)⟩
end Go.Proofs.YtbacnaplpfmpnaaGreatDoor
namespace Go.Proofs.YtbacnaplpfmpnaaGreatDoor
open Go Go.RowKit Go.Shelf
set_option linter.unusedVariables false
set_option linter.unusedSimpArgs false
attribute [local go_sem] Oper.semAt_some

abbrev encsEv (x : Hp × Int) : Array Value := #[.agg #[.int .i64 x.1.rad, .string ⟨x.1.node.toArray⟩], .int .i64 x.2]
def h0 : Hp := ⟨0, []⟩
/-- What the iterator hands over. -/
def seqR (k : Nat) (s : List UInt8) : List (Hp × Int) := (hopsR k s).1.map (fun h => (h, (0 : Int))) ++ if (hopsR k s).2.2 = 0 then [] else [(h0, (hopsR k s).2.2)]
theorem seqR_err {k : Nat} {s : List UInt8} (h : (snR s).2.2.2 ≠ 0) : seqR k s = [(h0, (snR s).2.2.2)] := by
  unfold seqR; rw [hopsR_err h]; simp [h]
theorem seqR_end {k : Nat} {s : List UInt8} (h : (snR s).2.2.2 = 0) (h1 : (snR s).1 ≠ 254) : seqR k s = [] := by
  unfold seqR; rw [hopsR_end h h1]; simp
theorem seqR_bad {k : Nat} {s : List UInt8} (h : (snR s).2.2.2 = 0) (h1 : (snR s).1 = 254) (h2 : hopE k s ≠ 0) : seqR k s = [(h0, hopE k s)] := by
  unfold seqR; rw [hopsR_bad h h1 h2]; simp [h2]
theorem seqR_go {k : Nat} {s : List UInt8} (h : (snR s).2.2.2 = 0) (h1 : (snR s).1 = 254) (h2 : hopE (k + 1) s = 0) :
    seqR (k + 1) s = (hopOf s, 0) :: seqR k (s.drop (snR s).2.2.1.toNat) := by
  unfold seqR; rw [hopsR_go h h1 h2]; rfl
/-- What a round keeps: the iterator's own two cells. -/
def KeepsTwo (bl bx : Nat) (W W' : World) : Prop := W'.heap[bl]? = W.heap[bl]? ∧ W'.heap[bx]? = W.heap[bx]?
theorem KeepsTwo.t {bl bx : Nat} {A B C : World} (h : KeepsTwo bl bx A B) (k : KeepsTwo bl bx B C) : KeepsTwo bl bx A C := ⟨k.1.trans h.1, k.2.trans h.2⟩
theorem grown_of_below {w w' : World} {row : Option Nat} (hb : Below w.heap.size w w') : w.grownBy w' row := ⟨hb.os, hb.tape, hb.output, hb.size, fun k hk _ => hb.block k hk⟩
theorem Obj?.drew_ {w : World} {b : Nat} {cs : Array Value} {t : TypeId} (h : Obj? w b cs t) : Obj? w.drew b cs t := h
def HopsInv (bl bx : Nat) (s : List UInt8) (J : List (Hp × Int) → World → Prop) (k : Nat) (wr : World) : Prop :=
  ∃ (pre : List (Hp × Int)) (t : List UInt8), pre.length = k ∧ k ≤ 4 ∧ seqR 4 s = pre ++ seqR (4 - k) t ∧ (hopsR 4 s).2.1 = (hopsR (4 - k) t).2.1 ∧ t.length ≤ s.length ∧ J pre wr ∧
    Obj? wr bl #[.pointer (some ⟨bx, 0, none⟩)] 103 ∧ Obj? wr bx #[.string ⟨t.toArray⟩] 9
set_option maxRecDepth 100000 in
set_option maxHeartbeats 3200000 in
theorem hops1_boxed (n : Nat) (hn : 2 ≤ n) (bl bx : Nat) (hne : bl ≠ bx) (s : List UInt8) (hs : (s.length : Int) ≤ 4611686018427380000) (w : World)
    (hl : Obj? w bl #[.pointer (some ⟨bx, 0, none⟩)] 103) (hx : Obj? w bx #[.string ⟨s.toArray⟩] 9) :
    SeqBoxed Fence.wide n Tryz.prog 108 #[.pointer (some ⟨bl, 0, none⟩)] encsEv bx (KeepsTwo bl bx)
      (fun xs W => xs = seqR 4 s ∧ Obj? W bx #[.string ⟨(hopsR 4 s).2.1.toArray⟩] 9) (fun pre _ => pre <+: seqR 4 s) 6 w := by
  intro l J Jx W hW hJ hJx hY hJ0
  have HA := Lib.hid hJ
  have HY := Lib.hid hY
  have HI0 := Lib.hid (show HopsInv bl bx s J 0 W from ⟨[], s, rfl, by omega, rfl, rfl, Nat.le_refl _, hJ0, hl.below hW hl.lt, hx.below hW hx.lt⟩)
  have hn1 : 1 ≤ n := by omega
  clear hJ hY hJ0 hl hx hW hJx
  refine callsIn_of_wp Tryz.func108 rfl trivial ?_ rfl
  simp only [Tryz.ntmps108, List.size_toArray, List.length_cons, List.length_nil, Nat.reduceAdd, Nat.reduceSub, Array.replicate_succ, Array.replicate_zero, List.push_toArray, List.append_toArray, List.nil_append, List.cons_append]
  gi_wp2
  gi_loopg [3] 5 (fun g i wr => ∃ k : Nat, g + k = 5 ∧ i = .int .i64 k ∧ Hid (HopsInv bl bx s J k wr))
  case atStart => exact ⟨0, by omega, rfl, HI0⟩
  case round =>
    obtain ⟨k, hgk, rfl, HI⟩ := hrel
    obtain ⟨pre, t, hpk, hk4, hsq, hrs, htl, hJp, hol, hox⟩ := HI.out
    have kl := hol.cell 0 _ rfl
    have kx := hox.cell 0 _ rfl
    have htt : (t.length : Int) ≤ 9223372036854775807 := by omega
    have HR := Lib.hid (snread_any t htt wr)
    have hcs := snR_cases t
    obtain ⟨kind, hkind⟩ : ∃ x, x = (snR t).1 := ⟨_, rfl⟩
    obtain ⟨hd, hhd⟩ : ∃ x, x = (snR t).2.1 := ⟨_, rfl⟩
    obtain ⟨ln, hln⟩ : ∃ x, x = (snR t).2.2.1 := ⟨_, rfl⟩
    obtain ⟨er, her⟩ : ∃ x, x = (snR t).2.2.2 := ⟨_, rfl⟩
    rw [← hkind, ← hhd, ← hln, ← her] at HR
    have HP := Lib.hid (And.intro hpk (And.intro hsq (And.intro hrs (And.intro htl hJp))))
    have HO := Lib.hid (And.intro hol hox)
    have HG := Lib.hid (And.intro hgk hk4)
    have HS := Lib.hid (And.intro hkind (And.intro hhd (And.intro hln her)))
    have HC := Lib.hid hcs
    clear hpk hsq hrs htl hJp hol hox hgk hk4 HI hcs hkind hhd hln her
    gi_wp2_with (fail)
    refine ⟨trivial, (callsIn_wide.2 HR.out).mono ?_⟩
    rintro r w1 ⟨rfl, hb⟩
    have HO1 := Lib.hid (And.intro (HO.out.1.below hb HO.out.1.lt) (HO.out.2.below hb HO.out.2.lt))
    have HJ1 := Lib.hid (HA.out _ _ _ HP.out.2.2.2.2 (grown_of_below hb))
    clear hb kl kx
    by_cases h1 : er = 0
    rotate_left
    · have d1 : (er == 0) = false := by simpa using h1
      have d2 : (er != 0) = true := by simpa using h1
      have hq : seqR 4 s = pre ++ [(h0, er)] := by rw [HP.out.2.1, seqR_err (by rw [← HS.out.2.2.2]; exact h1), ← HS.out.2.2.2]
      have hr : (hopsR 4 s).2.1 = t := by rw [HP.out.2.2.1, hopsR_err (by rw [← HS.out.2.2.2]; exact h1)]
      have HQ := Lib.hid (And.intro hq hr)
      obtain ⟨fn, tmps, assign, body, hy, hR⟩ := HY.out pre (h0, er) w1 HJ1.out (by rw [HP.out.1]; have := HG.out; omega)
      dsimp only [encsEv, h0] at hy
      clear hq hr h1
      gi_wp2
      refine hR.mono ?_
      rintro e W' (⟨rfl, hJ', hk'⟩ | ⟨rfl, hJx'⟩)
      · gi_wp2
        refine bodyPost_ret (results_none rfl _ _ _) rfl ?_
        exact ⟨⟨_, rfl⟩, .inl ⟨_, ⟨HQ.out.1.symm, by rw [HQ.out.2]; unfold Obj?; rw [hk'.2]; exact HO1.out.2⟩, hJ'⟩⟩
      · gi_wp2
        refine bodyPost_ret (results_none rfl _ _ _) rfl ?_
        exact ⟨⟨_, rfl⟩, .inr ⟨_, by rw [HQ.out.1]; exact List.prefix_rfl, hJx'⟩⟩
    subst h1
    by_cases h254 : kind = 254
    rotate_left
    · have d1 : (kind != 254) = true := by simpa using h254
      have d2 : (kind == 254) = false := by simpa using h254
      have hq : seqR 4 s = pre := by rw [HP.out.2.1, seqR_end HS.out.2.2.2.symm (by rw [← HS.out.1]; exact h254), List.append_nil]
      have hr : (hopsR 4 s).2.1 = t := by rw [HP.out.2.2.1, hopsR_end HS.out.2.2.2.symm (by rw [← HS.out.1]; exact h254)]
      have HQ := Lib.hid (And.intro hq hr)
      clear hq hr h254
      gi_wp2
      refine bodyPost_ret (results_none rfl _ _ _) rfl ?_
      exact ⟨⟨_, rfl⟩, .inl ⟨_, ⟨HQ.out.1.symm, by rw [HQ.out.2]; exact HO1.out.2⟩, HJ1.out⟩⟩
    subst h254
    have HC' := HC.out.resolve_left (fun h => h HS.out.2.2.2.symm)
    obtain ⟨kk, hN, lN, hs1, -, hhl, hl65, hht, -⟩ := HC'
    have hh1 : hd = hN := by rw [HS.out.2.1, hs1]
    have hh2 : ln = lN := by rw [HS.out.2.2.1, hs1]
    subst hh1 hh2
    have HSL := Lib.hid (show (snR t).2.1 = hN ∧ (snR t).2.2.1 = lN from ⟨HS.out.2.1.symm, HS.out.2.2.1.symm⟩)
    clear hs1 HC
    by_cases hk4 : k = 4
    · have d4 : ((k : Int) == 4) = true := by rw [hk4]; rfl
      have hE : hopE (4 - k) t = 12 := by unfold hopE; rw [if_pos (by omega)]
      have hq : seqR 4 s = pre ++ [(h0, 12)] := by rw [HP.out.2.1, seqR_bad HS.out.2.2.2.symm HS.out.1.symm (by rw [hE]; decide), hE]
      have hr : (hopsR 4 s).2.1 = t := by rw [HP.out.2.2.1, hopsR_bad HS.out.2.2.2.symm HS.out.1.symm (by rw [hE]; decide)]
      have HQ := Lib.hid (And.intro hq hr)
      clear hq hr hE
      clear hk4
      obtain ⟨fn, tmps, assign, body, hy, hR⟩ := HY.out pre (h0, 12) w1 HJ1.out (by rw [HP.out.1]; have := HG.out; omega)
      dsimp only [encsEv, h0] at hy
      gi_wp2
      refine hR.mono ?_
      rintro e W' (⟨rfl, hJ', hk'⟩ | ⟨rfl, hJx'⟩)
      · gi_wp2
        refine bodyPost_ret (results_none rfl _ _ _) rfl ?_
        exact ⟨⟨_, rfl⟩, .inl ⟨_, ⟨HQ.out.1.symm, by rw [HQ.out.2]; unfold Obj?; rw [hk'.2]; exact HO1.out.2⟩, hJ'⟩⟩
      · gi_wp2
        refine bodyPost_ret (results_none rfl _ _ _) rfl ?_
        exact ⟨⟨_, rfl⟩, .inr ⟨_, by rw [HQ.out.1]; exact List.prefix_rfl, hJx'⟩⟩
    have hk4' : k < 4 := by have := HG.out; omega
    have d4 : ((k : Int) == 4) = false := by apply beq_eq_false_iff_ne.2; omega
    have hE0 : hopE (4 - k) t = if (hN : Int) ≠ 2 ∨ (lN : Int) ≤ 3 ∨ 35 < (lN : Int) then 5 else if (t.length : Int) < lN then 3 else if 3 < num t 2 1 then 5 else 0 := by
      unfold hopE
      rw [if_neg (by omega), HSL.out.1, HSL.out.2]
    have HE0 := Lib.hid hE0
    clear hE0 hk4
    by_cases hh : hN = 2
    rotate_left
    · have d5 : ((hN : Int) != 2) = true := by simp; omega
      have d6 : ((hN : Int) == 2) = false := by apply beq_eq_false_iff_ne.2; omega
      have hE : hopE (4 - k) t = 5 := by rw [HE0.out, if_pos (.inl (by omega))]
      have hq : seqR 4 s = pre ++ [(h0, 5)] := by rw [HP.out.2.1, seqR_bad HS.out.2.2.2.symm HS.out.1.symm (by rw [hE]; decide), hE]
      have hr : (hopsR 4 s).2.1 = t := by rw [HP.out.2.2.1, hopsR_bad HS.out.2.2.2.symm HS.out.1.symm (by rw [hE]; decide)]
      have HQ := Lib.hid (And.intro hq hr)
      clear hq hr hE
      clear hh
      obtain ⟨fn, tmps, assign, body, hy, hR⟩ := HY.out pre (h0, 5) w1 HJ1.out (by rw [HP.out.1]; have := HG.out; omega)
      dsimp only [encsEv, h0] at hy
      gi_wp2
      refine hR.mono ?_
      rintro e W' (⟨rfl, hJ', hk'⟩ | ⟨rfl, hJx'⟩)
      · gi_wp2
        refine bodyPost_ret (results_none rfl _ _ _) rfl ?_
        exact ⟨⟨_, rfl⟩, .inl ⟨_, ⟨HQ.out.1.symm, by rw [HQ.out.2]; unfold Obj?; rw [hk'.2]; exact HO1.out.2⟩, hJ'⟩⟩
      · gi_wp2
        refine bodyPost_ret (results_none rfl _ _ _) rfl ?_
        exact ⟨⟨_, rfl⟩, .inr ⟨_, by rw [HQ.out.1]; exact List.prefix_rfl, hJx'⟩⟩
    subst hh
    by_cases hl3 : lN ≤ 3
    · have d5 : (lN : Int) ≤ 3 := by omega
      have hE : hopE (4 - k) t = 5 := by rw [HE0.out, if_pos (.inr (.inl (by omega)))]
      have hq : seqR 4 s = pre ++ [(h0, 5)] := by rw [HP.out.2.1, seqR_bad HS.out.2.2.2.symm HS.out.1.symm (by rw [hE]; decide), hE]
      have hr : (hopsR 4 s).2.1 = t := by rw [HP.out.2.2.1, hopsR_bad HS.out.2.2.2.symm HS.out.1.symm (by rw [hE]; decide)]
      have HQ := Lib.hid (And.intro hq hr)
      clear hq hr hE
      clear hl3
      obtain ⟨fn, tmps, assign, body, hy, hR⟩ := HY.out pre (h0, 5) w1 HJ1.out (by rw [HP.out.1]; have := HG.out; omega)
      dsimp only [encsEv, h0] at hy
      gi_wp2
      refine hR.mono ?_
      rintro e W' (⟨rfl, hJ', hk'⟩ | ⟨rfl, hJx'⟩)
      · gi_wp2
        refine bodyPost_ret (results_none rfl _ _ _) rfl ?_
        exact ⟨⟨_, rfl⟩, .inl ⟨_, ⟨HQ.out.1.symm, by rw [HQ.out.2]; unfold Obj?; rw [hk'.2]; exact HO1.out.2⟩, hJ'⟩⟩
      · gi_wp2
        refine bodyPost_ret (results_none rfl _ _ _) rfl ?_
        exact ⟨⟨_, rfl⟩, .inr ⟨_, by rw [HQ.out.1]; exact List.prefix_rfl, hJx'⟩⟩
    have d5 : (3 : Int) < lN := by omega
    by_cases hl35 : 35 < lN
    · have d6 : (35 : Int) < lN := by omega
      have hE : hopE (4 - k) t = 5 := by rw [HE0.out, if_pos (.inr (.inr (by omega)))]
      have hq : seqR 4 s = pre ++ [(h0, 5)] := by rw [HP.out.2.1, seqR_bad HS.out.2.2.2.symm HS.out.1.symm (by rw [hE]; decide), hE]
      have hr : (hopsR 4 s).2.1 = t := by rw [HP.out.2.2.1, hopsR_bad HS.out.2.2.2.symm HS.out.1.symm (by rw [hE]; decide)]
      have HQ := Lib.hid (And.intro hq hr)
      clear hq hr hE
      clear hl35
      obtain ⟨fn, tmps, assign, body, hy, hR⟩ := HY.out pre (h0, 5) w1 HJ1.out (by rw [HP.out.1]; have := HG.out; omega)
      dsimp only [encsEv, h0] at hy
      gi_wp2
      refine hR.mono ?_
      rintro e W' (⟨rfl, hJ', hk'⟩ | ⟨rfl, hJx'⟩)
      · gi_wp2
        refine bodyPost_ret (results_none rfl _ _ _) rfl ?_
        exact ⟨⟨_, rfl⟩, .inl ⟨_, ⟨HQ.out.1.symm, by rw [HQ.out.2]; unfold Obj?; rw [hk'.2]; exact HO1.out.2⟩, hJ'⟩⟩
      · gi_wp2
        refine bodyPost_ret (results_none rfl _ _ _) rfl ?_
        exact ⟨⟨_, rfl⟩, .inr ⟨_, by rw [HQ.out.1]; exact List.prefix_rfl, hJx'⟩⟩
    have d6 : (lN : Int) ≤ 35 := by omega
    by_cases hsh : t.length < lN
    · have d7 : (t.length : Int) < lN := by omega
      have hE : hopE (4 - k) t = 3 := by rw [HE0.out, if_neg (by omega), if_pos (by omega)]
      have hq : seqR 4 s = pre ++ [(h0, 3)] := by rw [HP.out.2.1, seqR_bad HS.out.2.2.2.symm HS.out.1.symm (by rw [hE]; decide), hE]
      have hr : (hopsR 4 s).2.1 = t := by rw [HP.out.2.2.1, hopsR_bad HS.out.2.2.2.symm HS.out.1.symm (by rw [hE]; decide)]
      have HQ := Lib.hid (And.intro hq hr)
      clear hq hr hE
      clear hsh
      obtain ⟨fn, tmps, assign, body, hy, hR⟩ := HY.out pre (h0, 3) w1 HJ1.out (by rw [HP.out.1]; have := HG.out; omega)
      dsimp only [encsEv, h0] at hy
      gi_wp2
      refine hR.mono ?_
      rintro e W' (⟨rfl, hJ', hk'⟩ | ⟨rfl, hJx'⟩)
      · gi_wp2
        refine bodyPost_ret (results_none rfl _ _ _) rfl ?_
        exact ⟨⟨_, rfl⟩, .inl ⟨_, ⟨HQ.out.1.symm, by rw [HQ.out.2]; unfold Obj?; rw [hk'.2]; exact HO1.out.2⟩, hJ'⟩⟩
      · gi_wp2
        refine bodyPost_ret (results_none rfl _ _ _) rfl ?_
        exact ⟨⟨_, rfl⟩, .inr ⟨_, by rw [HQ.out.1]; exact List.prefix_rfl, hJx'⟩⟩
    have d7 : (lN : Int) ≤ t.length := by omega
    have h2t : 2 < t.length := by omega
    have hb2 : (ByteArray.mk t.toArray)[2]'(by show 2 < t.toArray.size; simpa using h2t) = t[2] := rfl
    have hi2 : (2 : Int) < t.length := by omega
    have hn2 : num t 2 1 = (t[2].toNat : Int) := by
      match t, h2t with
      | a :: b :: c :: r, _ => exact getB_one c
    have hcu : (t[2].toNat : Int) < 256 := by have := t[2].toNat_lt; omega
    by_cases hr3 : 3 < t[2].toNat
    · have d8 : (3 : Int) < t[2].toNat := by omega
      have hE : hopE (4 - k) t = 5 := by rw [HE0.out, if_neg (by omega), if_neg (by omega), hn2, if_pos (by omega)]
      have hq : seqR 4 s = pre ++ [(h0, 5)] := by rw [HP.out.2.1, seqR_bad HS.out.2.2.2.symm HS.out.1.symm (by rw [hE]; decide), hE]
      have hr : (hopsR 4 s).2.1 = t := by rw [HP.out.2.2.1, hopsR_bad HS.out.2.2.2.symm HS.out.1.symm (by rw [hE]; decide)]
      have HQ := Lib.hid (And.intro hq hr)
      clear hq hr hE
      clear hr3 hsh hl35 hl3
      obtain ⟨fn, tmps, assign, body, hy, hR⟩ := HY.out pre (h0, 5) w1 HJ1.out (by rw [HP.out.1]; have := HG.out; omega)
      dsimp only [encsEv, h0] at hy
      gi_wp2
      refine hR.mono ?_
      rintro e W' (⟨rfl, hJ', hk'⟩ | ⟨rfl, hJx'⟩)
      · gi_wp2
        refine bodyPost_ret (results_none rfl _ _ _) rfl ?_
        exact ⟨⟨_, rfl⟩, .inl ⟨_, ⟨HQ.out.1.symm, by rw [HQ.out.2]; unfold Obj?; rw [hk'.2]; exact HO1.out.2⟩, hJ'⟩⟩
      · gi_wp2
        refine bodyPost_ret (results_none rfl _ _ _) rfl ?_
        exact ⟨⟨_, rfl⟩, .inr ⟨_, by rw [HQ.out.1]; exact List.prefix_rfl, hJx'⟩⟩
    have d8 : (t[2].toNat : Int) ≤ 3 := by omega
    have hkk : 4 - k = (3 - k) + 1 := by omega
    have hE : hopE ((3 - k) + 1) t = 0 := by rw [← hkk, HE0.out, if_neg (by omega), if_neg (by omega), hn2, if_neg (by omega)]
    have hgo : seqR (4 - k) t = (hopOf t, 0) :: seqR (3 - k) (t.drop lN) := by rw [hkk, seqR_go HS.out.2.2.2.symm HS.out.1.symm hE, HSL.out.2]; rfl
    have hgr : (hopsR (4 - k) t).2.1 = (hopsR (3 - k) (t.drop lN)).2.1 := by rw [hkk, hopsR_go HS.out.2.2.2.symm HS.out.1.symm hE, HSL.out.2]; rfl
    have hhop : hopOf t = ⟨(t[2].toNat : Int), (t.take lN).drop 3⟩ := by unfold hopOf; rw [hn2, HSL.out.2]; rfl
    have hsl1 : (ByteArray.mk t.toArray).extract lN t.length = ByteArray.mk (t.drop lN).toArray := by
      rw [ByteArray.extract_mk]; simp
      exact List.take_of_length_le (by simp)
    have hsl2 : (ByteArray.mk t.toArray).extract 3 lN = ByteArray.mk ((t.take lN).drop 3).toArray := by
      rw [ByteArray.extract_mk]; simp [List.drop_take]
    have HGO := Lib.hid (And.intro hgo (And.intro hgr hhop))
    clear hkk hE hgo hgr hhop
    have HSL12 := Lib.hid (And.intro hsl1 hsl2)
    clear hsl1 hsl2
    have kl := HO1.out.1.cell 0 _ rfl
    have kx := HO1.out.2.cell 0 _ rfl
    have fx := HO1.out.2.frozen 0
    have hsl1 := HSL12.out.1
    gi_wp2
    gi_region
    clear hsl1 kl kx fx
    obtain ⟨W2, hW2⟩ : ∃ W2, W2 = (w1.setCell ⟨bx, 0, none⟩ (.string ⟨(t.drop lN).toArray⟩)).drew := ⟨_, rfl⟩
    rw [← hW2]
    have hJ2 : J pre W2 := by
      rw [hW2]
      exact HA.out _ _ _ (HA.out _ _ _ HJ1.out (grown_set (World.grownBy.refl _ _) (p := ⟨bx, 0, none⟩) rfl _)) (quiet_grown ⟨1, rfl⟩ _)
    have ho2 : Obj? W2 bl #[.pointer (some ⟨bx, 0, none⟩)] 103 ∧ Obj? W2 bx #[.string ⟨(t.drop lN).toArray⟩] 9 := by
      rw [hW2]
      exact ⟨Obj?.drew_ (Obj?.kept HO1.out.1 (grown_set (World.grownBy.refl _ _) (p := ⟨bx, 0, none⟩) rfl _) (fun e => hne (Option.some.inj e).symm)), HO1.out.2.set 0 _⟩
    have hJ3 : J pre W2.drew := HA.out _ _ _ hJ2 (quiet_grown ⟨1, rfl⟩ _)
    have HJ2 := Lib.hid (And.intro hJ2 ho2)
    clear hW2 hJ2 ho2
    obtain ⟨fn, tmps, assign, body, hy, hR⟩ := HY.out pre (Hp.mk (t[2].toNat : Int) ((t.take lN).drop 3), (0 : Int)) W2.drew hJ3 (by rw [HP.out.1]; have := HG.out; omega)
    dsimp only [encsEv] at hy
    clear hJ3
    have hsl2 := HSL12.out.2
    have d9 : (3 : Int) ≤ lN := by omega
    have hwr : IntKind.i64.wrap (t[2].toNat : Int) = (t[2].toNat : Int) := by rw [IntKind.wrap_i64]; omega
    gi_wp2
    have hR' := RoundIn.mono (R' := fun e W' => ∃ b : Bool, e = .returned (.bool b) ∧ Hid ((b = true ∧ J (pre ++ [(Hp.mk (t[2].toNat : Int) ((t.take lN).drop 3), (0 : Int))]) W' ∧ KeepsTwo bl bx W2.drew W') ∨ (b = false ∧ Jx (pre ++ [(Hp.mk (t[2].toNat : Int) ((t.take lN).drop 3), (0 : Int))]) W'))) hR (by
      rintro e W' (⟨rfl, h⟩ | ⟨rfl, h⟩)
      · exact ⟨true, rfl, Lib.hid (.inl ⟨rfl, h⟩)⟩
      · exact ⟨false, rfl, Lib.hid (.inr ⟨rfl, h⟩)⟩)
    have HRR := Lib.hid hR'
    clear hR hR'
    gi_region_with ((refine HRR.out.mono ?_; rintro e W' ⟨b, rfl, HΦ⟩))
    clear hsl2 hy HRR hwr
    have hcase := HΦ.out
    clear HΦ
    cases b with
    | true =>
      obtain ⟨-, hJ', hk'⟩ := hcase.resolve_right (fun h => by cases h.1)
      clear hcase
      gi_wp2
      gi_roundg (gk - 1)
      case measure => have := HG.out; omega
      case rel =>
        refine ⟨k + 1, by have := HG.out; omega, by go_num, Lib.hid ⟨pre ++ [(Hp.mk (t[2].toNat : Int) ((t.take lN).drop 3), (0 : Int))], t.drop lN, by simp [HP.out.1], by omega, ?_, ?_, ?_, hJ', ?_, ?_⟩⟩
        · rw [HP.out.2.1, HGO.out.1, HGO.out.2.2, List.append_assoc, List.singleton_append, show 4 - (k + 1) = 3 - k by omega]
        · rw [HP.out.2.2.1, HGO.out.2.1, show 4 - (k + 1) = 3 - k by omega]
        · have := HP.out.2.2.2.1; rw [List.length_drop]; omega
        · unfold Obj?; rw [hk'.1]; exact HJ2.out.2.1
        · unfold Obj?; rw [hk'.2]; exact HJ2.out.2.2
    | false =>
      obtain ⟨-, hJx'⟩ := hcase.resolve_left (fun h => by cases h.1)
      clear hcase
      gi_wp2
      refine bodyPost_ret (results_none rfl _ _ _) rfl ?_
      exact ⟨⟨_, rfl⟩, .inr ⟨_, by rw [HP.out.2.1, HGO.out.1, HGO.out.2.2]; exact ⟨_, by rw [List.append_assoc, List.singleton_append]⟩, hJx'⟩⟩
end Go.Proofs.YtbacnaplpfmpnaaGreatDoor
