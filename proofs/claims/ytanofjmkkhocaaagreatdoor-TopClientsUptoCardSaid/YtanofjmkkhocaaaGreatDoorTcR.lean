/- A session of MQTT-SN as data: what it does with a chunk. Plain: no program. fromsn: the name of an id, by its type. fromsn: To: a datagram as an event. fromsn: To: a datagram as an event. -/
import Derived.Test.YtanofjmkkhocaaaGreatDoorTcB
import Derived.Test.YtanofjmkkhocaaaGreatDoorLkB
import Derived.Test.YtanofjmkkhocaaaGreatDoorMsN
import Derived.Test.YtanofjmkkhocaaaGreatDoorTcD
import Derived.Test.YtanofjmkkhocaaaGreatDoorWrP
import Derived.Deep.RegionHeld3
set_option linter.unusedVariables false
set_option linter.unusedSimpArgs false
set_option maxRecDepth 100000
set_option maxHeartbeats 1600000
namespace Go.Proofs.YtanofjmkkhocaaaGreatDoor
open Go
def learnR (o : Option Cl) (m : Ms) : Int × Option Cl :=
 if (idC o m.name).2 = 0 then (if (idC o m.name).1 = m.tid then 0 else 2, o)
 else if m.tid = leastT (topsC o) 1 then ((regC o m.name).1.2.2, (regC o m.name).2) else (2, o)
def learnC (o : Option Cl) (m : Ms) : Int × Option Cl :=
 if checkM m ≠ 0 then (checkM m, o)
 else if m.ty = 4 ∧ m.fl.clean = true then (0, clearC o)
 else if m.ty = 10 then learnR o m
 else (0, o)
def resC (o : Option Cl) (id : Int) (fx : Bool) : List UInt8 × Bool := if (nameC o id).2 = 0 ∧ fixC o id = fx then ((nameC o id).1, true) else ([], false)
def ofC (o : Option Cl) (typ id : Int) : List UInt8 × Bool := if typ = 2 then nameOfF id else if typ = 1 then resC o id true else resC o id false
structure Ev where
 top : Option (List UInt8)
 hs : List Hp
 m : Ms
def toC (o : Option Cl) (hs : List Hp) (m : Ms) : Option Ev × Int :=
 if (wrapB hs m 1048576 32).2 ≠ 0 then (none, (wrapB hs m 1048576 32).2)
 else if m.ty ≠ 12 then (some ⟨none, hs, m⟩, 0)
 else if (ofC o m.fl.typ m.tid).2 = false then (none, 11)
 else (some ⟨some (ofC o m.fl.typ m.tid).1, hs, m⟩, 0)
def feedC (o : Option Cl) (s : List UInt8) : Option Ev × Int × Option Cl :=
 if (wrapR s 4096 6).2.2 ≠ 0 then (none, (wrapR s 4096 6).2.2, o)
 else if (toC o (wrapR s 4096 6).1 (wrapR s 4096 6).2.1).2 ≠ 0 then (none, (toC o (wrapR s 4096 6).1 (wrapR s 4096 6).2.1).2, o)
 else if (learnC o (wrapR s 4096 6).2.1).1 ≠ 0 then (none, (learnC o (wrapR s 4096 6).2.1).1, (learnC o (wrapR s 4096 6).2.1).2)
 else ((toC o (wrapR s 4096 6).1 (wrapR s 4096 6).2.1).1, 0, (learnC o (wrapR s 4096 6).2.1).2)
theorem wt_learn (o : Option Cl) (m : Ms) : wtO (learnC o m).2 ≤ 2 * wtO o + 1 := by
 have h1 := wt_clear o
 have h2 := wt_reg o m.name
 unfold learnC
 split
 ·simp only; omega
 ·split
  ·simp only; omega
  ·split
   ·unfold learnR
    split
    ·simp only; omega
    ·split
     ·simp only; omega
     ·simp only; omega
   ·simp only; omega
theorem wt_feed (o : Option Cl) (s : List UInt8) : wtO (feedC o s).2.2 ≤ 2 * wtO o + 1 := by
 have h := wt_learn o (wrapR s 4096 6).2.1
 unfold feedC
 split
 ·simp only; omega
 ·split
  ·simp only; omega
  ·split
   ·exact h
   ·exact h
end Go.Proofs.YtanofjmkkhocaaaGreatDoor
namespace Go.Proofs.YtanofjmkkhocaaaGreatDoor
open Go Go.RowKit Go.MapKept
theorem nameC_or (o : Option Cl) (id : Int) : (nameC o id).2 = 0 ∨ (nameC o id).2 = 11 := by
 unfold nameC
 split <;> simp
theorem resolve_any {w : World} {rb : Nat} {O : Nat → Own} {L : List UInt8 → Option (Nat × Cl)} (h : RegAt w rb O L) (n : List UInt8) (id : Int) (fx : Bool) :
  Calls Tryz.prog 468 #[.agg #[.pointer (some ⟨rb, 0, none⟩), .string ⟨n.toArray⟩], .int .i64 id, .bool fx] w fun e w' => e = .returned (.tuple #[.string ⟨(resC ((L n).map (·.2)) id fx).1.toArray⟩, .bool (resC ((L n).map (·.2)) id fx).2]) ∧ Below w.heap.size w w' := by
 obtain ⟨o, ho⟩ : ∃ o, o = (L n).map (·.2) := ⟨_, rfl⟩
 have HBx := Lib.hid (below_al (Below.refl _ w) (.cells #[.pointer (some ⟨rb, 0, none⟩), .string ⟨n.toArray⟩] 491 (0, 0)))
 have HO0 := Lib.hid (Obj?.new w #[.pointer (some ⟨rb, 0, none⟩), .string ⟨n.toArray⟩] 491)
 have HN := Lib.hid (rname_any (h.below HBx.out) n id)
 have HF := Lib.hid (fun (W : World) (hW : Below w.heap.size w W) => rfixed_any (h.below hW) n id)
 rw [← ho] at HN HF ⊢
 have k0 : (w.alloc (.cells #[.pointer (some ⟨rb, 0, none⟩), .string ⟨n.toArray⟩] 491 (0, 0))).cell? ⟨w.heap.size, 0, none⟩ = some (.pointer (some ⟨rb, 0, none⟩)) := HO0.out.cell 0 _ rfl
 have k1 : (w.alloc (.cells #[.pointer (some ⟨rb, 0, none⟩), .string ⟨n.toArray⟩] 491 (0, 0))).cell? ⟨w.heap.size, 1, none⟩ = some (.string ⟨n.toArray⟩) := HO0.out.cell 1 _ rfl
 have hor := nameC_or o id
 obtain ⟨s, hs⟩ : ∃ s, s = (nameC o id).1 := ⟨_, rfl⟩
 obtain ⟨er, her⟩ : ∃ er, er = (nameC o id).2 := ⟨_, rfl⟩
 obtain ⟨f, hf⟩ : ∃ f, f = fixC o id := ⟨_, rfl⟩
 have HRc := Lib.hid (show resC o id fx = if er = 0 ∧ f = fx then (s, true) else ([], false) by unfold resC; rw [hs, her, hf])
 rw [← hs, ← her] at HN
 rw [← hf] at HF
 rw [← her] at hor
 rw [HRc.out]
 clear h ho hs her hf HRc
 rcases hor with rfl | rfl
 ·by_cases hff : f = fx
  ·subst hff
   rw [if_pos ⟨rfl, rfl⟩]
   have d1 : (f != f) = false := by simp
   go_enter Tryz.func468, Tryz.ntmps468
   go_wp2_with fail
   refine HN.out.mono ?_
   rintro e w1 ⟨rfl, hb⟩
   have HB := Lib.hid (below_thn HBx.out hb)
   have g0 : w1.cell? ⟨w.heap.size, 0, none⟩ = some (.pointer (some ⟨rb, 0, none⟩)) := (HO0.out.below hb HO0.out.lt).cell 0 _ rfl
   have g1 : w1.cell? ⟨w.heap.size, 1, none⟩ = some (.string ⟨n.toArray⟩) := (HO0.out.below hb HO0.out.lt).cell 1 _ rfl
   clear hb
   go_wp2_with fail
   refine (HF.out _ HB.out).mono ?_
   rintro e w2 ⟨rfl, rfl⟩
   go_wp2_with fail
   go_ret2
   exact ⟨rfl, HB.out⟩
  ·rw [if_neg (fun e => hff e.2)]
   have d1 : (f == fx) = false := by simpa using hff
   clear hff
   go_enter Tryz.func468, Tryz.ntmps468
   go_wp2_with fail
   refine HN.out.mono ?_
   rintro e w1 ⟨rfl, hb⟩
   have HB := Lib.hid (below_thn HBx.out hb)
   have g0 : w1.cell? ⟨w.heap.size, 0, none⟩ = some (.pointer (some ⟨rb, 0, none⟩)) := (HO0.out.below hb HO0.out.lt).cell 0 _ rfl
   have g1 : w1.cell? ⟨w.heap.size, 1, none⟩ = some (.string ⟨n.toArray⟩) := (HO0.out.below hb HO0.out.lt).cell 1 _ rfl
   clear hb
   go_wp2_with fail
   refine (HF.out _ HB.out).mono ?_
   rintro e w2 ⟨rfl, rfl⟩
   go_wp2_with fail
   go_ret2
   exact ⟨rfl, HB.out⟩
 ·rw [if_neg (by simp)]
  go_enter Tryz.func468, Tryz.ntmps468
  go_wp2_with fail
  refine HN.out.mono ?_
  rintro e w1 ⟨rfl, hb⟩
  have HB := Lib.hid (below_thn HBx.out hb)
  clear hb
  go_wp2_with fail
  go_ret2
  exact ⟨rfl, HB.out⟩
theorem shortname_any (id : Int) (w : World) : Calls Tryz.prog 465 #[.agg #[], .int .i64 id] w fun e w' => e = .returned (.tuple #[.string ⟨(nameOfF id).1.toArray⟩, .bool (nameOfF id).2]) ∧ Below w.heap.size w w' := by
 have HN := Lib.hid (fun W => nameof_any id W)
 have HBx := Lib.hid (below_al (Below.refl _ w) (.cells #[] 492 (0, 0)))
 go_enter Tryz.func465, Tryz.ntmps465
 go_wp2_with fail
 refine (HN.out _).mono ?_
 rintro e w1 ⟨rfl, hb⟩
 have HB := Lib.hid (below_thn HBx.out hb)
 clear hb
 go_wp2_with fail
 go_ret2
 exact ⟨rfl, HB.out⟩
theorem fixedname_any {w : World} {rb : Nat} {O : Nat → Own} {L : List UInt8 → Option (Nat × Cl)} (h : RegAt w rb O L) (n : List UInt8) (id : Int) :
  Calls Tryz.prog 467 #[.agg #[.pointer (some ⟨rb, 0, none⟩), .string ⟨n.toArray⟩], .int .i64 id] w fun e w' => e = .returned (.tuple #[.string ⟨(resC ((L n).map (·.2)) id true).1.toArray⟩, .bool (resC ((L n).map (·.2)) id true).2]) ∧ Below w.heap.size w w' := by
 have HBx := Lib.hid (below_al (Below.refl _ w) (.cells #[.pointer (some ⟨rb, 0, none⟩), .string ⟨n.toArray⟩] 494 (0, 0)))
 have HN := Lib.hid (resolve_any (h.below HBx.out) n id true)
 have HO0 := Lib.hid (Obj?.new w #[.pointer (some ⟨rb, 0, none⟩), .string ⟨n.toArray⟩] 494)
 have k0 : (w.alloc (.cells #[.pointer (some ⟨rb, 0, none⟩), .string ⟨n.toArray⟩] 494 (0, 0))).cell? ⟨w.heap.size, 0, none⟩ = some (.pointer (some ⟨rb, 0, none⟩)) := HO0.out.cell 0 _ rfl
 have k1 : (w.alloc (.cells #[.pointer (some ⟨rb, 0, none⟩), .string ⟨n.toArray⟩] 494 (0, 0))).cell? ⟨w.heap.size, 1, none⟩ = some (.string ⟨n.toArray⟩) := HO0.out.cell 1 _ rfl
 clear h
 go_enter Tryz.func467, Tryz.ntmps467
 go_wp2_with fail
 refine HN.out.mono ?_
 rintro e w1 ⟨rfl, hb⟩
 have HB := Lib.hid (below_thn HBx.out hb)
 clear hb
 go_wp2_with fail
 go_ret2
 exact ⟨rfl, HB.out⟩
theorem normalname_any {w : World} {rb : Nat} {O : Nat → Own} {L : List UInt8 → Option (Nat × Cl)} (h : RegAt w rb O L) (n : List UInt8) (id : Int) :
  Calls Tryz.prog 472 #[.agg #[.pointer (some ⟨rb, 0, none⟩), .string ⟨n.toArray⟩], .int .i64 id] w fun e w' => e = .returned (.tuple #[.string ⟨(resC ((L n).map (·.2)) id false).1.toArray⟩, .bool (resC ((L n).map (·.2)) id false).2]) ∧ Below w.heap.size w w' := by
 have HBx := Lib.hid (below_al (Below.refl _ w) (.cells #[.pointer (some ⟨rb, 0, none⟩), .string ⟨n.toArray⟩] 495 (0, 0)))
 have HN := Lib.hid (resolve_any (h.below HBx.out) n id false)
 have HO0 := Lib.hid (Obj?.new w #[.pointer (some ⟨rb, 0, none⟩), .string ⟨n.toArray⟩] 495)
 have k0 : (w.alloc (.cells #[.pointer (some ⟨rb, 0, none⟩), .string ⟨n.toArray⟩] 495 (0, 0))).cell? ⟨w.heap.size, 0, none⟩ = some (.pointer (some ⟨rb, 0, none⟩)) := HO0.out.cell 0 _ rfl
 have k1 : (w.alloc (.cells #[.pointer (some ⟨rb, 0, none⟩), .string ⟨n.toArray⟩] 495 (0, 0))).cell? ⟨w.heap.size, 1, none⟩ = some (.string ⟨n.toArray⟩) := HO0.out.cell 1 _ rfl
 clear h
 go_enter Tryz.func472, Tryz.ntmps472
 go_wp2_with fail
 refine HN.out.mono ?_
 rintro e w1 ⟨rfl, hb⟩
 have HB := Lib.hid (below_thn HBx.out hb)
 clear hb
 go_wp2_with fail
 go_ret2
 exact ⟨rfl, HB.out⟩
def ofV (rb : Nat) (n : List UInt8) (typ : Int) : Value := if typ = 2 then .iface 492 (.agg #[]) else if typ = 1 then .iface 494 (.agg #[.pointer (some ⟨rb, 0, none⟩), .string ⟨n.toArray⟩]) else .iface 495 (.agg #[.pointer (some ⟨rb, 0, none⟩), .string ⟨n.toArray⟩])
theorem of3_any (rb : Nat) (n : List UInt8) (typ : Int) (w : World) : Calls Tryz.prog 447 #[.pointer (some ⟨rb, 0, none⟩), .string ⟨n.toArray⟩, .int .i64 typ] w fun e w' => e = .returned (ofV rb n typ) ∧ Below w.heap.size w w' := by
 have HBx := Lib.hid (below_al (Below.refl _ w) (.cells #[.pointer (some ⟨rb, 0, none⟩), .string ⟨n.toArray⟩] 491 (0, 0)))
 have HO0 := Lib.hid (Obj?.new w #[.pointer (some ⟨rb, 0, none⟩), .string ⟨n.toArray⟩] 491)
 have k0 : (w.alloc (.cells #[.pointer (some ⟨rb, 0, none⟩), .string ⟨n.toArray⟩] 491 (0, 0))).cell? ⟨w.heap.size, 0, none⟩ = some (.pointer (some ⟨rb, 0, none⟩)) := HO0.out.cell 0 _ rfl
 have k1 : (w.alloc (.cells #[.pointer (some ⟨rb, 0, none⟩), .string ⟨n.toArray⟩] 491 (0, 0))).cell? ⟨w.heap.size, 1, none⟩ = some (.string ⟨n.toArray⟩) := HO0.out.cell 1 _ rfl
 by_cases h2 : typ = 2
 ·have hv : ofV rb n typ = .iface 492 (.agg #[]) := by unfold ofV; rw [if_pos h2]
  rw [hv]
  clear hv
  subst h2
  go_enter Tryz.func447, Tryz.ntmps447
  go_wp2_with fail
  go_ret
  exact ⟨rfl, HBx.out⟩
 ·by_cases h1 : typ = 1
  ·have hv : ofV rb n typ = .iface 494 (.agg #[.pointer (some ⟨rb, 0, none⟩), .string ⟨n.toArray⟩]) := by unfold ofV; rw [if_neg h2, if_pos h1]
   rw [hv]
   clear hv
   subst h1
   go_enter Tryz.func447, Tryz.ntmps447
   go_wp2_with fail
   go_ret
   exact ⟨rfl, HBx.out⟩
  ·have hv : ofV rb n typ = .iface 495 (.agg #[.pointer (some ⟨rb, 0, none⟩), .string ⟨n.toArray⟩]) := by unfold ofV; rw [if_neg h2, if_neg h1]
   have d2 : (typ == 2) = false := by simpa using h2
   have d1 : (typ == 1) = false := by simpa using h1
   rw [hv]
   clear hv h1 h2
   go_enter Tryz.func447, Tryz.ntmps447
   go_wp2_with fail
   go_ret
   exact ⟨rfl, HBx.out⟩
theorem sngreatest_any (w : World) : Calls Tryz.prog 446 #[] w fun e w' => e = .returned (.agg #[.int .i64 1048576, .int .i64 32]) ∧ Below w.heap.size w w' := by
 have HB := Lib.hid (below_al (Below.refl _ w) (.cells #[.int .i64 1048576, .int .i64 32] 53 (0, 0)))
 have HO := Lib.hid (Obj?.new w #[.int .i64 1048576, .int .i64 32] 53)
 go_enter Tryz.func446, Tryz.ntmps446
 go_wp2_with fail
 refine bodyPost_ret (results_row1 rfl _ _ _ _ _ _ rfl HO.out Tryz.underlying53 rfl (by kernel_rfl)) rfl ?_
 exact ⟨rfl, HB.out⟩
end Go.Proofs.YtanofjmkkhocaaaGreatDoor
namespace Go.Proofs.YtanofjmkkhocaaaGreatDoor
open Go Go.RowKit Go.MapKept
def evX (pr kind : Int) (top pay : List UInt8) (q : Int) (ret dup : Bool) (id typ : Int) (hv : Value) (m : Ms) : Array Value := #[.int .i64 pr, .int .i64 kind, .string ⟨top.toArray⟩, .string ⟨pay.toArray⟩, .int .i64 q, .bool ret, .bool dup, .int .i64 id, .slice none 0 0, .int .i64 typ, hv, .int .i64 0, .int .i64 0, .bool false, .bool false, .int .i64 0, .int .i64 0, .string ⟨#[]⟩, .string ⟨#[]⟩, .bool false, .int .i64 0, .string ⟨#[]⟩, .bool false, .string ⟨#[]⟩, .bool false, .string ⟨#[]⟩, .bool false, .string ⟨#[]⟩, .string ⟨#[]⟩, .int .i64 0, .bool false, .slice none 0 0, .bool false, .int .i64 0, .slice none 0 0, .slice none 0 0, .slice none 0 0, .int .i64 m.ty, .bool m.fl.dup, .int .i64 m.fl.q, .bool m.fl.retain, .bool m.fl.will, .bool m.fl.clean, .int .i64 m.fl.typ, .int .i64 m.gw, .int .i64 m.rad, .int .i64 m.time, .bool m.timed, .int .i64 m.tid, .int .i64 m.mid, .int .i64 m.code, .string ⟨m.name.toArray⟩, .string ⟨m.data.toArray⟩, .int .i64 0, .int .i64 0, .string ⟨#[]⟩, .slice none 0 0]
theorem evX_size (pr kind : Int) (top pay : List UInt8) (q : Int) (ret dup : Bool) (id typ : Int) (hv : Value) (m : Ms) : (evX pr kind top pay q ret dup id typ hv m).size = 57 := rfl
theorem evX_one (pr kind : Int) (top pay : List UInt8) (q : Int) (ret dup : Bool) (id typ : Int) {hv : Value} (m : Ms) (h : hv.oneCell' = true) : (evX pr kind top pay q ret dup id typ hv m).all (·.oneCell') = true := by
 simp [evX, Value.oneCell']
 exact h
def evZ : Array Value := #[.int .i64 0, .int .i64 0, .string ⟨#[]⟩, .string ⟨#[]⟩, .int .i64 0, .bool false, .bool false, .int .i64 0, .slice none 0 0, .int .i64 0, .slice none 0 0, .int .i64 0, .int .i64 0, .bool false, .bool false, .int .i64 0, .int .i64 0, .string ⟨#[]⟩, .string ⟨#[]⟩, .bool false, .int .i64 0, .string ⟨#[]⟩, .bool false, .string ⟨#[]⟩, .bool false, .string ⟨#[]⟩, .bool false, .string ⟨#[]⟩, .string ⟨#[]⟩, .int .i64 0, .bool false, .slice none 0 0, .bool false, .int .i64 0, .slice none 0 0, .slice none 0 0, .slice none 0 0, .int .i64 0, .bool false, .int .i64 0, .bool false, .bool false, .bool false, .int .i64 0, .int .i64 0, .int .i64 0, .int .i64 0, .bool false, .int .i64 0, .int .i64 0, .int .i64 0, .string ⟨#[]⟩, .string ⟨#[]⟩, .int .i64 0, .int .i64 0, .string ⟨#[]⟩, .slice none 0 0]
theorem evZ_eq : evZ = evX 0 0 [] [] 0 false false 0 0 (.slice none 0 0) ms0 := rfl
def evB (hv : Value) : Array Value := #[.int .i64 3, .int .i64 2, .string ⟨#[]⟩, .string ⟨#[]⟩, .int .i64 0, .bool false, .bool false, .int .i64 0, .slice none 0 0, .int .i64 0, hv, .int .i64 0, .int .i64 0, .bool false, .bool false, .int .i64 0, .int .i64 0, .string ⟨#[]⟩, .string ⟨#[]⟩, .bool false, .int .i64 0, .string ⟨#[]⟩, .bool false, .string ⟨#[]⟩, .bool false, .string ⟨#[]⟩, .bool false, .string ⟨#[]⟩, .string ⟨#[]⟩, .int .i64 0, .bool false, .slice none 0 0, .bool false, .int .i64 0, .slice none 0 0, .slice none 0 0, .slice none 0 0, .int .i64 0, .bool false, .int .i64 0, .bool false, .bool false, .bool false, .int .i64 0, .int .i64 0, .int .i64 0, .int .i64 0, .bool false, .int .i64 0, .int .i64 0, .int .i64 0, .string ⟨#[]⟩, .string ⟨#[]⟩, .int .i64 0, .int .i64 0, .string ⟨#[]⟩, .slice none 0 0]
theorem evB_eq (hv : Value) : evB hv = evX 3 2 [] [] 0 false false 0 0 hv ms0 := rfl
def evE (hv : Value) (e : Ev) : Array Value := match e.top with
 | some t => evX 3 1 t e.m.data e.m.fl.q e.m.fl.retain e.m.fl.dup e.m.mid e.m.fl.typ hv ms0
 | none => evX 3 2 [] [] 0 false false 0 0 hv e.m
theorem infoEvX : (Tryz.prog.info? 43).map (·.size) = some 57 := by kernel_rfl
theorem load_EvX (a : Addr) : loadVar 43 a = rowSem 43 a := rfl
theorem store_EvX (a : Addr) (v : Value) : storeVar 43 a v = rowStore 43 a v := rfl
theorem load_evx {w : World} {b : Nat} {cs : Array Value} (h : Obj? w b cs 43) (hs : cs.size = 57) : (rowSem 43 ⟨b, 0, none⟩).run Tryz.prog w = .ok (.agg cs) w :=
 rowSem_run w b 43 43 _ _ h Tryz.underlying43 rfl (by rw [hs]; exact infoEvX)
theorem store_evx {w : World} {b : Nat} {old cs : Array Value} (h : Obj? w b old 43) (ho : old.size = 57) (hs : cs.size = 57) (h1 : cs.all (·.oneCell') = true) : (rowStore 43 ⟨b, 0, none⟩ (.agg cs)).run Tryz.prog w = .ok () (w.setRow b cs) :=
 rowStore_run (P := Tryz.prog) _ b 43 43 _ _ h (by rw [hs]; exact infoEvX) (by rw [ho, hs]) h1
theorem store_newevx {w : World} {old cs : Array Value} (ho : old.size = 57) (hs : cs.size = 57) (h1 : cs.all (·.oneCell') = true) : (rowStore 43 ⟨w.heap.size, 0, none⟩ (.agg cs)).run Tryz.prog (w.alloc (.cells old 43 (0, 0))) = .ok () (w.alloc (.cells cs 43 (0, 0))) := by
 have h := store_evx (Obj?.new w old 43) ho hs h1
 rw [World.setRow_alloc_new] at h
 exact h
def putCx (cs : Array Value) (o : Nat) : List Value → Array Value
 | [] => cs
 | v :: vs => putCx (cs.setIfInBounds o v) (o + 1) vs
theorem Obj?.setCx {b : Nat} {t : TypeId} : ∀ (vs : List Value) (o : Nat) (w : World) (cs : Array Value), Obj? w b cs t → Obj? (w.setCells b o vs) b (putCx cs o vs) t
 | [], o, w, cs, h => h
 | v :: vs, o, w, cs, h => Obj?.setCx vs (o + 1) _ _ (h.set o v)
theorem setCx_grown (b : Nat) : ∀ (vs : List Value) (o : Nat) (w : World), w.grownBy (w.setCells b o vs) (some b)
 | [], o, w => World.grownBy.refl _ _
 | v :: vs, o, w => by
  have h1 := grown_set (World.grownBy.refl w (some b)) (p := ⟨b, o, none⟩) rfl v
  have h2 := setCx_grown b vs (o + 1) (w.setCell ⟨b, o, none⟩ v)
  exact ⟨h2.os.trans h1.os, h2.tape.trans h1.tape, h2.output.trans h1.output, Nat.le_trans h1.size h2.size, fun k hk hne => (h2.block k (Nat.lt_of_lt_of_le hk h1.size) hne).trans (h1.block k hk hne)⟩
theorem put_evm (pr kind : Int) (top pay : List UInt8) (q : Int) (ret dup : Bool) (id typ : Int) (hv : Value) (m0 m : Ms) : putCx (evX pr kind top pay q ret dup id typ hv m0) 37 m.cs.toList = evX pr kind top pay q ret dup id typ hv m := by kernel_rfl
theorem store_evm {w : World} {b : Nat} {pr kind : Int} {top pay : List UInt8} {q : Int} {ret dup : Bool} {id typ : Int} {hv : Value} {m0 : Ms} (m : Ms) (h : Obj? w b (evX pr kind top pay q ret dup id typ hv m0) 43) :
  (rowStore 38 ⟨b, 37, none⟩ (.agg m.cs)).run Tryz.prog w = .ok () (w.setCells b 37 m.cs.toList) ∧ Obj? (w.setCells b 37 m.cs.toList) b (evX pr kind top pay q ret dup id typ hv m) 43 := by
 have s1 : m.cs.size = 16 := rfl
 have hr := run_storeVar_mid (P := Tryz.prog) w b 37 38 m.cs (fun j hj => ⟨by rw [h.cell (37 + j) _ (Array.getElem?_eq_getElem (show 37 + j < (evX pr kind top pay q ret dup id typ hv m0).size by rw [evX_size]; omega))]; rfl, h.frozen _⟩) (by rw [infoMs, s1]) (by simp [Ms.cs, Value.oneCell'])
 rw [store_Msg] at hr
 refine ⟨hr, ?_⟩
 have := Obj?.setCx m.cs.toList 37 w _ h
 rw [put_evm] at this
 exact this
end Go.Proofs.YtanofjmkkhocaaaGreatDoor
namespace Go.Proofs.YtanofjmkkhocaaaGreatDoor
open Go Go.RowKit Go.MapKept
attribute [local go_sem ↓] load_Msg store_Msg load_Dg store_Dg load_EvX store_EvX
attribute [local irreducible] rowSem rowStore
def ToSaid (w : World) (x : Option Ev × Int) (e : Ending) (w' : World) : Prop :=
 ∃ cs, e = .returned (.tuple #[.agg cs, .int .i64 x.2]) ∧ Below w.heap.size w w' ∧
  ((x.1 = none ∧ cs = evZ) ∨ ∃ ev hv, x.1 = some ev ∧ cs = evE hv ev ∧ w'.ownsRow w.heap.size 155 2 hv ev.hs.length (hopCells ev.hs))
theorem hops4 {hs : List Hp} {m : Ms} {mp md : Int} (h : (wrapB hs m mp md).2 = 0) : hs.length ≤ 4 := by
 unfold wrapB at h
 split at h
 ·cases h
 ·split at h
  ·cases h
  ·omega
theorem evB_one {hv : Value} (h : hv.oneCell' = true) : (evB hv).all (·.oneCell') = true := by
 rw [evB_eq]; exact evX_one _ _ _ _ _ _ _ _ _ _ h
theorem own_far {w w' : World} {base b z n : Nat} {e : TypeId} {v : Value} {xs : List Value} (h : w.ownsRow base e z v n xs) (hg : w.grownBy w' (some b)) (hb : ∀ k, v.ownBlock = some k → k ≠ b) : w'.ownsRow base e z v n xs :=
 h.kept hg (by
  cases ho : v.ownBlock with
  | none => exact .inl rfl
  | some k => exact .inr fun e => hb k ho (Option.some.inj e))
theorem row_less {w : World} {base base' z n : Nat} {e : TypeId} {v : Value} {xs : List Value} (h : w.ownsRow base e z v n xs) (hb : base' ≤ base) : w.ownsRow base' e z v n xs := by
 refine ⟨h.1, ?_⟩
 rcases h.2 with h2 | ⟨g, cap, cur, rfl, h3, h4⟩
 ·exact .inl h2
 ·exact .inr ⟨g, cap, cur, rfl, Nat.le_trans hb h3, h4⟩
theorem evZ_one : evZ.all (·.oneCell') = true := by kernel_rfl
theorem st_row {w : World} {b : Nat} {old cs : Array Value} (h : Obj? w b old 43) (ho : old.size = 57) (hs : cs.size = 57) (h1 : cs.all (·.oneCell') = true) : (rowStore 43 ⟨b, 0, none⟩ (.agg cs)).run Tryz.prog w = .ok () (w.setRow b cs) ∧ Obj? (w.setRow b cs) b cs 43 := ⟨store_evx h ho hs h1, h.setRow _⟩
theorem to_err {w : World} {rb : Nat} {v : Value} {hs : List Hp} {m : Ms} (n : List UInt8) (hH : HopsAt w v hs) (hn : (m.name.length : Int) ≤ 100000) (hd : (m.data.length : Int) ≤ 100000) (hmx : Mx w) (e0 : Int) (he0 : e0 = (wrapB hs m 1048576 32).2) (hE : e0 ≠ 0) :
  Calls Tryz.prog 442 #[.pointer (some ⟨rb, 0, none⟩), .string ⟨n.toArray⟩, .agg (dgCs v m)] w (ToSaid w (none, e0)) := by
 obtain ⟨W0, hW0⟩ : ∃ W0, W0 = (w.alloc (.cells (dgCs v m) 119 (0, 0))).alloc (.cells evZ 43 (0, 0)) := ⟨_, rfl⟩
 have hB1 := below_al (Below.refl _ w) (.cells (dgCs v m) 119 (0, 0))
 have hB2 := below_al hB1 (.cells evZ 43 (0, 0))
 have OD := (Obj?.new w (dgCs v m) 119).alloc (.cells evZ 43 (0, 0))
 have OE := Obj?.new (w.alloc (.cells (dgCs v m) 119 (0, 0))) evZ 43
 rw [World.size_alloc] at OE
 rw [← hW0] at hB2 OD OE
 have HC := Lib.hid (fun W (hW : Below W0.heap.size W0 W) => wrapcheck_any (mp := 1048576) (md := 32) (hH.below (hB2.trans (hW.mono hB2.size))) hn hd (hmx.below (hB2.trans (hW.mono hB2.size)) hmx.1))
 have HO := Lib.hid (And.intro OD (And.intro OE hB2))
 have HH := Lib.hid (fun W (hW : Below W0.heap.size W0 W) => hH.below (hB2.trans (hW.mono hB2.size)))
 rw [← he0] at HC
 have dE : (e0 != 0) = true := by simpa using hE
 clear hE
 have HSF := Lib.hid (show ∀ W, Below W0.heap.size W0 W → Below W0.heap.size W0 W ∧ (rowSem 119 ⟨w.heap.size, 0, none⟩).run Tryz.prog W = .ok (.agg (dgCs v m)) W from fun W hW => ⟨hW, load_dg (OD.below hW OD.lt)⟩)
 have hS0 := HSF.out W0 (Below.refl _ _)
 have hS1 := HSF.out W0.drew (below_grown (quiet_grown ⟨1, rfl⟩ none))
 clear hB1 hB2 OD OE hH hn hd hmx he0
 unfold evZ dgCs at hW0
 unfold dgCs at hS0 hS1 HSF HC ⊢
 go_enter Tryz.func442, Tryz.ntmps442
 go_upto_region 3 with fail
 rw [← hW0]
 clear hW0
 go_region_held3 (fun W => Below W0.heap.size W0 W ∧ (rowSem 119 ⟨w.heap.size, 0, none⟩).run Tryz.prog W = .ok (.agg #[v, .int .i64 m.ty, .bool m.fl.dup, .int .i64 m.fl.q, .bool m.fl.retain, .bool m.fl.will, .bool m.fl.clean, .int .i64 m.fl.typ, .int .i64 m.gw, .int .i64 m.rad, .int .i64 m.time, .bool m.timed, .int .i64 m.tid, .int .i64 m.mid, .int .i64 m.code, .string ⟨m.name.toArray⟩, .string ⟨m.data.toArray⟩]) W)
  ((first | assumption | exact HSF.out _ (below_thn (by assumption) (below_grown (quiet_grown ⟨1, rfl⟩ none)))))
  ((go_split_ands; first
   | (go_at_call 446; ((with_reducible refine (sngreatest_any _).mono ?_); (rintro e w11 ⟨rfl, hb⟩; have hS := HSF.out _ (below_thn (by assumption) hb))))
   | (go_at_call 396; ((with_reducible refine (HC.out _ (by assumption)).mono ?_); (rintro e w12 ⟨rfl, hb⟩; have hS := HSF.out _ (below_thn (by assumption) hb))))))
 have HB := Lib.hid hS.1
 clear hS
 obtain ⟨O1, O2⟩ := st_row (HO.out.2.1.below HB.out HO.out.2.1.lt) rfl rfl evZ_one
 have HO2 := Lib.hid O2
 clear O2
 unfold evZ at O1
 go_wp2_with fail
 refine bodyPost_ret (results_row_tmp rfl _ _ _ _ _ _ rfl HO2.out Tryz.underlying43 rfl infoEvX) rfl ?_
 exact ⟨evZ, rfl, below_row (HO.out.2.2.trans (HB.out.mono HO.out.2.2.size)) (by omega) _, .inl ⟨rfl, rfl⟩⟩
theorem to_oth {w : World} {rb : Nat} {v : Value} {hs : List Hp} {m : Ms} (n : List UInt8) (hH : HopsAt w v hs) (hn : (m.name.length : Int) ≤ 100000) (hd : (m.data.length : Int) ≤ 100000) (hmx : Mx w) (he0 : 0 = (wrapB hs m 1048576 32).2) (hl : hs.length ≤ 4) (hty : m.ty ≠ 12) :
  Calls Tryz.prog 442 #[.pointer (some ⟨rb, 0, none⟩), .string ⟨n.toArray⟩, .agg (dgCs v m)] w (ToSaid w (some ⟨none, hs, m⟩, 0)) := by
 obtain ⟨W0, hW0⟩ : ∃ W0, W0 = (w.alloc (.cells (dgCs v m) 119 (0, 0))).alloc (.cells evZ 43 (0, 0)) := ⟨_, rfl⟩
 have hB1 := below_al (Below.refl _ w) (.cells (dgCs v m) 119 (0, 0))
 have hB2 := below_al hB1 (.cells evZ 43 (0, 0))
 have OD := (Obj?.new w (dgCs v m) 119).alloc (.cells evZ 43 (0, 0))
 have OE := Obj?.new (w.alloc (.cells (dgCs v m) 119 (0, 0))) evZ 43
 rw [World.size_alloc] at OE
 rw [← hW0] at hB2 OD OE
 have HC := Lib.hid (fun W (hW : Below W0.heap.size W0 W) => wrapcheck_any (mp := 1048576) (md := 32) (hH.below (hB2.trans (hW.mono hB2.size))) hn hd (hmx.below (hB2.trans (hW.mono hB2.size)) hmx.1))
 have HO := Lib.hid (And.intro OD (And.intro OE hB2))
 have HH := Lib.hid (fun W (hW : Below W0.heap.size W0 W) => hH.below (hB2.trans (hW.mono hB2.size)))
 rw [← he0] at HC
 have HL := Lib.hid (show hs.length ≤ 1000 by omega)
 have dT : (m.ty != 12) = true := by simpa using hty
 clear hl hty
 have HSF := Lib.hid (show ∀ W, Below W0.heap.size W0 W → Below W0.heap.size W0 W ∧ (rowSem 119 ⟨w.heap.size, 0, none⟩).run Tryz.prog W = .ok (.agg (dgCs v m)) W from fun W hW => ⟨hW, load_dg (OD.below hW OD.lt)⟩)
 have hS0 := HSF.out W0 (Below.refl _ _)
 have hS1 := HSF.out W0.drew (below_grown (quiet_grown ⟨1, rfl⟩ none))
 clear hB1 hB2 OD OE hH hn hd hmx he0
 unfold evZ dgCs at hW0
 unfold dgCs at hS0 hS1 HSF HC ⊢
 go_enter Tryz.func442, Tryz.ntmps442
 go_upto_region 3 with fail
 rw [← hW0]
 clear hW0
 go_region_held3 (fun W => Below W0.heap.size W0 W ∧ (rowSem 119 ⟨w.heap.size, 0, none⟩).run Tryz.prog W = .ok (.agg #[v, .int .i64 m.ty, .bool m.fl.dup, .int .i64 m.fl.q, .bool m.fl.retain, .bool m.fl.will, .bool m.fl.clean, .int .i64 m.fl.typ, .int .i64 m.gw, .int .i64 m.rad, .int .i64 m.time, .bool m.timed, .int .i64 m.tid, .int .i64 m.mid, .int .i64 m.code, .string ⟨m.name.toArray⟩, .string ⟨m.data.toArray⟩]) W)
  ((first | assumption | exact HSF.out _ (below_thn (by assumption) (below_grown (quiet_grown ⟨1, rfl⟩ none)))))
  ((go_split_ands; first
   | (go_at_call 446; ((with_reducible refine (sngreatest_any _).mono ?_); (rintro e w11 ⟨rfl, hb⟩; have hS := HSF.out _ (below_thn (by assumption) hb))))
   | (go_at_call 396; ((with_reducible refine (HC.out _ (by assumption)).mono ?_); (rintro e w12 ⟨rfl, hb⟩; have hS := HSF.out _ (below_thn (by assumption) hb))))))
 have HB := Lib.hid hS.1
 clear hS
 have k0 := (HO.out.1.below HB.out HO.out.1.lt).cell 0 v rfl
 go_wp2_with fail
 refine (hopsclone_any (HH.out _ HB.out) HL.out).mono ?_
 rintro e w6 ⟨hv, rfl, hR, hb⟩
 obtain ⟨ac, cc, rfl⟩ := owns_shape (by decide) hR
 have HR := Lib.hid (And.intro hR hb)
 have hZ := hb.size
 have OE6 := (HO.out.2.1.below (below_thn HB.out hb) HO.out.2.1.lt).alloc (.cells (evB (.slice ac hs.length cc)) 43 (0, 0))
 have OD6 := (HO.out.1.below (below_thn HB.out hb) HO.out.1.lt).alloc (.cells (evB (.slice ac hs.length cc)) 43 (0, 0))
 have ON6 := Obj?.new w6 (evB (.slice ac hs.length cc)) 43
 have hst := store_newevx (w := w6) (old := evZ) (cs := evB (.slice ac hs.length cc)) rfl rfl (evB_one rfl)
 have kd := OD6.cells
 have hN : w.heap.size + 1 < w6.heap.size := Nat.lt_of_lt_of_le HO.out.2.1.lt (Nat.le_trans HB.out.size hb.size)
 have ON6' := ON6
 rw [evB_eq] at ON6'
 obtain ⟨S8, N8⟩ := store_evm m ON6'
 rw [← evB_eq] at S8 N8
 have L8 := load_dgmsg OD6
 have E8 := OE6.kept (setCx_grown w6.heap.size m.cs.toList 37 _) (fun e => by have := Option.some.inj e; omega)
 have L9 := load_evx N8 rfl
 obtain ⟨S9, O9⟩ := st_row E8 rfl rfl (evX_one 3 2 [] [] 0 false false 0 0 m (hv := .slice ac hs.length cc) rfl)
 have hBF := below_row ((below_al (HO.out.2.2.trans ((below_thn HB.out hb).mono HO.out.2.2.size)) (.cells (evB (.slice ac hs.length cc)) 43 (0, 0))).grown (setCx_grown w6.heap.size m.cs.toList 37 _) (by simp; omega) (fun k e => by have := Option.some.inj e; omega)) (show w.heap.size ≤ w.heap.size + 1 by omega) (evX 3 2 [] [] 0 false false 0 0 (.slice ac hs.length cc) m)
 have hRm := row_less hR (show w.heap.size ≤ w12.heap.size from Nat.le_trans HO.out.2.2.size HB.out.size)
 have hRF := own_far (own_far (hRm.alloc (.cells (evB (.slice ac hs.length cc)) 43 (0, 0))) (setCx_grown w6.heap.size m.cs.toList 37 _) (fun k e => by have := (hR.lt k e).2; omega)) (setRow_grown _ (w.heap.size + 1) (evX 3 2 [] [] 0 false false 0 0 (.slice ac hs.length cc) m)) (fun k e => by have := (hR.lt k e).1; have := HO.out.2.1.lt; have := HB.out.size; omega)
 have HF := Lib.hid (And.intro O9 (And.intro hBF hRF))
 clear O9 hBF hRF hRm E8 N8 ON6' ON6 OD6 OE6 hb hR
 unfold dgCs at kd
 unfold evZ at hst
 unfold evB at hst kd S8 L8 L9 S9
 go_wp2_with fail
 refine bodyPost_ret (results_row_tmp rfl _ _ _ _ _ _ rfl HF.out.1 Tryz.underlying43 rfl infoEvX) rfl ?_
 exact ⟨_, rfl, HF.out.2.1, .inr ⟨⟨none, hs, m⟩, .slice ac hs.length cc, rfl, rfl, HF.out.2.2⟩⟩
end Go.Proofs.YtanofjmkkhocaaaGreatDoor
