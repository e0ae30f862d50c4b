/- A registry in memory: its clients' map, each client's two maps, its heap of free ids; which block is whose. registry: New, of, need; a client's has, put; Name, ID, Fixed. -/
import Derived.Test.YtanofjmkkhocaaaGreatDoorTcB
set_option linter.unusedVariables false
set_option linter.unusedSimpArgs false
set_option maxRecDepth 100000
set_option maxHeartbeats 1600000
namespace Go.Proofs.YtanofjmkkhocaaaGreatDoor
open Go Go.RowKit Go.MapKept
open Go.ChangeMaps (setBlock)
def Tp.cs (t : Tp) : Array Value := #[.int .i64 t.id, .string ⟨t.name.toArray⟩, .bool t.fx]
def idE (x : List UInt8 × Int × Nat) : MapEntry := { key := .string ⟨x.1.toArray⟩, val := .int .i64 x.2.1, born := x.2.2 }
def alE (x : Tp × Nat) : MapEntry := { key := .int .i64 x.1.id, val := .agg x.1.cs, born := x.2 }
def clE (x : List UInt8 × Nat × Nat) : MapEntry := { key := .string ⟨x.1.toArray⟩, val := .pointer (some ⟨x.2.1, 0, none⟩), born := x.2.2 }
def intsV (l : List Int) : List Value := l.map (Value.int .i64 ·)
abbrev Own := Option (Option (List UInt8))
structure ClAt (w : World) (O : Nat → Own) (n : List UInt8) (cb ib ab : Nat) (v : Value) (C : Cl) : Prop where
 cl : Obj? w cb #[.map (some ib), .map (some ab), v, .int .i64 C.next] 111
 ids : w.heap[ib]? = some (mapG idE C.ids C.idc)
 all : w.heap[ab]? = some (mapG alE C.all C.alc)
 back : w.ownsRow 0 3 1 v C.back.length (intsV C.back)
 wf : WfC C
 ne : ib ≠ ab
 oc : O cb = some (some n)
 oi : O ib = some (some n)
 oa : O ab = some (some n)
 ob : ∀ k, v.ownBlock = some k → O k = some (some n)
theorem ClAt.ne_ci {w : World} {O : Nat → Own} {n : List UInt8} {cb ib ab : Nat} {v : Value} {C : Cl} (h : ClAt w O n cb ib ab v C) : cb ≠ ib := by
 rintro rfl
 have h1 := h.cl
 have h2 := h.ids
 unfold Obj? at h1
 rw [h1] at h2
 cases h2
theorem ClAt.ne_ca {w : World} {O : Nat → Own} {n : List UInt8} {cb ib ab : Nat} {v : Value} {C : Cl} (h : ClAt w O n cb ib ab v C) : cb ≠ ab := by
 rintro rfl
 have h1 := h.cl
 have h2 := h.all
 unfold Obj? at h1
 rw [h1] at h2
 cases h2
theorem row_block {w : World} {base : Nat} {e : TypeId} {z : Nat} {v : Value} {n : Nat} {xs : List Value} (h : w.ownsRow base e z v n xs) {k : Nat} (hk : v.ownBlock = some k) : ∃ cur, w.heap[k]? = some (.cells cur e (0, 0)) := by
 rcases h.2 with ⟨rfl, -⟩ | ⟨g, cap, cur, rfl, -, hg, -⟩
 ·simp [Value.ownBlock] at hk
 ·simp [Value.ownBlock] at hk
  subst hk
  exact ⟨cur, hg⟩
theorem ClAt.row_ne {w : World} {O : Nat → Own} {n : List UInt8} {cb ib ab : Nat} {v : Value} {C : Cl} (h : ClAt w O n cb ib ab v C) {k : Nat} (hk : v.ownBlock = some k) : k ≠ cb ∧ k ≠ ib ∧ k ≠ ab := by
 obtain ⟨cur, hg⟩ := row_block h.back hk
 refine ⟨?_, ?_, ?_⟩
 ·rintro rfl
  have h1 := h.cl
  unfold Obj? at h1
  rw [hg] at h1
  simp at h1
 ·rintro rfl
  have h1 := h.ids
  rw [hg] at h1
  simp [mapG] at h1
 ·rintro rfl
  have h1 := h.all
  rw [hg] at h1
  simp [mapG] at h1
theorem row_kp {S : Nat → Prop} {w w' : World} {base : Nat} {e : TypeId} {z : Nat} {v : Value} {n : Nat} {xs : List Value} (h : w.ownsRow base e z v n xs) (k : Kq S w w') (hS : ∀ b, v.ownBlock = some b → ¬ S b) : w'.ownsRow base e z v n xs := by
 refine ⟨h.1, ?_⟩
 rcases h.2 with hn | ⟨g, cap, cur, rfl, hb, hg, rest⟩
 ·exact .inl hn
 ·exact .inr ⟨g, cap, cur, rfl, hb, k.at hg (hS g rfl), rest⟩
theorem ClAt.lt {w : World} {O : Nat → Own} {n : List UInt8} {cb ib ab : Nat} {v : Value} {C : Cl} (h : ClAt w O n cb ib ab v C) : cb < w.heap.size ∧ ib < w.heap.size ∧ ab < w.heap.size ∧ ∀ k, v.ownBlock = some k → k < w.heap.size :=
 ⟨h.cl.lt, lt_of_heap h.ids, lt_of_heap h.all, fun k hk => by obtain ⟨cur, hg⟩ := row_block h.back hk; exact lt_of_heap hg⟩
theorem ClAt.kp {S : Nat → Prop} {w w' : World} {O O' : Nat → Own} {n : List UInt8} {cb ib ab : Nat} {v : Value} {C : Cl} (h : ClAt w O n cb ib ab v C) (k : Kq S w w') (hS : ∀ b, O b = some (some n) → ¬ S b) (hO : ∀ b, b < w.heap.size → O' b = O b) : ClAt w' O' n cb ib ab v C := by
 obtain ⟨l1, l2, l3, l4⟩ := h.lt
 exact ⟨h.cl.kp k (hS _ h.oc), k.at h.ids (hS _ h.oi), k.at h.all (hS _ h.oa), row_kp h.back k (fun b hb => hS _ (h.ob b hb)), h.wf, h.ne, (hO _ l1).trans h.oc, (hO _ l2).trans h.oi, (hO _ l3).trans h.oa, fun b hb => (hO _ (l4 b hb)).trans (h.ob b hb)⟩
theorem ClAt.below {w w' : World} {O : Nat → Own} {n : List UInt8} {cb ib ab : Nat} {v : Value} {C : Cl} (h : ClAt w O n cb ib ab v C) (hb : Below w.heap.size w w') : ClAt w' O n cb ib ab v C :=
 h.kp (S := fun _ => False) (.of_below hb) (fun _ _ e => e) (fun _ _ => rfl)
def updL (L : List UInt8 → Option (Nat × Cl)) (n : List UInt8) (x : Option (Nat × Cl)) : List UInt8 → Option (Nat × Cl) := fun m => if m = n then x else L m
theorem updL_same (L : List UInt8 → Option (Nat × Cl)) (n : List UInt8) (x : Option (Nat × Cl)) : updL L n x n = x := by simp [updL]
theorem updL_ne (L : List UInt8 → Option (Nat × Cl)) {n m : List UInt8} (x : Option (Nat × Cl)) (h : m ≠ n) : updL L n x m = L m := by simp [updL, h]
theorem updL_self (L : List UInt8 → Option (Nat × Cl)) (n : List UInt8) : updL L n (L n) = L := by
 funext m
 by_cases h : m = n
 ·rw [h, updL_same]
 ·rw [updL_ne L _ h]
theorem updL_upd (L : List UInt8 → Option (Nat × Cl)) (n : List UInt8) (x y : Option (Nat × Cl)) : updL (updL L n x) n y = updL L n y := by
 funext m
 by_cases h : m = n
 ·rw [h, updL_same, updL_same]
 ·rw [updL_ne _ _ h, updL_ne _ _ h, updL_ne _ _ h]
structure RegM (w : World) (rb : Nat) (O : Nat → Own) (L : List UInt8 → Option (Nat × Cl)) (mb : Nat) (es : List (List UInt8 × Nat × Nat)) (ec : Nat) : Prop where
 reg : Obj? w rb #[.map (some mb)] 123
 map : w.heap[mb]? = some (mapG clE es ec)
 orb : O rb = some none
 omb : O mb = some none
 nod : (es.map (·.1)).Nodup
 no : ∀ n, L n = none → lookG (fun x : List UInt8 × Nat × Nat => x.1) es 0 n = none
 yes : ∀ n cb C, L n = some (cb, C) → ∃ i born ib ab v, lookG (fun x : List UInt8 × Nat × Nat => x.1) es 0 n = some (i, (n, cb, born)) ∧ ClAt w O n cb ib ab v C
 fresh : ∀ b, O b ≠ none → b < w.heap.size
def RegAt (w : World) (rb : Nat) (O : Nat → Own) (L : List UInt8 → Option (Nat × Cl)) : Prop := ∃ mb es ec, RegM w rb O L mb es ec
theorem RegM.at {w : World} {rb : Nat} {O : Nat → Own} {L : List UInt8 → Option (Nat × Cl)} {mb : Nat} {es : List (List UInt8 × Nat × Nat)} {ec : Nat} (h : RegM w rb O L mb es ec) : RegAt w rb O L := ⟨mb, es, ec, h⟩
theorem RegM.kp {S : Nat → Prop} {w w' : World} {rb : Nat} {O : Nat → Own} {L : List UInt8 → Option (Nat × Cl)} {mb : Nat} {es : List (List UInt8 × Nat × Nat)} {ec : Nat} (h : RegM w rb O L mb es ec) (k : Kq S w w') (hS : ∀ b, O b ≠ none → ¬ S b) : RegM w' rb O L mb es ec :=
 ⟨h.reg.kp k (hS _ (by rw [h.orb]; simp)), k.at h.map (hS _ (by rw [h.omb]; simp)), h.orb, h.omb, h.nod, h.no, fun n cb C hL => by
  obtain ⟨i, born, ib, ab, v, h1, h2⟩ := h.yes n cb C hL
  exact ⟨i, born, ib, ab, v, h1, h2.kp k (fun b hb => hS b (by rw [hb]; simp)) (fun _ _ => rfl)⟩, fun b hb => Nat.lt_of_lt_of_le (h.fresh b hb) k.size⟩
theorem RegAt.kp {S : Nat → Prop} {w w' : World} {rb : Nat} {O : Nat → Own} {L : List UInt8 → Option (Nat × Cl)} (h : RegAt w rb O L) (k : Kq S w w') (hS : ∀ b, O b ≠ none → ¬ S b) : RegAt w' rb O L := by
 obtain ⟨mb, es, ec, h⟩ := h
 exact (h.kp k hS).at
theorem RegM.below {w w' : World} {rb : Nat} {O : Nat → Own} {L : List UInt8 → Option (Nat × Cl)} {mb : Nat} {es : List (List UInt8 × Nat × Nat)} {ec : Nat} (h : RegM w rb O L mb es ec) (hb : Below w.heap.size w w') : RegM w' rb O L mb es ec := h.kp (S := fun _ => False) (.of_below hb) (fun _ _ e => e)
theorem RegAt.below {w w' : World} {rb : Nat} {O : Nat → Own} {L : List UInt8 → Option (Nat × Cl)} (h : RegAt w rb O L) (hb : Below w.heap.size w w') : RegAt w' rb O L := h.kp (S := fun _ => False) (.of_below hb) (fun _ _ e => e)
theorem RegAt.lt {w : World} {rb : Nat} {O : Nat → Own} {L : List UInt8 → Option (Nat × Cl)} (h : RegAt w rb O L) : rb < w.heap.size := by
 obtain ⟨mb, es, ec, h⟩ := h
 exact h.reg.lt
theorem RegAt.fresh {w : World} {rb : Nat} {O : Nat → Own} {L : List UInt8 → Option (Nat × Cl)} (h : RegAt w rb O L) : ∀ b, O b ≠ none → b < w.heap.size := by
 obtain ⟨mb, es, ec, h⟩ := h
 exact h.fresh
def ExtO (n : List UInt8) (w w' : World) (O O' : Nat → Own) : Prop := ∀ b, O' b = O b ∨ (w.heap.size ≤ b ∧ b < w'.heap.size ∧ O' b = some (some n))
theorem ExtO.refl (n : List UInt8) (w w' : World) (O : Nat → Own) : ExtO n w w' O O := fun _ => .inl rfl
theorem ExtO.old {n : List UInt8} {w w' : World} {O O' : Nat → Own} (h : ExtO n w w' O O') : ∀ b, b < w.heap.size → O' b = O b := fun b hb => by
 rcases h b with h1 | ⟨h1, -⟩
 ·exact h1
 ·omega
theorem ExtO.trans {n : List UInt8} {a b c : World} {O O' O'' : Nat → Own} (h : ExtO n a b O O') (k : ExtO n b c O' O'') (hab : a.heap.size ≤ b.heap.size) (hbc : b.heap.size ≤ c.heap.size) : ExtO n a c O O'' := fun i => by
 rcases k i with k1 | ⟨k1, k2, k3⟩
 ·rcases h i with h1 | ⟨h1, h2, h3⟩
  ·exact .inl (k1.trans h1)
  ·exact .inr ⟨h1, by omega, k1.trans h3⟩
 ·exact .inr ⟨by omega, k2, k3⟩
theorem RegM.upd {w w' : World} {rb : Nat} {O O' : Nat → Own} {L : List UInt8 → Option (Nat × Cl)} {mb : Nat} {es : List (List UInt8 × Nat × Nat)} {ec : Nat} {n : List UInt8} {cb ib ab : Nat} {v : Value} {C C' : Cl}
  (h : RegM w rb O L mb es ec) (hL : L n = some (cb, C)) (k : Kq (fun b => O b = some (some n)) w w') (hO : ExtO n w w' O O') (hC : ClAt w' O' n cb ib ab v C') : RegM w' rb O' (updL L n (some (cb, C'))) mb es ec := by
 refine ⟨h.reg.kp k (by rw [h.orb]; simp), k.at h.map (by rw [h.omb]; simp), (hO.old _ h.reg.lt).trans h.orb, (hO.old _ (lt_of_heap h.map)).trans h.omb, h.nod, ?_, ?_, ?_⟩
 ·intro m hm
  by_cases e : m = n
  ·rw [e, updL_same] at hm; cases hm
  ·rw [updL_ne L _ e] at hm; exact h.no m hm
 ·intro m cb2 C2 hm
  by_cases e : m = n
  ·subst e
   rw [updL_same] at hm
   cases hm
   obtain ⟨i, born, -, -, -, h1, -⟩ := h.yes m cb C hL
   exact ⟨i, born, ib, ab, v, h1, hC⟩
  ·rw [updL_ne L _ e] at hm
   obtain ⟨i, born, ib2, ab2, v2, h1, h2⟩ := h.yes m cb2 C2 hm
   exact ⟨i, born, ib2, ab2, v2, h1, h2.kp k (fun b hb => by rw [hb]; simpa using e) hO.old⟩
 ·intro b hb
  rcases hO b with h1 | ⟨h1, h2, h3⟩
  ·exact Nat.lt_of_lt_of_le (h.fresh b (by rw [← h1]; exact hb)) k.size
  ·exact h2
theorem RegM.add {w w' : World} {rb : Nat} {O O' : Nat → Own} {L : List UInt8 → Option (Nat × Cl)} {mb : Nat} {es : List (List UInt8 × Nat × Nat)} {ec : Nat} {n : List UInt8} {cb ib ab : Nat} {v : Value} {C : Cl}
  (h : RegM w rb O L mb es ec) (hL : L n = none) (k : Kq (fun b => b = mb) w w') (hm : w'.heap[mb]? = some (mapG clE (es ++ [(n, cb, ec)]) (ec + 1))) (hO : ExtO n w w' O O') (hC : ClAt w' O' n cb ib ab v C) : RegM w' rb O' (updL L n (some (cb, C))) mb (es ++ [(n, cb, ec)]) (ec + 1) := by
 have hno := h.no n hL
 have hrm : rb ≠ mb := by
  rintro rfl
  have h1 := h.reg
  have h2 := h.map
  unfold Obj? at h1
  rw [h1] at h2
  cases h2
 refine ⟨h.reg.kp k hrm, hm, (hO.old _ h.reg.lt).trans h.orb, (hO.old _ (lt_of_heap h.map)).trans h.omb, ?_, ?_, ?_, ?_⟩
 ·rw [List.map_append]
  refine List.nodup_append.2 ⟨h.nod, by simp, ?_⟩
  intro a ha b hb
  simp only [List.map_cons, List.map_nil, List.mem_singleton] at hb
  subst hb
  obtain ⟨x, hx, rfl⟩ := List.mem_map.1 ha
  exact fun e => lookG_none.1 hno x hx e.symm
 ·intro m hm2
  by_cases e : m = n
  ·rw [e, updL_same] at hm2; cases hm2
  ·rw [updL_ne L _ e] at hm2
   rw [lookG_append_none (h.no m hm2)]
   simp [lookG, e]
 ·intro m cb2 C2 hm2
  by_cases e : m = n
  ·subst e
   rw [updL_same] at hm2
   cases hm2
   refine ⟨es.length, ec, ib, ab, v, ?_, hC⟩
   rw [lookG_append_none hno]
   simp [lookG]
  ·rw [updL_ne L _ e] at hm2
   obtain ⟨i, born, ib2, ab2, v2, h1, h2⟩ := h.yes m cb2 C2 hm2
   exact ⟨i, born, ib2, ab2, v2, lookG_append_some h1, h2.kp k (fun b hb => by rintro rfl; rw [h.omb] at hb; cases hb) hO.old⟩
 ·intro b hb
  rcases hO b with h1 | ⟨h1, h2, h3⟩
  ·exact Nat.lt_of_lt_of_le (h.fresh b (by rw [← h1]; exact hb)) k.size
  ·exact h2
theorem lookG_drop_ne {α κ : Type} [DecidableEq κ] {kf : α → κ} {l : List α} {k m : κ} (hn : (l.map kf).Nodup) (e : m ≠ k) : (lookG kf (dropG kf l k) 0 m).map (·.2) = (lookG kf l 0 m).map (·.2) := by
 unfold dropG
 split
 ·rename_i i x h
  have key : ∀ (l : List α) (s i : Nat), lookG kf l s k = some (s + i, x) → ∀ s2 s3, (lookG kf (l.eraseIdx i) s2 m).map (·.2) = (lookG kf l s3 m).map (·.2) := by
   intro l
   induction l with
   | nil => intro s i h; cases h
   | cons y r ih =>
    intro s i h s2 s3
    by_cases hk : k = kf y
    ·have hm : ¬ m = kf y := fun e2 => e (e2.trans hk.symm)
     rw [lookG, if_pos hk] at h
     have hi : i = 0 := by simp at h; omega
     subst hi
     rw [List.eraseIdx_cons_zero]
     rw [show lookG kf (y :: r) s3 m = lookG kf r (s3 + 1) m by rw [lookG, if_neg hm]]
     clear ih h
     have shift : ∀ (r : List α) a b, (lookG kf r a m).map (·.2) = (lookG kf r b m).map (·.2) := by
      intro r
      induction r with
      | nil => intro a b; rfl
      | cons z q ih2 =>
       intro a b
       by_cases hz : m = kf z
       ·simp [lookG, hz]
       ·simp [lookG, hz]; exact ih2 _ _
     exact shift r _ _
    ·rw [lookG, if_neg hk] at h
     obtain ⟨d, rfl⟩ : ∃ d, i = d + 1 := by
      have := (lookG_some h).1
      exact ⟨i - 1, by omega⟩
     rw [List.eraseIdx_cons_succ]
     by_cases hm : m = kf y
     ·simp [lookG, hm]
     ·rw [lookG, if_neg hm, lookG, if_neg hm]
      exact ih (s + 1) d (by rw [h]; congr 2; omega) _ _
  exact key l 0 i (by rw [h]; simp) 0 0
 ·rfl
theorem lookG_drop_same {α κ : Type} [DecidableEq κ] {kf : α → κ} {l : List α} {k : κ} (hn : (l.map kf).Nodup) : lookG kf (dropG kf l k) 0 k = none := by
 rw [lookG_none]
 intro x hx e
 unfold dropG at hx
 split at hx
 ·rename_i i y h
  obtain ⟨-, h2, h3⟩ := lookG_some h
  rw [Nat.sub_zero] at h2
  obtain ⟨j, hj, hx⟩ := List.mem_iff_getElem.1 hx
  rw [List.getElem_eraseIdx] at hx
  have hil : i < l.length := (List.getElem?_eq_some_iff.1 h2).1
  have hyi : l[i] = y := (List.getElem?_eq_some_iff.1 h2).2
  have inj : ∀ a b (ha : a < l.length) (hb : b < l.length), kf l[a] = kf l[b] → a = b := fun a b ha hb he => nodup_at hn a b ha hb he
  have hjl : j < l.length - 1 := by rw [List.length_eraseIdx_of_lt hil] at hj; exact hj
  split at hx
  ·have := inj j i (by omega) hil (by rw [hx, hyi, ← e, h3])
   omega
  ·have := inj (j + 1) i (by omega) hil (by rw [hx, hyi, ← e, h3])
   omega
 ·rename_i h
  exact lookG_none.1 h x hx e
theorem RegM.del {w w' : World} {rb : Nat} {O : Nat → Own} {L : List UInt8 → Option (Nat × Cl)} {mb : Nat} {es : List (List UInt8 × Nat × Nat)} {ec : Nat} {n : List UInt8}
  (h : RegM w rb O L mb es ec) (k : Kq (fun b => b = mb) w w') (hm : w'.heap[mb]? = some (mapG clE (dropG (fun x : List UInt8 × Nat × Nat => x.1) es n) ec)) : RegM w' rb O (updL L n none) mb (dropG (fun x : List UInt8 × Nat × Nat => x.1) es n) ec := by
 have hrm : rb ≠ mb := by
  rintro rfl
  have h1 := h.reg
  have h2 := h.map
  unfold Obj? at h1
  rw [h1] at h2
  cases h2
 refine ⟨h.reg.kp k hrm, hm, h.orb, h.omb, ((dropG_sub _ _ _).map _).nodup h.nod, ?_, ?_, fun b hb => Nat.lt_of_lt_of_le (h.fresh b hb) k.size⟩
 ·intro m hm2
  by_cases e : m = n
  ·subst e; exact lookG_drop_same h.nod
  ·rw [updL_ne L _ e] at hm2
   have h1 := lookG_drop_ne (kf := fun x : List UInt8 × Nat × Nat => x.1) (m := m) (k := n) h.nod e
   rw [h.no m hm2] at h1
   simpa using h1
 ·intro m cb2 C2 hm2
  by_cases e : m = n
  ·rw [e, updL_same] at hm2; cases hm2
  ·rw [updL_ne L _ e] at hm2
   obtain ⟨i, born, ib2, ab2, v2, h1, h2⟩ := h.yes m cb2 C2 hm2
   have h3 := lookG_drop_ne (kf := fun x : List UInt8 × Nat × Nat => x.1) (m := m) (k := n) h.nod e
   rw [h1] at h3
   obtain ⟨⟨i', x'⟩, h4, h5⟩ := Option.map_eq_some_iff.1 h3
   simp only at h5
   exact ⟨i', born, ib2, ab2, v2, by rw [h4, h5], h2.kp k (fun b hb => by rintro rfl; rw [h.omb] at hb; cases hb) (fun _ _ => rfl)⟩
def RegSays (w : World) (rb : Nat) (O : Nat → Own) (L : List UInt8 → Option (Nat × Cl)) (n : List UInt8) (x : Option Cl) (w' : World) : Prop :=
 ∃ O' X, RegAt w' rb O' (updL L n X) ∧ X.map (·.2) = x ∧ Kq (fun b => O b ≠ none) w w' ∧ ∀ b, b < w.heap.size → O' b = O b
end Go.Proofs.YtanofjmkkhocaaaGreatDoor
namespace Go.Proofs.YtanofjmkkhocaaaGreatDoor
open Go Go.RowKit Go.MapKept
open Go.ChangeMaps (setBlock)
theorem zero_ptr (w : World) : (zeroValue 101).run Tryz.prog w = .ok (.pointer none) w := by kernel_rfl
theorem zero_int (w : World) : (zeroValue 3).run Tryz.prog w = .ok (.int .i64 0) w := by kernel_rfl
theorem zero_tp (w : World) : (zeroValue 69).run Tryz.prog w = .ok (.agg #[.int .i64 0, .string ⟨#[]⟩, .bool false]) w := by kernel_rfl
section
variable {w : World} {b c : Nat}
theorem look_cl {es : List (List UInt8 × Nat × Nat)} (hb : w.heap[b]? = some (mapG clE es c)) (n : List UInt8) :
  (Instr.lookup 121 (.map (some b)) (.string ⟨n.toArray⟩) false).run Tryz.prog w = .ok (.pointer ((lookG (fun x : List UInt8 × Nat × Nat => x.1) es 0 n).map fun p => ⟨p.2.2.1, 0, none⟩)) w := by
 have h := (run_lookF (P := Tryz.prog) Tryz.underlying121 Tryz.underlying9 (key_str n) hb (findNow_str (fun _ => rfl) es 0 n) (zero_ptr w)).1
 rw [h]
 cases lookG (fun x : List UInt8 × Nat × Nat => x.1) es 0 n <;> rfl
theorem tlook_id {l : List (List UInt8 × Int × Nat)} (hb : w.heap[b]? = some (mapG idE l c)) (n : List UInt8) :
  (Instr.lookup 108 (.map (some b)) (.string ⟨n.toArray⟩) true).run Tryz.prog w = .ok (.tuple #[.int .i64 (((lookG (fun x : List UInt8 × Int × Nat => x.1) l 0 n).map (·.2.2.1)).getD 0), .bool ((lookG (fun x : List UInt8 × Int × Nat => x.1) l 0 n).map (·.2.2.1)).isSome]) w := by
 have h := (run_lookF (P := Tryz.prog) Tryz.underlying108 Tryz.underlying9 (key_str n) hb (findNow_str (fun _ => rfl) l 0 n) (zero_int w)).2
 rw [h]
 cases lookG (fun x : List UInt8 × Int × Nat => x.1) l 0 n <;> rfl
theorem field_name (x : Int) (s : ByteArray) (f : Bool) (W : World) : (Instr.field 69 (.agg #[.int .i64 x, .string s, .bool f]) 1).run Tryz.prog W = .ok (.string s) W := by kernel_rfl
theorem field_fx (x : Int) (s : ByteArray) (f : Bool) (W : World) : (Instr.field 69 (.agg #[.int .i64 x, .string s, .bool f]) 2).run Tryz.prog W = .ok (.bool f) W := by kernel_rfl
def tp0 : Tp := ⟨0, [], false⟩
theorem look_al {l : List (Tp × Nat)} (hb : w.heap[b]? = some (mapG alE l c)) (k : Int) :
  (Instr.lookup 107 (.map (some b)) (.int .i64 k) false).run Tryz.prog w = .ok (.agg (((lookG (fun x : Tp × Nat => x.1.id) l 0 k).map (·.2.1)).getD tp0).cs) w ∧
  (Instr.lookup 107 (.map (some b)) (.int .i64 k) true).run Tryz.prog w = .ok (.tuple #[.agg (((lookG (fun x : Tp × Nat => x.1.id) l 0 k).map (·.2.1)).getD tp0).cs, .bool (lookG (fun x : Tp × Nat => x.1.id) l 0 k).isSome]) w := by
 have h := run_lookF (P := Tryz.prog) Tryz.underlying107 Tryz.underlying3 (key_int k) hb (findNow_int (fun _ => rfl) l 0 k) (zero_tp w)
 rw [h.1, h.2]
 cases lookG (fun x : Tp × Nat => x.1.id) l 0 k <;> exact ⟨rfl, rfl⟩
theorem ins_cl {es : List (List UInt8 × Nat × Nat)} (hb : w.heap[b]? = some (mapG clE es c)) (n : List UInt8) (cb : Nat) (hn : lookG (fun x : List UInt8 × Nat × Nat => x.1) es 0 n = none) :
  (Instr.mapUpdate 121 (.map (some b)) (.string ⟨n.toArray⟩) (.pointer (some ⟨cb, 0, none⟩))).run Tryz.prog w = .ok () (setBlock w b (mapG clE (es ++ [(n, cb, c)]) (c + 1))) :=
 run_insF (P := Tryz.prog) (n, cb, c) Tryz.underlying121 Tryz.underlying9 (key_str n) hb (by rw [findNow_str (kf := fun x : List UInt8 × Nat × Nat => x.1) (fun _ => rfl), hn]; rfl) rfl
theorem ins_id {l : List (List UInt8 × Int × Nat)} (hb : w.heap[b]? = some (mapG idE l c)) (n : List UInt8) (k : Int) (hn : lookG (fun x : List UInt8 × Int × Nat => x.1) l 0 n = none) :
  (Instr.mapUpdate 108 (.map (some b)) (.string ⟨n.toArray⟩) (.int .i64 k)).run Tryz.prog w = .ok () (setBlock w b (mapG idE (l ++ [(n, k, c)]) (c + 1))) :=
 run_insF (P := Tryz.prog) (n, k, c) Tryz.underlying108 Tryz.underlying9 (key_str n) hb (by rw [findNow_str (kf := fun x : List UInt8 × Int × Nat => x.1) (fun _ => rfl), hn]; rfl) rfl
theorem ins_al {l : List (Tp × Nat)} (hb : w.heap[b]? = some (mapG alE l c)) (t : Tp) (hn : lookG (fun x : Tp × Nat => x.1.id) l 0 t.id = none) :
  (Instr.mapUpdate 107 (.map (some b)) (.int .i64 t.id) (.agg t.cs)).run Tryz.prog w = .ok () (setBlock w b (mapG alE (l ++ [(t, c)]) (c + 1))) :=
 run_insF (P := Tryz.prog) (t, c) Tryz.underlying107 Tryz.underlying3 (key_int t.id) hb (by rw [findNow_int (kf := fun x : Tp × Nat => x.1.id) (fun _ => rfl), hn]; rfl) rfl
end
def ptrL (x : Option (Nat × Cl)) : Value := .pointer (x.map fun p => ⟨p.1, 0, none⟩)
theorem RegM.ptr {w : World} {rb : Nat} {O : Nat → Own} {L : List UInt8 → Option (Nat × Cl)} {mb : Nat} {es : List (List UInt8 × Nat × Nat)} {ec : Nat} (h : RegM w rb O L mb es ec) (n : List UInt8) :
  Value.pointer ((lookG (fun x : List UInt8 × Nat × Nat => x.1) es 0 n).map fun p => ⟨p.2.2.1, 0, none⟩) = ptrL (L n) := by
 cases hL : L n with
 | none => rw [h.no n hL]; rfl
 | some p =>
  obtain ⟨cb, C⟩ := p
  obtain ⟨i, born, ib, ab, v, h1, -⟩ := h.yes n cb C hL
  rw [h1]; rfl
theorem look_client {w : World} {rb : Nat} {O : Nat → Own} {L : List UInt8 → Option (Nat × Cl)} {mb : Nat} {es : List (List UInt8 × Nat × Nat)} {ec : Nat} (h : RegM w rb O L mb es ec) (n : List UInt8) :
  (Instr.lookup 121 (.map (some mb)) (.string ⟨n.toArray⟩) false).run Tryz.prog w = .ok (ptrL (L n)) w := by
 rw [look_cl h.map n, h.ptr n]
theorem rnew_any (w : World) : Calls Tryz.prog 16 #[] w fun e w' => ∃ rb O, e = .returned (.pointer (some ⟨rb, 0, none⟩)) ∧ RegAt w' rb O (fun _ => none) ∧ Below w.heap.size w w' ∧ ∀ b, O b ≠ none → w.heap.size ≤ b := by
 have HB := Lib.hid (below_al (below_al (Below.refl _ w) (.map #[] 0)) (.cells #[.map (some w.heap.size)] 123 (0, 0)))
 have HO := Lib.hid (Obj?.new (w.alloc (.map #[] 0)) #[.map (some w.heap.size)] 123)
 have HM := Lib.hid (show ((w.alloc (.map #[] 0)).alloc (.cells #[.map (some w.heap.size)] 123 (0, 0))).heap[w.heap.size]? = some (mapG clE [] 0) from (Below.heap_alloc _ _ _ (by simp)).trans (MapKept.heap_alloc w _).1)
 have hmk : ∀ W : World, (Instr.makeMap 121 none).run Tryz.prog W = .ok (.map (some W.heap.size)) (W.alloc (.map #[] 0)) := fun W => run_makeMap_plain W _
 go_enter Tryz.func16, Tryz.ntmps16
 go_wp2
 go_ret
 rw [World.size_alloc] at HO
 refine ⟨w.heap.size + 1, fun b => if b = w.heap.size ∨ b = w.heap.size + 1 then some none else none, by simp, ⟨w.heap.size, [], 0, HO.out, HM.out, by simp, by simp, by simp, fun n _ => rfl, fun n cb C h => (by cases h), fun b hb => ?_⟩, HB.out, fun b hb => ?_⟩
 ·simp only [World.size_alloc]
  split at hb
  ·omega
  ·exact absurd rfl hb
 ·dsimp only at hb
  split at hb
  ·omega
  ·exact absurd rfl hb
theorem of_any {w : World} {rb : Nat} {O : Nat → Own} {L : List UInt8 → Option (Nat × Cl)} (h : RegAt w rb O L) (n : List UInt8) : Calls Tryz.prog 27 #[.pointer (some ⟨rb, 0, none⟩), .string ⟨n.toArray⟩] w fun e w' => e = .returned (ptrL (L n)) ∧ w' = w := by
 obtain ⟨mb, es, ec, hR⟩ := h
 have hl := look_client hR n
 have k0 := hR.reg.cell 0 (.map (some mb)) rfl
 obtain ⟨x, hx⟩ : ∃ x, x = ptrL (L n) := ⟨_, rfl⟩
 rw [← hx] at hl ⊢
 clear hR hx
 go_enter Tryz.func27, Tryz.ntmps27
 go_wp2
 go_ret
 exact ⟨rfl, rfl⟩
theorem chas_any {w : World} {O : Nat → Own} {n : List UInt8} {cb ib ab : Nat} {v : Value} {C : Cl} (h : ClAt w O n cb ib ab v C) (id : Int) : Calls Tryz.prog 45 #[.pointer (some ⟨cb, 0, none⟩), .int .i64 id] w fun e w' => e = .returned (.bool (hasT C id)) ∧ Below w.heap.size w w' := by
 have hl := (look_al h.all id).2
 have k1 := h.cl.cell 1 (.map (some ab)) rfl
 obtain ⟨t, ht⟩ : ∃ t, t = ((lookG (fun x : Tp × Nat => x.1.id) C.all 0 id).map (·.2.1)).getD tp0 := ⟨_, rfl⟩
 have HB := Lib.hid (below_al (Below.refl _ w) (.cells t.cs 69 (0, 0)))
 unfold hasT
 obtain ⟨x, hx⟩ : ∃ x, x = (lookG (fun x : Tp × Nat => x.1.id) C.all 0 id).isSome := ⟨_, rfl⟩
 rw [← ht, ← hx] at hl
 rw [← hx]
 unfold Tp.cs at hl HB
 clear h hx ht
 go_enter Tryz.func45, Tryz.ntmps45
 go_wp2
 go_ret
 exact ⟨rfl, HB.out⟩
theorem ptr_some (cb : Nat) (C : Cl) : ptrL (some (cb, C)) = .pointer (some ⟨cb, 0, none⟩) := rfl
theorem rname_any {w : World} {rb : Nat} {O : Nat → Own} {L : List UInt8 → Option (Nat × Cl)} (h : RegAt w rb O L) (n : List UInt8) (id : Int) :
  Calls Tryz.prog 469 #[.pointer (some ⟨rb, 0, none⟩), .string ⟨n.toArray⟩, .int .i64 id] w fun e w' => e = .returned (.tuple #[.string ⟨(nameC ((L n).map (·.2)) id).1.toArray⟩, .int .i64 (nameC ((L n).map (·.2)) id).2]) ∧ Below w.heap.size w w' := by
 have HF := Lib.hid (of_any h n)
 cases hL : L n with
 | none =>
  rw [hL] at HF
  go_enter Tryz.func469, Tryz.ntmps469
  go_wp2_with fail
  refine HF.out.mono ?_
  rintro e w1 ⟨rfl, rfl⟩
  unfold ptrL
  go_wp2
  go_ret2
  exact ⟨rfl, Below.refl _ _⟩
 | some p =>
  obtain ⟨cb, C⟩ := p
  rw [hL] at HF
  obtain ⟨mb, es, ec, hR⟩ := h
  obtain ⟨-, -, ib, ab, v, -, hC⟩ := hR.yes n cb C hL
  have HC := Lib.hid hC
  have HH := Lib.hid (chas_any hC id)
  clear hR hC
  unfold nameC
  simp only [Option.map_some, Option.bind_some]
  cases hx : lookG (fun x : Tp × Nat => x.1.id) C.all 0 id with
  | none =>
   have e1 : hasT C id = false := by unfold hasT; rw [hx]; rfl
   have e2 : tpOf C id = none := by unfold tpOf; rw [hx]; rfl
   rw [e1] at HH
   rw [e2]
   clear hx e1 e2
   have hfn := field_name
   go_enter Tryz.func469, Tryz.ntmps469
   go_wp2_with fail
   refine HF.out.mono ?_
   rintro e w1 ⟨rfl, rfl⟩
   rw [ptr_some]
   go_wp2_with fail
   refine HH.out.mono ?_
   rintro e w2 ⟨rfl, hb⟩
   have HB := Lib.hid hb
   clear hb
   go_wp2
   go_ret2
   exact ⟨rfl, HB.out⟩
  | some q =>
   obtain ⟨i, t, bo⟩ := q
   have e1 : hasT C id = true := by unfold hasT; rw [hx]; rfl
   have e2 : tpOf C id = some t := by unfold tpOf; rw [hx]; rfl
   rw [e1] at HH
   rw [e2]
   have HX := Lib.hid hx
   clear hx e1 e2
   have hfn := field_name
   go_enter Tryz.func469, Tryz.ntmps469
   go_wp2_with fail
   refine HF.out.mono ?_
   rintro e w1 ⟨rfl, rfl⟩
   rw [ptr_some]
   go_wp2_with fail
   refine HH.out.mono ?_
   rintro e w2 ⟨rfl, hb⟩
   have HB := Lib.hid hb
   have HC2 := Lib.hid (HC.out.below hb)
   have hl := (look_al HC2.out.all id).1
   have k1 := HC2.out.cl.cell 1 (.map (some ab)) rfl
   clear hb
   rw [HX.out] at hl
   simp only [Option.map_some, Option.getD_some] at hl
   unfold Tp.cs at hl
   go_wp2
   go_ret2
   exact ⟨rfl, HB.out⟩
theorem rid_any {w : World} {rb : Nat} {O : Nat → Own} {L : List UInt8 → Option (Nat × Cl)} (h : RegAt w rb O L) (n s : List UInt8) :
  Calls Tryz.prog 452 #[.pointer (some ⟨rb, 0, none⟩), .string ⟨n.toArray⟩, .string ⟨s.toArray⟩] w fun e w' => e = .returned (.tuple #[.int .i64 (idC ((L n).map (·.2)) s).1, .int .i64 (idC ((L n).map (·.2)) s).2]) ∧ Below w.heap.size w w' := by
 have HF := Lib.hid (of_any h n)
 cases hL : L n with
 | none =>
  rw [hL] at HF
  go_enter Tryz.func452, Tryz.ntmps452
  go_wp2_with fail
  refine HF.out.mono ?_
  rintro e w1 ⟨rfl, rfl⟩
  unfold ptrL
  go_wp2
  go_ret2
  exact ⟨rfl, Below.refl _ _⟩
 | some p =>
  obtain ⟨cb, C⟩ := p
  rw [hL] at HF
  obtain ⟨mb, es, ec, hR⟩ := h
  obtain ⟨-, -, ib, ab, v, -, hC⟩ := hR.yes n cb C hL
  have hl := tlook_id hC.ids s
  have k0 := hC.cl.cell 0 (.map (some ib)) rfl
  unfold idC idOf
  simp only [Option.map_some, Option.bind_some]
  clear hR hC
  generalize (lookG (fun x : List UInt8 × Int × Nat => x.1) C.ids 0 s).map (·.2.2.1) = y at hl ⊢
  cases y with
  | none =>
   go_enter Tryz.func452, Tryz.ntmps452
   go_wp2_with fail
   refine HF.out.mono ?_
   rintro e w1 ⟨rfl, rfl⟩
   rw [ptr_some]
   go_wp2
   go_ret2
   exact ⟨rfl, Below.refl _ _⟩
  | some y =>
   go_enter Tryz.func452, Tryz.ntmps452
   go_wp2_with fail
   refine HF.out.mono ?_
   rintro e w1 ⟨rfl, rfl⟩
   rw [ptr_some]
   go_wp2
   go_ret2
   exact ⟨rfl, Below.refl _ _⟩
theorem rfixed_any {w : World} {rb : Nat} {O : Nat → Own} {L : List UInt8 → Option (Nat × Cl)} (h : RegAt w rb O L) (n : List UInt8) (id : Int) :
  Calls Tryz.prog 470 #[.pointer (some ⟨rb, 0, none⟩), .string ⟨n.toArray⟩, .int .i64 id] w fun e w' => e = .returned (.bool (fixC ((L n).map (·.2)) id)) ∧ w' = w := by
 have HF := Lib.hid (of_any h n)
 cases hL : L n with
 | none =>
  rw [hL] at HF
  go_enter Tryz.func470, Tryz.ntmps470
  go_wp2_with fail
  refine HF.out.mono ?_
  rintro e w1 ⟨rfl, rfl⟩
  unfold ptrL
  go_wp2
  go_ret
  exact ⟨rfl, rfl⟩
 | some p =>
  obtain ⟨cb, C⟩ := p
  rw [hL] at HF
  obtain ⟨mb, es, ec, hR⟩ := h
  obtain ⟨-, -, ib, ab, v, -, hC⟩ := hR.yes n cb C hL
  have hl := (look_al hC.all id).1
  have k1 := hC.cl.cell 1 (.map (some ab)) rfl
  unfold fixC tpOf
  simp only [Option.map_some, Option.bind_some]
  clear hR hC
  generalize (lookG (fun x : Tp × Nat => x.1.id) C.all 0 id).map (·.2.1) = y at hl ⊢
  cases y with
  | none =>
   simp only [Option.getD_none] at hl
   unfold tp0 Tp.cs at hl
   have hfn := field_fx
   go_enter Tryz.func470, Tryz.ntmps470
   go_wp2_with fail
   refine HF.out.mono ?_
   rintro e w1 ⟨rfl, rfl⟩
   rw [ptr_some]
   go_wp2
   go_ret
   exact ⟨rfl, rfl⟩
  | some y =>
   simp only [Option.getD_some] at hl
   unfold Tp.cs at hl
   have hfn := field_fx
   go_enter Tryz.func470, Tryz.ntmps470
   go_wp2_with fail
   refine HF.out.mono ?_
   rintro e w1 ⟨rfl, rfl⟩
   rw [ptr_some]
   go_wp2
   go_ret
   exact ⟨rfl, rfl⟩
theorem need_any {w : World} {rb : Nat} {O : Nat → Own} {L : List UInt8 → Option (Nat × Cl)} (h : RegAt w rb O L) (n : List UInt8) :
  Calls Tryz.prog 38 #[.pointer (some ⟨rb, 0, none⟩), .string ⟨n.toArray⟩] w fun e w' => ∃ cb O', e = .returned (.pointer (some ⟨cb, 0, none⟩)) ∧ RegAt w' rb O' (updL L n (some (cb, ((L n).map (·.2)).getD newCl))) ∧ Kq (fun b => O b ≠ none) w w' ∧ ∀ b, b < w.heap.size → O' b = O b := by
 obtain ⟨mb, es, ec, hR⟩ := h
 have HR := Lib.hid hR
 have hl := look_client hR n
 have k0 := hR.reg.cell 0 (.map (some mb)) rfl
 cases hL : L n with
 | some p =>
  obtain ⟨cb, C⟩ := p
  have HL := Lib.hid hL
  rw [hL, ptr_some] at hl
  simp only [Option.map_some, Option.getD_some]
  clear hR hL
  go_enter Tryz.func38, Tryz.ntmps38
  go_wp2
  go_ret
  exact ⟨cb, O, rfl, by rw [← HL.out, updL_self]; exact HR.out.at, Kq.refl _ _, fun _ _ => rfl⟩
 | none =>
  have HL := Lib.hid hL
  rw [hL] at hl
  unfold ptrL at hl
  simp only [Option.map_none, Option.getD_none] at hl ⊢
  obtain ⟨W1, hW1⟩ : ∃ W1, W1 = ((w.alloc (.map #[] 0)).alloc (.map #[] 0)).alloc (.cells #[.map (some w.heap.size), .map (some (w.heap.size + 1)), .slice none 0 0, .int .i64 1] 111 (0, 0)) := ⟨_, rfl⟩
  have HS := Lib.hid (show W1.heap.size = w.heap.size + 3 by rw [hW1]; simp)
  have HB1 := Lib.hid (show Below w.heap.size w W1 by rw [hW1]; exact below_al (below_al (below_al (Below.refl _ w) _) _) _)
  have HR1 := Lib.hid (HR.out.below HB1.out)
  have hins := ins_cl HR1.out.map n (w.heap.size + 2) (HR1.out.no n HL.out)
  have k1 := HR1.out.reg.cell 0 (.map (some mb)) rfl
  have HC := Lib.hid (show W1.heap[w.heap.size]? = some (mapG idE [] 0) ∧ W1.heap[w.heap.size + 1]? = some (mapG alE [] 0) ∧ Obj? W1 (w.heap.size + 2) #[.map (some w.heap.size), .map (some (w.heap.size + 1)), .slice none 0 0, .int .i64 1] 111 by
   rw [hW1]
   refine ⟨?_, ?_, ?_⟩
   ·exact ((Below.heap_alloc _ _ _ (by simp; omega)).trans (Below.heap_alloc _ _ _ (by simp))).trans (MapKept.heap_alloc w _).1
   ·refine (Below.heap_alloc _ _ _ (by simp)).trans ?_
    have := (MapKept.heap_alloc (w.alloc (.map #[] 0)) (.map #[] 0)).1
    rwa [World.size_alloc] at this
   ·have := Obj?.new ((w.alloc (.map #[] 0)).alloc (.map #[] 0)) #[.map (some w.heap.size), .map (some (w.heap.size + 1)), .slice none 0 0, .int .i64 1] 111
    simpa using this)
  have HW := Lib.hid hW1
  clear hR hL
  rw [hW1] at hins k1
  clear hW1
  have hmk1 : ∀ W : World, (Instr.makeMap 108 none).run Tryz.prog W = .ok (.map (some W.heap.size)) (W.alloc (.map #[] 0)) := fun W => run_makeMap_plain W _
  have hmk2 : ∀ W : World, (Instr.makeMap 107 none).run Tryz.prog W = .ok (.map (some W.heap.size)) (W.alloc (.map #[] 0)) := fun W => run_makeMap_plain W _
  go_enter Tryz.func38, Tryz.ntmps38
  go_wp2_with fail
  go_ret
  rw [← HW.out]
  have hmlt : mb < w.heap.size := lt_of_heap HR.out.map
  have hne : ∀ b, w.heap.size ≤ b → b ≠ mb := fun b h1 h2 => by omega
  have hK1 : Kq (fun b => b = mb) W1 (setBlock W1 mb (mapG clE (es ++ [(n, w.heap.size + 2, ec)]) (ec + 1))) := (Kq.refl (fun b => b = mb) W1).setB (r := mb) (.inl rfl) _
  have hmap : (setBlock W1 mb (mapG clE (es ++ [(n, w.heap.size + 2, ec)]) (ec + 1))).heap[mb]? = some (mapG clE (es ++ [(n, w.heap.size + 2, ec)]) (ec + 1)) := by
   show (W1.heap.setIfInBounds mb _)[mb]? = _
   rw [Array.getElem?_setIfInBounds_self_of_lt (lt_of_heap HR1.out.map)]
  have hO : ExtO n W1 (setBlock W1 mb (mapG clE (es ++ [(n, w.heap.size + 2, ec)]) (ec + 1))) (fun b => if w.heap.size ≤ b ∧ b < w.heap.size + 3 then some (some n) else O b) (fun b => if w.heap.size ≤ b ∧ b < w.heap.size + 3 then some (some n) else O b) := ExtO.refl _ _ _ _
  have hRO : RegM W1 rb (fun b => if w.heap.size ≤ b ∧ b < w.heap.size + 3 then some (some n) else O b) L mb es ec := by
   have old : ∀ b, b < w.heap.size → (if w.heap.size ≤ b ∧ b < w.heap.size + 3 then some (some n) else O b) = O b := fun b hb => if_neg (by omega)
   refine ⟨HR1.out.reg, HR1.out.map, (old _ HR.out.reg.lt).trans HR.out.orb, (old _ hmlt).trans HR.out.omb, HR.out.nod, HR.out.no, ?_, ?_⟩
   ·intro m cb C hm
    obtain ⟨i, born, ib, ab, v, h1, h2⟩ := HR.out.yes m cb C hm
    exact ⟨i, born, ib, ab, v, h1, h2.kp (S := fun _ => False) (.of_below HB1.out) (fun _ _ e => e) old⟩
   ·intro b hb
    rw [HS.out]
    split at hb
    ·omega
    ·exact Nat.lt_of_lt_of_le (HR.out.fresh b hb) (by omega)
  have own : ∀ b, w.heap.size ≤ b → b < w.heap.size + 3 → (if w.heap.size ≤ b ∧ b < w.heap.size + 3 then some (some n) else O b) = some (some n) := fun b h1 h2 => if_pos ⟨h1, h2⟩
  refine ⟨w.heap.size + 2, fun b => if w.heap.size ≤ b ∧ b < w.heap.size + 3 then some (some n) else O b, rfl, (hRO.add HL.out hK1 hmap hO (C := newCl) (v := .slice none 0 0) ⟨HC.out.2.2.kp hK1 (hne _ (by omega)), hK1.at HC.out.1 (hne _ (Nat.le_refl _)), hK1.at HC.out.2.1 (hne _ (by omega)), World.ownsRow_nil _ _ _ _, wf_new, by omega, own _ (by omega) (by omega), own _ (by omega) (by omega), own _ (by omega) (by omega), fun k hk => by simp [Value.ownBlock] at hk⟩).at, ?_, fun b hb => if_neg (by omega)⟩
  exact (Kq.of_below HB1.out).then hK1 (fun i _ e => by subst e; rw [HR.out.omb]; simp)
end Go.Proofs.YtanofjmkkhocaaaGreatDoor
