/- A message as an argument, opened: each cell is of its type. SnmsgBack. The post of a walk laid behind a variable: the walk then does not carry it along. At a panic nothing is promised, so drawn regions still go through. -/
import Derived.Test.YtanofjmkkhocaaaGreatDoorOpenF
import Derived.Test.YtanofjmkkhocaaaGreatDoorMsB
import Derived.Test.YtanofjmkkhocaaaGreatDoorLkB
import Derived.Test.YtanofjmkkhocaaaGreatDoorOctA
import Derived.WalkKit
set_option linter.unusedVariables false
set_option linter.unusedSimpArgs false
set_option maxRecDepth 100000
namespace Go.Proofs.YtanofjmkkhocaaaGreatDoor
open Go.RowKit Go.ChangeShapes Go.WideShapes
end Go.Proofs.YtanofjmkkhocaaaGreatDoor
namespace Go.Proofs.YtanofjmkkhocaaaGreatDoor
open Go.RowKit
attribute [local go_sem ↓] load_Msg store_Msg
theorem store_new (w : World) (m : Ms) : (rowStore 38 ⟨w.heap.size, 0, none⟩ (.agg m.cs)).run Tryz.prog (w.alloc (.cells #[.int .i64 0, .bool false, .int .i64 0, .bool false, .bool false, .bool false, .int .i64 0, .int .i64 0, .int .i64 0, .int .i64 0, .bool false, .int .i64 0, .int .i64 0, .int .i64 0, .string ⟨#[]⟩, .string ⟨#[]⟩] 38 (0, 0))) = .ok () (w.alloc (.cells m.cs 38 (0, 0))) := by
 have h := rowStore_run (P := Tryz.prog) (w.alloc (.cells #[.int .i64 0, .bool false, .int .i64 0, .bool false, .bool false, .bool false, .int .i64 0, .int .i64 0, .int .i64 0, .int .i64 0, .bool false, .int .i64 0, .int .i64 0, .int .i64 0, .string ⟨#[]⟩, .string ⟨#[]⟩] 38 (0, 0))) w.heap.size 38 38 _ m.cs (Obj?.new w _ _) infoMs rfl (by simp [Ms.cs, Value.oneCell'])
 rw [World.setRow_alloc_new] at h
 exact h
def lightM (m : Ms) : Bool := decide (m.name.length ≤ 70000) && decide (m.data.length ≤ 70000)
theorem lightmsg_any (m : Ms) (w : World) : Calls Tryz.prog 57 #[.agg m.cs] w fun e w' => e = .returned (.bool (lightM m)) ∧ Below w.heap.size w w' := by
 have hB := below_al (Below.refl _ w) (.cells m.cs 38 (0, 0))
 by_cases h1 : m.name.length ≤ 70000
 ·by_cases h2 : m.data.length ≤ 70000
  ·have e : lightM m = true := by simp [lightM, h1, h2]
   rw [e]
   unfold Ms.cs at hB ⊢
   go_enter Tryz.func57, Tryz.ntmps57
   go_wp2
   go_ret
   exact ⟨ret_val (congrArg Value.bool (by simp; omega)), hB⟩
  ·have e : lightM m = false := by simp [lightM, h1, h2]
   have h2' : 70000 < m.data.length := by omega
   rw [e]
   clear e h2
   unfold Ms.cs at hB ⊢
   go_enter Tryz.func57, Tryz.ntmps57
   go_wp2
   go_ret
   exact ⟨ret_val (congrArg Value.bool (by simp; omega)), hB⟩
 ·have e : lightM m = false := by simp [lightM, h1]
  have h1' : 70000 < m.name.length := by omega
  rw [e]
  clear e h1
  unfold Ms.cs at hB ⊢
  go_enter Tryz.func57, Tryz.ntmps57
  go_wp2
  go_ret
  exact ⟨rfl, hB⟩
end Go.Proofs.YtanofjmkkhocaaaGreatDoor
namespace Go.Proofs.YtanofjmkkhocaaaGreatDoor
def Calm (Q : Exit → Act → World → Prop) : Exit → Act → World → Prop
 | .panic _, _, _ => False
 | e, a, w => Q e a w
theorem Calm.le {Q : Exit → Act → World → Prop} : ∀ e a w, Calm Q e a w → Q e a w := by
 intro e a w h
 cases e <;> first | exact h | exact h.elim
theorem wp_hideM {P : Program} {c : Code} {Q : Exit → Act → World → Prop} {a : Act} {w : World} (h : ∀ Q' : Exit → Act → World → Prop, (∀ e a w, Q e a w → Q' e a w) → Code.wp P c (Calm Q') a w) : Code.wp P c Q a w :=
 wp_mono (h Q (fun _ _ _ q => q)) Calm.le
end Go.Proofs.YtanofjmkkhocaaaGreatDoor
