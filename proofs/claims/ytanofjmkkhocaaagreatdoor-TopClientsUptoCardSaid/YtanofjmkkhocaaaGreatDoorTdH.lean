/- polyglottop.TopClients: one chunk is fed. polyglottop.TopClients: one round, the clients in their turn. polyglottop.TopClients: the walk. -/
import Derived.Test.YtanofjmkkhocaaaGreatDoorTdI
import Derived.Deep.CutBlock
set_option linter.unusedVariables false
set_option linter.unusedSimpArgs false
set_option maxRecDepth 100000
set_option maxHeartbeats 3200000
namespace Go.Proofs.YtanofjmkkhocaaaGreatDoor
open Go Go.RowKit Go.MapKept
attribute [local go_sem ↓] load_Cn store_Cn
attribute [local irreducible] rowSem rowStore
def findBlk (k : Nat) : Code → Option Code
 | .block id b => if id = k then some (.block id b) else findBlk k b
 | .seq a b => (findBlk k a).or (findBlk k b)
 | .cond _ a b => (findBlk k a).or (findBlk k b)
 | .loop b => findBlk k b
 | _ => none
noncomputable def tcBlk (k : Nat) : Code := (findBlk k (Tryz.f3.body.getD .skip)).getD .skip
theorem tc_b5 {w4 wr : World} {Q1 : Exit → Act → World → Prop} {me oth s : List UInt8} {M : List UInt8 → Option Cl} {n k b1 o1 cc ra ro sx sy sz : Nat} {turns : Int} {P1 P2 : Nat → Own} {M1 M2 : List UInt8 → Option (Nat × Cl)} {e1 t1 e2 t2 : Int} {u0 u1 u2 u5 u6 u7 u8 u9 u10 u11 u12 u13 u14 u15 u16 u17 u18 u19 u20 u21 u22 u24 u26 u28 u30 u31 u32 u33 u34 u35 u36 u37 u38 u39 u40 u41 u42 u43 u44 u45 u46 u47 u48 u49 u50 u51 u52 u53 u54 u55 u56 u57 u58 u59 u60 u61 u62 u63 u64 u65 u66 u67 u68 u69 u70 u71 u72 u73 u74 u75 u76 u77 u78 u79 u80 u81 u82 u83 u84 u85 u86 u87 u88 u89 u90 u91 u92 u93 u94 u95 u96 u97 u98 u99 u100 u101 u102 u103 u104 u105 u106 u107 u108 u109 u110 u111 u112 u113 u114 u115 u116 u117 u118 u119 u120 u121 u122 u123 u124 u125 u126 u127 u128 u129 u130 u131 u132 u133 u134 u135 u136 u137 u138 u139 u140 u141 u142 u143 u144 u145 u146 u147 u148 u149 u150 u151 u152 u153 u154 u155 u156 u157 u158 u159 u160 u161 u162 u163 u164 u165 u166 u167 u168 u169 u170 u171 u172 u173 u174 u175 u176 u177 u178 u179 u180 u181 u182 u183 u184 u185 u186 u187 u188 u189 u190 u191 u192 u193 u194 u195 u196 u197 u198 u199 u200 u201 u202 u203 u204 u205 u206 u207 u208 u209 u210 u211 u212 u213 u214 u215 u216 u217 u218 u219 : Value}
  (hJ : Inn w4 wr me oth M k ra ro sx sy sz P1 P2 M1 M2 e1 t1 e2 t2) (hne : me ≠ oth) (hk : k < n) (hn : n ≤ 20) (hs : s.length ≤ 600) (hmx : Mx w4)
  (hX : ∀ V, Below w4.heap.size w4 V → V.cell? ⟨b1, o1 + k, none⟩ = some (.string ⟨s.toArray⟩))
  (hQ : ∀ (y30 y31 y32 y33 y142 y143 y144 y145 y146 y147 y148 y149 y150 y151 y152 y153 y154 y155 y156 y157 y158 y159 y160 y161 y162 y163 y164 y165 y166 y167 y168 y169 y170 y171 y172 y173 y174 y175 y176 y177 y178 y179 y180 y181 y182 y183 y184 y185 y186 y187 : Value) (W' : World), (∃ P1 P2 M1 M2 e1 t1 e2 t2, Inn w4 W' me oth M (k + 1) ra ro sx sy sz P1 P2 M1 M2 e1 t1 e2 t2) → Q1 .normal ⟨(u0 :: u1 :: u2 :: (.slice (some ⟨b1, o1, none⟩) n cc) :: (.int .u32 turns) :: u5 :: u6 :: u7 :: u8 :: u9 :: u10 :: u11 :: u12 :: u13 :: u14 :: u15 :: u16 :: u17 :: u18 :: u19 :: u20 :: u21 :: u22 :: (.pointer (some ⟨sx, 0, none⟩)) :: u24 :: (.pointer (some ⟨sy, 0, none⟩)) :: u26 :: (.pointer (some ⟨sz, 0, none⟩)) :: u28 :: (.int .i64 k) :: y30 :: y31 :: y32 :: y33 :: u34 :: u35 :: u36 :: u37 :: u38 :: u39 :: u40 :: u41 :: u42 :: u43 :: u44 :: u45 :: u46 :: u47 :: u48 :: u49 :: u50 :: u51 :: u52 :: u53 :: u54 :: u55 :: u56 :: u57 :: u58 :: u59 :: u60 :: u61 :: u62 :: u63 :: u64 :: u65 :: u66 :: u67 :: u68 :: u69 :: u70 :: u71 :: u72 :: u73 :: u74 :: u75 :: u76 :: u77 :: u78 :: u79 :: u80 :: u81 :: u82 :: u83 :: u84 :: u85 :: u86 :: u87 :: u88 :: u89 :: u90 :: u91 :: u92 :: u93 :: u94 :: u95 :: u96 :: u97 :: u98 :: u99 :: u100 :: u101 :: u102 :: u103 :: u104 :: u105 :: u106 :: u107 :: u108 :: u109 :: u110 :: u111 :: u112 :: u113 :: u114 :: u115 :: u116 :: u117 :: u118 :: u119 :: u120 :: u121 :: u122 :: u123 :: u124 :: u125 :: u126 :: u127 :: u128 :: u129 :: u130 :: u131 :: u132 :: u133 :: u134 :: u135 :: u136 :: u137 :: u138 :: u139 :: u140 :: u141 :: y142 :: y143 :: y144 :: y145 :: y146 :: y147 :: y148 :: y149 :: y150 :: y151 :: y152 :: y153 :: y154 :: y155 :: y156 :: y157 :: y158 :: y159 :: y160 :: y161 :: y162 :: y163 :: y164 :: y165 :: y166 :: y167 :: y168 :: y169 :: y170 :: y171 :: y172 :: y173 :: y174 :: y175 :: y176 :: y177 :: y178 :: y179 :: y180 :: y181 :: y182 :: y183 :: y184 :: y185 :: y186 :: y187 :: u188 :: u189 :: u190 :: u191 :: u192 :: u193 :: u194 :: u195 :: u196 :: u197 :: u198 :: u199 :: u200 :: u201 :: u202 :: u203 :: u204 :: u205 :: u206 :: u207 :: u208 :: u209 :: u210 :: u211 :: u212 :: u213 :: u214 :: u215 :: u216 :: u217 :: u218 :: u219 :: []).toArray, []⟩ W') :
  Code.wp Tryz.prog (tcBlk 5) Q1 ⟨(u0 :: u1 :: u2 :: (.slice (some ⟨b1, o1, none⟩) n cc) :: (.int .u32 turns) :: u5 :: u6 :: u7 :: u8 :: u9 :: u10 :: u11 :: u12 :: u13 :: u14 :: u15 :: u16 :: u17 :: u18 :: u19 :: u20 :: u21 :: u22 :: (.pointer (some ⟨sx, 0, none⟩)) :: u24 :: (.pointer (some ⟨sy, 0, none⟩)) :: u26 :: (.pointer (some ⟨sz, 0, none⟩)) :: u28 :: (.int .i64 k) :: u30 :: u31 :: u32 :: u33 :: u34 :: u35 :: u36 :: u37 :: u38 :: u39 :: u40 :: u41 :: u42 :: u43 :: u44 :: u45 :: u46 :: u47 :: u48 :: u49 :: u50 :: u51 :: u52 :: u53 :: u54 :: u55 :: u56 :: u57 :: u58 :: u59 :: u60 :: u61 :: u62 :: u63 :: u64 :: u65 :: u66 :: u67 :: u68 :: u69 :: u70 :: u71 :: u72 :: u73 :: u74 :: u75 :: u76 :: u77 :: u78 :: u79 :: u80 :: u81 :: u82 :: u83 :: u84 :: u85 :: u86 :: u87 :: u88 :: u89 :: u90 :: u91 :: u92 :: u93 :: u94 :: u95 :: u96 :: u97 :: u98 :: u99 :: u100 :: u101 :: u102 :: u103 :: u104 :: u105 :: u106 :: u107 :: u108 :: u109 :: u110 :: u111 :: u112 :: u113 :: u114 :: u115 :: u116 :: u117 :: u118 :: u119 :: u120 :: u121 :: u122 :: u123 :: u124 :: u125 :: u126 :: u127 :: u128 :: u129 :: u130 :: u131 :: u132 :: u133 :: u134 :: u135 :: u136 :: u137 :: u138 :: u139 :: u140 :: u141 :: u142 :: u143 :: u144 :: u145 :: u146 :: u147 :: u148 :: u149 :: u150 :: u151 :: u152 :: u153 :: u154 :: u155 :: u156 :: u157 :: u158 :: u159 :: u160 :: u161 :: u162 :: u163 :: u164 :: u165 :: u166 :: u167 :: u168 :: u169 :: u170 :: u171 :: u172 :: u173 :: u174 :: u175 :: u176 :: u177 :: u178 :: u179 :: u180 :: u181 :: u182 :: u183 :: u184 :: u185 :: u186 :: u187 :: u188 :: u189 :: u190 :: u191 :: u192 :: u193 :: u194 :: u195 :: u196 :: u197 :: u198 :: u199 :: u200 :: u201 :: u202 :: u203 :: u204 :: u205 :: u206 :: u207 :: u208 :: u209 :: u210 :: u211 :: u212 :: u213 :: u214 :: u215 :: u216 :: u217 :: u218 :: u219 :: []).toArray, []⟩ wr := by
 have HQ := Lib.hid hQ
 have HX := Lib.hid hX
 have HJ := Lib.hid hJ
 have HM := Lib.hid hmx
 have HNe := Lib.hid hne
 have hki : (k : Int) < n := by omega
 have hu : IntKind.u64.wrap (k : Int) = (k : Int) := IntWalk.u64_in _ (by omega)
 have hm : min k 32 = k := by omega
 have x0 := hX wr hJ.below
 clear hQ hX hJ hmx hne
 conv => arg 2; whnf
 go_wp2_with fail
 ·refine (snFed_any oth s e2 t2 HJ.out.sy HJ.out.oy.1 HJ.out.reg1 ⟨HJ.out.told'.1, by have := HJ.out.told'.2; omega⟩ (by omega) (HM.out.next HJ.out.below) (Nat.le_trans (HJ.out.wt1 oth) (wtB_small (by omega)))).mono ?_
  intro r w2 hF
  have HI := Lib.hid (Inn.one HJ.out HNe.out hF)
  obtain ⟨v, -, -, hr, -⟩ := hF
  subst hr
  obtain ⟨E1, hE1⟩ : ∃ E1, E1 = (sessC ((M1 oth).map (·.2)) e2 t2 s).2.1 := ⟨_, rfl⟩
  rw [← hE1]
  clear hE1 x0
  go_wp2_with fail
  refine HQ.out _ _ _ _ _ _ _ _ _ _ _ _ _ _ _ _ _ _ _ _ _ _ _ _ _ _ _ _ _ _ _ _ _ _ _ _ _ _ _ _ _ _ _ _ _ _ _ _ _ _ w2 ?_
  obtain ⟨Pa, Ma, ea, ta, hI⟩ := HI.out
  exact ⟨_, _, _, _, _, _, _, _, hI⟩
 ·refine (snFed_any me s e1 t1 HJ.out.sx HJ.out.ox.1 HJ.out.reg1 ⟨HJ.out.told.1, by have := HJ.out.told.2; omega⟩ (by omega) (HM.out.next HJ.out.below) (Nat.le_trans (HJ.out.wt1 me) (wtB_small (by omega)))).mono ?_
  intro r w2 hF
  have HF := Lib.hid hF
  have HMid := Lib.hid (Inn.mid HJ.out hF)
  obtain ⟨va, -, -, hr, -⟩ := hF
  subst hr
  obtain ⟨E1, hE1⟩ : ∃ E1, E1 = (sessC ((M1 me).map (·.2)) e1 t1 s).2.1 := ⟨_, rfl⟩
  have HE1 := Lib.hid hE1
  rw [← hE1]
  have x1 := HX.out w2 HMid.out.2.2
  clear hE1 x0
  go_wp2_with fail
  refine (snFed_any me s e1 t1 HMid.out.2.1 HJ.out.oz.2 HMid.out.1 ⟨HJ.out.told.1, by have := HJ.out.told.2; omega⟩ (by omega) (HM.out.next HMid.out.2.2) (by rw [← HJ.out.same]; exact Nat.le_trans (HJ.out.wt1 me) (wtB_small (by omega)))).mono ?_
  intro r2 w3 hF2
  obtain ⟨v1, v2, ev, E, T, Pa, Ma, Pb, Mb, hr1, hr2, hA, hB, hI⟩ := Inn.two HJ.out HF.out hF2
  subst hr2
  have h1 : va = v1 ∧ E1 = E := by rw [HE1.out]; simpa using hr1
  obtain ⟨rfl, rfl⟩ := h1
  have HAll := Lib.hid (all_any hA hB)
  have HI := Lib.hid hI
  clear hI hA hB hr1 hF2 HF HE1 x1
  go_wp2_with fail
  refine HAll.out.mono ?_
  rintro e w5 ⟨rfl, hb⟩
  have HI2 := Lib.hid (HI.out.next hb)
  clear hb HAll HI
  go_wp2_with fail
  refine (snTold_any HI2.out.sx).mono ?_
  rintro e w6 ⟨rfl, rfl⟩
  go_wp2_with fail
  refine (snTold_any HI2.out.sz).mono ?_
  rintro e w7 ⟨rfl, rfl⟩
  go_wp2_with fail
  exact HQ.out _ _ _ _ _ _ _ _ _ _ _ _ _ _ _ _ _ _ _ _ _ _ _ _ _ _ _ _ _ _ _ _ _ _ _ _ _ _ _ _ _ _ _ _ _ _ _ _ _ _ _ ⟨_, _, _, _, _, _, _, _, HI2.out⟩
end Go.Proofs.YtanofjmkkhocaaaGreatDoor
namespace Go.Proofs.YtanofjmkkhocaaaGreatDoor
open Go Go.RowKit Go.MapKept
attribute [local go_sem ↓] load_Cn store_Cn
attribute [local irreducible] rowSem rowStore
theorem tc_b3 {w4 wr : World} {Q1 : Exit → Act → World → Prop} {v0 : Value} {t : List Tt} {cs : List (List UInt8)} {ac : Option Addr} {me oth : List UInt8} {n cc bn rs q p : Nat} {turns : Int} {Os : Nat → Own} {Ls : List UInt8 → Option (Nat × Cl)} {u1 u2 u5 u6 u7 u8 u9 u10 u11 u12 u15 u17 u18 u19 u20 u21 u22 u23 u24 u25 u26 u27 u28 u29 u30 u31 u32 u33 u34 u35 u36 u37 u38 u39 u40 u41 u42 u43 u44 u45 u46 u47 u48 u49 u50 u51 u52 u53 u54 u55 u56 u57 u58 u59 u60 u61 u62 u63 u64 u65 u66 u67 u68 u69 u70 u71 u72 u73 u74 u75 u76 u77 u78 u79 u80 u81 u82 u83 u84 u85 u86 u87 u88 u89 u90 u91 u92 u93 u94 u95 u96 u97 u98 u99 u100 u101 u102 u103 u104 u105 u106 u107 u108 u109 u110 u111 u112 u113 u114 u115 u116 u117 u118 u119 u120 u121 u122 u123 u124 u125 u126 u127 u128 u129 u130 u131 u132 u133 u134 u135 u136 u137 u138 u139 u140 u141 u142 u143 u144 u145 u146 u147 u148 u149 u150 u151 u152 u153 u154 u155 u156 u157 u158 u159 u160 u161 u162 u163 u164 u165 u166 u167 u168 u169 u170 u171 u172 u173 u174 u175 u176 u177 u178 u179 u180 u181 u182 u183 u184 u185 u186 u187 u188 u189 u190 u191 u192 u193 u194 u195 u196 u197 u198 u199 u200 u201 u202 u203 u204 u205 u206 u207 u208 u209 u210 u211 u212 u213 u214 u215 u216 u217 u218 u219 : Value}
  (hT : RowOf Tt.cs 3 w4 v0 t) (hLt : LightT t) (hC : RowOf strC 1 w4 (.slice ac n cc) cs) (hN : n = cs.length) (hn : n ≤ 20) (hs : ∀ s ∈ cs, s.length ≤ 600) (hmx : Mx w4) (hRs : RegAt w4 rs Os Ls) (hMs : ∀ m, (Ls m).map (·.2) = bothC t m) (hne : me ≠ oth) (hq : q < 2) (hpq : q + p = 1)
  (hNm : ∀ V, Below w4.heap.size w4 V → V.cell? ⟨bn, q, none⟩ = some (.string ⟨me.toArray⟩) ∧ V.cell? ⟨bn, p, none⟩ = some (.string ⟨oth.toArray⟩)) (hI : Below w4.heap.size w4 wr)
  (hQ : ∀ (y10 y17 y18 y19 y20 y21 y22 y23 y24 y25 y26 y27 y28 y29 y30 y31 y32 y33 y85 y86 y87 y88 y89 y90 y91 y92 y93 y94 y95 y96 y97 y98 y99 y100 y101 y102 y103 y104 y105 y106 y107 y108 y109 y110 y111 y112 y113 y114 y115 y116 y117 y118 y119 y120 y121 y122 y123 y124 y125 y126 y127 y128 y129 y130 y131 y132 y133 y134 y135 y136 y137 y138 y139 y140 y141 y142 y143 y144 y145 y146 y147 y148 y149 y150 y151 y152 y153 y154 y155 y156 y157 y158 y159 y160 y161 y162 y163 y164 y165 y166 y167 y168 y169 y170 y171 y172 y173 y174 y175 y176 y177 y178 y179 y180 y181 y182 y183 y184 y185 y186 y187 y188 y189 y190 y191 y192 y193 y194 y195 y196 y197 y198 y199 y200 y201 y202 y203 y204 y205 y206 y207 y208 y209 y210 y211 y212 y213 y214 y215 y216 y217 y218 y219 : Value) (W' : World), Below w4.heap.size w4 W' → Q1 .normal ⟨((v0) :: u1 :: u2 :: (.slice ac n cc) :: (.int .u32 turns) :: u5 :: u6 :: u7 :: u8 :: u9 :: y10 :: u11 :: u12 :: (.slice (some ⟨bn, 0, none⟩) 2 2) :: (.pointer (some ⟨rs, 0, none⟩)) :: u15 :: (.int .i64 q) :: y17 :: y18 :: y19 :: y20 :: y21 :: y22 :: y23 :: y24 :: y25 :: y26 :: y27 :: y28 :: y29 :: y30 :: y31 :: y32 :: y33 :: u34 :: u35 :: u36 :: u37 :: u38 :: u39 :: u40 :: u41 :: u42 :: u43 :: u44 :: u45 :: u46 :: u47 :: u48 :: u49 :: u50 :: u51 :: u52 :: u53 :: u54 :: u55 :: u56 :: u57 :: u58 :: u59 :: u60 :: u61 :: u62 :: u63 :: u64 :: u65 :: u66 :: u67 :: u68 :: u69 :: u70 :: u71 :: u72 :: u73 :: u74 :: u75 :: u76 :: u77 :: u78 :: u79 :: u80 :: u81 :: u82 :: u83 :: u84 :: y85 :: y86 :: y87 :: y88 :: y89 :: y90 :: y91 :: y92 :: y93 :: y94 :: y95 :: y96 :: y97 :: y98 :: y99 :: y100 :: y101 :: y102 :: y103 :: y104 :: y105 :: y106 :: y107 :: y108 :: y109 :: y110 :: y111 :: y112 :: y113 :: y114 :: y115 :: y116 :: y117 :: y118 :: y119 :: y120 :: y121 :: y122 :: y123 :: y124 :: y125 :: y126 :: y127 :: y128 :: y129 :: y130 :: y131 :: y132 :: y133 :: y134 :: y135 :: y136 :: y137 :: y138 :: y139 :: y140 :: y141 :: y142 :: y143 :: y144 :: y145 :: y146 :: y147 :: y148 :: y149 :: y150 :: y151 :: y152 :: y153 :: y154 :: y155 :: y156 :: y157 :: y158 :: y159 :: y160 :: y161 :: y162 :: y163 :: y164 :: y165 :: y166 :: y167 :: y168 :: y169 :: y170 :: y171 :: y172 :: y173 :: y174 :: y175 :: y176 :: y177 :: y178 :: y179 :: y180 :: y181 :: y182 :: y183 :: y184 :: y185 :: y186 :: y187 :: y188 :: y189 :: y190 :: y191 :: y192 :: y193 :: y194 :: y195 :: y196 :: y197 :: y198 :: y199 :: y200 :: y201 :: y202 :: y203 :: y204 :: y205 :: y206 :: y207 :: y208 :: y209 :: y210 :: y211 :: y212 :: y213 :: y214 :: y215 :: y216 :: y217 :: y218 :: y219 :: []).toArray, []⟩ W') :
  Code.wp Tryz.prog (tcBlk 3) Q1 ⟨((v0) :: u1 :: u2 :: (.slice ac n cc) :: (.int .u32 turns) :: u5 :: u6 :: u7 :: u8 :: u9 :: u10 :: u11 :: u12 :: (.slice (some ⟨bn, 0, none⟩) 2 2) :: (.pointer (some ⟨rs, 0, none⟩)) :: u15 :: (.int .i64 q) :: u17 :: u18 :: u19 :: u20 :: u21 :: u22 :: u23 :: u24 :: u25 :: u26 :: u27 :: u28 :: u29 :: u30 :: u31 :: u32 :: u33 :: u34 :: u35 :: u36 :: u37 :: u38 :: u39 :: u40 :: u41 :: u42 :: u43 :: u44 :: u45 :: u46 :: u47 :: u48 :: u49 :: u50 :: u51 :: u52 :: u53 :: u54 :: u55 :: u56 :: u57 :: u58 :: u59 :: u60 :: u61 :: u62 :: u63 :: u64 :: u65 :: u66 :: u67 :: u68 :: u69 :: u70 :: u71 :: u72 :: u73 :: u74 :: u75 :: u76 :: u77 :: u78 :: u79 :: u80 :: u81 :: u82 :: u83 :: u84 :: u85 :: u86 :: u87 :: u88 :: u89 :: u90 :: u91 :: u92 :: u93 :: u94 :: u95 :: u96 :: u97 :: u98 :: u99 :: u100 :: u101 :: u102 :: u103 :: u104 :: u105 :: u106 :: u107 :: u108 :: u109 :: u110 :: u111 :: u112 :: u113 :: u114 :: u115 :: u116 :: u117 :: u118 :: u119 :: u120 :: u121 :: u122 :: u123 :: u124 :: u125 :: u126 :: u127 :: u128 :: u129 :: u130 :: u131 :: u132 :: u133 :: u134 :: u135 :: u136 :: u137 :: u138 :: u139 :: u140 :: u141 :: u142 :: u143 :: u144 :: u145 :: u146 :: u147 :: u148 :: u149 :: u150 :: u151 :: u152 :: u153 :: u154 :: u155 :: u156 :: u157 :: u158 :: u159 :: u160 :: u161 :: u162 :: u163 :: u164 :: u165 :: u166 :: u167 :: u168 :: u169 :: u170 :: u171 :: u172 :: u173 :: u174 :: u175 :: u176 :: u177 :: u178 :: u179 :: u180 :: u181 :: u182 :: u183 :: u184 :: u185 :: u186 :: u187 :: u188 :: u189 :: u190 :: u191 :: u192 :: u193 :: u194 :: u195 :: u196 :: u197 :: u198 :: u199 :: u200 :: u201 :: u202 :: u203 :: u204 :: u205 :: u206 :: u207 :: u208 :: u209 :: u210 :: u211 :: u212 :: u213 :: u214 :: u215 :: u216 :: u217 :: u218 :: u219 :: []).toArray, []⟩ wr := by
 have HQ := Lib.hid hQ
 have HT := Lib.hid hT
 have HLt := Lib.hid hLt
 have HC := Lib.hid hC
 have HN := Lib.hid hN
 have HSs := Lib.hid hs
 have HM := Lib.hid hmx
 have HRs := Lib.hid (And.intro hRs hMs)
 have HNe := Lib.hid hne
 have HNm := Lib.hid hNm
 have HI := Lib.hid hI
 have hq2 : (q : Int) < 2 := by omega
 have hp2 : (p : Int) < 2 := by omega
 have hpw : wrap64 (1 - (q : Int)) = (p : Int) := by unfold wrap64; omega
 clear hQ hT hLt hC hN hs hmx hRs hMs hne hNm hI
 conv => arg 2; whnf
 go_wp2_with fail
 refine (both_any (HT.out.below HI.out) HLt.out).mono ?_
 rintro e w5 ⟨ro, oo, O2, L2, rfl, hR2, hM2, hN2, hB5⟩
 have H5 := Lib.hid (And.intro hR2 (And.intro hM2 (And.intro (fun b hb => Nat.le_trans HI.out.size (hN2 b hb)) (below_thn HI.out hB5))))
 clear hR2 hM2 hN2 hB5 HI
 go_upto_region 16 with fail
 have HNw := Lib.hid (show ∀ V, Below w5.heap.size w5 V → V.cell? ⟨bn, q, none⟩ = some (.string ⟨me.toArray⟩) ∧ V.cell? ⟨bn, p, none⟩ = some (.string ⟨oth.toArray⟩) from fun V hV => HNm.out V (below_thn H5.out.2.2.2 hV))
 refine tc16 (bn := bn) (q := q) (p := p) me oth rfl rfl rfl hq2 HNw.out (fun x g wz e6 hg hOg hBz => ?_)
 have HBz := Lib.hid hBz
 refine hide_act fun A hA => ?_
 simp only [putT, l16, l34, List.foldl_cons, List.foldl_nil, List.setIfInBounds_toArray, List.set_cons_zero, List.set_cons_succ, e6] at hA
 subst hA
 clear e6 hg hBz
 have ld := load_conn hOg
 have st := store_newconn wz me
 have c2 := (HNw.out (wz.alloc (.cells #[.int .i64 3, .int .i64 4096, .int .i64 6, .string ⟨me.toArray⟩] 56 (0, 0))) (below_al HBz.out _)).2
 rw [show p = 1 - q by omega] at c2
 go_wp2_with fail
 obtain ⟨W6, hW6⟩ : ∃ W, W = wz.alloc (.cells #[.int .i64 3, .int .i64 4096, .int .i64 6, .string ⟨oth.toArray⟩] 56 (0, 0)) := ⟨_, rfl⟩
 have h6 : Below w5.heap.size w5 W6 ∧ Obj? W6 g #[.int .i64 3, .int .i64 4096, .int .i64 6, .string ⟨me.toArray⟩] 56 ∧ Obj? W6 wz.heap.size #[.int .i64 3, .int .i64 4096, .int .i64 6, .string ⟨oth.toArray⟩] 56 := by
  rw [hW6]; exact ⟨below_al HBz.out _, hOg.alloc _, Obj?.new wz _ _⟩
 rw [← hW6]
 obtain ⟨g2, hg2⟩ : ∃ g2, g2 = wz.heap.size := ⟨_, rfl⟩
 rw [← hg2] at h6 ⊢
 have HW6 := Lib.hid h6
 clear ld st c2 hW6 hOg hg2 HBz h6
 refine (both_any (HT.out.below (below_thn H5.out.2.2.2 HW6.out.1)) HLt.out).mono ?_
 rintro e w6 ⟨ra, oa, O1, L1, rfl, hR1, hM1, hN1, hB6⟩
 have H6 := Lib.hid (And.intro hR1 (And.intro hM1 (And.intro (fun b hb => Nat.le_trans HW6.out.1.size (hN1 b hb)) (below_thn HW6.out.1 hB6))))
 have HG6 := Lib.hid (And.intro (HW6.out.2.1.below hB6 HW6.out.2.1.lt) (HW6.out.2.2.below hB6 HW6.out.2.2.lt))
 have ld := load_conn HG6.out.1
 clear hR1 hM1 hN1 hB6 HW6
 go_wp2_with fail
 refine (snew_sn _ _ _).mono ?_
 rintro e w7 ⟨sx, rfl, hb7, hx7, hs7⟩
 have H7 := Lib.hid (And.intro hb7 (And.intro hx7 hs7))
 have HG7 := Lib.hid (And.intro (HG6.out.1.below hb7 HG6.out.1.lt) (HG6.out.2.below hb7 HG6.out.2.lt))
 have ld := load_conn HG7.out.2
 clear hb7 hx7 hs7 HG6
 go_wp2_with fail
 refine (snew_sn _ _ _).mono ?_
 rintro e w8 ⟨sy, rfl, hb8, hx8, hs8⟩
 have H8 := Lib.hid (And.intro hb8 (And.intro hx8 hs8))
 have ld := load_conn (HG7.out.1.below hb8 HG7.out.1.lt)
 clear hb8 hx8 hs8 HG7
 go_wp2_with fail
 refine (snew_sn _ _ _).mono ?_
 rintro e w9 ⟨sz, rfl, hb9, hx9, hs9⟩
 have HIn := Lib.hid (Inn.start (M := bothC t) (fun m => Nat.le_trans (wt_both t m) HLt.out.1) H5.out.2.2.2 H5.out.1 H5.out.2.1 H5.out.2.2.1 H6.out.2.2.2 H6.out.1 H6.out.2.1 H6.out.2.2.1 H7.out.2.1 H7.out.2.2 H7.out.1 H8.out.2.1 H8.out.2.2 H8.out.1 hx9 hs9 hb9)
 clear hb9 hx9 hs9 H7 H8 H6 H5 ld HNw
 go_wp2_with fail
 go_loopg [29] (n + 1) (fun gg i wr2 => ∃ k : Nat, i = .int .i64 k ∧ Hid (gg + k = n + 1 ∧ k ≤ n) ∧ Hid (∃ P1 P2 M1 M2 e1 t1 e2 t2, Inn w4 wr2 me oth (bothC t) k ra ro sx sy sz P1 P2 M1 M2 e1 t1 e2 t2))
 case atStart => exact ⟨0, rfl, Lib.hid ⟨by omega, by omega⟩, Lib.hid ⟨_, _, _, _, _, _, _, _, HIn.out⟩⟩
 case round =>
  clear HIn
  obtain ⟨k, rfl, HGk, HJ⟩ := hrel
  by_cases hlt : k < n
  ·have hka : k < cs.length := by rw [← HN.out]; exact hlt
   have hac : ∃ b1 o1, ac = some ⟨b1, o1, none⟩ ∧ ∀ V, Below w4.heap.size w4 V → V.cell? ⟨b1, o1 + k, none⟩ = some (.string ⟨cs[k].toArray⟩) := by
    obtain ⟨b1, o1, h1, l1, c1⟩ := HC.out.at k hka
    have c2 := c1 0 _ rfl
    rw [Nat.mul_one] at c2
    exact ⟨b1, o1, h1, fun V hV => (hV.cell (p := ⟨b1, o1 + k, none⟩) l1).trans c2⟩
   obtain ⟨b1, o1, rfl, hX⟩ := hac
   obtain ⟨s, hx⟩ : ∃ s, s = cs[k] := ⟨_, rfl⟩
   have hs6 : s.length ≤ 600 := HSs.out s (by rw [hx]; exact List.getElem_mem hka)
   rw [← hx] at hX
   have HX := Lib.hid hX
   have d1 : decide ((k : Int) < n) = true := decide_eq_true (by omega)
   have hki : (k : Int) < n := by omega
   have hkw : wrap64 ((k : Int) + 1) = (k : Int) + 1 := by unfold wrap64; omega
   clear hX hx hka
   go_upto_block 5 with fail
   obtain ⟨P1, P2, M1, M2, e1, t1, e2, t2, hJ⟩ := HJ.out
   refine tc_b5 hJ HNe.out hlt hn hs6 HM.out HX.out (fun y30 y31 y32 y33 y142 y143 y144 y145 y146 y147 y148 y149 y150 y151 y152 y153 y154 y155 y156 y157 y158 y159 y160 y161 y162 y163 y164 y165 y166 y167 y168 y169 y170 y171 y172 y173 y174 y175 y176 y177 y178 y179 y180 y181 y182 y183 y184 y185 y186 y187 W' hI => ?_)
   have HI := Lib.hid hI
   clear hI hJ HX
   go_wp2_with fail
   go_roundg (gk - 1)
   case measure => have := HGk.out; omega
   case rel => exact ⟨k + 1, by go_num, Lib.hid ⟨by have := HGk.out; omega, by omega⟩, Lib.hid HI.out⟩
  ·obtain rfl : n = k := by have := HGk.out.2; omega
   obtain ⟨P1, P2, M1, M2, e1, t1, e2, t2, hJ⟩ := HJ.out
   have HJn := Lib.hid hJ
   obtain ⟨T1, T2, hTp⟩ := hJ.topics hn HNe.out (fun m => Nat.le_trans (wt_both t m) HLt.out.1) (HRs.out.1.below hJ.below) HRs.out.2
   have HTp := Lib.hid hTp
   clear hTp hJ HJ
   go_upto_region 34 with fail
   refine tc34 (bn := bn) (q := q) (p := p) (ra := ra) (ro := ro) (rs := rs) me oth rfl rfl rfl rfl rfl rfl hq2 hp2 (by rw [IntWalk.i64_left]; exact hpw) (fun V hV => HNm.out V (below_thn HJn.out.below hV)) HTp.out (fun x wz e31 hBz => ?_)
   have HBz := Lib.hid (below_thn HJn.out.below hBz)
   refine hide_act fun A hA => ?_
   simp only [putT, l16, l34, List.foldl_cons, List.foldl_nil, List.setIfInBounds_toArray, List.set_cons_zero, List.set_cons_succ, e31] at hA
   subst hA
   clear e31 hBz HTp
   go_wp2_with fail
   exact HQ.out _ _ _ _ _ _ _ _ _ _ _ _ _ _ _ _ _ _ _ _ _ _ _ _ _ _ _ _ _ _ _ _ _ _ _ _ _ _ _ _ _ _ _ _ _ _ _ _ _ _ _ _ _ _ _ _ _ _ _ _ _ _ _ _ _ _ _ _ _ _ _ _ _ _ _ _ _ _ _ _ _ _ _ _ _ _ _ _ _ _ _ _ _ _ _ _ _ _ _ _ _ _ _ _ _ _ _ _ _ _ _ _ _ _ _ _ _ _ _ _ _ _ _ _ _ _ _ _ _ _ _ _ _ _ _ _ _ _ _ _ _ _ _ _ _ _ _ _ _ _ _ _ _ _ HBz.out
end Go.Proofs.YtanofjmkkhocaaaGreatDoor
namespace Go.Proofs.YtanofjmkkhocaaaGreatDoor
open Go Go.RowKit Go.MapKept
attribute [local go_sem ↓] load_Cn store_Cn
attribute [local irreducible] rowSem rowStore
theorem top_walk {w : World} {v0 v3 : Value} {t : List Tt} {cs : List (List UInt8)} (a b : List UInt8) (turns : Int) (hT : RowOf Tt.cs 3 w v0 t) (hC : RowOf strC 1 w v3 cs) (hmx : Mx w) (hcl : cs.length ≤ 1048576) (hsl : ∀ s ∈ cs, (s.length : Int) ≤ 9223372036854775000) :
  Calls Tryz.prog 3 #[v0, .string ⟨a.toArray⟩, .string ⟨b.toArray⟩, v3, .int .u32 turns] w fun e w' => e = .returned (.bool true) ∧ Below w.heap.size w w' := by
 obtain ⟨i0, hi, hz0, hz1, hz2⟩ := info_parts infoZAct
 have HT := Lib.hid hT
 have HC := Lib.hid hC
 have HM := Lib.hid hmx
 have HSl := Lib.hid hsl
 clear hsl
 obtain ⟨ac, cc, rfl, lc, -⟩ := hC
 obtain ⟨n, hN⟩ : ∃ n, n = cs.length := ⟨_, rfl⟩
 rw [← hN] at lc HC ⊢
 have HN := Lib.hid hN
 rw [← hN] at hcl
 clear hT hmx hN
 go_enter Tryz.func3, Tryz.ntmps3
 go_wp2_with fail
 refine (livesT _).mono ?_
 rintro e w1 ⟨rfl, hb⟩
 have HB1 := Lib.hid hb
 clear hb
 go_wp2_with fail
 go_loopg [11, 12] (n + 1) (fun g vo i wr => ∃ k : Nat, i = .int .i64 k ∧ Hid (g + k = n + 1 ∧ k ≤ n) ∧ Hid (wr.ownsRow w1.heap.size 45 59 vo k (flatC actC (cs.take k)) ∧ Below w1.heap.size w1 wr))
 case atStart => exact ⟨0, rfl, Lib.hid ⟨by omega, by omega⟩, Lib.hid ⟨World.ownsRow_nil _ _ _ _, Below.refl _ _⟩⟩
 case round =>
  obtain ⟨k, rfl, HG, HI⟩ := hrel
  obtain ⟨ao, co, rfl⟩ := owns_shape (by decide) HI.out.1
  by_cases hlt : k < n
  ·have hka : k < cs.length := by rw [← HN.out]; exact hlt
   obtain ⟨b1, o1, rfl, l1, c1⟩ := (HC.out.below (HB1.out.trans (HI.out.2.mono HB1.out.size))).at k hka
   obtain ⟨s, hx⟩ : ∃ s, s = cs[k] := ⟨_, rfl⟩
   rw [← hx] at c1
   have x0 : wr.cell? ⟨b1, o1 + k * 1, none⟩ = some (.string ⟨s.toArray⟩) := c1 0 _ rfl
   rw [Nat.mul_one] at x0
   have d1 : decide ((k : Int) < n) = true := decide_eq_true (by omega)
   have hki : (k : Int) < n := by omega
   have hkw : wrap64 ((k : Int) + 1) = (k : Int) + 1 := by unfold wrap64; omega
   have HXk := Lib.hid (show flatC actC (cs.take (k + 1)) = flatC actC (cs.take k) ++ (actC s).toList by rw [List.take_succ_eq_append_getElem hka, ← hx]; simp [flatC])
   have HAl := Lib.hid (fun j u (hj : (actC s).toList[j]? = some u) => show (wr.alloc (.cells (actC s) 45 (0, 0))).cell? ((⟨wr.heap.size, 0, none⟩ : Addr).add j) = some u by
    rw [Addr.add_mid, Nat.zero_add]
    exact (Obj?.new wr _ _).cell j u (by simpa using hj))
   clear c1 hx hka
   go_upto_region 7 with fail
   go_wp2_with (at_builtin; (refine wpList_append_own _ rfl _ _ 26 rfl w1.heap.size 45 i0 (.agg (actC [])) 59 656 Tryz.underlying26 hi hz0 hz1 hz2 rfl (by decide) _ _ _ rfl (HI.out.1.alloc _) ⟨wr.heap.size, 0, none⟩ 1 1 (actC s).toList rfl rfl HAl.out (by simp [actC, Value.oneCell']) (by unfold maxLen; omega) (by omega) (by have := HI.out.2.size; simp; omega) ?_; intro v' w2 hown' hgrow' _; have HA1 := Lib.hid (And.intro hown' hgrow'); clear hown' hgrow'))
   have HS := Lib.hid (app_step HI.out.1 HI.out.2 (Nat.le_refl _) HA1.out.2)
   go_roundg (gk - 1)
   case measure => have := HG.out.1; omega
   case rel => exact ⟨k + 1, by go_num, Lib.hid ⟨by have := HG.out.1; omega, by omega⟩, Lib.hid ⟨by rw [HXk.out]; exact HA1.out.1, HS.out.1⟩⟩
  ·obtain rfl : n = k := by have := HG.out.2; omega
   have hF : RowOf actC 59 wr (.slice ao n co) cs := by
    have h := HI.out.1
    rw [HN.out, List.take_length] at h
    rw [HN.out]
    exact rowOf_of_owns (cs := actC) (z := 59) (fun x => rfl) h (by rw [← HN.out]; omega)
   have HF := Lib.hid hF
   have HBr := Lib.hid (HB1.out.trans (HI.out.2.mono HB1.out.size))
   clear hF
   go_wp2_with fail
   refine (light_any (HT.out.below HBr.out)).mono ?_
   rintro e w2 ⟨bl, rfl, hw, hL⟩
   subst hw
   cases bl with
   | false =>
    go_wp2_with fail
    go_ret
    exact ⟨rfl, HBr.out⟩
   | true =>
    have HLt := Lib.hid (hL rfl)
    clear hL
    by_cases hla : 100 < a.length
    ·have hla' : (100 : Int) < a.length := by omega
     clear hla
     go_wp2_with fail
     go_ret
     exact ⟨rfl, HBr.out⟩
    have hla' : ¬ (100 : Int) < a.length := by omega
    by_cases hlb : 100 < b.length
    ·have hlb' : (100 : Int) < b.length := by omega
     clear hla hlb
     go_wp2_with fail
     go_ret
     exact ⟨rfl, HBr.out⟩
    have hlb' : ¬ (100 : Int) < b.length := by omega
    clear hla hlb
    by_cases hab : a = b
    ·subst hab
     go_wp2_with fail
     go_ret
     exact ⟨rfl, HBr.out⟩
    have dab : (a == b) = false := by simpa using hab
    have HAb := Lib.hid hab
    clear hab
    go_wp2_with fail
    refine (acts_any HF.out HSl.out).mono ?_
    rintro e w2 ⟨bl, rfl, hb2, hL⟩
    have HB2 := Lib.hid (below_thn HBr.out hb2)
    clear hb2
    cases bl with
    | false =>
     go_wp2_with fail
     go_ret
     exact ⟨rfl, HB2.out⟩
    | true =>
     have HAc := Lib.hid (hL rfl)
     clear hL
     go_wp2_with fail
     have hO3 := Obj?.new w2 #[.string ⟨a.toArray⟩, .string ⟨b.toArray⟩] 9
     obtain ⟨W3, hW3⟩ : ∃ W3, W3 = w2.alloc (.cells #[.string ⟨a.toArray⟩, .string ⟨b.toArray⟩] 9 (0, 0)) := ⟨_, rfl⟩
     have hB3 : Below w.heap.size w W3 := by rw [hW3]; exact below_al HB2.out _
     rw [← hW3] at hO3 ⊢
     obtain ⟨bn, hbn⟩ : ∃ bn, bn = w2.heap.size := ⟨_, rfl⟩
     rw [← hbn] at hO3 ⊢
     clear hW3 hbn
     refine (both_any (HT.out.below hB3) HLt.out).mono ?_
     rintro e w4 ⟨rs, os, Os, Ls, rfl, hR4, hM4, hO4, hB4⟩
     have HS4 := Lib.hid (And.intro hR4 (And.intro hM4 (And.intro (hO3.below hB4 hO3.lt) (below_thn hB3 hB4))))
     clear hR4 hM4 hO4 hB4 hO3 hB3
     go_wp2_with fail
     go_loopg [16] 3 (fun g i wr => ∃ q : Nat, i = .int .i64 q ∧ Hid (g + q = 3 ∧ q ≤ 2) ∧ Hid (Below w4.heap.size w4 wr))
     case atStart => exact ⟨0, rfl, Lib.hid ⟨by omega, by omega⟩, Lib.hid (Below.refl _ _)⟩
     case round =>
      clear HG HI
      obtain ⟨q, rfl, HG, HI⟩ := hrel
      by_cases hq : q < 2
      ·obtain ⟨me, oth, p, hpq, hne, hnm⟩ : ∃ (me oth : List UInt8) (p : Nat), q + p = 1 ∧ me ≠ oth ∧ ∀ V, Below w4.heap.size w4 V → V.cell? ⟨bn, q, none⟩ = some (.string ⟨me.toArray⟩) ∧ V.cell? ⟨bn, p, none⟩ = some (.string ⟨oth.toArray⟩) := by
        have hO : ∀ V, Below w4.heap.size w4 V → Obj? V bn #[.string ⟨a.toArray⟩, .string ⟨b.toArray⟩] 9 := fun V hV => HS4.out.2.2.1.below hV HS4.out.2.2.1.lt
        rcases (by omega : q = 0 ∨ q = 1) with rfl | rfl
        ·exact ⟨a, b, 1, rfl, HAb.out, fun V hV => ⟨(hO V hV).cell 0 _ rfl, (hO V hV).cell 1 _ rfl⟩⟩
        ·exact ⟨b, a, 0, rfl, fun e => HAb.out e.symm, fun V hV => ⟨(hO V hV).cell 1 _ rfl, (hO V hV).cell 0 _ rfl⟩⟩
       have hqw : wrap64 ((q : Int) + 1) = (q : Int) + 1 := by unfold wrap64; omega
       have HNm := Lib.hid hnm
       clear hnm
       go_upto_block 3 with fail
       refine tc_b3 (HT.out.below HS4.out.2.2.2) HLt.out (HC.out.below HS4.out.2.2.2) HN.out (by rw [HN.out]; exact HAc.out.1) HAc.out.2 (HM.out.next HS4.out.2.2.2) HS4.out.1 HS4.out.2.1 hne hq hpq HNm.out HI.out (fun y10 y17 y18 y19 y20 y21 y22 y23 y24 y25 y26 y27 y28 y29 y30 y31 y32 y33 y85 y86 y87 y88 y89 y90 y91 y92 y93 y94 y95 y96 y97 y98 y99 y100 y101 y102 y103 y104 y105 y106 y107 y108 y109 y110 y111 y112 y113 y114 y115 y116 y117 y118 y119 y120 y121 y122 y123 y124 y125 y126 y127 y128 y129 y130 y131 y132 y133 y134 y135 y136 y137 y138 y139 y140 y141 y142 y143 y144 y145 y146 y147 y148 y149 y150 y151 y152 y153 y154 y155 y156 y157 y158 y159 y160 y161 y162 y163 y164 y165 y166 y167 y168 y169 y170 y171 y172 y173 y174 y175 y176 y177 y178 y179 y180 y181 y182 y183 y184 y185 y186 y187 y188 y189 y190 y191 y192 y193 y194 y195 y196 y197 y198 y199 y200 y201 y202 y203 y204 y205 y206 y207 y208 y209 y210 y211 y212 y213 y214 y215 y216 y217 y218 y219 W' hI => ?_)
       have HI2 := Lib.hid hI
       clear hI HNm
       go_wp2_with fail
       go_roundg (2 - q)
       case measure => have := HG.out; omega
       case rel => exact ⟨q + 1, by go_num, Lib.hid ⟨by omega, by omega⟩, HI2⟩
      ·obtain rfl : q = 2 := by have := HG.out.2; omega
       go_wp2_with fail
       go_ret
       exact ⟨rfl, HS4.out.2.2.2.trans (HI.out.mono HS4.out.2.2.2.size)⟩
end Go.Proofs.YtanofjmkkhocaaaGreatDoor
