/-
  Region 8 of FnBraceForms: an isomorphism leads the one brace to the other one.
-/
import Derived.Test.YthlafeefjonkdaaGreatDoorJx28
import Derived.Test.YthlafeefjonkdaaGreatDoorJx34
namespace Go.Proofs.YthlafeefjonkdaaGreatDoor
set_option linter.unusedVariables false
set_option linter.unusedSimpArgs false
open Go.RowKit
attribute [local go_sem ↓] Go.wp_at_zero Go.wp_at_succ
open Go.Deep

def regsOf : Code → List Code
  | .region a b c => [.region a b c]
  | .seq a b => regsOf a ++ regsOf b
  | .block _ c => regsOf c
  | .scope c => regsOf c
  | .loop c => regsOf c
  | .cond _ a b => regsOf a ++ regsOf b
  | _ => []
noncomputable def fbReg : Code := ((Tryz.f3.body.map regsOf).getD []).getD 8 .skip

set_option maxRecDepth 1000000 in
set_option maxHeartbeats 16000000 in
theorem fbReg_ok {T U A D : List (List Int)} {P : List Int} {b3 tb tq tc ub uo uc ab ao ac db dq dc pb po pc : Nat} {K K2 : Act → World → Prop} {R : Ending → World → Prop} {w5 : World}
    (u0 u1 u2 u7 u8 u9 u10 u11 u12 u13 u14 u15 u16 u17 u18 u19 u20 u21 u22 u23 u24 u25 u26 u27 u28 u29 u30 u31 u32 u33 u34 u35 u36 u37 u38 u39 u40 u41 u42 u43 u44 u45 u46 u47 u48 u49 u50 u51 u52 u53 u54 u55 u56 u57 u58 u59 u60 u61 u62 u63 u64 u65 u66 u67 u68 u69 u70 u71 u72 u73 u74 u75 u76 u77 u78 u79 u80 u81 u82 u83 u84 u85 u86 u87 u88 u89 u90 u91 u92 u93 u94 u95 u96 u97 u98 u99 u100 u101 u102 u103 u104 u105 u106 u107 u108 u109 u110 u111 u112 u113 u114 u115 u116 u117 u118 u119 u120 u121 u122 u123 u124 u125 u126 u127 u128 u129 u130 u131 u132 u133 u134 u135 u136 u137 u138 u139 u140 u141 u142 u143 u144 u145 u146 u147 u148 u149 u150 u151 u152 u153 u154 u155 u156 u157 u158 u159 u160 u161 u162 u163 u164 u165 u166 u167 u168 u169 u170 u171 u172 u173 u174 u175 u176 u177 u178 u179 u180 u181 u182 u183 u184 u185 u186 u187 u188 u189 u190 u191 : Value)
    (HT : RowKit.Hid (Rows w5 (.slice (some ⟨tb, tq, none⟩) T.length tc) T)) (HU : RowKit.Hid (Rows w5 (.slice (some ⟨ub, uo, none⟩) U.length uc) U)) (HA : RowKit.Hid (Rows w5 (.slice (some ⟨ab, ao, none⟩) A.length ac) A)) (HD : RowKit.Hid (Rows w5 (.slice (some ⟨db, dq, none⟩) D.length dc) D))
    (HPI : RowKit.Hid (Ints w5 (.slice (some ⟨pb, po, none⟩) P.length pc) P)) (HGT : RowKit.Hid (TableOk T)) (HGU : RowKit.Hid (TableOk U)) (HPN : RowKit.Hid (IsoOk T.length [] [] P)) (HPU : RowKit.Hid (IsoOk U.length [] [] P))
    (HS1 : RowKit.Hid (TableOk (imgT T P))) (HS2 : RowKit.Hid (TableOk (imgT U P))) (HE1 : RowKit.Hid (eqTB (imgT T P) A = true)) (HE2 : RowKit.Hid (eqTB (imgT U P) D = true))
    (hn : 0 < P.length) (k0 : w5.cell? ⟨b3, 0, none⟩ = some (.slice (some ⟨tb, tq, none⟩) T.length tc)) (k1 : w5.cell? ⟨b3, 1, none⟩ = some (.slice (some ⟨ub, uo, none⟩) U.length uc)) (n0 : w5.cell? ⟨b3 + 1, 0, none⟩ = some (.slice (some ⟨ab, ao, none⟩) A.length ac)) (n1 : w5.cell? ⟨b3 + 1, 1, none⟩ = some (.slice (some ⟨db, dq, none⟩) D.length dc)) (p0 : w5.cell? ⟨pb, po, none⟩ = some (.int .i64 0))
    (hK : ∀ (v52 v53 v54 v55 v56 v57 v58 v59 v60 v61 v62 v63 v64 v65 v66 v67 v68 v69 v70 v71 v72 v73 v74 v75 v76 v77 v78 : Value) (wx : World), Ext w5 wx → K ⟨#[u0, u1, u2, .pointer (some ⟨b3, 0, none⟩), .pointer (some ⟨b3 + 1, 0, none⟩), .slice (some ⟨pb, po, none⟩) P.length pc, .int .i64 0, u7, u8, u9, u10, u11, u12, u13, u14, u15, u16, u17, u18, u19, u20, u21, u22, u23, u24, u25, u26, u27, u28, u29, u30, u31, u32, u33, u34, u35, u36, u37, u38, u39, u40, u41, u42, u43, u44, u45, u46, u47, u48, u49, u50, u51, v52, v53, v54, v55, v56, v57, v58, v59, v60, v61, v62, v63, v64, v65, v66, v67, v68, v69, v70, v71, v72, v73, v74, v75, v76, v77, v78, .bool false, u80, u81, u82, u83, u84, u85, u86, u87, u88, u89, u90, u91, u92, u93, u94, u95, u96, u97, u98, u99, u100, u101, u102, u103, u104, u105, u106, u107, u108, u109, u110, u111, u112, u113, u114, u115, u116, u117, u118, u119, u120, u121, u122, u123, u124, u125, u126, u127, u128, u129, u130, u131, u132, u133, u134, u135, u136, u137, u138, u139, u140, u141, u142, u143, u144, u145, u146, u147, u148, u149, u150, u151, u152, u153, u154, u155, u156, u157, u158, u159, u160, u161, u162, u163, u164, u165, u166, u167, u168, u169, u170, u171, u172, u173, u174, u175, u176, u177, u178, u179, u180, u181, u182, u183, u184, u185, u186, u187, u188, u189, u190, u191], []⟩ wx) :
    Code.wp Tryz.prog fbReg (Exit.then K (Exit.then K2 (bodyPost Tryz.prog Tryz.f3 R))) ⟨#[u0, u1, u2, .pointer (some ⟨b3, 0, none⟩), .pointer (some ⟨b3 + 1, 0, none⟩), .slice (some ⟨pb, po, none⟩) P.length pc, .int .i64 0, u7, u8, u9, u10, u11, u12, u13, u14, u15, u16, u17, u18, u19, u20, u21, u22, u23, u24, u25, u26, u27, u28, u29, u30, u31, u32, u33, u34, u35, u36, u37, u38, u39, u40, u41, u42, u43, u44, u45, u46, u47, u48, u49, u50, u51, u52, u53, u54, u55, u56, u57, u58, u59, u60, u61, u62, u63, u64, u65, u66, u67, u68, u69, u70, u71, u72, u73, u74, u75, u76, u77, u78, u79, u80, u81, u82, u83, u84, u85, u86, u87, u88, u89, u90, u91, u92, u93, u94, u95, u96, u97, u98, u99, u100, u101, u102, u103, u104, u105, u106, u107, u108, u109, u110, u111, u112, u113, u114, u115, u116, u117, u118, u119, u120, u121, u122, u123, u124, u125, u126, u127, u128, u129, u130, u131, u132, u133, u134, u135, u136, u137, u138, u139, u140, u141, u142, u143, u144, u145, u146, u147, u148, u149, u150, u151, u152, u153, u154, u155, u156, u157, u158, u159, u160, u161, u162, u163, u164, u165, u166, u167, u168, u169, u170, u171, u172, u173, u174, u175, u176, u177, u178, u179, u180, u181, u182, u183, u184, u185, u186, u187, u188, u189, u190, u191], []⟩ w5 := by
  have HK := Lib.hid hK
  clear hK
  have hX : Ext w5 w5.drew := (Ext.refl _).drew
  conv => arg 2; whnf
  conv => arg 4; zeta
  go_region_with (first
    | (go_at_call 9; refine (same9_any (imgT U P) D _ _ _ (hoC.rowsV HS2.out cC).toR (HD.out.ext (((hX.trans hxA).trans hxB).trans hxC)).toR HS2.out.small).mono ?_; rintro e wD ⟨rfl, hdD⟩; rw [HE2.out]; have hxD := hdD.ext; replace k0 := hxD.cell (k0); replace k1 := hxD.cell (k1); replace n0 := hxD.cell (n0); replace n1 := hxD.cell (n1); replace p0 := hxD.cell (p0))
    | (go_at_call 10; refine (image9_any U P _ _ _ (HU.out.ext ((hX.trans hxA).trans hxB)) (HPI.out.ext ((hX.trans hxA).trans hxB)) HGU.out HPU.out).mono ?_; rintro e wC ⟨bC, cC, rfl, hoC, hxC⟩; replace k0 := hxC.cell (k0); replace k1 := hxC.cell (k1); replace n0 := hxC.cell (n0); replace n1 := hxC.cell (n1); replace p0 := hxC.cell (p0))
    | (go_at_call 9; refine (same9_any (imgT T P) A _ _ _ (hoA.rowsV HS1.out cA).toR (HA.out.ext (hX.trans hxA)).toR HS1.out.small).mono ?_; rintro e wB ⟨rfl, hdB⟩; rw [HE1.out]; have hxB := hdB.ext; replace k0 := hxB.cell (k0); replace k1 := hxB.cell (k1); replace n0 := hxB.cell (n0); replace n1 := hxB.cell (n1); replace p0 := hxB.cell (p0))
    | (go_at_call 10; refine (image9_any T P _ _ _ (HT.out.ext hX) (HPI.out.ext hX) HGT.out HPN.out).mono ?_; rintro e wA ⟨bA, cA, rfl, hoA, hxA⟩; replace k0 := hxA.cell (show w5.drew.cell? _ = some _ from k0); replace k1 := hxA.cell (show w5.drew.cell? _ = some _ from k1); replace n0 := hxA.cell (show w5.drew.cell? _ = some _ from n0); replace n1 := hxA.cell (show w5.drew.cell? _ = some _ from n1); replace p0 := hxA.cell (show w5.drew.cell? _ = some _ from p0)))
  all_goals
    go_wp2
    exact HK.out _ _ _ _ _ _ _ _ _ _ _ _ _ _ _ _ _ _ _ _ _ _ _ _ _ _ _ _ ((((hX.trans hxA).trans hxB).trans hxC).trans hxD)
end Go.Proofs.YthlafeefjonkdaaGreatDoor
