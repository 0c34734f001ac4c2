/-
  The block of FnBraceForms on least forms and automorphisms.
-/
import Derived.Test.YthlafeefjonkdaaGreatDoorJx40
import Derived.Test.YthlafeefjonkdaaGreatDoorJx32
namespace Go.Proofs.YthlafeefjonkdaaGreatDoor
set_option linter.unusedVariables false
set_option linter.unusedSimpArgs false
open Go.RowKit
attribute [local go_sem ↓] Go.wp_at_zero Go.wp_at_succ
open Go.Deep

theorem div_int {a b : Nat} (h : a ∣ b) : (b : Int).tmod (a : Int) = 0 ∧ (b : Int) % (a : Int) = 0 := by
  obtain ⟨c, rfl⟩ := h
  refine ⟨?_, ?_⟩
  · rw [← Int.ofNat_tmod, Nat.mul_mod_right]; rfl
  · rw [← Int.natCast_emod, Nat.mul_mod_right]; rfl

theorem least_eq {t u a d : List (List Int)} : (eqTB (leastP t u).1 (leastP a d).1 && eqTB (leastP t u).2 (leastP a d).2) = true ↔ leastP t u = leastP a d := by
  rw [Bool.and_eq_true, eqTB_iff, eqTB_iff]
  constructor
  · rintro ⟨h1, h2⟩; exact Prod.ext h1 h2
  · intro h; rw [h]; exact ⟨rfl, rfl⟩

def condsOf : Code → List Code
  | .seq a b => condsOf a ++ condsOf b
  | .block _ c => condsOf c
  | .scope c => condsOf c
  | .loop c => condsOf c
  | .cond x a b => .cond x a b :: (condsOf a ++ condsOf b)
  | _ => []
noncomputable def fbBlk : Code := ((Tryz.f3.body.map condsOf).getD []).getD 3 .skip

set_option maxRecDepth 1000000 in
set_option maxHeartbeats 16000000 in
theorem fbBlk_ok {T U A D : List (List Int)} {C : Int} {b3 tb tq tc ub uo uc ab ao ac db dq dc : Nat} {K : Act → World → Prop} {Q' : Exit → Act → World → Prop} {w6 : World}
    (u0 u1 u2 u5 u7 u8 u9 u10 u11 u12 u13 u14 u15 u16 u17 u18 u19 u20 u21 u22 u23 u24 u25 u26 u27 u28 u29 u30 u31 u32 u33 u34 u35 u36 u37 u38 u39 u40 u41 u42 u43 u44 u45 u46 u47 u48 u49 u50 u51 u52 u53 u54 u55 u56 u57 u58 u59 u60 u61 u62 u63 u64 u65 u66 u67 u68 u69 u70 u71 u72 u73 u74 u75 u76 u77 u78 u79 u80 u81 u82 u83 u84 u85 u86 u87 u88 u89 u90 u91 u92 u93 u94 u95 u96 u98 u99 u100 u101 u102 u103 u104 u105 u106 u107 u108 u109 u110 u111 u112 u113 u114 u115 u116 u117 u118 u119 u120 u121 u122 u123 u124 u125 u126 u127 u128 u129 u130 u131 u132 u133 u134 u135 u136 u137 u138 u139 u140 u141 u142 u143 u144 u145 u146 u147 u148 u149 u150 u151 u152 u153 u154 u155 u156 u157 u158 u159 u160 u161 u162 u163 u164 u165 u166 u167 u168 u169 u170 u171 u172 u173 u174 u175 u176 u177 u178 u179 u180 u181 u182 u183 u184 u185 u186 u187 u188 u189 u190 u191 : Value)
    (HT : RowKit.Hid (Rows w6 (.slice (some ⟨tb, tq, none⟩) T.length tc) T)) (HU : RowKit.Hid (Rows w6 (.slice (some ⟨ub, uo, none⟩) U.length uc) U)) (HA : RowKit.Hid (Rows w6 (.slice (some ⟨ab, ao, none⟩) A.length ac) A)) (HD : RowKit.Hid (Rows w6 (.slice (some ⟨db, dq, none⟩) D.length dc) D))
    (k0 : w6.cell? ⟨b3, 0, none⟩ = some (.slice (some ⟨tb, tq, none⟩) T.length tc)) (k1 : w6.cell? ⟨b3, 1, none⟩ = some (.slice (some ⟨ub, uo, none⟩) U.length uc)) (n0 : w6.cell? ⟨b3 + 1, 0, none⟩ = some (.slice (some ⟨ab, ao, none⟩) A.length ac)) (n1 : w6.cell? ⟨b3 + 1, 1, none⟩ = some (.slice (some ⟨db, dq, none⟩) D.length dc))
    (hC0 : C = 0 ∨ C = 4) (hb1 : braceB T U = true) (hb2 : braceB A D = true) (hls : leastP T U = leastP A D ↔ C = 0) (ht6 : T.length ≤ 6) (ha6 : A.length ≤ 6) (l1 : T.length ≤ 12)
    (hK : ∀ (v9 v10 v11 v12 v13 v14 v15 v16 v98 v99 v100 v101 v102 v103 v104 v105 v106 v107 v108 v109 v110 v111 v112 v113 v114 v115 v116 v117 v118 v119 v120 v121 v122 v123 v124 v125 v126 v127 v128 v129 v130 v131 v132 v133 v134 v135 v136 v137 v138 v139 v140 v141 v142 v143 v144 v145 v146 v147 v148 v149 v150 v151 v152 : Value) (wx : World), Ext w6 wx → K ⟨#[u0, u1, u2, .pointer (some ⟨b3, 0, none⟩), .pointer (some ⟨b3 + 1, 0, none⟩), u5, .int .i64 C, u7, u8, v9, v10, v11, v12, v13, v14, v15, v16, u17, u18, u19, u20, u21, u22, u23, u24, u25, u26, u27, u28, u29, u30, u31, u32, u33, u34, u35, u36, u37, u38, u39, u40, u41, u42, u43, u44, u45, u46, u47, u48, u49, u50, u51, u52, u53, u54, u55, u56, u57, u58, u59, u60, u61, u62, u63, u64, u65, u66, u67, u68, u69, u70, u71, u72, u73, u74, u75, u76, u77, u78, u79, u80, u81, u82, u83, u84, u85, u86, u87, u88, u89, u90, u91, u92, u93, u94, u95, u96, .bool true, v98, v99, v100, v101, v102, v103, v104, v105, v106, v107, v108, v109, v110, v111, v112, v113, v114, v115, v116, v117, v118, v119, v120, v121, v122, v123, v124, v125, v126, v127, v128, v129, v130, v131, v132, v133, v134, v135, v136, v137, v138, v139, v140, v141, v142, v143, v144, v145, v146, v147, v148, v149, v150, v151, v152, u153, u154, u155, u156, u157, u158, u159, u160, u161, u162, u163, u164, u165, u166, u167, u168, u169, u170, u171, u172, u173, u174, u175, u176, u177, u178, u179, u180, u181, u182, u183, u184, u185, u186, u187, u188, u189, u190, u191], []⟩ wx) :
    Code.wp Tryz.prog fbBlk (Exit.then K Q') ⟨#[u0, u1, u2, .pointer (some ⟨b3, 0, none⟩), .pointer (some ⟨b3 + 1, 0, none⟩), u5, .int .i64 C, u7, u8, u9, u10, u11, u12, u13, u14, u15, u16, u17, u18, u19, u20, u21, u22, u23, u24, u25, u26, u27, u28, u29, u30, u31, u32, u33, u34, u35, u36, u37, u38, u39, u40, u41, u42, u43, u44, u45, u46, u47, u48, u49, u50, u51, u52, u53, u54, u55, u56, u57, u58, u59, u60, u61, u62, u63, u64, u65, u66, u67, u68, u69, u70, u71, u72, u73, u74, u75, u76, u77, u78, u79, u80, u81, u82, u83, u84, u85, u86, u87, u88, u89, u90, u91, u92, u93, u94, u95, u96, .bool true, u98, u99, u100, u101, u102, u103, u104, u105, u106, u107, u108, u109, u110, u111, u112, u113, u114, u115, u116, u117, u118, u119, u120, u121, u122, u123, u124, u125, u126, u127, u128, u129, u130, u131, u132, u133, u134, u135, u136, u137, u138, u139, u140, u141, u142, u143, u144, u145, u146, u147, u148, u149, u150, u151, u152, u153, u154, u155, u156, u157, u158, u159, u160, u161, u162, u163, u164, u165, u166, u167, u168, u169, u170, u171, u172, u173, u174, u175, u176, u177, u178, u179, u180, u181, u182, u183, u184, u185, u186, u187, u188, u189, u190, u191], []⟩ w6 := by
  have HK := Lib.hid hK
  clear hK
  conv => arg 2; whnf
  conv => arg 4; zeta
  have hls := Lib.hid (least_eq.trans hls)
  obtain ⟨e1, e2, e3⟩ := lb_yes hb1 (by omega)
  obtain ⟨e4, e5, e6⟩ := lb_yes hb2 (by omega)
  have HL1 := Lib.hid (fun v y w hv hy => LeastBrace_impl T U v y w hv hy)
  rw [e1, e2, e3] at HL1
  have HL2 := Lib.hid (fun v y w hv hy => LeastBrace_impl A D v y w hv hy)
  rw [e4, e5, e6] at HL2
  have HCB := Lib.hid (fun v y w hv hy => CountBraceAutomorphisms_impl T U v y w hv hy)
  rw [ifB_yes hb1, codeB_yes hb1] at HCB
  have hgt := groupB_iff.2 (braceB_ok hb1).1
  have HGA := Lib.hid (fun v w hv => GroupAutomorphisms_impl T v w hv)
  rw [ifG_yes hgt, codeG_yes hgt] at HGA
  obtain ⟨hn1, hn2⟩ := auto_divides hb1
  have hgo := braceB_ok hb1
  obtain ⟨L, hL⟩ : ∃ L, L = leastP T U := ⟨_, rfl⟩
  obtain ⟨M, hM⟩ : ∃ M, M = leastP A D := ⟨_, rfl⟩
  rw [← hL] at HL1 hls
  rw [← hM] at HL2 hls
  obtain ⟨n, hn⟩ : ∃ n, n = (isoL T.length [T, U] [T, U]).length := ⟨_, rfl⟩
  rw [← hn] at HCB hn1 hn2
  obtain ⟨G, hG⟩ : ∃ G, G = isoL T.length [T] [T] := ⟨_, rfl⟩
  rw [← hG] at HGA hn2
  have hn3 : n ≤ 1048576 := by rw [hn]; exact Nat.le_trans (few_iso (by simp) (by rw [tab_two0]; exact hgo.1) (by rw [tab_two0]; exact hgo.1) (by rw [tab_two0]) (by rw [tab_two0]) l1) (by omega)
  have hg3 : G.length ≤ 1048576 := by rw [hG]; exact Nat.le_trans (few_iso (by simp) (by rw [tab_one]; exact hgo.1) (by rw [tab_one]; exact hgo.1) (by rw [tab_one]) (by rw [tab_one]) l1) (by omega)
  obtain ⟨hdv1, hdv2⟩ := div_int hn2
  have hni : ¬ (n : Int) < 1 := by omega
  have hnz : ¬ (n : Int) = 0 := by omega
  have hnb : ((n : Int) == 0) = false := beq_eq_false_iff_ne.2 hnz
  clear hL hM hn hG e1 e2 e3 e4 e5 e6 hb1 hb2 hgt hn2 hgo
  obtain ⟨bq, hbq⟩ : ∃ bq, bq = (eqTB L.1 M.1 && eqTB L.2 M.2) := ⟨_, rfl⟩
  have HBQ := Lib.hid hbq.symm
  rw [← hbq] at hls
  clear hbq
  rcases hC0 with rfl | rfl
  · have hb : bq = true := hls.out.2 rfl
    subst hb
    clear hls
    have hY : Ext w6 w6 := Ext.refl _
    go_wp2_with fail
    refine (HL1.out _ _ _ HT.out HU.out).mono ?_
    rintro e w7 ⟨xv, xy, rfl, hxo, hx⟩
    have hsm := hxo.small
    obtain ⟨⟨-, xa, xc, rfl, -⟩, ⟨-, xd, xe, rfl, -⟩⟩ := hxo.open
    have HXA := Lib.hid hxo.toR.1
    have HXB := Lib.hid hxo.toR.2
    have HSM := Lib.hid hsm
    clear hxo hsm HL1
    replace hY := hY.trans hx
    have HT := Lib.hid (HT.out.ext hx)
    have HU := Lib.hid (HU.out.ext hx)
    have HA := Lib.hid (HA.out.ext hx)
    have HD := Lib.hid (HD.out.ext hx)
    replace k0 := hx.cell k0
    replace k1 := hx.cell k1
    replace n0 := hx.cell n0
    replace n1 := hx.cell n1
    clear hx
    have hx : Ext w7 (w7.alloc (.cells #[.slice xa L.1.length xc, .slice xd L.2.length xe] 26)) := (Ext.refl _).alloc _
    have x0 : (w7.alloc (.cells #[.slice xa L.1.length xc, .slice xd L.2.length xe] 26)).cell? ⟨w7.heap.size, 0, none⟩ = some (.slice xa L.1.length xc) := by simp [go_sem]
    have x1 : (w7.alloc (.cells #[.slice xa L.1.length xc, .slice xd L.2.length xe] 26)).cell? ⟨w7.heap.size, 1, none⟩ = some (.slice xd L.2.length xe) := by simp [go_sem]
    replace hY := hY.trans hx
    have HT := Lib.hid (HT.out.ext hx)
    have HU := Lib.hid (HU.out.ext hx)
    have HA := Lib.hid (HA.out.ext hx)
    have HD := Lib.hid (HD.out.ext hx)
    have HXA := Lib.hid (HXA.out.ext hx)
    have HXB := Lib.hid (HXB.out.ext hx)
    replace k0 := hx.cell k0
    replace k1 := hx.cell k1
    replace n0 := hx.cell n0
    replace n1 := hx.cell n1
    clear hx
    go_wp2_with fail
    generalize (w7.alloc (.cells #[.slice xa L.1.length xc, .slice xd L.2.length xe] 26)) = w8 at *
    refine (HL2.out _ _ _ HA.out HD.out).mono ?_
    rintro e w9 ⟨zv, zy, rfl, hzo, hx⟩
    obtain ⟨⟨-, za, zc, rfl, -⟩, ⟨-, zd, ze, rfl, -⟩⟩ := hzo.open
    have HZA := Lib.hid hzo.toR.1
    have HZB := Lib.hid hzo.toR.2
    clear hzo HL2
    replace hY := hY.trans hx
    have HT := Lib.hid (HT.out.ext hx)
    have HU := Lib.hid (HU.out.ext hx)
    have HA := Lib.hid (HA.out.ext hx)
    have HD := Lib.hid (HD.out.ext hx)
    have HXA := Lib.hid (HXA.out.ext hx)
    have HXB := Lib.hid (HXB.out.ext hx)
    replace k0 := hx.cell k0
    replace k1 := hx.cell k1
    replace n0 := hx.cell n0
    replace n1 := hx.cell n1
    replace x0 := hx.cell x0
    replace x1 := hx.cell x1
    clear hx
    have hx : Ext w9 (w9.alloc (.cells #[.slice za M.1.length zc, .slice zd M.2.length ze] 26)) := (Ext.refl _).alloc _
    have z0 : (w9.alloc (.cells #[.slice za M.1.length zc, .slice zd M.2.length ze] 26)).cell? ⟨w9.heap.size, 0, none⟩ = some (.slice za M.1.length zc) := by simp [go_sem]
    have z1 : (w9.alloc (.cells #[.slice za M.1.length zc, .slice zd M.2.length ze] 26)).cell? ⟨w9.heap.size, 1, none⟩ = some (.slice zd M.2.length ze) := by simp [go_sem]
    replace hY := hY.trans hx
    have HT := Lib.hid (HT.out.ext hx)
    have HU := Lib.hid (HU.out.ext hx)
    have HA := Lib.hid (HA.out.ext hx)
    have HD := Lib.hid (HD.out.ext hx)
    have HXA := Lib.hid (HXA.out.ext hx)
    have HXB := Lib.hid (HXB.out.ext hx)
    have HZA := Lib.hid (HZA.out.ext hx)
    have HZB := Lib.hid (HZB.out.ext hx)
    replace k0 := hx.cell k0
    replace k1 := hx.cell k1
    replace n0 := hx.cell n0
    replace n1 := hx.cell n1
    replace x0 := hx.cell x0
    replace x1 := hx.cell x1
    clear hx
    go_wp2_with fail
    generalize (w9.alloc (.cells #[.slice za M.1.length zc, .slice zd M.2.length ze] 26)) = w10 at *
    refine (HCB.out _ _ _ HT.out HU.out).mono ?_
    rintro e w11 ⟨rfl, hx⟩
    replace hY := hY.trans hx
    have HT := Lib.hid (HT.out.ext hx)
    have HXA := Lib.hid (HXA.out.ext hx)
    have HXB := Lib.hid (HXB.out.ext hx)
    have HZA := Lib.hid (HZA.out.ext hx)
    have HZB := Lib.hid (HZB.out.ext hx)
    replace k0 := hx.cell k0
    replace k1 := hx.cell k1
    replace n0 := hx.cell n0
    replace n1 := hx.cell n1
    replace x0 := hx.cell x0
    replace x1 := hx.cell x1
    replace z0 := hx.cell z0
    replace z1 := hx.cell z1
    clear hx HCB
    go_wp2_with fail
    refine (HGA.out _ _ HT.out).mono ?_
    rintro e w12 ⟨gv, rfl, hgo, hx⟩
    obtain ⟨-, gga, ggc, rfl, -⟩ := hgo
    replace hY := hY.trans hx
    have HXA := Lib.hid (HXA.out.ext hx)
    have HXB := Lib.hid (HXB.out.ext hx)
    have HZA := Lib.hid (HZA.out.ext hx)
    have HZB := Lib.hid (HZB.out.ext hx)
    replace x0 := hx.cell x0
    replace x1 := hx.cell x1
    replace z0 := hx.cell z0
    replace z1 := hx.cell z1
    clear hx HGA
    go_wp2_with fail
    refine (brace9_any L.1 L.2 M.1 M.2 _ _ _ _ _ HXA.out HXB.out HZA.out HZB.out HSM.out.1 HSM.out.2).mono ?_
    rintro e w13 ⟨rfl, hx⟩
    rw [HBQ.out]
    replace hY := hY.trans hx
    clear hx
    go_wp2
    exact HK.out _ _ _ _ _ _ _ _ _ _ _ _ _ _ _ _ _ _ _ _ _ _ _ _ _ _ _ _ _ _ _ _ _ _ _ _ _ _ _ _ _ _ _ _ _ _ _ _ _ _ _ _ _ _ _ _ _ _ _ _ _ _ _ _ hY
  · have hb : bq = false := by rw [← Bool.not_eq_true]; intro e; have := hls.out.1 e; omega
    subst hb
    clear hls
    have hY : Ext w6 w6 := Ext.refl _
    go_wp2_with fail
    refine (HL1.out _ _ _ HT.out HU.out).mono ?_
    rintro e w7 ⟨xv, xy, rfl, hxo, hx⟩
    have hsm := hxo.small
    obtain ⟨⟨-, xa, xc, rfl, -⟩, ⟨-, xd, xe, rfl, -⟩⟩ := hxo.open
    have HXA := Lib.hid hxo.toR.1
    have HXB := Lib.hid hxo.toR.2
    have HSM := Lib.hid hsm
    clear hxo hsm HL1
    replace hY := hY.trans hx
    have HT := Lib.hid (HT.out.ext hx)
    have HU := Lib.hid (HU.out.ext hx)
    have HA := Lib.hid (HA.out.ext hx)
    have HD := Lib.hid (HD.out.ext hx)
    replace k0 := hx.cell k0
    replace k1 := hx.cell k1
    replace n0 := hx.cell n0
    replace n1 := hx.cell n1
    clear hx
    have hx : Ext w7 (w7.alloc (.cells #[.slice xa L.1.length xc, .slice xd L.2.length xe] 26)) := (Ext.refl _).alloc _
    have x0 : (w7.alloc (.cells #[.slice xa L.1.length xc, .slice xd L.2.length xe] 26)).cell? ⟨w7.heap.size, 0, none⟩ = some (.slice xa L.1.length xc) := by simp [go_sem]
    have x1 : (w7.alloc (.cells #[.slice xa L.1.length xc, .slice xd L.2.length xe] 26)).cell? ⟨w7.heap.size, 1, none⟩ = some (.slice xd L.2.length xe) := by simp [go_sem]
    replace hY := hY.trans hx
    have HT := Lib.hid (HT.out.ext hx)
    have HU := Lib.hid (HU.out.ext hx)
    have HA := Lib.hid (HA.out.ext hx)
    have HD := Lib.hid (HD.out.ext hx)
    have HXA := Lib.hid (HXA.out.ext hx)
    have HXB := Lib.hid (HXB.out.ext hx)
    replace k0 := hx.cell k0
    replace k1 := hx.cell k1
    replace n0 := hx.cell n0
    replace n1 := hx.cell n1
    clear hx
    go_wp2_with fail
    generalize (w7.alloc (.cells #[.slice xa L.1.length xc, .slice xd L.2.length xe] 26)) = w8 at *
    refine (HL2.out _ _ _ HA.out HD.out).mono ?_
    rintro e w9 ⟨zv, zy, rfl, hzo, hx⟩
    obtain ⟨⟨-, za, zc, rfl, -⟩, ⟨-, zd, ze, rfl, -⟩⟩ := hzo.open
    have HZA := Lib.hid hzo.toR.1
    have HZB := Lib.hid hzo.toR.2
    clear hzo HL2
    replace hY := hY.trans hx
    have HT := Lib.hid (HT.out.ext hx)
    have HU := Lib.hid (HU.out.ext hx)
    have HA := Lib.hid (HA.out.ext hx)
    have HD := Lib.hid (HD.out.ext hx)
    have HXA := Lib.hid (HXA.out.ext hx)
    have HXB := Lib.hid (HXB.out.ext hx)
    replace k0 := hx.cell k0
    replace k1 := hx.cell k1
    replace n0 := hx.cell n0
    replace n1 := hx.cell n1
    replace x0 := hx.cell x0
    replace x1 := hx.cell x1
    clear hx
    have hx : Ext w9 (w9.alloc (.cells #[.slice za M.1.length zc, .slice zd M.2.length ze] 26)) := (Ext.refl _).alloc _
    have z0 : (w9.alloc (.cells #[.slice za M.1.length zc, .slice zd M.2.length ze] 26)).cell? ⟨w9.heap.size, 0, none⟩ = some (.slice za M.1.length zc) := by simp [go_sem]
    have z1 : (w9.alloc (.cells #[.slice za M.1.length zc, .slice zd M.2.length ze] 26)).cell? ⟨w9.heap.size, 1, none⟩ = some (.slice zd M.2.length ze) := by simp [go_sem]
    replace hY := hY.trans hx
    have HT := Lib.hid (HT.out.ext hx)
    have HU := Lib.hid (HU.out.ext hx)
    have HA := Lib.hid (HA.out.ext hx)
    have HD := Lib.hid (HD.out.ext hx)
    have HXA := Lib.hid (HXA.out.ext hx)
    have HXB := Lib.hid (HXB.out.ext hx)
    have HZA := Lib.hid (HZA.out.ext hx)
    have HZB := Lib.hid (HZB.out.ext hx)
    replace k0 := hx.cell k0
    replace k1 := hx.cell k1
    replace n0 := hx.cell n0
    replace n1 := hx.cell n1
    replace x0 := hx.cell x0
    replace x1 := hx.cell x1
    clear hx
    go_wp2_with fail
    generalize (w9.alloc (.cells #[.slice za M.1.length zc, .slice zd M.2.length ze] 26)) = w10 at *
    refine (HCB.out _ _ _ HT.out HU.out).mono ?_
    rintro e w11 ⟨rfl, hx⟩
    replace hY := hY.trans hx
    have HT := Lib.hid (HT.out.ext hx)
    have HXA := Lib.hid (HXA.out.ext hx)
    have HXB := Lib.hid (HXB.out.ext hx)
    have HZA := Lib.hid (HZA.out.ext hx)
    have HZB := Lib.hid (HZB.out.ext hx)
    replace k0 := hx.cell k0
    replace k1 := hx.cell k1
    replace n0 := hx.cell n0
    replace n1 := hx.cell n1
    replace x0 := hx.cell x0
    replace x1 := hx.cell x1
    replace z0 := hx.cell z0
    replace z1 := hx.cell z1
    clear hx HCB
    go_wp2_with fail
    refine (HGA.out _ _ HT.out).mono ?_
    rintro e w12 ⟨gv, rfl, hgo, hx⟩
    obtain ⟨-, gga, ggc, rfl, -⟩ := hgo
    replace hY := hY.trans hx
    have HXA := Lib.hid (HXA.out.ext hx)
    have HXB := Lib.hid (HXB.out.ext hx)
    have HZA := Lib.hid (HZA.out.ext hx)
    have HZB := Lib.hid (HZB.out.ext hx)
    replace x0 := hx.cell x0
    replace x1 := hx.cell x1
    replace z0 := hx.cell z0
    replace z1 := hx.cell z1
    clear hx HGA
    go_wp2_with fail
    refine (brace9_any L.1 L.2 M.1 M.2 _ _ _ _ _ HXA.out HXB.out HZA.out HZB.out HSM.out.1 HSM.out.2).mono ?_
    rintro e w13 ⟨rfl, hx⟩
    rw [HBQ.out]
    replace hY := hY.trans hx
    clear hx
    go_wp2
    exact HK.out _ _ _ _ _ _ _ _ _ _ _ _ _ _ _ _ _ _ _ _ _ _ _ _ _ _ _ _ _ _ _ _ _ _ _ _ _ _ _ _ _ _ _ _ _ _ _ _ _ _ _ _ _ _ _ _ _ _ _ _ _ _ _ _ hY
end Go.Proofs.YthlafeefjonkdaaGreatDoor
