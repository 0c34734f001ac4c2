/-
  The law FnBraceForms, walked.
-/
import Derived.Test.YthlafeefjonkdaaGreatDoorJx36
import Derived.Test.YthlafeefjonkdaaGreatDoorJLBFreg
import Derived.Test.YthlafeefjonkdaaGreatDoorJLBFblk
namespace Go.Proofs.YthlafeefjonkdaaGreatDoor
set_option linter.unusedVariables false
set_option linter.unusedSimpArgs false
open Go.RowKit
attribute [local go_sem ↓] Go.wp_at_zero Go.wp_at_succ
open Go.Deep

theorem iso_first {t u a d : List (List Int)} (hC : bisoC t u a d = 0) : braceB t u = true ∧ braceB a d = true ∧ a.length = t.length ∧ IsoOk t.length [t, u] [a, d] (bisoV t u a d) ∧ ix (bisoV t u a d) 0 = 0 ∧ imgT t (bisoV t u a d) = a ∧ imgT u (bisoV t u a d) = d := by
  by_cases h : braceB t u = true ∧ braceB a d = true
  · by_cases h2 : isoF [t, u] [a, d] = []
    · rw [(biso_2 h h2).2] at hC; omega
    · obtain ⟨gt, gu, q1⟩ := braceB_ok h.1
      obtain ⟨ga, gd, q2⟩ := braceB_ok h.2
      rw [(biso_3 h h2).1]
      by_cases hl : t.length = a.length
      · cases hL : isoL t.length [t, u] [a, d] with
        | nil => exact absurd (isoF_nil (n := t.length) (by rw [tab_two0]) hL) h2
        | cons p r =>
          rw [isoF_cons (n := t.length) (by rw [tab_two0]) (by rw [tab_two0]; exact hl.symm) hL]
          have hp : IsoOk t.length [t, u] [a, d] p := mem_isoL.1 (by rw [hL]; exact List.mem_cons_self)
          have hi := two_img hp rfl q1.symm ga.1 gd.1 hl.symm (by omega)
          exact ⟨h.1, h.2, hl.symm, hp, hp.zero (by simp) (by rw [tab_two0]; exact gt) (by rw [tab_two0]; exact ga) (by rw [tab_two0]) (by rw [tab_two0]; exact hl.symm), hi.1, hi.2⟩
      · exact absurd (isoF_len (by rw [tab_two0, tab_two0]; exact hl)) h2
  · rw [(biso_1 h).2] at hC; omega

theorem biso_both {t u a d : List (List Int)} (hC : bisoC t u a d = 0 ∨ bisoC t u a d = 4) : braceB t u = true ∧ braceB a d = true ∧ (leastP t u = leastP a d ↔ bisoC t u a d = 0) := by
  by_cases h : braceB t u = true ∧ braceB a d = true
  · refine ⟨h.1, h.2, (least_iff h.1 h.2).trans ?_⟩
    by_cases h2 : isoF [t, u] [a, d] = []
    · rw [(biso_2 h h2).2]; simp [h2]
    · rw [(biso_3 h h2).2]; simp [h2]
  · rw [(biso_1 h).2] at hC; omega

set_option maxRecDepth 100000 in
set_option maxHeartbeats 16000000 in
theorem lawBraceForms (w : World) (m : Int) (hm : w.cell? ⟨0, 0, none⟩ = some (.int .i64 m)) (bs : List Int) (v : Value) (hv : BytesR w v bs) :
    Calls Tryz.prog 3 #[v] w fun e w' => e = .returned (.bool true) ∧ Ext w w' := by
  have HM := Lib.hid hm
  clear hm
  obtain ⟨va, vc, rfl, -⟩ := id hv
  go_enter Tryz.func3, Tryz.ntmps3
  go_wp2_with fail
  refine (big_any va bs.length vc w).mono ?_
  rintro e w1 ⟨rfl, rfl⟩
  by_cases hbig : 4096 < (bs.length : Int)
  case pos =>
    go_wp2
    go_ret
    exact ⟨rfl, Ext.refl _⟩
  case neg =>
    go_wp2_with fail
    refine (DrawBraceIsomorphism_any bs _ _ hv (by omega)).mono ?_
    rintro e w1 ⟨v1, y1, v2, y2, T, U, A, D, rfl, ht, hu, ha, hd, l0, l1, l2, l3, l4, l5, hX⟩
    obtain ⟨tb, tq, tc, rfl⟩ := ht.shape
    obtain ⟨ub, uo, uc, rfl⟩ := hu.shape
    obtain ⟨ab, ao, ac, rfl⟩ := ha.shape
    obtain ⟨db, dq, dc, rfl⟩ := hd.shape
    have hbl : bs.length ≤ 4096 := by omega
    have hxg : Ext w1 ((w1.alloc (.cells #[.slice (some ⟨tb, tq, none⟩) T.length tc, .slice (some ⟨ub, uo, none⟩) U.length uc] 26)).alloc (.cells #[.slice (some ⟨ab, ao, none⟩) A.length ac, .slice (some ⟨db, dq, none⟩) D.length dc] 26)) := ((Ext.refl _).alloc _).alloc _
    have zB3 : w1.heap.size < ((w1.alloc (.cells #[.slice (some ⟨tb, tq, none⟩) T.length tc, .slice (some ⟨ub, uo, none⟩) U.length uc] 26)).alloc (.cells #[.slice (some ⟨ab, ao, none⟩) A.length ac, .slice (some ⟨db, dq, none⟩) D.length dc] 26)).heap.size := by simp; omega
    have k0 : ((w1.alloc (.cells #[.slice (some ⟨tb, tq, none⟩) T.length tc, .slice (some ⟨ub, uo, none⟩) U.length uc] 26)).alloc (.cells #[.slice (some ⟨ab, ao, none⟩) A.length ac, .slice (some ⟨db, dq, none⟩) D.length dc] 26)).cell? ⟨w1.heap.size, 0, none⟩ = some (.slice (some ⟨tb, tq, none⟩) T.length tc) := by simp [go_sem]
    have k1 : ((w1.alloc (.cells #[.slice (some ⟨tb, tq, none⟩) T.length tc, .slice (some ⟨ub, uo, none⟩) U.length uc] 26)).alloc (.cells #[.slice (some ⟨ab, ao, none⟩) A.length ac, .slice (some ⟨db, dq, none⟩) D.length dc] 26)).cell? ⟨w1.heap.size, 1, none⟩ = some (.slice (some ⟨ub, uo, none⟩) U.length uc) := by simp [go_sem]
    have n0 : ((w1.alloc (.cells #[.slice (some ⟨tb, tq, none⟩) T.length tc, .slice (some ⟨ub, uo, none⟩) U.length uc] 26)).alloc (.cells #[.slice (some ⟨ab, ao, none⟩) A.length ac, .slice (some ⟨db, dq, none⟩) D.length dc] 26)).cell? ⟨w1.heap.size + 1, 0, none⟩ = some (.slice (some ⟨ab, ao, none⟩) A.length ac) := by simp [go_sem]
    have n1 : ((w1.alloc (.cells #[.slice (some ⟨tb, tq, none⟩) T.length tc, .slice (some ⟨ub, uo, none⟩) U.length uc] 26)).alloc (.cells #[.slice (some ⟨ab, ao, none⟩) A.length ac, .slice (some ⟨db, dq, none⟩) D.length dc] 26)).cell? ⟨w1.heap.size + 1, 1, none⟩ = some (.slice (some ⟨db, dq, none⟩) D.length dc) := by simp [go_sem]
    have HV := Lib.hid (hv.ext (hX.trans hxg))
    have HT := Lib.hid (ht.ext hxg)
    have HU := Lib.hid (hu.ext hxg)
    have HA := Lib.hid (ha.ext hxg)
    have HD := Lib.hid (hd.ext hxg)
    have HX := Lib.hid (hX.trans hxg)
    clear hv ht hu ha hd hX hxg
    go_wp2_with fail
    generalize ((w1.alloc (.cells #[.slice (some ⟨tb, tq, none⟩) T.length tc, .slice (some ⟨ub, uo, none⟩) U.length uc] 26)).alloc (.cells #[.slice (some ⟨ab, ao, none⟩) A.length ac, .slice (some ⟨db, dq, none⟩) D.length dc] 26)) = w2 at *
    refine (BraceIsomorphism_impl T U A D _ _ _ _ _ HT.out HU.out HA.out HD.out).mono ?_
    rintro e w3 ⟨pv, rfl, hp, hx⟩
    have HFL := Lib.hid hp.1
    have HP := Lib.hid hp.toR
    clear hp
    obtain ⟨pa, pc, rfl, -⟩ := id HP.out
    have HV := Lib.hid (HV.out.ext hx)
    have HT := Lib.hid (HT.out.ext hx)
    have HU := Lib.hid (HU.out.ext hx)
    have HA := Lib.hid (HA.out.ext hx)
    have HD := Lib.hid (HD.out.ext hx)
    replace k0 := hx.cell k0
    replace k1 := hx.cell k1
    replace n0 := hx.cell n0
    replace n1 := hx.cell n1
    have HX := Lib.hid (HX.out.trans hx)
    clear hx
    go_wp2_with fail
    refine (BraceIsomorphism_spec T U A D _ _ _ _ _ HT.out HU.out HA.out HD.out).mono ?_
    rintro e w4 ⟨qv, rfl, hq, hx⟩
    have HQ := Lib.hid hq
    clear hq
    obtain ⟨qa, qc, rfl, -⟩ := id HQ.out
    have HV := Lib.hid (HV.out.ext hx)
    have HT := Lib.hid (HT.out.ext hx)
    have HU := Lib.hid (HU.out.ext hx)
    have HA := Lib.hid (HA.out.ext hx)
    have HD := Lib.hid (HD.out.ext hx)
    have HP := Lib.hid (HP.out.ext hx)
    replace k0 := hx.cell k0
    replace k1 := hx.cell k1
    replace n0 := hx.cell n0
    replace n1 := hx.cell n1
    have HX := Lib.hid (HX.out.trans hx)
    clear hx
    have HEQ := Lib.hid (show eqIB (bisoV T U A D) (bisoV T U A D) = true from eqIB_yes rfl)
    have HISO := Lib.hid (@iso_first T U A D)
    have HBOTH := Lib.hid (@biso_both T U A D)
    obtain ⟨C, hC⟩ : ∃ C, C = bisoC T U A D := ⟨_, rfl⟩
    rw [← hC] at HISO HBOTH ⊢
    obtain ⟨P, hP⟩ : ∃ P, P = bisoV T U A D := ⟨_, rfl⟩
    rw [← hP] at HISO HP HQ HFL HEQ ⊢
    clear hC hP
    go_wp2_with fail
    refine (likeInts_any _ _ _ _ _ HP.out HQ.out HFL.out).mono ?_
    rintro e w5 ⟨rfl, hdr⟩
    rw [HEQ.out]
    have hx := hdr.ext
    clear hdr
    have HV := Lib.hid (HV.out.ext hx)
    have HT := Lib.hid (HT.out.ext hx)
    have HU := Lib.hid (HU.out.ext hx)
    have HA := Lib.hid (HA.out.ext hx)
    have HD := Lib.hid (HD.out.ext hx)
    have HP := Lib.hid (HP.out.ext hx)
    replace k0 := hx.cell k0
    replace k1 := hx.cell k1
    replace n0 := hx.cell n0
    replace n1 := hx.cell n1
    have HX := Lib.hid (HX.out.trans hx)
    clear hx HQ HEQ
    go_upto_region 8 with fail
    go_cut [79] (fun v wx => v = .bool false ∧ Ext w5 wx)
    case first =>
      by_cases hC0 : C = 0
      case neg =>
        have hCb : (C == 0) = false := beq_eq_false_iff_ne.2 hC0
        go_wp2
        go_quiet (fail)
        go_wp2
        go_meet
        case rel => exact ⟨rfl, (Ext.refl _).drewN _⟩
      case pos =>
        obtain ⟨hb1, hb2, hl, hiso, hp0, hi1, hi2⟩ := HISO.out hC0
        subst hC0
        obtain ⟨gT, gU, hTU⟩ := braceB_ok hb1
        obtain ⟨gA, gD, hAD⟩ := braceB_ok hb2
        have hpl : P.length = T.length := hiso.1
        have HPN := Lib.hid (isoOk_plain.2 ⟨hiso.1, hiso.2.1⟩ : IsoOk T.length [] [] P)
        have HPU := Lib.hid (show IsoOk U.length [] [] P by rw [← hTU]; exact HPN.out)
        obtain ⟨pa', pc', hpe, hpi⟩ := HP.out
        simp only [Value.slice.injEq, true_and] at hpe
        obtain ⟨rfl, rfl⟩ := hpe
        obtain ⟨pb, po, rfl, hpx⟩ := hpi (List.length_pos_iff.1 (by omega))
        have HPI := Lib.hid (hpx.ints HFL.out pc : Ints w5 _ P)
        have p0 := hpx 0 (by omega)
        rw [hp0, Nat.add_zero] at p0
        have HI1 := Lib.hid hi1
        have HI2 := Lib.hid hi2
        have HGT := Lib.hid gT.1
        have HGU := Lib.hid gU.1
        have HGA := Lib.hid gA.1
        have HGD := Lib.hid gD.1
        have HS1 := Lib.hid (imgT_ok gT.1 HPN.out)
        have HS2 := Lib.hid (imgT_ok gU.1 HPU.out)
        have HE1 := Lib.hid (show eqTB (imgT T P) A = true from eqTB_yes hi1)
        have HE2 := Lib.hid (show eqTB (imgT U P) D = true from eqTB_yes hi2)
        have HPLE := Lib.hid hpl
        clear hiso hp0 hi1 hi2 gT gU gA gD hpx hpi hb1 hb2 HISO HBOTH
        have hX : Ext w5 w5.drew := (Ext.refl _).drew
        refine fbReg_ok (T := T) (U := U) (A := A) (D := D) (P := P) (b3 := w1.heap.size) (w5 := w5) _ _ _ _ _ _ _ _ _ _ _ _ _ _ _ _ _ _ _ _ _ _ _ _ _ _ _ _ _ _ _ _ _ _ _ _ _ _ _ _ _ _ _ _ _ _ _ _ _ _ _ _ _ _ _ _ _ _ _ _ _ _ _ _ _ _ _ _ _ _ _ _ _ _ _ _ _ _ _ _ _ _ _ _ _ _ _ _ _ _ _ _ _ _ _ _ _ _ _ _ _ _ _ _ _ _ _ _ _ _ _ _ _ _ _ _ _ _ _ _ _ _ _ _ _ _ _ _ _ _ _ _ _ _ _ _ _ _ _ _ _ _ _ _ _ _ _ _ _ _ _ _ _ _ _ _ _ _ _ _ _ _ _ _ _ _ _ _ _ _ _ _ _ _ _ _ _ _ _ _ _ _ _ _ _ _ _ _ HT HU HA HD HPI HGT HGU HPN HPU HS1 HS2 HE1 HE2 (by omega) k0 k1 n0 n1 p0 ?_
        intro v52 v53 v54 v55 v56 v57 v58 v59 v60 v61 v62 v63 v64 v65 v66 v67 v68 v69 v70 v71 v72 v73 v74 v75 v76 v77 v78 wx hx
        conv => zeta
        go_wp2
        go_meet
        case rel => exact ⟨rfl, hx⟩
    case rest =>
      obtain ⟨rfl, hx⟩ := hcut
      have HV := Lib.hid (HV.out.ext hx)
      have HT := Lib.hid (HT.out.ext hx)
      have HU := Lib.hid (HU.out.ext hx)
      have HA := Lib.hid (HA.out.ext hx)
      have HD := Lib.hid (HD.out.ext hx)
      replace k0 := hx.cell k0
      replace k1 := hx.cell k1
      replace n0 := hx.cell n0
      replace n1 := hx.cell n1
      have HX := Lib.hid (HX.out.trans hx)
      clear hx HP HFL HISO
      go_upto_region 10 with fail
      obtain ⟨w6, rfl⟩ : ∃ z : World, z = wc := ⟨_, rfl⟩
      obtain ⟨bc, hbc⟩ : ∃ bc : Bool, bc = decide ((C = 0 ∨ C = 4) ∧ T.length ≤ 6 ∧ A.length ≤ 6) := ⟨_, rfl⟩
      have HBC := Lib.hid hbc
      clear hbc
      go_cut [97] (fun v wx => v = .bool bc ∧ Ext w6 wx)
      case first =>
        by_cases hC0 : C = 0 ∨ C = 4
        case neg =>
          have hCa : (C == 0) = false := beq_eq_false_iff_ne.2 (fun e => hC0 (.inl e))
          have hCb : (C == 4) = false := beq_eq_false_iff_ne.2 (fun e => hC0 (.inr e))
          go_wp2
          go_meet
          case rel => exact ⟨congrArg Value.bool (HBC.out.trans (decide_eq_false (by omega))).symm, Ext.refl _⟩
        case pos =>
          by_cases ht6 : T.length ≤ 6
          case neg =>
            have hti : ¬ (T.length : Int) ≤ 6 := by omega
            rcases hC0 with rfl | rfl
            all_goals
              go_wp2
              go_meet
              case rel => exact ⟨congrArg Value.bool (HBC.out.trans (decide_eq_false (by omega))).symm, Ext.refl _⟩
          case pos =>
            have hti : (T.length : Int) ≤ 6 := by omega
            by_cases ha6 : A.length ≤ 6
            case neg =>
              have hai : ¬ (A.length : Int) ≤ 6 := by omega
              rcases hC0 with rfl | rfl
              all_goals
                go_wp2
                go_meet
                case rel => exact ⟨congrArg Value.bool (HBC.out.trans (decide_eq_false (by omega))).symm, Ext.refl _⟩
            case pos =>
              have hai : (A.length : Int) ≤ 6 := by omega
              rcases hC0 with rfl | rfl
              all_goals
                go_wp2
                go_meet
                case rel => exact ⟨congrArg Value.bool (HBC.out.trans (decide_eq_true (⟨by simp, ht6, ha6⟩))).symm, Ext.refl _⟩
      case rest =>
        obtain ⟨rfl, hx⟩ := hcut
        have HV := Lib.hid (HV.out.ext hx)
        have HT := Lib.hid (HT.out.ext hx)
        have HU := Lib.hid (HU.out.ext hx)
        have HA := Lib.hid (HA.out.ext hx)
        have HD := Lib.hid (HD.out.ext hx)
        replace k0 := hx.cell k0
        replace k1 := hx.cell k1
        replace n0 := hx.cell n0
        replace n1 := hx.cell n1
        have HX := Lib.hid (HX.out.trans hx)
        clear hx
        go_upto_if 97 with fail
        obtain ⟨w6, rfl⟩ : ∃ z : World, z = wc := ⟨_, rfl⟩
        go_cut [] (fun wx => Ext w6 wx)
        case first =>
          cases bc with
          | false =>
            go_wp2
            go_meet
            case rel => exact Ext.refl _
          | true =>
            obtain ⟨hC0, ht6, ha6⟩ := of_decide_eq_true HBC.out.symm
            obtain ⟨hb1, hb2, hls⟩ := HBOTH.out hC0
            refine fbBlk_ok (T := T) (U := U) (A := A) (D := D) (C := C) (b3 := w1.heap.size) (w6 := w6) _ _ _ _ _ _ _ _ _ _ _ _ _ _ _ _ _ _ _ _ _ _ _ _ _ _ _ _ _ _ _ _ _ _ _ _ _ _ _ _ _ _ _ _ _ _ _ _ _ _ _ _ _ _ _ _ _ _ _ _ _ _ _ _ _ _ _ _ _ _ _ _ _ _ _ _ _ _ _ _ _ _ _ _ _ _ _ _ _ _ _ _ _ _ _ _ _ _ _ _ _ _ _ _ _ _ _ _ _ _ _ _ _ _ _ _ _ _ _ _ _ _ _ _ _ _ _ _ _ _ _ _ _ _ _ _ _ _ _ _ _ _ _ _ _ _ _ _ _ _ _ _ _ _ _ _ _ _ _ _ _ _ _ _ _ _ _ _ _ _ _ _ _ _ _ _ _ _ _ _ _ _ _ _ _ _ _ _ HT HU HA HD k0 k1 n0 n1 hC0 hb1 hb2 hls ht6 ha6 l1 ?_
            intro v9 v10 v11 v12 v13 v14 v15 v16 v98 v99 v100 v101 v102 v103 v104 v105 v106 v107 v108 v109 v110 v111 v112 v113 v114 v115 v116 v117 v118 v119 v120 v121 v122 v123 v124 v125 v126 v127 v128 v129 v130 v131 v132 v133 v134 v135 v136 v137 v138 v139 v140 v141 v142 v143 v144 v145 v146 v147 v148 v149 v150 v151 v152 wx hx
            conv => zeta
            go_wp2
            go_meet
            case rel => exact hx
        case rest =>
          have hx : Ext w6 wc := hcut
          have HV := Lib.hid (HV.out.ext hx)
          have HX := Lib.hid (HX.out.trans hx)
          clear hx hcut k0 k1 n0 n1 HT HU HA HD HBOTH
          go_wp2_with fail
          refine (DrawParseBrace_any bs _ _ HV.out hbl).mono ?_
          rintro e w14 ⟨s, rfl, hs, hx⟩
          have HX := Lib.hid (HX.out.trans hx)
          clear hx HV
          have HI := Lib.hid (fun W (h : W.cell? ⟨0, 0, none⟩ = some (.int .i64 m)) => ParseBrace_impl s m W h hs)
          have HS := Lib.hid (fun W => ParseBrace_spec s W hs)
          have HTX := Lib.hid (fun h => parse_text (l := s.data.toList) h)
          have HPY := Lib.hid (fun h => par_yes (l := s.data.toList) h)
          have HPN := Lib.hid (fun h => par_no (l := s.data.toList) h)
          have HOC := Lib.hid (okP_cut s.data.toList)
          have HSB := Lib.hid (show strB s.data.toList = s from (Lib.mk_data s))
          obtain ⟨Y, hYe⟩ : ∃ Y, Y = parT s.data.toList := ⟨_, rfl⟩
          obtain ⟨Z, hZe⟩ : ∃ Z, Z = parU s.data.toList := ⟨_, rfl⟩
          obtain ⟨E, hEe⟩ : ∃ E, E = parC s.data.toList := ⟨_, rfl⟩
          rw [← hYe, ← hZe, ← hEe] at HI HS HPY HPN
          rw [← hYe, ← hZe] at HTX
          clear hYe hZe hEe
          go_wp2_with fail
          refine (HI.out _ (HX.out.cell HM.out)).mono ?_
          rintro e w15 ⟨fv, fy, rfl, hfo, hx⟩
          have hsm := hfo.small
          obtain ⟨⟨-, fa, fc, rfl, -⟩, ⟨-, fd, fe, rfl, -⟩⟩ := hfo.open
          have HFA := Lib.hid hfo.toR.1
          have HFB := Lib.hid hfo.toR.2
          have HSM := Lib.hid hsm
          clear hfo hsm HI
          have HX := Lib.hid (HX.out.trans hx)
          clear hx
          have hx : Ext w15 (w15.alloc (.cells #[.slice fa Y.length fc, .slice fd Z.length fe] 26)) := (Ext.refl _).alloc _
          have f0 : (w15.alloc (.cells #[.slice fa Y.length fc, .slice fd Z.length fe] 26)).cell? ⟨w15.heap.size, 0, none⟩ = some (.slice fa Y.length fc) := by simp [go_sem]
          have f1 : (w15.alloc (.cells #[.slice fa Y.length fc, .slice fd Z.length fe] 26)).cell? ⟨w15.heap.size, 1, none⟩ = some (.slice fd Z.length fe) := by simp [go_sem]
          have HFA := Lib.hid (HFA.out.ext hx)
          have HFB := Lib.hid (HFB.out.ext hx)
          have HX := Lib.hid (HX.out.trans hx)
          clear hx
          go_wp2_with fail
          generalize (w15.alloc (.cells #[.slice fa Y.length fc, .slice fd Z.length fe] 26)) = w16 at *
          refine (HS.out _).mono ?_
          rintro e w17 ⟨gv, gy, rfl, ⟨hg1, hg2⟩, hx⟩
          obtain ⟨ga, gc, rfl, -⟩ := id hg1
          obtain ⟨gd, ge, rfl, -⟩ := id hg2
          have HG1 := Lib.hid hg1
          have HG2 := Lib.hid hg2
          clear hg1 hg2 HS
          have HFA := Lib.hid (HFA.out.ext hx)
          have HFB := Lib.hid (HFB.out.ext hx)
          replace f0 := hx.cell f0
          replace f1 := hx.cell f1
          have HX := Lib.hid (HX.out.trans hx)
          clear hx
          have hx : Ext w17 (w17.alloc (.cells #[.slice ga Y.length gc, .slice gd Z.length ge] 26)) := (Ext.refl _).alloc _
          have g0 : (w17.alloc (.cells #[.slice ga Y.length gc, .slice gd Z.length ge] 26)).cell? ⟨w17.heap.size, 0, none⟩ = some (.slice ga Y.length gc) := by simp [go_sem]
          have g1 : (w17.alloc (.cells #[.slice ga Y.length gc, .slice gd Z.length ge] 26)).cell? ⟨w17.heap.size, 1, none⟩ = some (.slice gd Z.length ge) := by simp [go_sem]
          have HFA := Lib.hid (HFA.out.ext hx)
          have HFB := Lib.hid (HFB.out.ext hx)
          have HG1 := Lib.hid (HG1.out.ext hx)
          have HG2 := Lib.hid (HG2.out.ext hx)
          replace f0 := hx.cell f0
          replace f1 := hx.cell f1
          have HX := Lib.hid (HX.out.trans hx)
          clear hx
          go_upto_region 20 with fail
          generalize (w17.alloc (.cells #[.slice ga Y.length gc, .slice gd Z.length ge] 26)) = w18 at *
          go_wp2_with fail
          refine (brace9_same Y Z _ _ _ _ _ HFA.out HFB.out HG1.out HG2.out HSM.out.1 HSM.out.2).mono ?_
          rintro e w19 ⟨rfl, hx⟩
          have HFA := Lib.hid (HFA.out.ext hx)
          have HFB := Lib.hid (HFB.out.ext hx)
          replace f0 := hx.cell f0
          replace f1 := hx.cell f1
          have HX := Lib.hid (HX.out.trans hx)
          clear hx g0 g1 HG1 HG2
          cases hok : okPB s.data.toList with
          | false =>
            obtain ⟨rfl, rfl, rfl⟩ := HPN.out hok
            go_wp2
            go_ret
            exact ⟨rfl, HX.out⟩
          | true =>
            obtain ⟨hY1, hZ1, rfl⟩ := HPY.out hok
            have hk := hok
            rw [HOC.out, Bool.and_eq_true, Bool.and_eq_true] at hk
            rw [← hY1, ← hZ1] at hk
            have hkt := braceB_ok hk.2
            have HRA := Lib.hid (rowsR_ok HFA.out hkt.1.1)
            have HRB := Lib.hid (rowsR_ok HFB.out hkt.2.1.1)
            have htx := HTX.out hok
            have hco := codeB_yes hk.2
            have HBT := Lib.hid (fun v y w hv hy => BraceText_impl Y Z v y w hv hy)
            rw [htx, hco, HSB.out] at HBT
            clear hk hkt htx hco hY1 hZ1 HSB HTX HPY HPN HOC HFA HFB
            go_wp2_with fail
            refine (HBT.out _ _ _ HRA.out HRB.out).mono ?_
            rintro e w20 ⟨rfl, hx⟩
            go_wp2
            go_ret
            exact ⟨rfl, HX.out.trans hx⟩
end Go.Proofs.YthlafeefjonkdaaGreatDoor
