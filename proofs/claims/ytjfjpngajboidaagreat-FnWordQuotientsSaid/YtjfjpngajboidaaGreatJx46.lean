/-
  Contract of the reference's l09Quotient.
-/
import Derived.OwnWalk
import Derived.Test.YtjfjpngajboidaaGreatJx35
namespace Go.Proofs.YtjfjpngajboidaaGreat
set_option linter.unusedVariables false
set_option linter.unusedSimpArgs false
open Go.RowKit
open Go.Deep

def BstM (w : World) (B : Option (List Int)) (vb vf : Value) : Prop := match B with
  | none => vf = .bool false ∧ ∃ g, vb = .slice (some ⟨g, 0, none⟩) 0 0
  | some b => vf = .bool true ∧ Ints w vb b
theorem BstM.ext {w w' : World} {B : Option (List Int)} {vb vf : Value} (h : BstM w B vb vf) (hx : Ext w w') : BstM w' B vb vf := by
  cases B with
  | none => exact h
  | some b => exact ⟨h.1, h.2.ext hx⟩
def RetQ (L S : List (List Int)) (p q : List Int) (w : World) (e : Ending) (w' : World) : Prop := ∃ x, e = .returned (.tuple #[x, .bool (dvB L S p q), .int .i64 (dvC L S p q)]) ∧ (dvB L S p q = true → Ints w' x (quV L S p q)) ∧ Ext w w'
theorem retQ_none {L S : List (List Int)} {p q : List Int} {w w' : World} {x : Value} {c : Int} (hb : dvB L S p q = false) (hc : dvC L S p q = c) (hx : Ext w w') : RetQ L S p q w (.returned (.tuple #[x, .bool false, .int .i64 c])) w' := by
  unfold RetQ
  rw [hb, hc]
  exact ⟨x, rfl, (fun h => by cases h), hx⟩
theorem retQ_some {L S : List (List Int)} {p q : List Int} {w w' : World} {x : Value} {c : Int} (hb : dvB L S p q = true) (hc : dvC L S p q = c) (hi : Ints w' x (quV L S p q)) (hx : Ext w w') : RetQ L S p q w (.returned (.tuple #[x, .bool true, .int .i64 c])) w' := by
  unfold RetQ
  rw [hb, hc]
  exact ⟨x, rfl, fun _ => hi, hx⟩

theorem dvB_none {L S : List (List Int)} {p q : List Int} (h : dvC L S p q = 0) (k : (rsS L S p q).head? = none) : dvB L S p q = false := by
  rw [dvB_ok h]
  cases e : rsS L S p q with
  | nil => rfl
  | cons a r => rw [e] at k; cases k
theorem dvB_some {L S : List (List Int)} {p q b : List Int} (h : dvC L S p q = 0) (k : (rsS L S p q).head? = some b) : dvB L S p q = true ∧ quV L S p q = b := by
  have hne : (rsS L S p q).isEmpty = false := by
    cases e : rsS L S p q with
    | nil => rw [e] at k; cases k
    | cons a r => rfl
  refine ⟨by rw [dvB_ok h, hne]; rfl, ?_⟩
  rw [quV_head hne] at k
  exact Option.some.inj k

set_option maxRecDepth 100000 in
set_option maxHeartbeats 4000000 in
theorem l09Quotient_any (L S : List (List Int)) (p q : List Int) (v y u z : Value) (w : World) (hv : Rows w v L) (hy : Rows w y S) (hu : Ints w u p) (hz : Ints w z q) (hc : codeW L S p q = 0) :
    Calls Tryz.prog 28 #[.agg #[v, y], u, z] w (RetQ L S p q w) := by
  obtain ⟨-, b, o, c, rfl, -⟩ := id hv
  obtain ⟨-, b2, o2, c2, rfl, -⟩ := id hy
  obtain ⟨-, b3, o3, c3, rfl, -⟩ := id hu
  obtain ⟨-, b4, o4, c4, rfl, -⟩ := id hz
  have hx0 : Ext w (w.alloc (.cells #[.slice (some ⟨b, o, none⟩) L.length c, .slice (some ⟨b2, o2, none⟩) S.length c2] 26)) := (Ext.refl _).alloc _
  have k0 := cell_new2a w (.slice (some ⟨b, o, none⟩) L.length c) (.slice (some ⟨b2, o2, none⟩) S.length c2) 26
  have k1 := cell_new2b w (.slice (some ⟨b, o, none⟩) L.length c) (.slice (some ⟨b2, o2, none⟩) S.length c2) 26
  obtain ⟨hO, ⟨hp, hp8⟩, hq, hq8⟩ := codeW_zero hc
  have HV := Lib.hid (hv.ext hx0)
  have HY := Lib.hid (hy.ext hx0)
  have HU := Lib.hid (hu.ext hx0)
  have HZ := Lib.hid (hz.ext hx0)
  have HC := Lib.hid hc
  have HO := Lib.hid hO
  have HWP := Lib.hid hp
  have HWQ := Lib.hid hq
  clear hv hy hu hz hc hO hp hq
  go_enter Tryz.func28, Tryz.ntmps28
  go_wp2_with fail
  generalize (w.alloc (.cells #[.slice (some ⟨b, o, none⟩) L.length c, .slice (some ⟨b2, o2, none⟩) S.length c2] 26)) = w1 at *
  refine (l09Class_S L S p 1000 _ _ _ _ HV.out HY.out HU.out HO.out HWP.out (by omega) (by omega) (by omega)).mono ?_
  rintro e w2 ⟨⟨hle, v2, rfl, hr2⟩ | ⟨hgt, rfl⟩, hx2⟩
  case inr =>
    replace k0 := hx2.cell k0
    replace k1 := hx2.cell k1
    go_wp2_with fail
    refine (l09Class_S L S q 1000 _ _ _ _ (HV.out.ext hx2) (HY.out.ext hx2) (HZ.out.ext hx2) HO.out HWQ.out (by omega) (by omega) (by omega)).mono ?_
    have HNC := Lib.hid (dvC_many HC.out (fun h => by omega))
    rintro e w3 ⟨⟨hle3, v3, rfl, hr3⟩ | ⟨hgt3, rfl⟩, hx3⟩
    · go_wp2
      go_ret3
      exact retQ_none (dvB_no (by rw [HNC.out]; decide)) HNC.out ((hx0.trans hx2).trans hx3)
    · go_wp2
      go_ret3
      exact retQ_none (dvB_no (by rw [HNC.out]; decide)) HNC.out ((hx0.trans hx2).trans hx3)
  case inl =>
    replace k0 := hx2.cell k0
    replace k1 := hx2.cell k1
    go_wp2_with fail
    refine (l09Class_S L S q 1000 _ _ _ _ (HV.out.ext hx2) (HY.out.ext hx2) (HZ.out.ext hx2) HO.out HWQ.out (by omega) (by omega) (by omega)).mono ?_
    rintro e w3 ⟨⟨hle3, v3, rfl, hr3⟩ | ⟨hgt3, rfl⟩, hx3⟩
    case inr =>
      have HNC := Lib.hid (dvC_many HC.out (fun h => by omega))
      go_wp2
      go_ret3
      exact retQ_none (dvB_no (by rw [HNC.out]; decide)) HNC.out ((hx0.trans hx2).trans hx3)
    case inl =>
      have HDC := Lib.hid (dvC_ok HC.out hle hle3)
      obtain ⟨-, g2, cg2, rfl, -⟩ := id hr2
      obtain ⟨-, g3, cg3, rfl, -⟩ := id hr3
      have HR2 := Lib.hid (hr2.rows.ext hx3)
      have HR3 := Lib.hid hr3
      have HX3 := Lib.hid ((hx0.trans hx2).trans hx3)
      have HU := Lib.hid ((HU.out.ext hx2).ext hx3)
      have hN3 : (clS L S q).length ≤ 1000 := hle3
      clear hr2 hr3 hx2 hx3 hx0 k0 k1 hle hle3
      go_wp2_with fail
      go_loopw [13, 14, 15] (fun vb vf vi wr => ∃ i : Nat, i ≤ (clS L S q).length ∧ vi = .int .i64 i ∧ BstM wr (bstS L S p ((clS L S q).take i)) vb vf ∧ (i = 0 ∨ p.length ≤ q.length) ∧ Ext w3 wr) (fun _ _ x _ => (clS L S q).length - (intOf x).toNat)
      case atStart => exact ⟨0, Nat.zero_le _, rfl, by rw [List.take_zero, bstS_nil]; exact ⟨rfl, _, rfl⟩, .inl rfl, (Ext.refl _).alloc _⟩
      case round =>
        obtain ⟨i, hi, rfl, hB, hi0, hx⟩ := hrel
        have HX := Lib.hid hx
        clear hx
        by_cases hil : i < (clS L S q).length
        case neg =>
          have hii : i = (clS L S q).length := by omega
          have hle : p.length ≤ q.length := by
            have := clS_pos HO.out HWQ.out
            omega
          rw [List.take_of_length_le (by omega), bstS_all HO.out HWP.out HWQ.out hle] at hB
          have hki : ¬ (i : Int) < ((clS L S q).length : Int) := by omega
          clear hii hle hil hi0
          cases hr : (rsS L S p q).head? with
          | none =>
            rw [hr] at hB
            obtain ⟨rfl, gz, rfl⟩ := hB
            have HNO := Lib.hid (dvB_none HDC.out hr)
            clear hr
            go_wp2
            go_ret3
            exact retQ_none HNO.out HDC.out (HX3.out.trans HX.out)
          | some bb =>
            rw [hr] at hB
            obtain ⟨rfl, hbb⟩ := hB
            have HYES := Lib.hid (dvB_some HDC.out hr)
            have HBB := Lib.hid hbb
            clear hr hbb
            go_wp2
            go_ret3
            exact retQ_some HYES.out.1 HDC.out (by rw [HYES.out.2]; exact HBB.out) (HX3.out.trans HX.out)
        case pos =>
          have hki : (i : Int) < ((clS L S q).length : Int) := by omega
          by_cases hle : p.length ≤ q.length
          case neg =>
            have hlei : ¬ (p.length : Int) ≤ (q.length : Int) := by omega
            have hi1 : i = 0 := by omega
            subst hi1
            rw [List.take_zero, bstS_nil] at hB
            obtain ⟨rfl, gz, rfl⟩ := hB
            have HNO := Lib.hid (dvB_none HDC.out (by rw [rsS_long HO.out HWQ.out (by omega)]; rfl))
            clear hi0
            go_wp2
            go_ret3
            exact retQ_none HNO.out HDC.out (HX3.out.trans HX.out)
          case pos =>
            have hlei : (p.length : Int) ≤ (q.length : Int) := by omega
            clear hi0
            obtain ⟨b5, d5, r5, q5, -, -, i5, m5⟩ := (HR3.out.ext HX.out).get hil
            obtain ⟨hxw, hxl⟩ := clS_word HO.out HWQ.out (clS_row HO.out HWQ.out hil)
            have HTK := Lib.hid (show (clS L S q).take (i + 1) = (clS L S q).take i ++ [row (clS L S q) i] from take_row _ i hil)
            obtain ⟨x, hxe⟩ : ∃ x, x = row (clS L S q) i := ⟨_, rfl⟩
            rw [← hxe] at r5 q5 i5 m5 hxw hxl HTK
            have hpx : p.length ≤ x.length := by omega
            have I5 := Lib.hid i5
            have HB := Lib.hid hB
            have HF := Lib.hid (intsW_take (c := d5) i5 m5 hpx)
            have HD := Lib.hid (intsW_drop (c := d5 - p.length) i5 m5 hpx)
            have hpd : p.length ≤ d5 := by omega
            have hpdi : (p.length : Int) ≤ (d5 : Int) := by omega
            have hpxi : (p.length : Int) ≤ (x.length : Int) := by omega
            have HXL := Lib.hid hxl
            clear hxe hxw i5 hB hxl
            go_wp2_with fail
            refine (l09Find_any (clS L S p) (x.take p.length) _ _ _ (HR2.out.ext HX.out) HF.out).mono ?_
            rintro e w5 ⟨rfl, hd5⟩
            have HX5 := Lib.hid (HX.out.trans hd5.ext)
            have HD := Lib.hid (HD.out.ext hd5.ext)
            have HB := Lib.hid (HB.out.ext hd5.ext)
            have r5' := hd5.ext.cell r5
            clear hd5
            cases hin : decide (x.take p.length ∈ clS L S p) with
            | false =>
              have HNX := Lib.hid (bstS_no (l := (clS L S q).take i) (of_decide_eq_false hin))
              clear hin
              go_wp2
              go_roundw
              case rel => exact ⟨i + 1, by omega, by go_num, by rw [HTK.out, HNX.out]; exact HB.out, .inr hle, HX5.out⟩
              case measure => simp [intOf]; omega
            | true =>
              have HNX := Lib.hid (bstS_yes (l := (clS L S q).take i) (of_decide_eq_true hin))
              clear hin
              have hnil : d5 = p.length → x.drop p.length = [] := fun e => List.drop_eq_nil_of_le (by have := HXL.out; omega)
              go_upto_region 10 with fail
              go_cut [16] (fun v wx => Ints w5 v (x.drop p.length) ∧ wx = w5)
              case first =>
                by_cases hd : d5 = p.length
                · have HNIL := Lib.hid (hnil hd)
                  have HXP := Lib.hid (show x.length = p.length by omega)
                  subst hd
                  clear hnil
                  go_wp2
                  go_meet
                  case rel => exact ⟨by rw [HNIL.out]; exact ⟨by simp, b5, 0, 0, rfl, fun i hi => by simp at hi⟩, by first | rfl | trivial⟩
                · clear hnil
                  go_wp2
                  go_meet
                  case rel => exact ⟨by first | exact HD.out | (have := HD.out; simpa using this), by first | rfl | trivial⟩
              case rest =>
                obtain ⟨hrest, rfl⟩ := hcut
                have HREST := Lib.hid hrest
                clear hrest hnil
                obtain ⟨B, hBe⟩ : ∃ B, B = bstS L S p ((clS L S q).take i) := ⟨_, rfl⟩
                rw [← hBe] at HB HNX
                clear hBe
                have hBM := HB.out
                cases B with
                | none =>
                  obtain ⟨rfl, gz, rfl⟩ := hBM
                  go_wp2_with fail
                  refine (l01Own_any (x.drop p.length) _ _ HREST.out).mono ?_
                  rintro e w6 ⟨b6, c6, rfl, ho6, hx6⟩
                  have HI6 := Lib.hid (show Ints w6 (.slice (some ⟨b6, 0, none⟩) (x.drop p.length).length c6) (x.drop p.length) from ⟨by rw [List.length_drop]; omega, b6, 0, c6, rfl, ho6.2.2.1⟩)
                  have HX6 := Lib.hid (HX5.out.trans hx6)
                  clear ho6 hx6
                  go_wp2
                  go_roundw
                  case rel => exact ⟨i + 1, by omega, by go_num, by rw [HTK.out, HNX.out, stepB_none]; exact ⟨rfl, by first | exact HI6.out | (have := HI6.out; simpa using this)⟩, .inr hle, HX6.out⟩
                  case measure => simp [intOf]; omega
                | some bb =>
                  obtain ⟨rfl, hbb⟩ := hBM
                  have HBB := Lib.hid hbb
                  clear hbb
                  cases hls : lessB (x.drop p.length) bb with
                  | false =>
                    have HST := Lib.hid (stepB_keep hls)
                    go_wp2_with fail
                    refine (l01Less_any (x.drop p.length) bb _ _ _ HREST.out HBB.out).mono ?_
                    rintro e w6 ⟨rfl, hd6⟩
                    rw [hls]
                    have HX6 := Lib.hid (HX5.out.trans hd6.ext)
                    have HB6 := Lib.hid (HBB.out.ext hd6.ext)
                    clear hd6 hls
                    go_wp2
                    go_roundw
                    case rel => exact ⟨i + 1, by omega, by go_num, by rw [HTK.out, HNX.out, HST.out]; exact ⟨rfl, HB6.out⟩, .inr hle, HX6.out⟩
                    case measure => simp [intOf]; omega
                  | true =>
                    have HST := Lib.hid (stepB_less hls)
                    go_wp2_with fail
                    refine (l01Less_any (x.drop p.length) bb _ _ _ HREST.out HBB.out).mono ?_
                    rintro e w6 ⟨rfl, hd6⟩
                    rw [hls]
                    have HX6 := Lib.hid (HX5.out.trans hd6.ext)
                    have HRE6 := Lib.hid (HREST.out.ext hd6.ext)
                    clear hd6 hls
                    go_wp2_with fail
                    refine (l01Own_any (x.drop p.length) _ _ HRE6.out).mono ?_
                    rintro e w7 ⟨b6, c6, rfl, ho6, hx6⟩
                    have HI6 := Lib.hid (show Ints w7 (.slice (some ⟨b6, 0, none⟩) (x.drop p.length).length c6) (x.drop p.length) from ⟨by rw [List.length_drop]; omega, b6, 0, c6, rfl, ho6.2.2.1⟩)
                    have HX7 := Lib.hid (HX6.out.trans hx6)
                    clear ho6 hx6
                    go_wp2
                    go_roundw
                    case rel => exact ⟨i + 1, by omega, by go_num, by rw [HTK.out, HNX.out, HST.out]; exact ⟨rfl, by first | exact HI6.out | (have := HI6.out; simpa using this)⟩, .inr hle, HX7.out⟩
                    case measure => simp [intOf]; omega
end Go.Proofs.YtjfjpngajboidaaGreat


namespace Go.Proofs.YtjfjpngajboidaaGreat
set_option linter.unusedVariables false
set_option linter.unusedSimpArgs false
open Go.RowKit
open Go.Deep

def RetDv (L S : List (List Int)) (p q : List Int) (w : World) (e : Ending) (w' : World) : Prop := e = .returned (.tuple #[.bool (dvB L S p q), .int .i64 (dvC L S p q)]) ∧ Ext w w'
theorem retDv_bad {L S : List (List Int)} {p q : List Int} {w w' : World} (hc : codeW L S p q ≠ 0) (hx : Ext w w') : RetDv L S p q w (.returned (.tuple #[.bool false, .int .i64 (codeW L S p q)])) w' := by
  unfold RetDv
  rw [dvB_no (by rw [dvC_bad hc]; exact hc), dvC_bad hc]
  exact ⟨rfl, hx⟩

set_option maxRecDepth 100000 in
set_option maxHeartbeats 1000000 in
theorem DividesWord_any (L S : List (List Int)) (p q : List Int) (v y u z : Value) (w : World) (hv : Rows w v L) (hy : Rows w y S) (hu : Ints w u p) (hz : Ints w z q) :
    Calls Tryz.prog 10 #[.agg #[v, y], u, z] w (RetDv L S p q w) := by
  obtain ⟨-, b, o, c, rfl, -⟩ := id hv
  obtain ⟨-, b2, o2, c2, rfl, -⟩ := id hy
  have hx0 : Ext w (w.alloc (.cells #[.slice (some ⟨b, o, none⟩) L.length c, .slice (some ⟨b2, o2, none⟩) S.length c2] 26)) := (Ext.refl _).alloc _
  have k0 := cell_new2a w (.slice (some ⟨b, o, none⟩) L.length c) (.slice (some ⟨b2, o2, none⟩) S.length c2) 26
  have k1 := cell_new2b w (.slice (some ⟨b, o, none⟩) L.length c) (.slice (some ⟨b2, o2, none⟩) S.length c2) 26
  have HV := Lib.hid (hv.ext hx0)
  have HY := Lib.hid (hy.ext hx0)
  have HU := Lib.hid (hu.ext hx0)
  have HZ := Lib.hid (hz.ext hx0)
  clear hv hy hu hz
  go_enter Tryz.func10, Tryz.ntmps10
  go_wp2_with fail
  generalize (w.alloc (.cells #[.slice (some ⟨b, o, none⟩) L.length c, .slice (some ⟨b2, o2, none⟩) S.length c2] 26)) = w1 at *
  refine (l09Code_any L S p q _ _ _ _ _ HV.out HY.out HU.out HZ.out).mono ?_
  rintro e w2 ⟨rfl, hx⟩
  replace k0 := hx.cell k0
  replace k1 := hx.cell k1
  by_cases hc : codeW L S p q = 0
  case neg =>
    go_wp2_with fail
    go_ret2
    exact retDv_bad hc (hx0.trans hx)
  case pos =>
    have HC := Lib.hid hc
    rw [hc]
    clear hc
    go_wp2_with fail
    refine (l09Quotient_any L S p q _ _ _ _ _ (HV.out.ext hx) (HY.out.ext hx) (HU.out.ext hx) (HZ.out.ext hx) HC.out).mono ?_
    rintro e w3 ⟨x3, rfl, -, hx3⟩
    go_wp2
    go_ret2
    exact ⟨rfl, (hx0.trans hx).trans hx3⟩

set_option maxRecDepth 100000 in
set_option maxHeartbeats 1000000 in
theorem QuotientWord_any (L S : List (List Int)) (p q : List Int) (v y u z : Value) (w : World) (hv : Rows w v L) (hy : Rows w y S) (hu : Ints w u p) (hz : Ints w z q) :
    Calls Tryz.prog 8 #[.agg #[v, y], u, z] w (RetW (quC L S p q) (quV L S p q) w) := by
  obtain ⟨-, b, o, c, rfl, -⟩ := id hv
  obtain ⟨-, b2, o2, c2, rfl, -⟩ := id hy
  have hx0 : Ext w (w.alloc (.cells #[.slice (some ⟨b, o, none⟩) L.length c, .slice (some ⟨b2, o2, none⟩) S.length c2] 26)) := (Ext.refl _).alloc _
  have k0 := cell_new2a w (.slice (some ⟨b, o, none⟩) L.length c) (.slice (some ⟨b2, o2, none⟩) S.length c2) 26
  have k1 := cell_new2b w (.slice (some ⟨b, o, none⟩) L.length c) (.slice (some ⟨b2, o2, none⟩) S.length c2) 26
  have HV := Lib.hid (hv.ext hx0)
  have HY := Lib.hid (hy.ext hx0)
  have HU := Lib.hid (hu.ext hx0)
  have HZ := Lib.hid (hz.ext hx0)
  clear hv hy hu hz
  go_enter Tryz.func8, Tryz.ntmps8
  go_wp2_with fail
  generalize (w.alloc (.cells #[.slice (some ⟨b, o, none⟩) L.length c, .slice (some ⟨b2, o2, none⟩) S.length c2] 26)) = w1 at *
  refine (l09Code_any L S p q _ _ _ _ _ HV.out HY.out HU.out HZ.out).mono ?_
  rintro e w2 ⟨rfl, hx⟩
  replace k0 := hx.cell k0
  replace k1 := hx.cell k1
  by_cases hc : codeW L S p q = 0
  case neg =>
    have HQ := Lib.hid (show quC L S p q = codeW L S p q by rw [quC_bad (by rw [dvC_bad hc]; exact hc), dvC_bad hc])
    go_wp2_with fail
    go_ret2
    exact retW_bad (by rw [HQ.out]; exact hc) HQ.out.symm (hx0.trans hx)
  case pos =>
    have HC := Lib.hid hc
    rw [hc]
    clear hc
    go_wp2_with fail
    refine (l09Quotient_any L S p q _ _ _ _ _ (HV.out.ext hx) (HY.out.ext hx) (HU.out.ext hx) (HZ.out.ext hx) HC.out).mono ?_
    rintro e w3 ⟨x3, rfl, hi3, hx3⟩
    have HX := Lib.hid ((hx0.trans hx).trans hx3)
    replace k0 := hx3.cell k0
    replace k1 := hx3.cell k1
    by_cases hd : dvC L S p q = 0
    case neg =>
      have HQ := Lib.hid (quC_bad hd)
      clear hi3
      go_wp2
      go_ret2
      exact retW_bad (by rw [HQ.out]; exact hd) HQ.out.symm HX.out
    case pos =>
      have HD := Lib.hid hd
      rw [hd]
      clear hd
      cases hb : dvB L S p q with
      | false =>
        have HQ := Lib.hid (show quC L S p q = 4 from quC_no HD.out (by rw [dvB_ok HD.out] at hb; simpa using hb))
        clear hi3 hb
        go_wp2
        go_ret2
        exact retW_bad (by rw [HQ.out]; decide) HQ.out.symm HX.out
      | true =>
        have hne : (rsS L S p q).isEmpty = false := by rw [dvB_ok HD.out] at hb; simpa using hb
        have HQ := Lib.hid (quC_ok HD.out hne)
        obtain ⟨hO, -, hq, hq8⟩ := codeW_zero HC.out
        obtain ⟨e1, e2, e3⟩ := rest_nf hO hq (quV_head hne)
        have HNF := Lib.hid e1
        have HCQ := Lib.hid (clsC_part hO hq hq8 e3 (dvC_zero HD.out).2.2).2
        have HI := Lib.hid (hi3 hb)
        have HV := Lib.hid ((HV.out.ext hx).ext hx3)
        have HY := Lib.hid ((HY.out.ext hx).ext hx3)
        clear hi3 hb hne e1 e2 e3 hO hq
        go_wp2_with fail
        refine (NormalWord_any L S (quV L S p q) _ _ _ _ HV.out HY.out HI.out).mono ?_
        rintro e w4 ⟨x4, rfl, h4, -, hx4⟩
        rw [HCQ.out, HNF.out] at *
        have H4 := Lib.hid (h4 rfl)
        clear h4
        go_wp2
        go_ret2
        exact ⟨x4, by rw [HQ.out]; rfl, fun _ => H4.out.mono (Below.size HX.out) fun _ _ _ h => h, fun h => absurd HQ.out h, HX.out.trans hx4⟩
end Go.Proofs.YtjfjpngajboidaaGreat
