/-
  Contract of the reference's l09Quotient.
-/
import Derived.OwnWalk
import Derived.Test.YtjfjpngajboidaaGreatKx45
namespace Go.Proofs.YtjfjpngajboidaaGreat
set_option linter.unusedVariables false
set_option linter.unusedSimpArgs false
open Go.RowKit
open Go.Deep

def BstM (w : World) (B : Option (List Int)) (vb vf : Value) : Prop := match B with
  | none => vf = .bool false ∧ ∃ g, vb = .slice (some ⟨g, 0, none⟩) 0 0
  | some b => vf = .bool true ∧ Ints w vb b
theorem BstM.ext {w w' : World} {B : Option (List Int)} {vb vf : Value} (h : BstM w B vb vf) (hx : Ext w w') : BstM w' B vb vf := by
  cases B with
  | none => exact h
  | some b => exact ⟨h.1, h.2.ext hx⟩
end Go.Proofs.YtjfjpngajboidaaGreat


namespace Go.Proofs.YtjfjpngajboidaaGreat
set_option linter.unusedVariables false
set_option linter.unusedSimpArgs false
open Go.RowKit
open Go.Deep

@[irreducible] noncomputable def wordsB (n : Nat) (t : List (List Int)) : Bool := t.all (wordB n)
theorem wordsB_one (n : Nat) (p : List Int) : wordsB n [p] = wordB n p := by unfold wordsB; simp
theorem wordsB_two (n : Nat) (p q : List Int) : wordsB n [p, q] = (wordB n p && wordB n q) := by unfold wordsB; simp
theorem wordsB_no {n : Nat} {t : List (List Int)} {i : Nat} (hi : i < t.length) (h : wordB n (row t i) = false) : wordsB n t = false := by
  unfold wordsB
  rw [List.all_eq_false]
  refine ⟨row t i, ?_, by rw [h]; simp⟩
  rw [row_eq, List.getD_eq_getElem?_getD, List.getElem?_eq_getElem hi]; exact List.getElem_mem hi
theorem wordsB_yes {n : Nat} {t : List (List Int)} (h : ∀ i, i < t.length → wordB n (row t i) = true) : wordsB n t = true := by
  unfold wordsB
  rw [List.all_eq_true]
  intro x hx
  obtain ⟨i, hi, rfl⟩ := List.mem_iff_getElem.1 hx
  have := h i hi
  rwa [row_eq, List.getD_eq_getElem?_getD, List.getElem?_eq_getElem hi] at this
theorem wordB_long {n : Nat} {l : List Int} (h : 8 < l.length) : wordB n l = false := wordB_no.2 fun ⟨_, k⟩ => by omega
theorem wordB_all {n : Nat} {l : List Int} (h : l.length ≤ 8) : wordB n l = allInB l 0 ((n : Int) - 1) := by
  rw [Bool.eq_iff_iff, wordB_iff, allInB_iff]
  constructor
  · rintro ⟨h1, -⟩ i hi
    have := h1 i hi
    omega
  · intro h1
    refine ⟨fun i hi => ?_, h⟩
    have := h1 i hi
    omega
@[irreducible] noncomputable def codeA (L S : List (List Int)) (t : List (List Int)) : Int := if solB L S then (if wordsB L.length t then 0 else 2) else 1
theorem codeA_bad {L S t : List (List Int)} (h : solB L S = false) : codeA L S t = 1 := by unfold codeA; rw [h]; rfl
theorem codeA_out {L S t : List (List Int)} (h : solB L S = true) (k : wordsB L.length t = false) : codeA L S t = 2 := by unfold codeA; rw [h, k]; rfl
theorem codeA_ok {L S t : List (List Int)} (h : solB L S = true) (k : wordsB L.length t = true) : codeA L S t = 0 := by unfold codeA; rw [h, k]; rfl
theorem codeA_two (L S : List (List Int)) (p q : List Int) : codeA L S [p, q] = codeW L S p q := by unfold codeA codeW; rw [wordsB_two]
theorem codeA_one (L S : List (List Int)) (p : List Int) : codeA L S [p] = codeW L S p p := by unfold codeA codeW; rw [wordsB_one, Bool.and_self]

set_option maxRecDepth 100000 in
set_option maxHeartbeats 1000000 in
theorem checkWords_any (L S t : List (List Int)) (v y z : Value) (w : World) (hv : Rows w v L) (hy : Rows w y S) (hz : Rows w z t) :
    Calls Tryz.prog 30 #[.agg #[v, y], z] w fun e w' => e = .returned (.int .i64 (codeA L S t)) ∧ Ext w w' := by
  obtain ⟨hll, b, o, c, rfl, -⟩ := id hv
  obtain ⟨-, b2, o2, c2, rfl, -⟩ := id hy
  obtain ⟨htl, b3, o3, c3, rfl, -⟩ := id hz
  have hx0 : Ext w (w.alloc (.cells #[.slice (some ⟨b, o, none⟩) L.length c, .slice (some ⟨b2, o2, none⟩) S.length c2] 26)) := (Ext.refl _).alloc _
  have k0 := cell_new2a w (.slice (some ⟨b, o, none⟩) L.length c) (.slice (some ⟨b2, o2, none⟩) S.length c2) 26
  have k1 := cell_new2b w (.slice (some ⟨b, o, none⟩) L.length c) (.slice (some ⟨b2, o2, none⟩) S.length c2) 26
  have HV := Lib.hid (hv.ext hx0)
  have HY := Lib.hid (hy.ext hx0)
  have HZ := Lib.hid (hz.ext hx0)
  clear hv hy hz
  go_enter Tryz.func30, Tryz.ntmps30
  go_wp2_with fail
  generalize (w.alloc (.cells #[.slice (some ⟨b, o, none⟩) L.length c, .slice (some ⟨b2, o2, none⟩) S.length c2] 26)) = w1 at *
  refine (IsSolution_any L S _ _ _ HV.out HY.out).mono ?_
  rintro e w2 ⟨rfl, hx⟩
  replace k0 := hx.cell k0
  replace k1 := hx.cell k1
  have HZ := Lib.hid (HZ.out.ext hx)
  cases hs : solB L S with
  | false =>
    have HC := Lib.hid (codeA_bad (t := t) hs)
    clear hs
    go_wp2
    go_ret
    exact ⟨by rw [HC.out]; rfl, hx0.trans hx⟩
  | true =>
    have HS := Lib.hid hs
    have HXX := Lib.hid (hx0.trans hx)
    have h12 := (solB_iff.1 hs).l.2.1
    clear hs hx hx0
    go_wp2_with fail
    go_loopw [12] (fun x wr => ∃ i : Nat, i ≤ t.length ∧ x = .int .i64 i ∧ (∀ j, j < i → wordB L.length (row t j) = true) ∧ Ext w2 wr) (fun x _ => t.length - (intOf x).toNat)
    case atStart => exact ⟨0, Nat.zero_le _, rfl, fun j hj => by omega, Ext.refl _⟩
    case round =>
      obtain ⟨i, hi, rfl, hok, hx⟩ := hrel
      have HOK := Lib.hid hok
      have HX := Lib.hid hx
      have k0 := hx.cell k0
      have k1 := hx.cell k1
      clear hok hx
      by_cases hil : i < t.length
      case neg =>
        have hii : ¬ (i : Int) < (t.length : Int) := by omega
        have HC := Lib.hid (codeA_ok HS.out (wordsB_yes fun j hj => HOK.out j (by omega)))
        go_wp2
        go_ret
        exact ⟨by rw [HC.out]; rfl, HXX.out.trans HX.out⟩
      case pos =>
        have hii : (i : Int) < (t.length : Int) := by omega
        obtain ⟨-, b4, o4, c4, he4, hc4⟩ := HZ.out.ext HX.out
        simp only [Value.slice.injEq, Option.some.injEq, Addr.mk.injEq, and_true, true_and] at he4
        obtain ⟨⟨rfl, rfl⟩, rfl⟩ := he4
        obtain ⟨b5, o5, c5, r5, i5, m5⟩ := hc4.get hil
        have I5 := Lib.hid (i5.ints m5 c5)
        clear i5 hc4
        by_cases h8 : (row t i).length ≤ 8
        case neg =>
          have h8i : (8 : Int) < ((row t i).length : Int) := by omega
          have HC := Lib.hid (codeA_out (t := t) HS.out (wordsB_no hil (wordB_long (by omega))))
          go_wp2
          go_ret
          exact ⟨by rw [HC.out]; rfl, HXX.out.trans HX.out⟩
        case pos =>
          have h8i : ¬ (8 : Int) < ((row t i).length : Int) := by omega
          have HWA := Lib.hid (wordB_all (n := L.length) h8)
          go_wp2_with fail
          refine (areElements_any L.length (row t i) _ _ I5.out (by omega)).mono ?_
          rintro e w5 ⟨rfl, rfl⟩
          cases hb : allInB (row t i) 0 ((L.length : Int) - 1) with
          | false =>
            have HC := Lib.hid (codeA_out (t := t) HS.out (wordsB_no hil (by rw [HWA.out]; exact hb)))
            clear hb
            go_wp2
            go_ret
            exact ⟨by rw [HC.out]; rfl, HXX.out.trans HX.out⟩
          | true =>
            have HWB := Lib.hid (show wordB L.length (row t i) = true by rw [HWA.out]; exact hb)
            clear hb
            go_wp2
            go_roundw
            case rel => exact ⟨i + 1, by omega, by go_num, fun j hj => by
              by_cases e : j = i
              · subst e; exact HWB.out
              · exact HOK.out j (by omega), HX.out⟩
            case measure => simp [intOf]; omega

@[irreducible] noncomputable def limC (L S : List (List Int)) (p : List Int) : Int := if (clS L S p).length ≤ 1000 then 0 else 3
theorem limC_ok {L S : List (List Int)} {p : List Int} (h : (clS L S p).length ≤ 1000) : limC L S p = 0 := by unfold limC; rw [if_pos h]
theorem limC_many {L S : List (List Int)} {p : List Int} (h : 1000 < (clS L S p).length) : limC L S p = 3 := by unfold limC; rw [if_neg (by omega)]
theorem limC_zero {L S : List (List Int)} {p : List Int} (h : limC L S p = 0) : (clS L S p).length ≤ 1000 := by
  by_cases k : (clS L S p).length ≤ 1000
  · exact k
  · rw [limC_many (by omega)] at h; cases h

set_option maxRecDepth 100000 in
set_option maxHeartbeats 1000000 in
theorem limitedClass_any (L S : List (List Int)) (p : List Int) (v y u : Value) (w : World) (hv : Rows w v L) (hy : Rows w y S) (hu : Ints w u p) (hO : SolOk L S) (hp : WordOk L.length p) (hp8 : p.length ≤ 8) :
    Calls Tryz.prog 31 #[.agg #[v, y], u] w (RetL (limC L S p) (clS L S p) w) := by
  obtain ⟨-, b, o, c, rfl, -⟩ := id hv
  obtain ⟨-, b2, o2, c2, rfl, -⟩ := id hy
  have hx0 : Ext w (w.alloc (.cells #[.slice (some ⟨b, o, none⟩) L.length c, .slice (some ⟨b2, o2, none⟩) S.length c2] 26)) := (Ext.refl _).alloc _
  have k0 := cell_new2a w (.slice (some ⟨b, o, none⟩) L.length c) (.slice (some ⟨b2, o2, none⟩) S.length c2) 26
  have k1 := cell_new2b w (.slice (some ⟨b, o, none⟩) L.length c) (.slice (some ⟨b2, o2, none⟩) S.length c2) 26
  have HV := Lib.hid (hv.ext hx0)
  have HY := Lib.hid (hy.ext hx0)
  have HU := Lib.hid (hu.ext hx0)
  have HO := Lib.hid hO
  have HP := Lib.hid hp
  clear hv hy hu hO hp
  go_enter Tryz.func31, Tryz.ntmps31
  go_wp2_with fail
  generalize (w.alloc (.cells #[.slice (some ⟨b, o, none⟩) L.length c, .slice (some ⟨b2, o2, none⟩) S.length c2] 26)) = w1 at *
  refine (wordClass_any L S p 1000 _ _ _ _ HV.out HY.out HU.out HO.out HP.out (by omega) (by omega) (by omega)).mono ?_
  rintro e w3 ⟨⟨hle, v3, rfl, hr3⟩ | ⟨hgt, rfl⟩, hx3⟩
  · have HC := Lib.hid (limC_ok hle)
    go_wp2
    go_ret2
    exact ⟨v3, by rw [HC.out]; rfl, fun _ => hr3.low (Below.size hx0), fun h => absurd HC.out h, hx0.trans hx3⟩
  · have HC := Lib.hid (limC_many hgt)
    go_wp2
    go_ret2
    exact retL_bad (by rw [HC.out]; decide) HC.out.symm (hx0.trans hx3)

set_option maxRecDepth 100000 in
set_option maxHeartbeats 1000000 in
theorem normalWord_any (L S : List (List Int)) (p : List Int) (v y u : Value) (w : World) (hv : Rows w v L) (hy : Rows w y S) (hu : Ints w u p) (hO : SolOk L S) (hp : WordOk L.length p) (hp8 : p.length ≤ 8) :
    Calls Tryz.prog 37 #[.agg #[v, y], u] w (RetW (limC L S p) (nfS L S p) w) := by
  obtain ⟨-, b, o, c, rfl, -⟩ := id hv
  obtain ⟨-, b2, o2, c2, rfl, -⟩ := id hy
  have hx0 : Ext w (w.alloc (.cells #[.slice (some ⟨b, o, none⟩) L.length c, .slice (some ⟨b2, o2, none⟩) S.length c2] 26)) := (Ext.refl _).alloc _
  have k0 := cell_new2a w (.slice (some ⟨b, o, none⟩) L.length c) (.slice (some ⟨b2, o2, none⟩) S.length c2) 26
  have k1 := cell_new2b w (.slice (some ⟨b, o, none⟩) L.length c) (.slice (some ⟨b2, o2, none⟩) S.length c2) 26
  have HV := Lib.hid (hv.ext hx0)
  have HY := Lib.hid (hy.ext hx0)
  have HU := Lib.hid (hu.ext hx0)
  have HO := Lib.hid hO
  have HP := Lib.hid hp
  clear hv hy hu hO hp
  go_enter Tryz.func37, Tryz.ntmps37
  go_wp2_with fail
  generalize (w.alloc (.cells #[.slice (some ⟨b, o, none⟩) L.length c, .slice (some ⟨b2, o2, none⟩) S.length c2] 26)) = w1 at *
  refine (limitedClass_any L S p _ _ _ _ HV.out HY.out HU.out HO.out HP.out hp8).mono ?_
  rintro e w2 ⟨v2, rfl, h1, h2, hx⟩
  by_cases hc : limC L S p = 0
  case neg =>
    go_wp2
    go_ret2
    exact retW_bad hc rfl (hx0.trans hx)
  case pos =>
    have hr := h1 hc
    obtain ⟨-, g3, c3, rfl, -⟩ := id hr
    have hpos := clS_pos HO.out HP.out
    obtain ⟨b4, c4, r4, q4, l4, z4, i4, m4⟩ := hr.get hpos
    have I4 := Lib.hid (show RK w.heap.size (fun _ => False) w2 (.slice (some ⟨b4, 0, none⟩) (row (clS L S p) 0).length c4) (row (clS L S p) 0) from ⟨m4, b4, c4, rfl, q4, by have := Below.size hx0; omega, z4, fun h => h, i4⟩)
    have HNF := Lib.hid (nfS_row HO.out HP.out)
    have HC := Lib.hid hc
    rw [hc]
    clear hc h1 h2 hr q4 i4
    go_wp2
    go_ret2
    exact ⟨_, by rw [HC.out]; rfl, fun _ => by rw [HNF.out]; exact I4.out, fun h => absurd HC.out h, hx0.trans hx⟩
end Go.Proofs.YtjfjpngajboidaaGreat
