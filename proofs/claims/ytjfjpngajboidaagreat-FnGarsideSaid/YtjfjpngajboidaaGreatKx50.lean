/-
  Contract of the program's DivisorsOfWord.
-/
import Derived.Test.YtjfjpngajboidaaGreatKx49
namespace Go.Proofs.YtjfjpngajboidaaGreat
set_option linter.unusedVariables false
set_option linter.unusedSimpArgs false
open Go.RowKit
attribute [local go_sem ↓] Go.wp_at_zero Go.wp_at_succ
open Go.Deep

set_option maxRecDepth 100000 in
theorem indexFunc_nil (f : Value) (w : World) : Calls Tryz.prog 71 #[.slice none 0 0, f] w fun e w' => e = .returned (.int .i64 (-1)) ∧ w = w' := by
  go_enter Tryz.func71, Tryz.ntmps71
  go_wp2_with fail
  go_loop [8] (fun i => i = .int .i64 (0 : Nat)) (fun _ => 0)
  case atStart => rfl
  case round =>
    subst hrel
    go_wp2
    go_ret
    exact ⟨rfl, rfl⟩

set_option maxRecDepth 100000 in
theorem listIndex_nil (p : List Int) (u : Value) (w : World) (hu : Ints w u p) :
    Calls Tryz.prog 32 #[.slice none 0 0, u] w fun e w' => e = .returned (.int .i64 (-1)) ∧ Ext w w' := by
  obtain ⟨hlen2, b2, o2, c2, rfl, -⟩ := id hu
  have HX := Lib.hid (ext_box w (.slice (some ⟨b2, o2, none⟩) p.length c2) 27)
  go_enter Tryz.func32, Tryz.ntmps32
  go_wp2_with fail
  refine (indexFunc_nil _ _).mono ?_
  rintro e w2 ⟨rfl, rfl⟩
  go_wp2_with fail
  go_ret
  exact ⟨rfl, HX.out⟩
theorem listIndex_N (lo : Nat) (G : List (List Int)) (p : List Int) (v u : Value) (w : World) (h0 : v = .slice none 0 0 ∨ 0 < G.length) (hG : v = .slice none 0 0 → G = []) (hv : RowsW lo w v G) (hu : Ints w u p) :
    Calls Tryz.prog 32 #[v, u] w fun e w' => (∃ k : Int, e = .returned (.int .i64 k) ∧ (k < 0 ↔ p ∉ G)) ∧ Ext w w' := by
  by_cases hn : v = .slice none 0 0
  · subst hn
    refine (listIndex_nil p u w hu).mono ?_
    rintro e w' ⟨rfl, hx⟩
    exact ⟨⟨-1, rfl, by rw [hG rfl]; simp⟩, hx⟩
  · have hp := h0.resolve_left hn
    refine (listIndex_any G p v u w (hv.2 hp).rows hu).mono ?_
    rintro e w' ⟨rfl, hx⟩
    refine ⟨⟨_, rfl, ?_⟩, hx⟩
    have := anyB_mem G p
    rw [anyB_find, findL_eq, decide_eq_decide] at this
    rw [← this]
    omega
@[irreducible] noncomputable def dvV (L S : List (List Int)) (p : List Int) : List (List Int) := if clsC L S p = 0 then dvT L S p (p.length + 1) else []
theorem dvV_ok {L S : List (List Int)} {p : List Int} (h : clsC L S p = 0) : dvV L S p = dvT L S p (p.length + 1) := by unfold dvV; rw [if_pos h]
theorem dvV_no {L S : List (List Int)} {p : List Int} (h : clsC L S p ≠ 0) : dvV L S p = [] := by unfold dvV; rw [if_neg h]
theorem normalWord_0 (L S : List (List Int)) (p : List Int) (hc : limC L S p = 0) (hO : SolOk L S) (hp : WordOk L.length p) (hp8 : p.length ≤ 8) (v y u : Value) (w : World) (hv : Rows w v L) (hy : Rows w y S) (hu : Ints w u p) :
    Calls Tryz.prog 37 #[.agg #[v, y], u] w (fun e w' => ∃ b c, e = .returned (.tuple #[.slice (some ⟨b, 0, none⟩) (nfS L S p).length c, .int .i64 0]) ∧ RK w.heap.size (fun _ => False) w' (.slice (some ⟨b, 0, none⟩) (nfS L S p).length c) (nfS L S p) ∧ Ext w w') := by
  refine (normalWord_any L S p v y u w hv hy hu hO hp hp8).mono ?_
  rintro e w' ⟨x, h1, h2, -, h3⟩
  have h4 := h2 hc
  obtain ⟨-, b, c, rfl, -⟩ := id h4
  exact ⟨b, c, by rw [h1, hc], h4, h3⟩

set_option maxRecDepth 100000 in
set_option maxHeartbeats 8000000 in
theorem DivisorsOfWord_impl (L S : List (List Int)) (p : List Int) (v y u : Value) (w : World) (hv : Rows w v L) (hy : Rows w y S) (hu : Ints w u p) :
    Calls Tryz.prog 14 #[.agg #[v, y], u] w (RetN (clsC L S p) (dvV L S p) w) := by
  obtain ⟨-, b, o, c, rfl, -⟩ := id hv
  obtain ⟨-, b2, o2, c2, rfl, -⟩ := id hy
  obtain ⟨-, b3, o3, c3, rfl, -⟩ := id hu
  have hx0 : Ext w (w.alloc (.cells #[.slice (some ⟨b, o, none⟩) L.length c, .slice (some ⟨b2, o2, none⟩) S.length c2] 26)) := (Ext.refl _).alloc _
  have k0 := cell_new2a w (.slice (some ⟨b, o, none⟩) L.length c) (.slice (some ⟨b2, o2, none⟩) S.length c2) 26
  have k1 := cell_new2b w (.slice (some ⟨b, o, none⟩) L.length c) (.slice (some ⟨b2, o2, none⟩) S.length c2) 26
  have HV := Lib.hid (hv.ext hx0)
  have HY := Lib.hid (hy.ext hx0)
  have HU := Lib.hid (hu.ext hx0)
  clear hv hy hu
  go_enter Tryz.func14, Tryz.ntmps14
  go_wp2_with fail
  have hz1 : w.heap.size + 1 = (w.alloc (.cells #[.slice (some ⟨b, o, none⟩) L.length c, .slice (some ⟨b2, o2, none⟩) S.length c2] 26)).heap.size := by simp
  generalize (w.alloc (.cells #[.slice (some ⟨b, o, none⟩) L.length c, .slice (some ⟨b2, o2, none⟩) S.length c2] 26)) = w1 at *
  have hxa : Ext w1 (w1.alloc (.cells #[.slice (some ⟨b3, o3, none⟩) p.length c3] 27)) := (Ext.refl _).alloc _
  refine (checkWords_any L S [p] _ _ _ _ (HV.out.ext hxa) (HY.out.ext hxa) (rows_one hz1 27 HU.out)).mono ?_
  rintro e w2 ⟨rfl, hx⟩
  rw [codeA_one]
  replace hx := hxa.trans hx
  replace k0 := hx.cell k0
  replace k1 := hx.cell k1
  have HV := Lib.hid (HV.out.ext hx)
  have HY := Lib.hid (HY.out.ext hx)
  have HU := Lib.hid (HU.out.ext hx)
  have HX := Lib.hid (hx0.trans hx)
  clear hx hxa hx0 hz1
  by_cases hc : codeW L S p p = 0
  case neg =>
    have HQ := Lib.hid (clsC_bad hc)
    have HR := Lib.hid (dvV_no (show clsC L S p ≠ 0 by rw [HQ.out]; exact hc))
    go_wp2_with fail
    go_ret2
    exact retN_bad HR.out HQ.out.symm HX.out
  case pos =>
    obtain ⟨hO, ⟨hp, hp8⟩, -⟩ := codeW_zero hc
    have HC := Lib.hid hc
    have HO := Lib.hid hO
    have HWP := Lib.hid hp
    rw [hc]
    clear hc hO hp
    go_wp2_with fail
    refine (limitedClass_any L S p _ _ _ _ HV.out HY.out HU.out HO.out HWP.out hp8).mono ?_
    rintro e w3 ⟨v3, rfl, h31, h32, hx3⟩
    replace k0 := hx3.cell k0
    replace k1 := hx3.cell k1
    have HX := Lib.hid (HX.out.trans hx3)
    by_cases hl1 : limC L S p = 0
    case neg =>
      have HQ := Lib.hid (show clsC L S p = limC L S p from by
        by_cases k : (clS L S p).length ≤ 1000
        · exact absurd (limC_ok k) hl1
        · rw [limC_many (by omega)]; exact clsC_many HC.out (by omega))
      have HR := Lib.hid (dvV_no (show clsC L S p ≠ 0 by rw [HQ.out]; exact hl1))
      clear h31 h32
      go_wp2
      go_ret2
      exact retN_bad HR.out HQ.out.symm HX.out
    case pos =>
      have hN3 := limC_zero hl1
      have HCC := Lib.hid (clsC_ok HC.out hN3)
      have HDV := Lib.hid (dvV_ok HCC.out)
      have hr := h31 hl1
      obtain ⟨-, g2, cg2, rfl, -⟩ := id hr
      have HR2 := Lib.hid hr
      have HV := Lib.hid (HV.out.ext hx3)
      have HY := Lib.hid (HY.out.ext hx3)
      have HK0 := Lib.hid k0
      have HK1 := Lib.hid k1
      rw [hl1]
      clear hl1 h31 h32 hr hx3 k0 k1
      go_wp2_with fail
      go_loopw [9, 35] (fun vd vk wr => ∃ (k : Nat) (xs : List Value), k ≤ p.length + 1 ∧ vk = .int .i64 k ∧ ListK 27 w3.heap.size (fun _ => False) wr vd xs (dvT L S p k) ∧ (dvT L S p k).length ≤ 1000 * k ∧ Ext w3 wr) (fun _ x _ => p.length + 1 - (intOf x).toNat)
      case atStart => exact ⟨0, [], Nat.zero_le _, rfl, by rw [dvT_zero]; exact ListK.nil _ _ _ _, by rw [dvT_zero]; simp, Ext.refl _⟩
      case round =>
        obtain ⟨k, xs, hk, rfl, hM, hml, hx2⟩ := hrel
        have HM := Lib.hid hM
        have HX2 := Lib.hid hx2
        clear hM hx2
        by_cases hkl : k < p.length + 1
        case neg =>
          have hkk : ¬ (k : Int) < (p.length : Int) + 1 := by omega
          have hke : k = p.length + 1 := by omega
          have HN := Lib.hid ((HM.out.rowsW (by omega)).low (lo' := w.heap.size) (Below.size HX.out))
          have HKE := Lib.hid hke
          clear hke
          go_wp2
          go_ret2
          exact ⟨_, by rw [HCC.out]; rfl, by rw [HDV.out, ← HKE.out]; exact HN.out, HX.out.trans HX2.out⟩
        case pos =>
          have hkk : (k : Int) < (p.length : Int) + 1 := by omega
          have hkp : k ≤ p.length := by omega
          have hM2 := HM.out.mono (D' := fun b => (none : Option Nat) = some b) (fun _ _ _ q => by cases q)
          have HM2 := Lib.hid hM2
          clear hM2 HM
          go_wp2_with fail
          go_loopw [11, 40] (fun vo vi wr => ∃ (i : Nat) (ys : List Value) (G : List (List Int)), i ≤ (clS L S p).length ∧ vi = .int .i64 i ∧ ListK 27 w3.heap.size (fun b => u9.ownBlock = some b) wr vo ys G ∧ ListK 27 w3.heap.size (fun b => vo.ownBlock = some b) wr u9 xs (dvT L S p k) ∧ (∀ k, u9.ownBlock = some k → vo.ownBlock ≠ some k) ∧ (vo = .slice none 0 0 → G = []) ∧ (vo = .slice none 0 0 ∨ 0 < G.length) ∧ G.Nodup ∧ (∀ x, x ∈ G ↔ ∃ j, j < i ∧ nfS L S ((row (clS L S p) j).take k) = x) ∧ G.length ≤ i ∧ Ext w3 wr) (fun _ x _ => (clS L S p).length - (intOf x).toNat)
          case atStart => exact ⟨0, [], [], Nat.zero_le _, rfl, ListK.nil _ _ _ _, HM2.out, (fun _ _ h => by cases h), fun _ => rfl, .inl rfl, List.nodup_nil, fun x => ⟨(fun h => by cases h), fun ⟨j, hj, _⟩ => absurd hj (by omega)⟩, Nat.zero_le _, HX2.out⟩
          case round =>
            clear HM2 HX2
            obtain ⟨i, ys, G, hi, rfl, hL, hM, hgg, hvn, hv0, hnd, hG, hGl, hx⟩ := hrel
            have HL := Lib.hid hL
            have HM := Lib.hid hM
            have HGG := Lib.hid hgg
            have HVN := Lib.hid hvn
            have HV0 := Lib.hid hv0
            have HND := Lib.hid hnd
            have HG := Lib.hid hG
            have HX3 := Lib.hid hx
            clear hL hM hgg hvn hv0 hnd hG hx
            by_cases hil : i < (clS L S p).length
            case neg =>
              have hki : ¬ (i : Int) < ((clS L S p).length : Int) := by omega
              have hie : i = (clS L S p).length := by omega
              have hpos : 0 < G.length := List.length_pos_of_mem ((HG.out _).2 ⟨0, by have := clS_pos HO.out HWP.out; omega, rfl⟩)
              have HGE := Lib.hid (fun (G2 : List (List Int)) (hp : G2.Perm G) (hs : G2.Pairwise (fun a b => ¬ b < a)) => dvK_eq (G := G2) HO.out HWP.out hkp (by
                refine List.Pairwise.imp ?_ (hs.and (hp.nodup_iff.2 HND.out))
                intro a b hab
                rcases less_tri a b with h | h | h
                · exact h
                · exact absurd h hab.2
                · exact absurd h hab.1) (fun x => by rw [hp.mem_iff, HG.out, hie]))
              clear hie
              obtain ⟨g, cg, rfl, hmine⟩ := HL.out.mine hpos
              have HMI := Lib.hid hmine
              clear hmine
              go_wp2_with fail
              refine (sortRows_any 27 w3.heap.size _ g cg ys G _ HMI.out hpos (by omega)).mono ?_
              rintro e w7 ⟨rfl, zs, G2, hperm, hpw, hGl2, hm7, hg7⟩
              have hge := HGE.out G2 hperm hpw
              have HM7 := Lib.hid (HM.out.otherTo (ob' := some g) hg7 HGG.out (.inl rfl))
              have HX7 := Lib.hid (show Ext w3 w7 from Ext.grown (v := .slice (some ⟨g, 0, none⟩) G.length cg) HX3.out hg7 HMI.out.own (Nat.le_refl _))
              have HZL := Lib.hid (hm7.rows.1.trans hGl2)
              have HCE := Lib.hid (show ∀ i x, zs[i]? = some x → w7.cell? ⟨g, 0 + i, none⟩ = some x from fun i x h => by
                have := hm7.own.cells (g := g) rfl i x h
                rwa [Addr.add_lit] at this)
              have HONE := Lib.hid hm7.rows.cell
              have HROWS := Lib.hid (hm7.rows.mono (D' := fun b => u9.ownBlock = some b ∨ some g = some b) (Nat.le_refl _) (fun b _ _ q => q.elim .inr (fun e => .inl (Option.some.inj e).symm)))
              have hzz := (Below.size HX7.out : w3.heap.size ≤ w7.heap.size)
              clear hperm hpw hm7 hg7 HM HL HX3 HMI
              go_wp2_with (at_builtin; refine wpList_append_xsN rfl _ _ 24 27 rfl Tryz.underlying24 infoSl w3.heap.size _ _ xs rfl HM7.out.own g 0 cg G.length zs HZL.out rfl HCE.out HONE.out (by omega) (by omega) hzz ?_)
              intro v' w8 hown8 hgr8 hbl8
              rw [← hGl2] at hown8
              have hm8 := HM7.out.apps HROWS.out hown8 hgr8 hbl8
              have hX8 : Ext w3 w8 := Ext.grown HX7.out hgr8 HM7.out.own (Nat.le_refl _)
              have hsum : (dvT L S p k ++ G2).length ≤ 1000 * (k + 1) := by rw [List.length_append, hGl2]; omega
              have hse : dvT L S p k ++ G2 = dvT L S p (k + 1) := by rw [dvT_succ, hge]
              rw [hse] at hm8 hsum
              have HM8 := Lib.hid (hm8.mono (D' := fun _ => False) (fun _ _ _ q => q.elim))
              clear hm8 hown8 hgr8 hbl8 hse hge
              go_wp2
              go_roundw
              case rel => exact ⟨k + 1, _, by omega, by go_num, HM8.out, hsum, hX8⟩
              case measure => simp [intOf]; omega
            case pos =>
              have hki : (i : Int) < ((clS L S p).length : Int) := by omega
              obtain ⟨b5, d5, r5, q5, -, -, i5, m5⟩ := (HR2.out.ext HX3.out).get hil
              have hxc := clS_row HO.out HWP.out hil
              obtain ⟨hxw, hxl⟩ := clS_word HO.out HWP.out hxc
              have hxe := (mem_clS HO.out HWP.out).1 hxc
              obtain ⟨x, hxx⟩ : ∃ x, x = row (clS L S p) i := ⟨_, rfl⟩
              rw [← hxx] at r5 q5 i5 m5 hxw hxl hxc hxe
              have hkx : k ≤ x.length := by omega
              have hkd : k ≤ d5 := by omega
              have hkdi : (k : Int) ≤ (d5 : Int) := by omega
              have hcp := (clsC_part (p := x.take k) (q := x.drop k) HO.out HWP.out hp8 (by rw [List.take_append_drop]; exact hxe) hN3).1
              have hcz := clsC_zero hcp
              obtain ⟨-, ⟨hwt, hw8⟩, -⟩ := codeW_zero hcz.1
              have CN := Lib.hid (normalWord_0 L S (x.take k) (limC_ok hcz.2) HO.out hwt hw8)
              have HIT := Lib.hid (intsW_take (c := d5) i5 m5 hkx)
              have HXX := Lib.hid hxx
              have k0 := HX3.out.cell HK0.out
              have k1 := HX3.out.cell HK1.out
              clear hxx hxc hxw hxe hxl i5 hcp hcz hwt hw8
              go_upto_region 15 with fail
              go_cut [14, 15] (fun v1 v2 wx => v2 = .int .i64 0 ∧ ∃ b c, v1 = .slice (some ⟨b, 0, none⟩) (nfS L S (x.take k)).length c ∧ RK wr.heap.size (fun _ => False) wx v1 (nfS L S (x.take k)) ∧ Ext wr wx)
              case first =>
                go_region_held3 (fun w' => w'.cell? ⟨w.heap.size, 0, none⟩ = some (.slice (some ⟨b, o, none⟩) L.length c) ∧ w'.cell? ⟨w.heap.size, 1, none⟩ = some (.slice (some ⟨b2, o2, none⟩) S.length c2))
                  ((refine ⟨?_, ?_⟩ <;> (repeat first | (with_reducible assumption) | (with_reducible refine Ext.cell xE ?_) |  (with_reducible exact kc_new) | ((with_reducible refine kc_newE ?_); (simp; done)) | ((with_reducible refine kc_newEa ?_); (simp; done)) | ((with_reducible refine kc_newEb ?_); (simp; done)) | (with_reducible apply kc_alloc) | (with_reducible apply kc_drewN) | (with_reducible apply kc_drew) | ((with_reducible refine kc_set ?_ ?_); (first | (simp only []; omega) | (simp; omega) | (focus (simp; done)))) | ((with_reducible refine kc_set2 ?_ ?_); (focus (simp; done))) | (with_reducible refine kc_same (v := .slice none 0 0) ?_))))
                  (first
                    | (go_at_call 37; refine (CN.out _ _ _ _ (HV.out.ext (HX3.out.trans (by (repeat first | (with_reducible exact Ext.refl _) | (with_reducible assumption) | (with_reducible apply Ext.drew) | (with_reducible apply kx_drewN) | (with_reducible apply kx_alloc) | ((with_reducible refine kx_set ?_ ?_); (first | (simp only []; omega) | (simp; omega) | (focus (simp; done)))) | (with_reducible refine Ext.trans ?_ xE) )))) (HY.out.ext (HX3.out.trans (by (repeat first | (with_reducible exact Ext.refl _) | (with_reducible assumption) | (with_reducible apply Ext.drew) | (with_reducible apply kx_drewN) | (with_reducible apply kx_alloc) | ((with_reducible refine kx_set ?_ ?_); (first | (simp only []; omega) | (simp; omega) | (focus (simp; done)))) | (with_reducible refine Ext.trans ?_ xE) )))) (HIT.out.ext (by (repeat first | (with_reducible exact Ext.refl _) | (with_reducible assumption) | (with_reducible apply Ext.drew) | (with_reducible apply kx_drewN) | (with_reducible apply kx_alloc) | ((with_reducible refine kx_set ?_ ?_); (first | (simp only []; omega) | (simp; omega) | (focus (simp; done)))) | (with_reducible refine Ext.trans ?_ xE) )))).mono ?_; rintro e wE ⟨bE, cE, rfl, hE, xE⟩))
                all_goals
                  go_wp2
                  go_meet
                  case rel =>
                    refine ⟨by first | rfl | trivial, _, _, rfl, (hE.mono (by first | exact Nat.le_refl _ | simp) fun _ _ _ q => q).ext ?_, ?_⟩
                    all_goals (repeat first | (with_reducible exact Ext.refl _) | (with_reducible assumption) | (with_reducible apply Ext.drew) | (with_reducible apply kx_drewN) | (with_reducible apply kx_alloc) | ((with_reducible refine kx_set ?_ ?_); (first | (simp only []; omega) | (simp; omega) | (focus (simp; done)))) | (with_reducible refine Ext.trans ?_ xE) )
              case rest =>
                obtain ⟨rfl, bN, cN, rfl, hN, hxN⟩ := hcut
                have hlL := HL.out.lt
                have hlM := HM.out.lt
                have hr0 := hN.mono (lo' := w3.heap.size) (D' := fun b => u11.ownBlock = some b ∨ u9.ownBlock = some b) (Below.size HX3.out) (fun b h1 h2 q => q.elim (fun e => absurd (hlL b e).2 (by omega)) (fun e => absurd (hlM b e).2 (by omega)))
                have HL := Lib.hid (HL.out.ext hxN)
                have HM := Lib.hid (HM.out.ext hxN)
                have HX3 := Lib.hid (HX3.out.trans hxN)
                have HN := Lib.hid hr0
                have HGN := Lib.hid (show ∀ z, (∃ j, j < i + 1 ∧ nfS L S ((row (clS L S p) j).take k) = z) ↔ (∃ j, j < i ∧ nfS L S ((row (clS L S p) j).take k) = z) ∨ z = nfS L S (x.take k) from fun z => by
                  constructor
                  · rintro ⟨j, hj, e⟩
                    by_cases h : j = i
                    · right; rw [← e, h, HXX.out]
                    · exact .inl ⟨j, by omega, e⟩
                  · rintro (⟨j, hj, e⟩ | e)
                    · exact ⟨j, by omega, e⟩
                    · exact ⟨i, by omega, by rw [e, HXX.out]⟩)
                clear hN hxN k0 k1 r5 CN HIT hlL hlM hr0
                go_wp2_with fail
                refine (listIndex_N w3.heap.size G (nfS L S (x.take k)) _ _ _ HV0.out HVN.out (HL.out.rowsW (by omega)) HN.out.ints).mono ?_
                rintro e w6 ⟨⟨kk, rfl, hkk⟩, hx6⟩
                have HL := Lib.hid (HL.out.ext hx6)
                have HM := Lib.hid (HM.out.ext hx6)
                have HX3 := Lib.hid (HX3.out.trans hx6)
                have HN := Lib.hid (HN.out.ext hx6)
                clear hx6
                obtain ⟨Z, hZ⟩ : ∃ Z, Z = nfS L S (x.take k) := ⟨_, rfl⟩
                rw [← hZ] at HGN HN hkk ⊢
                clear hZ
                by_cases hin : Z ∈ G
                case pos =>
                  have hkn : ¬ kk < 0 := fun h => (hkk.1 h) hin
                  have HG2 := Lib.hid (show ∀ z, z ∈ G ↔ ∃ j, j < i + 1 ∧ nfS L S ((row (clS L S p) j).take k) = z from fun z => by
                    rw [HGN.out, HG.out]
                    exact ⟨fun h => .inl h, fun h => h.elim id fun e => by rw [e]; exact (HG.out _).1 hin⟩)
                  clear hkk hin
                  go_wp2
                  go_roundw
                  case rel => exact ⟨i + 1, ys, G, by omega, by go_num, HL.out, HM.out, HGG.out, HVN.out, HV0.out, HND.out, HG2.out, by omega, HX3.out⟩
                  case measure => simp [intOf]; omega
                case neg =>
                  have hkn : kk < 0 := hkk.2 hin
                  have HNI := Lib.hid hin
                  clear hkk hin
                  have hone := HN.out.cell
                  have hxb := ext_box w6 (.slice (some ⟨bN, 0, none⟩) Z.length cN) 27
                  have HL7 := Lib.hid (HL.out.ext hxb)
                  have HM7 := Lib.hid (HM.out.ext hxb)
                  have HN7 := Lib.hid (HN.out.ext hxb)
                  have HX7 := Lib.hid (HX3.out.trans hxb)
                  have hzb : w3.heap.size ≤ (w6.alloc (.cells #[.slice (some ⟨bN, 0, none⟩) Z.length cN] 27)).heap.size := Below.size HX7.out
                  clear hxb HL HM HN HX3
                  go_wp2_with (at_builtin; refine wpList_append_one rfl _ _ 24 27 rfl Tryz.underlying24 infoSl w3.heap.size _ _ ys rfl HL7.out.own _ _ hone rfl (cell_new _ _ _) (by omega) hzb ?_)
                  intro v' w8 hown8 hgr8 hv8 hbl8
                  have hbl : v'.ownBlock = u11.ownBlock ∨ v'.ownBlock = some (w6.alloc (.cells #[.slice (some ⟨bN, 0, none⟩) Z.length cN] 27)).heap.size := by
                    rcases hbl8 with e | e
                    · exact .inl e
                    · exact .inr (by rw [show (w6.alloc (.cells #[.slice (some ⟨bN, 0, none⟩) Z.length cN] 27)).heap.size = w6.heap.size + 1 by simp]; exact e)
                  have hl8 := HL7.out.app HN7.out hown8 hgr8 hbl
                  have hm8 := HM7.out.otherTo hgr8 HGG.out hbl
                  have hX8 : Ext w3 w8 := Ext.grown HX7.out hgr8 HL7.out.own (Nat.le_refl _)
                  have hgg8 : ∀ k, u9.ownBlock = some k → v'.ownBlock ≠ some k := fun k hk e => by
                    rcases hbl with e2 | e2
                    · exact HGG.out k hk (by rw [← e2]; exact e)
                    · rw [e2] at e
                      have := Option.some.inj e
                      have := (HM7.out.lt k hk).2
                      omega
                  have hnd8 : (G ++ [Z]).Nodup := by
                    rw [List.nodup_append]
                    exact ⟨HND.out, by simp, fun a ha b hb e => HNI.out (by rw [← List.mem_singleton.1 hb, ← e]; exact ha)⟩
                  have hmem8 : ∀ z, z ∈ G ++ [Z] ↔ ∃ j, j < i + 1 ∧ nfS L S ((row (clS L S p) j).take k) = z := fun z => by
                    rw [HGN.out, ← HG.out]; simp
                  have hlen8 : (G ++ [Z]).length ≤ i + 1 := by simp; omega
                  have hpos8 : 0 < (G ++ [Z]).length := by simp
                  have HL8 := Lib.hid hl8
                  have HM8 := Lib.hid hm8
                  have HX8 := Lib.hid hX8
                  have HGG8 := Lib.hid hgg8
                  have HND8 := Lib.hid hnd8
                  have HME8 := Lib.hid hmem8
                  have HV8 := Lib.hid hv8
                  clear hl8 hm8 hX8 hgg8 hnd8 hmem8 hv8 hown8 hgr8 hbl8 hbl HL7 HM7 HN7 HX7 HGN HNI
                  generalize G ++ [Z] = G' at *
                  go_wp2
                  go_roundw
                  case rel => exact ⟨i + 1, _, G', by omega, by go_num, HL8.out, HM8.out, HGG8.out, fun e => absurd e HV8.out, .inr hpos8, HND8.out, HME8.out, hlen8, HX8.out⟩
                  case measure => simp [intOf]; omega
end Go.Proofs.YtjfjpngajboidaaGreat


namespace Go.Proofs.YtjfjpngajboidaaGreat
set_option linter.unusedVariables false
set_option linter.unusedSimpArgs false
open Go.RowKit
open Go.Deep

set_option maxRecDepth 100000 in
set_option maxHeartbeats 1000000 in
theorem DividesWord_impl (L S : List (List Int)) (p q : List Int) (v y u z : Value) (w : World) (hv : Rows w v L) (hy : Rows w y S) (hu : Ints w u p) (hz : Ints w z q) :
    Calls Tryz.prog 9 #[.agg #[v, y], u, z] w (RetDv L S p q w) := by
  obtain ⟨-, b, o, c, rfl, -⟩ := id hv
  obtain ⟨-, b2, o2, c2, rfl, -⟩ := id hy
  have hx0 : Ext w (w.alloc (.cells #[.slice (some ⟨b, o, none⟩) L.length c, .slice (some ⟨b2, o2, none⟩) S.length c2] 26)) := (Ext.refl _).alloc _
  have k0 := cell_new2a w (.slice (some ⟨b, o, none⟩) L.length c) (.slice (some ⟨b2, o2, none⟩) S.length c2) 26
  have k1 := cell_new2b w (.slice (some ⟨b, o, none⟩) L.length c) (.slice (some ⟨b2, o2, none⟩) S.length c2) 26
  have HV := Lib.hid (hv.ext hx0)
  have HY := Lib.hid (hy.ext hx0)
  have HU := Lib.hid (hu.ext hx0)
  have HZ := Lib.hid (hz.ext hx0)
  clear hv hy hu hz
  go_enter Tryz.func9, Tryz.ntmps9
  go_wp2_with fail
  generalize (w.alloc (.cells #[.slice (some ⟨b, o, none⟩) L.length c, .slice (some ⟨b2, o2, none⟩) S.length c2] 26)) = w1 at *
  refine (restsOf_any L S p q _ _ _ _ _ HV.out HY.out HU.out HZ.out).mono ?_
  rintro e w2 ⟨v2, rfl, ⟨⟨a2, d2, rfl⟩, -⟩, hx⟩
  have HB := Lib.hid (dvB_rs L S p q)
  have hd : decide ((0 : Int) < ((rsV L S p q).length : Int)) = decide (0 < (rsV L S p q).length) := by rw [decide_eq_decide]; omega
  go_wp2
  go_ret2
  exact ⟨by rw [HB.out, ← hd]; rfl, hx0.trans hx⟩

end Go.Proofs.YtjfjpngajboidaaGreat
