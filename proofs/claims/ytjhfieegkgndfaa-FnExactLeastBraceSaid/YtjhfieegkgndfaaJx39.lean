/-
  Contract of the reference's l03Least: the least image of two tables.
-/
import Derived.Test.YtjhfieegkgndfaaProg
import Derived.Deep.DeepCutAuto
import Derived.Deep.RegionWith
import Derived.Deep.RegionHeld3
import Derived.Deep.DrawnRows
import Derived.IntWalk
import Derived.Maps.AppendAt
import Derived.Test.YtjhfieegkgndfaaJx0
import Derived.Test.YtjhfieegkgndfaaJx1
import Derived.Test.YtjhfieegkgndfaaJx3
import Derived.Test.YtjhfieegkgndfaaJx8
import Derived.Test.YtjhfieegkgndfaaJx2
import Derived.Test.YtjhfieegkgndfaaJx4
import Derived.Test.YtjhfieegkgndfaaJx5
import Derived.Test.YtjhfieegkgndfaaJx23
import Derived.Test.YtjhfieegkgndfaaJx6
import Derived.Test.YtjhfieegkgndfaaJx9
import Derived.Test.YtjhfieegkgndfaaJx7
import Derived.Test.YtjhfieegkgndfaaJx11
import Derived.Test.YtjhfieegkgndfaaJx12
import Derived.Test.YtjhfieegkgndfaaJx35
import Derived.Test.YtjhfieegkgndfaaJx13
import Derived.Test.YtjhfieegkgndfaaJx30
import Derived.Test.YtjhfieegkgndfaaJx31
import Derived.Test.YtjhfieegkgndfaaJx32
import Derived.Test.YtjhfieegkgndfaaJx38
namespace Go.Proofs.Ytjhfieegkgndfaa
set_option linter.unusedVariables false
set_option linter.unusedSimpArgs false
open Go.RowKit
attribute [local go_sem ↓] Go.wp_at_zero Go.wp_at_succ
open Go.Deep

theorem OwnT.later {lo hi lo' hi' : Nat} {w w' : World} {b o : Nat} {t : List (List Int)} (h : OwnT lo hi w b o t) (hx : Ext w w') (hh : hi ≤ w.heap.size) (h1 : lo' ≤ lo) (h2 : hi ≤ hi') : OwnT lo' hi' w' b o t :=
  (h.keep (fun k _ hk => hx.block k (by omega))).mono h1 h2
theorem tabs_take (t u : List (List Int)) {k : Nat} (h : k < 2) : [t, u].take (k + 1) = [t, u].take k ++ [tab [t, u] k] := by
  have : k = 0 ∨ k = 1 := by omega
  rcases this with rfl | rfl
  · rw [tab_two0]; rfl
  · rw [tab_two1]; rfl
theorem tab_img (t u : List (List Int)) (p : List Int) {k : Nat} (h : k < 2) : tab [imgT t p, imgT u p] k = imgT (tab [t, u] k) p := by
  have : k = 0 ∨ k = 1 := by omega
  rcases this with rfl | rfl
  · rw [tab_two0, tab_two0]
  · rw [tab_two1, tab_two1]
theorem Tabs.two {w : World} {v : Value} {a b : List (List Int)} (h : Tabs w v [a, b]) : ∃ g o c, v = .slice (some ⟨g, o, none⟩) 2 c ∧ TabsAt w g o [a, b] := by
  obtain ⟨_, g, o, c, e, h⟩ := h
  exact ⟨g, o, c, e, h⟩
theorem RowsAt.rowsN {w : World} {b o n : Nat} {t : List (List Int)} (h : RowsAt w b o t) (hl : t.length = n) (h12 : n ≤ 12) (c : Nat) : Rows w (.slice (some ⟨b, o, none⟩) n c) t := ⟨by omega, b, o, c, by rw [hl], h⟩
theorem IntsAt.intsN {w : World} {b o n : Nat} {l : List Int} (h : IntsAt w b o l) (hl : l.length = n) (h12 : n ≤ 12) (c : Nat) : Ints w (.slice (some ⟨b, o, none⟩) n c) l := ⟨by omega, b, o, c, by rw [hl], h⟩

set_option maxRecDepth 100000 in
set_option maxHeartbeats 8000000 in
theorem l03Least_any (t u : List (List Int)) (v : Value) (w : World) (hv : Tabs w v [t, u]) (hT : TableOk t) (hU : TableOk u) (hl : u.length = t.length) (h7 : t.length ≤ 7) :
    Calls Try.prog 67 #[v, .bool true] w fun e w' => ∃ v', e = .returned v' ∧ Tabs w' v' [(leastP t u).1, (leastP t u).2] ∧ Ext w w' := by
  obtain ⟨hla, b, o, c, rfl, hc⟩ := id hv
  obtain ⟨n, hn⟩ : ∃ n, n = t.length := ⟨_, rfl⟩
  obtain ⟨L, hL⟩ : ∃ L, L = isoL t.length [] [] := ⟨_, rfl⟩
  have hmem : ∀ i, i < L.length → IsoOk n [] [] (row L i) := fun i hi => by
    rw [hn]
    refine mem_isoL.1 ?_
    rw [← hL, row_eq]
    simp [List.getD, hi]
  have hLL : L.length ≤ 823543 := by rw [hL]; exact few_perms h7 [] []
  have hTT : TabsOk t.length [t, u] := TabsOk.two hT hU hl
  have h1 := hT.1
  have HTT := Lib.hid hTT
  have HMEM := Lib.hid hmem
  have HLL := Lib.hid hL
  have HT := Lib.hid hT
  have HU := Lib.hid hU
  have HN := Lib.hid hn
  have HUL := Lib.hid hl
  have HALL := Lib.hid (show foldZ t u L L.length = leastP t u by rw [hL]; exact foldZ_all)
  have HHL := Lib.hid hLL
  have HF0 := Lib.hid (show foldZ t u L 0 = (t, u) from foldZ_zero _ _ _)
  obtain ⟨t1, t2, t3, r0, -⟩ := hc.get (k := 0) (by simp)
  rw [tab_two0, Nat.add_zero] at r0
  have h7n : n ≤ 7 := by omega
  have h1n : 1 ≤ n := by omega
  rw [← hn] at r0
  have hp := l01Perms_any n w h1n h7n
  rw [hn, ← hL, ← hn] at hp
  have HPM := Lib.hid hp
  clear hT hU hl hTT hmem hL hn hp hLL
  have hcv : Tabs w (.slice (some ⟨b, o, none⟩) 2 c) [t, u] := hv
  have HCV := Lib.hid hcv
  have HC := Lib.hid hc
  clear hcv hv hc
  go_enter Try.func67, Try.ntmps67
  go_wp2_with fail
  refine HPM.out.mono ?_
  rintro e w1 ⟨vp, rfl, hrp, hx1⟩
  obtain ⟨hlp, bp, op, cp, rfl, hcp⟩ := hrp
  have HX1 := Lib.hid hx1
  have HCP := Lib.hid hcp
  clear hx1 hcp HPM r0
  go_wp2_with fail
  go_loopw [6, 7] (fun vb x wr => ∃ i B1 B2, i ≤ L.length ∧ x = .int .i64 (i : Nat) ∧ foldZ t u L i = (B1, B2) ∧ Tabs wr vb [B1, B2] ∧ TabsOk n [B1, B2] ∧ Ext w1 wr) (fun _ x _ => L.length - (intOf x).toNat)
  case atStart => exact ⟨0, t, u, Nat.zero_le _, rfl, HF0.out, HCV.out.ext HX1.out, by rw [HN.out]; exact HTT.out, Ext.refl _⟩
  case round =>
    obtain ⟨i, B1, B2, hi, rfl, hf, htb, hok, hx⟩ := hrel
    have HF := Lib.hid hf
    have HTB := Lib.hid htb
    have HOK := Lib.hid hok
    have HX := Lib.hid hx
    clear hf htb hok hx
    by_cases hil : i < L.length
    case neg =>
      have hii : i = L.length := by omega
      subst hii
      have hB : (leastP t u).1 = B1 ∧ (leastP t u).2 = B2 := by rw [← HALL.out, HF.out]; exact ⟨rfl, rfl⟩
      obtain ⟨b2, o2, c2, rfl, hc2⟩ := HTB.out.two
      have HB := Lib.hid hB
      have HC2 := Lib.hid hc2
      clear hB hc2
      obtain ⟨w2, hw2⟩ : ∃ w2 : World, w2 = wr := ⟨_, rfl⟩
      subst hw2
      go_wp2_with fail
      have hxa : Ext w2 (w2.alloc (.cells #[] 22)) := (Ext.refl _).alloc _
      have hi0 := GrowTabs.lit (e := 22) (base := w2.heap.size) (w := w2) (Nat.le_refl _)
      go_loopw [10, 11] (fun vi y wr => ∃ k : Nat, k ≤ 2 ∧ y = .int .i64 k ∧ GrowTabs 22 w2.heap.size wr vi ([B1, B2].take k) ∧ vi ≠ .slice none 0 0 ∧ Ext w2 wr) (fun _ y _ => 2 - (intOf y).toNat)
      case atStart => exact ⟨0, by omega, rfl, hi0, by simp, hxa⟩
      case round =>
        clear hxa hi0
        obtain ⟨k, hk, rfl, hg, hvi, hx3⟩ := hrel
        have HG := Lib.hid hg
        have HVI := Lib.hid hvi
        have HX3 := Lib.hid hx3
        clear hg hvi hx3
        by_cases hk2 : k < 2
        case neg =>
          have hkk : k = 2 := by omega
          subst hkk
          have htb := HG.out.tabs (by simp) HVI.out
          have HTI := Lib.hid (show Tabs wr _ [B1, B2] from htb)
          clear htb
          go_wp2_with fail
          go_ret
          exact ⟨_, rfl, by rw [HB.out.1, HB.out.2]; exact HTI.out, (HX1.out.trans HX.out).trans HX3.out⟩
        case pos =>
          have hki : (k : Int) < 2 := by omega
          obtain ⟨f1, f2, f3, g1, g2⟩ := HC2.out.get (k := k) (by simpa using hk2)
          have hlk := (HOK.out k (by simpa using hk2)).2
          rw [hlk] at g1
          have g1' := HX3.out.cell g1
          have GR := Lib.hid ((g2.ext HX3.out).rowsN (n := n) hlk (by omega) f3)
          have HIT := Lib.hid (show [B1, B2].take (k + 1) = [B1, B2].take k ++ [tab [B1, B2] k] from tabs_take _ _ hk2)
          have HIL := Lib.hid (show ([B1, B2].take k).length = k by rw [List.length_take]; simp; omega)
          clear g2 hlk
          have HSM := Lib.hid GR.out.small
          go_wp2_with fail
          refine (l01Own2_own (tab [B1, B2] k) _ _ GR.out).mono ?_
          rintro e wI ⟨bI, cI, rfl, hoI, hxI⟩
          have HOI := Lib.hid hoI
          have HXI := Lib.hid hxI
          clear hoI hxI
          go_wp2_with (at_builtin; refine wpList_append_tab rfl _ _ 72 22 rfl Try.underlying72 infoSl2 rfl w2.heap.size _ _ rfl HG.out (HXI.out.trans (ext_box _ _ _)) _ bI cI _ rfl (cell_new _ _ _) (HOI.out.later (ext_box _ _ _) (Nat.le_refl _) (Nat.le_refl _) (by simp)) HSM.out (by rw [HIL.out]; omega) HX3.out.size ?_)
          intro v' w4 hg4 hgr4 hv4 hat4
          have HX4 := Lib.hid (ext_grownBy (HX3.out.trans (HXI.out.trans (ext_box _ _ _))) hgr4 (fun k e => (HG.out.lt k e).1))
          clear hgr4 hat4
          go_wp2
          go_roundw
          case rel => exact ⟨k + 1, by omega, by go_num, by rw [HIT.out]; exact hg4, hv4, HX4.out⟩
          case measure => simp [intOf]; omega
    case pos =>
      obtain ⟨d1, s1, m1, q1, i1, -⟩ := (HCP.out.ext HX.out).get hil
      have hpo := HMEM.out i hil
      rw [hpo.1] at q1
      have q2 := i1.head (by rw [hpo.1]; omega)
      have I1 := Lib.hid (i1.intsN hpo.1 (by omega) m1)
      have HPO := Lib.hid hpo
      obtain ⟨p, hpp⟩ : ∃ p, p = row L i := ⟨_, rfl⟩
      rw [← hpp] at q2 HPO I1
      have HPP := Lib.hid hpp
      clear i1 hpo hpp
      have hn0 : (0 : Int) < (n : Int) := by omega
      cases h0 : (ix p 0 != 0) with
      | true =>
        have HS := Lib.hid (foldZ_skip (t := t) (u := u) hil (by rw [← HPP.out]; simpa using h0))
        go_wp2_with fail
        go_roundw
        case rel => exact ⟨i + 1, B1, B2, by omega, by go_num, by rw [HS.out]; exact HF.out, HTB.out, HOK.out, HX.out⟩
        case measure => simp [intOf]; omega
      | false =>
        have HS := Lib.hid (foldZ_step (t := t) (u := u) hil (by rw [← HPP.out]; simpa using h0))
        obtain ⟨im, him⟩ : ∃ im, im = [imgT t p, imgT u p] := ⟨_, rfl⟩
        have HIM := Lib.hid him
        clear him
        obtain ⟨w2, hw2⟩ : ∃ w2 : World, w2 = wr := ⟨_, rfl⟩
        subst hw2
        go_wp2_with fail
        have hxa : Ext w2 (w2.alloc (.cells #[] 22)) := (Ext.refl _).alloc _
        have hi0 := GrowTabs.lit (e := 22) (base := w2.heap.size) (w := w2) (Nat.le_refl _)
        go_loopw [8, 9] (fun vi y wr => ∃ k : Nat, k ≤ 2 ∧ y = .int .i64 k ∧ GrowTabs 22 w2.heap.size wr vi (im.take k) ∧ vi ≠ .slice none 0 0 ∧ Ext w2 wr) (fun _ y _ => 2 - (intOf y).toNat)
        case atStart => exact ⟨0, by omega, rfl, hi0, by simp, hxa⟩
        case round =>
          clear hxa hi0
          obtain ⟨k, hk, rfl, hg, hvi, hx3⟩ := hrel
          have HG := Lib.hid hg
          have HVI := Lib.hid hvi
          have HX3 := Lib.hid hx3
          clear hg hvi hx3
          by_cases hk2 : k < 2
          case neg =>
            have hkk : k = 2 := by omega
            subst hkk
            have hti : im.take 2 = im := by rw [HIM.out]; rfl
            have htb := HG.out.tabs (by rw [hti, HIM.out]; simp) HVI.out
            rw [hti, HIM.out] at htb
            obtain ⟨-, bi, oi, ci, rfl, -⟩ := id htb
            have HTI := Lib.hid htb
            have hp' : IsoOk t.length [] [] p := by rw [← HN.out]; exact HPO.out
            have hok2 : TabsOk n [imgT t p, imgT u p] := by
              have := TabsOk.two (imgT_ok HT.out hp') (imgT_ok HU.out (by rw [HUL.out]; exact hp')) (by rw [length_imgT, length_imgT, HUL.out])
              rw [length_imgT, ← HN.out] at this
              exact this
            have HOK2 := Lib.hid hok2
            clear hti htb hp' hok2
            cases hb : befG [imgT t p, imgT u p] [B1, B2] 2 0 with
            | true =>
              have HR := Lib.hid (stepP_yes (t := t) (u := u) (b := (B1, B2)) (p := p) (by rw [← befG_two]; exact hb))
              go_wp2_with fail
              refine (l03Before_any _ _ _ _ n _ HTI.out (HTB.out.ext HX3.out) HOK2.out HOK.out rfl (by omega) (by simp)).mono ?_
              rintro e w5 ⟨rfl, hd5⟩
              rw [show [imgT t p, imgT u p].length = 2 from rfl, hb]
              have HX5 := Lib.hid hd5.ext
              clear hd5
              go_wp2_with fail
              go_roundw
              case rel => exact ⟨i + 1, _, _, by omega, by go_num, by rw [HS.out, HF.out, ← HPP.out]; exact HR.out, HTI.out.ext HX5.out, HOK2.out, (HX.out.trans HX3.out).trans HX5.out⟩
              case measure => simp [intOf]; omega
            | false =>
              have HR := Lib.hid (stepP_no (t := t) (u := u) (b := (B1, B2)) (p := p) (by rw [← befG_two]; exact hb))
              go_wp2_with fail
              refine (l03Before_any _ _ _ _ n _ HTI.out (HTB.out.ext HX3.out) HOK2.out HOK.out rfl (by omega) (by simp)).mono ?_
              rintro e w5 ⟨rfl, hd5⟩
              rw [show [imgT t p, imgT u p].length = 2 from rfl, hb]
              have HX5 := Lib.hid hd5.ext
              clear hd5
              go_wp2_with fail
              go_roundw
              case rel => exact ⟨i + 1, _, _, by omega, by go_num, by rw [HS.out, HF.out, ← HPP.out]; exact HR.out, HTB.out.ext (HX3.out.trans HX5.out), HOK.out, (HX.out.trans HX3.out).trans HX5.out⟩
              case measure => simp [intOf]; omega
          case pos =>
            have hki : (k : Int) < 2 := by omega
            have hXX := HX1.out.trans HX.out
            obtain ⟨f1, f2, f3, g1, g2⟩ := (HC.out.ext hXX).get (k := k) (by simpa using hk2)
            have hlk := (HTT.out k (by simpa using hk2)).2
            rw [hlk, ← HN.out] at g1
            have g1' := HX3.out.cell g1
            have GR := Lib.hid ((g2.ext HX3.out).rowsN (n := n) (by rw [hlk, HN.out]) (by omega) f3)
            have HTK := Lib.hid (HTT.out k (by simpa using hk2)).1
            have HIT := Lib.hid (show im.take (k + 1) = im.take k ++ [imgT (tab [t, u] k) p] by rw [HIM.out, tabs_take _ _ hk2, tab_img _ _ _ hk2])
            have HIL := Lib.hid (show (im.take k).length = k by rw [HIM.out, List.length_take]; simp; omega)
            have HSM := Lib.hid (show Small (imgT (tab [t, u] k) p) from small_mkT (by rw [hlk]; omega) _)
            have HLK := Lib.hid hlk
            have q1' := HX3.out.cell q1
            clear hXX g2 hlk
            go_wp2_with fail
            go_region_held3 (fun w' => w'.cell? ⟨b, o + k, none⟩ = some (.slice (some ⟨f1, f2, none⟩) n f3) ∧ w'.cell? ⟨bp, op + i, none⟩ = some (.slice (some ⟨d1, s1, none⟩) n m1))
              ((refine ⟨?_, ?_⟩ <;> (repeat first | (with_reducible assumption) | (with_reducible refine Ext.cell hxI ?_) | (with_reducible refine Ext.cell hx4 ?_) |  (with_reducible exact kc_new) | ((with_reducible refine kc_newE ?_); (simp; done)) | ((with_reducible refine kc_newEa ?_); (simp; done)) | ((with_reducible refine kc_newEb ?_); (simp; done)) | (with_reducible apply kc_alloc) | (with_reducible apply kc_drewN) | (with_reducible apply kc_drew) | ((with_reducible refine kc_set ?_ ?_); (first | (simp only []; omega) | (simp; omega) | (focus (simp; done)))) | ((with_reducible refine kc_set2 ?_ ?_); (focus (simp; done))) | (with_reducible refine kc_same (v := .slice none 0 0) ?_))))
              (first
                | (go_at_call 99; refine (l03Image_any (tab [t, u] k) p _ _ _ (GR.out.ext (by (repeat first | (with_reducible exact Ext.refl _) | (with_reducible assumption) | (with_reducible apply Ext.drew) | (with_reducible apply kx_drewN) | (with_reducible apply kx_alloc) | ((with_reducible refine kx_set ?_ ?_); (first | (simp only []; omega) | (simp; omega) | (focus (simp; done)))) ))) ((I1.out.ext HX3.out).ext (by (repeat first | (with_reducible exact Ext.refl _) | (with_reducible assumption) | (with_reducible apply Ext.drew) | (with_reducible apply kx_drewN) | (with_reducible apply kx_alloc) | ((with_reducible refine kx_set ?_ ?_); (first | (simp only []; omega) | (simp; omega) | (focus (simp; done)))) ))) HTK.out (by rw [HLK.out, ← HN.out]; exact HPO.out)).mono ?_; rintro e wI ⟨bI, cI, rfl, hoI, hxI⟩)
                | (refine step_append_tab (by rfl) _ _ 72 22 (by rfl) Try.underlying72 infoSl2 rfl w2.heap.size _ _ (by rfl) HG.out (by (repeat first | (with_reducible exact Ext.refl _) | (with_reducible assumption) | (with_reducible apply Ext.drew) | (with_reducible apply kx_drewN) | (with_reducible apply kx_alloc) | ((with_reducible refine kx_set ?_ ?_); (first | (simp only []; omega) | (simp; omega) | (focus (simp; done)))) | (with_reducible refine Ext.trans ?_ hxI) )) _ _ _ _ (by rfl) (by (repeat first | (with_reducible assumption) |  (with_reducible exact kc_new) | ((with_reducible refine kc_newE ?_); (simp; done)) | ((with_reducible refine kc_newEa ?_); (simp; done)) | ((with_reducible refine kc_newEb ?_); (simp; done)) | (with_reducible apply kc_alloc) | (with_reducible apply kc_drewN) | (with_reducible apply kc_drew) | ((with_reducible refine kc_set ?_ ?_); (first | (simp only []; omega) | (simp; omega) | (focus (simp; done)))) | ((with_reducible refine kc_set2 ?_ ?_); (focus (simp; done))) | (with_reducible refine kc_same (v := .slice none 0 0) ?_))) (hoI.later (by (repeat first | (with_reducible exact Ext.refl _) | (with_reducible assumption) | (with_reducible apply Ext.drew) | (with_reducible apply kx_drewN) | (with_reducible apply kx_alloc) | ((with_reducible refine kx_set ?_ ?_); (first | (simp only []; omega) | (simp; omega) | (focus (simp; done)))) )) (Nat.le_refl _) (by simp [size_drew, size_drewN]) (by simp)) HSM.out (by rw [HIL.out]; omega) HX3.out.size ?_; intro v' w4 hg4 hgr4 hv4 hat4; have hx4 : Ext w2 w4 := ext_grownBy (HX3.out.trans (by (repeat first | (with_reducible exact Ext.refl _) | (with_reducible assumption) | (with_reducible apply Ext.drew) | (with_reducible apply kx_drewN) | (with_reducible apply kx_alloc) | ((with_reducible refine kx_set ?_ ?_); (first | (simp only []; omega) | (simp; omega) | (focus (simp; done)))) | (with_reducible refine Ext.trans ?_ hxI) ))) hgr4 (fun k e => (HG.out.lt k e).1)))
            all_goals
              go_wp2
              go_roundw
              case rel => exact ⟨k + 1, by omega, by go_num, by rw [HIT.out]; exact hg4, hv4, hx4⟩
              case measure => simp [intOf]; omega
end Go.Proofs.Ytjhfieegkgndfaa
