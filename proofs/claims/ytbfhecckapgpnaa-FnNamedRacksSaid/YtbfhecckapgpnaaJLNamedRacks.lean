/-
  The law FnNamedRacks, walked.
-/
import Derived.Test.YtbfhecckapgpnaaProg
import Derived.Deep.DeepCutAuto
import Derived.Deep.RegionWith
import Derived.BigQuiet
import Derived.Test.YtbfhecckapgpnaaJx0
import Derived.Test.YtbfhecckapgpnaaJx1
import Derived.Test.YtbfhecckapgpnaaJx2
import Derived.Test.YtbfhecckapgpnaaJx8
import Derived.Test.YtbfhecckapgpnaaJx9
import Derived.Test.YtbfhecckapgpnaaJx7
import Derived.Test.YtbfhecckapgpnaaJx43
import Derived.Test.YtbfhecckapgpnaaJx22
import Derived.Test.YtbfhecckapgpnaaJx10
import Derived.Test.YtbfhecckapgpnaaJx12
import Derived.Test.YtbfhecckapgpnaaJx6
import Derived.Test.YtbfhecckapgpnaaJx32
import Derived.Test.YtbfhecckapgpnaaJx13
import Derived.Test.YtbfhecckapgpnaaJx42
import Derived.Test.YtbfhecckapgpnaaJx33
import Derived.Test.YtbfhecckapgpnaaJx4
import Derived.Test.YtbfhecckapgpnaaJx39
import Derived.Test.YtbfhecckapgpnaaJx11
import Derived.Test.YtbfhecckapgpnaaJx41
namespace Go.Proofs.Ytbfhecckapgpnaa
set_option linter.unusedVariables false
set_option linter.unusedSimpArgs false
open Go.RowKit
attribute [local go_sem ↓] Go.wp_at_zero Go.wp_at_succ
open Go.Deep

theorem rowsR_okk {w : World} {v : Value} {t : List (List Int)} (h : RowsR w v t) (hT : TableOk t) : Rows w v t := by
  obtain ⟨a, c, rfl, h⟩ := h
  obtain ⟨b, o, rfl, h2⟩ := h (ne_nil_of_lt (k := 0) hT.1)
  refine ⟨by have := hT.2.1; omega, b, o, c, rfl, fun i hi => ?_⟩
  obtain ⟨r, k1, k2⟩ := h2 i hi
  refine ⟨r, k1, by have := hT.len hi; have := hT.2.1; omega, ?_⟩
  obtain ⟨a2, c2, e2, k3⟩ := k2
  obtain ⟨b2, o2, rfl, k4⟩ := k3 (ne_nil_of_lt (k := 0) (by rw [hT.len hi]; exact hT.1))
  exact ⟨b2, o2, c2, e2, k4⟩
theorem row_rep {n k : Nat} {Z : List Int} (hk : k < n) : row (List.replicate n Z) k = Z := by rw [row_eq]; simp [List.getD, hk]

theorem al_code0 {n a : Nat} (h1 : 1 ≤ n) (h2 : n ≤ 12) : 1 ≤ (alT n a).length ∧ (alT n a).length ≤ 12 := by rw [length_alT]; exact ⟨h1, h2⟩
theorem ale_0 {a b : Int} (h : aleC a b = 0) : ∃ n k : Nat, 1 ≤ n ∧ n ≤ 12 ∧ k < n ∧ copB k n = true ∧ aleT a b = alT n k := by
  unfold aleC at h
  by_cases g : 1 ≤ a ∧ a ≤ 12 ∧ 0 ≤ b ∧ b ≤ a - 1
  · rw [if_pos g] at h
    by_cases hc : copB b.toNat a.toNat = true
    · refine ⟨a.toNat, b.toNat, by omega, by omega, by omega, hc, ?_⟩
      unfold aleT
      rw [if_pos ⟨g.1, g.2.1, g.2.2.1, g.2.2.2, hc⟩]
    · rw [if_neg hc] at h; cases h
  · rw [if_neg g] at h; cases h
theorem small_dih (a : Int) : Small (dihT a) := by
  unfold dihT
  split
  · rw [← alT_eq]; exact small_mkT (by omega) _
  · exact small_nil
theorem small_ale (a b : Int) : Small (aleT a b) := by
  unfold aleT
  split
  · rw [← alT_eq]; exact small_mkT (by omega) _
  · exact small_nil
theorem cyc_is {n : Nat} (h1 : 1 ≤ n) (h12 : n ≤ 12) : ifG (mkT n (cycF n)) (mkT (mkT n (cycF n)).length (coreF (mkT n (cycF n)))) [] = alT n (n - 1) ∧ codeG (mkT n (cycF n)) = 0 := by
  obtain ⟨hg, hc, -, -⟩ := dh_all h1 h12
  rw [ifG_yes hg, codeG_yes hg, length_mkT, hc]
  exact ⟨rfl, rfl⟩

theorem dih_0 {a : Int} (h : dihC a = 0) : ∃ n : Nat, a = n ∧ 1 ≤ n ∧ n ≤ 12 := by
  unfold dihC at h
  by_cases g : 1 ≤ a ∧ a ≤ 12
  · exact ⟨a.toNat, by omega, by omega, by omega⟩
  · rw [if_neg g] at h; cases h
theorem ale_dih {n : Nat} (h1 : 1 ≤ n) (h12 : n ≤ 12) : aleT n ((n : Int) - 1) = alT n (n - 1) ∧ aleC n ((n : Int) - 1) = 0 := by
  rw [show (n : Int) - 1 = ((n - 1 : Nat) : Int) by omega]
  exact ale_in h1 h12 (by omega) (dh_all h1 h12).2.2.2

set_option maxRecDepth 100000 in
set_option maxHeartbeats 4000000 in
theorem lawNamedRacks (w : World) (bs : List Int) (v : Value) (hv : BytesR w v bs) :
    Calls Try.prog 3 #[v] w fun e w' => e = .returned (.bool true) ∧ Ext w w' := by
  obtain ⟨va, vc, rfl, -⟩ := id hv
  go_enter Try.func3, Try.ntmps3
  go_wp2_with fail
  refine (big_any va bs.length vc w).mono ?_
  rintro e w1 ⟨rfl, rfl⟩
  by_cases hbig : 4096 < (bs.length : Int)
  case pos =>
    go_wp2
    go_ret
    exact ⟨rfl, Ext.refl _⟩
  case neg =>
    have HV := Lib.hid hv
    have HB := Lib.hid hbig
    clear hv
    go_wp2_with fail
    refine (DrawDihedralQuandle_any bs _ _ HV.out (by omega)).mono ?_
    rintro e w1 ⟨n, rfl, n1, n2, hX⟩
    clear hbig
    go_wp2_with fail
    obtain ⟨D, hD⟩ : ∃ D, D = dihC n := ⟨_, rfl⟩
    obtain ⟨DT, hDT⟩ : ∃ DT, DT = dihT n := ⟨_, rfl⟩
    have hsd : Small DT := by rw [hDT]; exact small_dih n
    have HD := Lib.hid hD
    have HDT := Lib.hid hDT
    have HSD := Lib.hid hsd
    clear hD hDT hsd
    have hc := DihedralQuandle_impl n w1
    rw [← HD.out, ← HDT.out] at hc
    refine hc.mono ?_
    clear hc
    rintro e v1 ⟨vv, rfl, d, hx⟩
    replace hX := hX.trans hx
    clear hx
    replace d := d.toR
    obtain ⟨da, dc, rfl, -⟩ := id d
    have hxb := ext_box v1 (.slice da (DT).length dc) 27
    have bd := cell_new v1 (.slice da (DT).length dc) 27
    replace hX := hX.trans hxb
    replace d := d.ext hxb
    clear hxb
    go_wp2_with fail
    generalize (v1.alloc (.cells #[(.slice da (DT).length dc)] 27)) = v2 at *
    have hc := DihedralQuandle_spec n v2
    rw [← HD.out, ← HDT.out] at hc
    refine hc.mono ?_
    clear hc
    rintro e v3 ⟨vv, rfl, s, hx⟩
    replace hX := hX.trans hx
    replace d := d.ext hx
    replace bd := hx.cell bd
    clear hx
    obtain ⟨sa, sc, rfl, -⟩ := id s
    have hxb := ext_box v3 (.slice sa (DT).length sc) 27
    have bS := cell_new v3 (.slice sa (DT).length sc) 27
    replace hX := hX.trans hxb
    replace d := d.ext hxb
    replace bd := hxb.cell bd
    replace s := s.ext hxb
    clear hxb
    go_wp2_with fail
    generalize (v3.alloc (.cells #[(.slice sa (DT).length sc)] 27)) = v4 at *
    refine (same9_any _ _ _ _ _ d s HSD.out).mono ?_
    rintro e v5 ⟨rfl, hdr⟩
    rw [eqTB_yes rfl]
    have hx := hdr.ext
    clear hdr
    replace hX := hX.trans hx
    replace d := d.ext hx
    replace bd := hx.cell bd
    replace s := s.ext hx
    replace bS := hx.cell bS
    clear hx
    clear s bS
    go_upto_if 67 with (fail)
    go_cut [] (fun wx => Ext v5 wx)
    case first =>
      by_cases hD0 : D = 0
      case neg =>
        have hDb : (D == 0) = false := by simpa using hD0
        go_wp2
        go_meet
        case rel => exact Ext.refl _
      case pos =>
        subst hD0
        obtain ⟨N, rfl, N1, N12⟩ := dih_0 HD.out.symm
        obtain ⟨hgC, hcore, -, -⟩ := dh_all N1 N12
        obtain ⟨eDT, -⟩ := dih_in N1 N12
        have eDT := HDT.out.trans eDT
        subst eDT
        have HAL := Lib.hid (ale_dih N1 N12)
        have HCY := Lib.hid (cyclicGroup_in N1 N12)
        have HCI := Lib.hid (cyc_is N1 N12)
        have HTK := Lib.hid (show TableOk (mkT N (cycF N)) from (groupB_iff.1 hgC).1)
        have hcl := length_mkT N (cycF N)
        clear hgC hcore
        obtain ⟨CY, hCY⟩ : ∃ CY, CY = mkT N (cycF N) := ⟨_, rfl⟩
        rw [← hCY] at HCY HCI HTK hcl
        clear hcl hCY
        have hXi := Ext.refl v5
        go_wp2_with fail
        have hc := AlexanderQuandle_impl (N : Int) ((N : Int) - 1) v5
        rw [HAL.out.1, HAL.out.2] at hc
        refine hc.mono ?_
        clear hc
        rintro e v6 ⟨vv, rfl, al, hx⟩
        replace hXi := hXi.trans hx
        replace d := d.ext hx
        replace bd := hx.cell bd
        clear hx
        replace al := al.toR
        obtain ⟨ala, alc, rfl, -⟩ := id al
        have hxb := ext_box v6 (.slice ala (alT N (N - 1)).length alc) 27
        have bA := cell_new v6 (.slice ala (alT N (N - 1)).length alc) 27
        replace hXi := hXi.trans hxb
        replace d := d.ext hxb
        replace bd := hxb.cell bd
        replace al := al.ext hxb
        clear hxb
        go_wp2_with fail
        generalize (v6.alloc (.cells #[(.slice ala (alT N (N - 1)).length alc)] 27)) = v7 at *
        have hc := CyclicGroup_impl (N : Int) v7
        rw [HCY.out.1, HCY.out.2] at hc
        refine hc.mono ?_
        clear hc
        rintro e v8 ⟨vv, rfl, cy, hx⟩
        replace hXi := hXi.trans hx
        replace d := d.ext hx
        replace bd := hx.cell bd
        replace al := al.ext hx
        replace bA := hx.cell bA
        clear hx
        replace cy := cy.toR
        obtain ⟨cya, cyc, rfl, -⟩ := id cy
        have hxb := ext_box v8 (.slice cya (CY).length cyc) 32
        have bC := cell_new v8 (.slice cya (CY).length cyc) 32
        replace hXi := hXi.trans hxb
        replace d := d.ext hxb
        replace bd := hxb.cell bd
        replace al := al.ext hxb
        replace bA := hxb.cell bA
        replace cy := cy.ext hxb
        clear hxb
        go_wp2_with fail
        generalize (v8.alloc (.cells #[(.slice cya (CY).length cyc)] 32)) = v9 at *
        have hc := CoreQuandle_impl CY _ v9 (rowsR_okk cy HTK.out)
        rw [HCI.out.1, HCI.out.2] at hc
        refine hc.mono ?_
        clear hc
        rintro e v10 ⟨vv, rfl, co, hx⟩
        replace hXi := hXi.trans hx
        replace d := d.ext hx
        replace bd := hx.cell bd
        replace al := al.ext hx
        replace bA := hx.cell bA
        replace cy := cy.ext hx
        replace bC := hx.cell bC
        clear hx
        replace co := co.toR
        obtain ⟨coa, coc, rfl, -⟩ := id co
        have hxb := ext_box v10 (.slice coa (alT N (N - 1)).length coc) 27
        have bO := cell_new v10 (.slice coa (alT N (N - 1)).length coc) 27
        replace hXi := hXi.trans hxb
        replace d := d.ext hxb
        replace bd := hxb.cell bd
        replace al := al.ext hxb
        replace bA := hxb.cell bA
        replace cy := cy.ext hxb
        replace bC := hxb.cell bC
        replace co := co.ext hxb
        clear hxb
        go_wp2_with fail
        generalize (v10.alloc (.cells #[(.slice coa (alT N (N - 1)).length coc)] 27)) = v11 at *
        refine (same9_any _ _ _ _ _ al d HSD.out).mono ?_
        rintro e v12 ⟨rfl, hdr⟩
        rw [eqTB_yes rfl]
        have hx := hdr.ext
        clear hdr
        replace hXi := hXi.trans hx
        replace d := d.ext hx
        replace bd := hx.cell bd
        replace al := al.ext hx
        replace bA := hx.cell bA
        replace cy := cy.ext hx
        replace bC := hx.cell bC
        replace co := co.ext hx
        replace bO := hx.cell bO
        clear hx
        go_wp2_with fail
        refine (same9_any _ _ _ _ _ co d HSD.out).mono ?_
        rintro e v13 ⟨rfl, hdr⟩
        rw [eqTB_yes rfl]
        have hx := hdr.ext
        clear hdr
        replace hXi := hXi.trans hx
        replace d := d.ext hx
        replace bd := hx.cell bd
        replace al := al.ext hx
        replace bA := hx.cell bA
        replace cy := cy.ext hx
        replace bC := hx.cell bC
        replace co := co.ext hx
        replace bO := hx.cell bO
        clear hx
        go_wp2
        go_meet
        case rel => exact hXi
    replace hX := hX.trans hcut
    clear hcut bd d
    have hbig : ¬ 4096 < (bs.length : Int) := by have := HB.out; omega
    go_wp2_with fail
    refine (DrawAlexanderQuandle_any bs _ _ (HV.out.ext hX) (by omega)).mono ?_
    rintro e wA ⟨m, k, rfl, m1, m2, k1, k2, hx⟩
    replace hX := hX.trans hx
    clear hx hbig
    obtain ⟨A, hA⟩ : ∃ A, A = aleC m k := ⟨_, rfl⟩
    obtain ⟨AT, hAT⟩ : ∃ AT, AT = aleT m k := ⟨_, rfl⟩
    have HSA := Lib.hid (show Small AT by rw [hAT]; exact small_ale m k)
    have HA := Lib.hid hA
    have HAT := Lib.hid hAT
    clear hA hAT
    go_wp2_with fail
    have hc := AlexanderQuandle_impl m k wA
    rw [← HA.out, ← HAT.out] at hc
    refine hc.mono ?_
    clear hc
    rintro e v14 ⟨vv, rfl, al, hx⟩
    replace hX := hX.trans hx
    clear hx
    replace al := al.toR
    obtain ⟨ala, alc, rfl, -⟩ := id al
    have hxb := ext_box v14 (.slice ala (AT).length alc) 27
    have bA := cell_new v14 (.slice ala (AT).length alc) 27
    replace hX := hX.trans hxb
    replace al := al.ext hxb
    clear hxb
    go_wp2_with fail
    generalize (v14.alloc (.cells #[(.slice ala (AT).length alc)] 27)) = v15 at *
    have hc := AlexanderQuandle_spec m k v15
    rw [← HA.out, ← HAT.out] at hc
    refine hc.mono ?_
    clear hc
    rintro e v16 ⟨vv, rfl, s, hx⟩
    replace hX := hX.trans hx
    replace al := al.ext hx
    replace bA := hx.cell bA
    clear hx
    obtain ⟨sa, sc, rfl, -⟩ := id s
    have hxb := ext_box v16 (.slice sa (AT).length sc) 27
    have bS := cell_new v16 (.slice sa (AT).length sc) 27
    replace hX := hX.trans hxb
    replace al := al.ext hxb
    replace bA := hxb.cell bA
    replace s := s.ext hxb
    clear hxb
    go_wp2_with fail
    generalize (v16.alloc (.cells #[(.slice sa (AT).length sc)] 27)) = v17 at *
    refine (same9_any _ _ _ _ _ al s HSA.out).mono ?_
    rintro e v18 ⟨rfl, hdr⟩
    rw [eqTB_yes rfl]
    have hx := hdr.ext
    clear hdr
    replace hX := hX.trans hx
    replace al := al.ext hx
    replace bA := hx.cell bA
    replace s := s.ext hx
    replace bS := hx.cell bS
    clear hx
    clear s bS
    go_upto_if 140 with (fail)
    go_cut [] (fun wx => Ext v18 wx)
    case first =>
      by_cases hA0 : A = 0
      case neg =>
        have hAb : (A == 0) = false := by simpa using hA0
        go_wp2
        go_meet
        case rel => exact Ext.refl _
      case pos =>
        subst hA0
        obtain ⟨N, K, N1, N12, hK, hcop, hAN⟩ := ale_0 HA.out.symm
        have eAT := HAT.out.trans hAN
        subst eAT
        have HQ := Lib.hid (al_quand N12 hK hcop)
        have HM := Lib.hid (al_medial (n := N) (a := K) N12 N1)
        have ra := rowsR_okk al HQ.out.1.1
        have hXi := Ext.refl v18
        clear al hcop hAN
        go_wp2_with fail
        have hc := IsQuandle_ok _ _ v18 ra HQ.out
        refine hc.mono ?_
        clear hc
        rintro e v19 ⟨rfl, hx⟩
        replace hXi := hXi.trans hx
        replace ra := ra.ext hx
        replace bA := hx.cell bA
        clear hx
        go_wp2_with fail
        have hc := IsMedialRack_ok _ _ v19 ra HQ.out.1 HM.out
        refine hc.mono ?_
        clear hc
        rintro e v20 ⟨rfl, hx⟩
        replace hXi := hXi.trans hx
        replace ra := ra.ext hx
        replace bA := hx.cell bA
        clear hx
        go_wp2
        go_meet
        case rel => exact hXi
    replace hX := hX.trans hcut
    clear hcut bA al
    have hbig : ¬ 4096 < (bs.length : Int) := by have := HB.out; omega
    go_wp2_with fail
    refine (DrawGroupConjugation_any bs _ _ (HV.out.ext hX) (by omega)).mono ?_
    rintro e wG ⟨gv, T, rfl, g, hl, hx⟩
    replace hX := hX.trans hx
    clear hx hbig
    obtain ⟨b, o, c, rfl⟩ := g.shape
    have hxb := ext_box wG (.slice (some ⟨b, o, none⟩) T.length c) 32
    have bg := cell_new wG (.slice (some ⟨b, o, none⟩) T.length c) 32
    replace hX := hX.trans hxb
    replace g := g.ext hxb
    clear hxb
    go_wp2_with fail
    generalize (wG.alloc (.cells #[(.slice (some ⟨b, o, none⟩) T.length c)] 32)) = v21 at *
    cases hg : groupB T
    case false =>
      have hc := GroupConjugation_impl T _ v21 g
      rw [ifG_no hg, codeG_no hg] at hc
      refine hc.mono ?_
      clear hc
      rintro e v22 ⟨vv, rfl, cj, hx⟩
      replace hX := hX.trans hx
      replace g := g.ext hx
      replace bg := hx.cell bg
      clear hx
      replace cj := cj.toR
      obtain ⟨cja, cjc, rfl, -⟩ := id cj
      have hxb := ext_box v22 (.slice cja 0 cjc) 27
      have bJ := cell_new v22 (.slice cja 0 cjc) 27
      replace hX := hX.trans hxb
      replace g := g.ext hxb
      replace bg := hxb.cell bg
      replace cj := cj.ext hxb
      clear hxb
      go_wp2_with fail
      generalize (v22.alloc (.cells #[(.slice cja 0 cjc)] 27)) = v23 at *
      have hc := GroupConjugation_spec T _ v23 g
      rw [ifG_no hg, codeG_no hg] at hc
      refine hc.mono ?_
      clear hc
      rintro e v24 ⟨vv, rfl, s, hx⟩
      replace hX := hX.trans hx
      replace g := g.ext hx
      replace bg := hx.cell bg
      replace cj := cj.ext hx
      replace bJ := hx.cell bJ
      clear hx
      obtain ⟨sa, sc, rfl, -⟩ := id s
      have hxb := ext_box v24 (.slice sa 0 sc) 27
      have bS := cell_new v24 (.slice sa 0 sc) 27
      replace hX := hX.trans hxb
      replace g := g.ext hxb
      replace bg := hxb.cell bg
      replace cj := cj.ext hxb
      replace bJ := hxb.cell bJ
      replace s := s.ext hxb
      clear hxb
      go_wp2_with fail
      generalize (v24.alloc (.cells #[(.slice sa 0 sc)] 27)) = v25 at *
      refine (same9_any _ _ _ _ _ cj s small_nil).mono ?_
      rintro e v26 ⟨rfl, hdr⟩
      rw [eqTB_yes rfl]
      have hx := hdr.ext
      clear hdr
      replace hX := hX.trans hx
      replace g := g.ext hx
      replace bg := hx.cell bg
      replace cj := cj.ext hx
      replace bJ := hx.cell bJ
      replace s := s.ext hx
      replace bS := hx.cell bS
      clear hx
      clear s bS
      go_wp2_with fail
      have hc := CoreQuandle_impl T _ v26 g
      rw [ifG_no hg, codeG_no hg] at hc
      refine hc.mono ?_
      clear hc
      rintro e v27 ⟨vv, rfl, co, hx⟩
      replace hX := hX.trans hx
      replace g := g.ext hx
      replace bg := hx.cell bg
      replace cj := cj.ext hx
      replace bJ := hx.cell bJ
      clear hx
      replace co := co.toR
      obtain ⟨coa, coc, rfl, -⟩ := id co
      have hxb := ext_box v27 (.slice coa 0 coc) 27
      have bO := cell_new v27 (.slice coa 0 coc) 27
      replace hX := hX.trans hxb
      replace g := g.ext hxb
      replace bg := hxb.cell bg
      replace cj := cj.ext hxb
      replace bJ := hxb.cell bJ
      replace co := co.ext hxb
      clear hxb
      go_wp2
      go_ret
      exact ⟨rfl, hX⟩
    case true =>
      have HG := Lib.hid (groupB_iff.1 hg)
      have h1 : 1 ≤ T.length := (groupB_iff.1 hg).1.1
      have hc := GroupConjugation_impl T _ v21 g
      rw [ifG_yes hg, codeG_yes hg] at hc
      refine hc.mono ?_
      clear hc
      rintro e v29 ⟨vv, rfl, cj, hx⟩
      replace hX := hX.trans hx
      replace g := g.ext hx
      replace bg := hx.cell bg
      clear hx
      replace cj := cj.toR
      obtain ⟨cja, cjc, rfl, -⟩ := id cj
      have hxb := ext_box v29 (.slice cja (mkT T.length (conjF T)).length cjc) 27
      have bJ := cell_new v29 (.slice cja (mkT T.length (conjF T)).length cjc) 27
      replace hX := hX.trans hxb
      replace g := g.ext hxb
      replace bg := hxb.cell bg
      replace cj := cj.ext hxb
      clear hxb
      go_wp2_with fail
      generalize (v29.alloc (.cells #[(.slice cja (mkT T.length (conjF T)).length cjc)] 27)) = v30 at *
      have hc := GroupConjugation_spec T _ v30 g
      rw [ifG_yes hg, codeG_yes hg] at hc
      refine hc.mono ?_
      clear hc
      rintro e v31 ⟨vv, rfl, s, hx⟩
      replace hX := hX.trans hx
      replace g := g.ext hx
      replace bg := hx.cell bg
      replace cj := cj.ext hx
      replace bJ := hx.cell bJ
      clear hx
      obtain ⟨sa, sc, rfl, -⟩ := id s
      have hxb := ext_box v31 (.slice sa (mkT T.length (conjF T)).length sc) 27
      have bS := cell_new v31 (.slice sa (mkT T.length (conjF T)).length sc) 27
      replace hX := hX.trans hxb
      replace g := g.ext hxb
      replace bg := hxb.cell bg
      replace cj := cj.ext hxb
      replace bJ := hxb.cell bJ
      replace s := s.ext hxb
      clear hxb
      go_wp2_with fail
      generalize (v31.alloc (.cells #[(.slice sa (mkT T.length (conjF T)).length sc)] 27)) = v32 at *
      refine (same9_any _ _ _ _ _ cj s (small_mkT (by omega) _)).mono ?_
      rintro e v33 ⟨rfl, hdr⟩
      rw [eqTB_yes rfl]
      have hx := hdr.ext
      clear hdr
      replace hX := hX.trans hx
      replace g := g.ext hx
      replace bg := hx.cell bg
      replace cj := cj.ext hx
      replace bJ := hx.cell bJ
      replace s := s.ext hx
      replace bS := hx.cell bS
      clear hx
      clear s bS
      go_wp2_with fail
      have hc := CoreQuandle_impl T _ v33 g
      rw [ifG_yes hg, codeG_yes hg] at hc
      refine hc.mono ?_
      clear hc
      rintro e v34 ⟨vv, rfl, co, hx⟩
      replace hX := hX.trans hx
      replace g := g.ext hx
      replace bg := hx.cell bg
      replace cj := cj.ext hx
      replace bJ := hx.cell bJ
      clear hx
      replace co := co.toR
      obtain ⟨coa, coc, rfl, -⟩ := id co
      have hxb := ext_box v34 (.slice coa (mkT T.length (coreF T)).length coc) 27
      have bO := cell_new v34 (.slice coa (mkT T.length (coreF T)).length coc) 27
      replace hX := hX.trans hxb
      replace g := g.ext hxb
      replace bg := hxb.cell bg
      replace cj := cj.ext hxb
      replace bJ := hxb.cell bJ
      replace co := co.ext hxb
      clear hxb
      go_wp2_with fail
      generalize (v34.alloc (.cells #[(.slice coa (mkT T.length (coreF T)).length coc)] 27)) = v35 at *
      have HQJ := Lib.hid (conj_quand HG.out)
      have HQO := Lib.hid (core_quand HG.out)
      have HIO := Lib.hid (core_invol HG.out)
      have HTR := Lib.hid (conj_triv HG.out)
      replace cj := rowsR_okk cj HQJ.out.1.1
      replace co := rowsR_okk co HQO.out.1.1
      have hc := IsQuandle_ok _ _ v35 cj HQJ.out
      refine hc.mono ?_
      clear hc
      rintro e v36 ⟨rfl, hx⟩
      replace hX := hX.trans hx
      replace g := g.ext hx
      replace bg := hx.cell bg
      replace cj := cj.ext hx
      replace bJ := hx.cell bJ
      replace co := co.ext hx
      replace bO := hx.cell bO
      clear hx
      go_wp2_with fail
      have hc := IsAbelianGroup_impl T _ v36 g
      rw [ifG_yes hg, codeG_yes hg] at hc
      refine hc.mono ?_
      clear hc
      rintro e v37 ⟨rfl, hx⟩
      replace hX := hX.trans hx
      replace g := g.ext hx
      replace bg := hx.cell bg
      replace cj := cj.ext hx
      replace bJ := hx.cell bJ
      replace co := co.ext hx
      replace bO := hx.cell bO
      clear hx
      go_wp2_with fail
      have hc := TrivialRack_impl T.length v37 h1 hl
      refine hc.mono ?_
      clear hc
      rintro e v38 ⟨vv, rfl, tr, hx⟩
      replace hX := hX.trans hx
      replace g := g.ext hx
      replace bg := hx.cell bg
      replace cj := cj.ext hx
      replace bJ := hx.cell bJ
      replace co := co.ext hx
      replace bO := hx.cell bO
      clear hx
      replace tr := tr.toR
      obtain ⟨tra, trc, rfl, -⟩ := id tr
      have hxb := ext_box v38 (.slice tra (trivT T.length).length trc) 27
      have bT := cell_new v38 (.slice tra (trivT T.length).length trc) 27
      replace hX := hX.trans hxb
      replace g := g.ext hxb
      replace bg := hxb.cell bg
      replace cj := cj.ext hxb
      replace bJ := hxb.cell bJ
      replace co := co.ext hxb
      replace bO := hxb.cell bO
      replace tr := tr.ext hxb
      clear hxb
      go_wp2_with fail
      generalize (v38.alloc (.cells #[(.slice tra (trivT T.length).length trc)] 27)) = v39 at *
      have hc := IsQuandle_ok _ _ v39 co HQO.out
      refine hc.mono ?_
      clear hc
      rintro e v40 ⟨rfl, hx⟩
      replace hX := hX.trans hx
      replace g := g.ext hx
      replace bg := hx.cell bg
      replace cj := cj.ext hx
      replace bJ := hx.cell bJ
      replace co := co.ext hx
      replace bO := hx.cell bO
      replace tr := tr.ext hx
      replace bT := hx.cell bT
      clear hx
      go_wp2_with fail
      have hc := IsInvolutoryRack_ok _ _ v40 co HQO.out.1 HIO.out
      refine hc.mono ?_
      clear hc
      rintro e v41 ⟨rfl, hx⟩
      replace hX := hX.trans hx
      replace g := g.ext hx
      replace bg := hx.cell bg
      replace cj := cj.ext hx
      replace bJ := hx.cell bJ
      replace co := co.ext hx
      replace bO := hx.cell bO
      replace tr := tr.ext hx
      replace bT := hx.cell bT
      clear hx
      go_wp2_with fail
      refine (same9_any _ _ _ _ _ cj.toR tr (small_mkT (by omega) _)).mono ?_
      rintro e wE ⟨rfl, hdr⟩
      rw [← trivT_eq, HTR.out]
      have hx := hdr.ext
      clear hdr
      replace hX := hX.trans hx
      cases hab : abelB T
      all_goals
        go_wp2
        go_ret
        exact ⟨rfl, hX⟩
end Go.Proofs.Ytbfhecckapgpnaa
