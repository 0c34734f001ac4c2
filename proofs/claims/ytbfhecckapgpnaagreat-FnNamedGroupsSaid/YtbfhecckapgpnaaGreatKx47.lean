/-
  Contract of the program's groupOrder.
-/
import Derived.Test.YtbfhecckapgpnaaGreatProg
import Derived.Deep.DeepCutAuto
import Derived.Deep.RegionWith
import Derived.Deep.RegionHeld3
import Derived.Deep.DrawnRows
import Derived.IntWalk
import Derived.Maps.AppendAt
import Derived.Maps.Own
import Derived.Maps.OwnOps
import Derived.Test.YtbfhecckapgpnaaGreatKx0
import Derived.Test.YtbfhecckapgpnaaGreatKx1
import Derived.Test.YtbfhecckapgpnaaGreatKx2
import Derived.Test.YtbfhecckapgpnaaGreatKx8
import Derived.Test.YtbfhecckapgpnaaGreatKx9
import Derived.Test.YtbfhecckapgpnaaGreatKx7
import Derived.Test.YtbfhecckapgpnaaGreatKx22
import Derived.Test.YtbfhecckapgpnaaGreatKx41
import Derived.Test.YtbfhecckapgpnaaGreatKx5
import Derived.Test.YtbfhecckapgpnaaGreatKx10
import Derived.Test.YtbfhecckapgpnaaGreatKx6
import Derived.Test.YtbfhecckapgpnaaGreatKx12
import Derived.Test.YtbfhecckapgpnaaGreatKx14
import Derived.Test.YtbfhecckapgpnaaGreatKx42
import Derived.Test.YtbfhecckapgpnaaGreatKx19
import Derived.Test.YtbfhecckapgpnaaGreatKx27
import Derived.Test.YtbfhecckapgpnaaGreatKx33
import Derived.Test.YtbfhecckapgpnaaGreatKx43
namespace Go.Proofs.YtbfhecckapgpnaaGreat
set_option linter.unusedVariables false
set_option linter.unusedSimpArgs false
open Go.RowKit
attribute [local go_sem ↓] Go.wp_at_zero Go.wp_at_succ
open Go.Deep

theorem SeenMap.isMap {w : World} {b n : Nat} {S : List (List Int)} (h : SeenMap w b n S) : ∃ es c, w.heap[b]? = some (.map es c) := by
  obtain ⟨D, ⟨es, c, h1, _⟩, _⟩ := h
  exact ⟨es, c, h1⟩
theorem GrowT.map {e base : Nat} {w w' : World} {v : Value} {t : List (List Int)} {B : Nat} (h : GrowT e base w v t) (hg : w.grownBy w' (some B)) (hm : ∃ es c, w.heap[B]? = some (.map es c)) (hr : ∀ i, i < t.length → 0 < (row t i).length) (hne : v.ownBlock ≠ some B) : GrowT e base w' v t := by
  obtain ⟨es, c, hm⟩ := hm
  obtain ⟨xs, h1, h2⟩ := h.xt
  refine GrowT.of_xt (World.ownsRow.kept h1 hg (.inr hne)) ⟨h2.1, fun i hi => ?_⟩
  obtain ⟨x, g1, g0, b, d, rfl, g2⟩ := h2.2 i hi
  refine ⟨_, g1, g0, b, d, rfl, intsAt_grown g2 hg (fun _ e => ?_)⟩
  injection e with e
  have := g2 0 (hr i hi)
  rw [Nat.zero_add, e] at this
  simp [World.cell?, hm] at this
theorem iso_digits {n : Nat} {p : List Int} (h : IsoOk n [] [] p) (h12 : n ≤ 12) : ∀ i, i < p.length → 0 ≤ ix p i ∧ ix p i < 12 := fun i hi => by
  have := h.bd (x := i) (by rw [← h.1]; exact hi)
  omega
theorem rowIs_intsAt {w : World} {b T n : Nat} {l : List Int} (h : w.rowIs b T n (fun i => .int .i64 (ix l i))) (hl : l.length = n) : IntsAt w b 0 l := fun i hi => by rw [Nat.zero_add]; exact h.cell (by omega)

set_option maxRecDepth 100000 in
set_option maxHeartbeats 600000 in
theorem groupOrder_any (n : Nat) (gens : List (List Int)) (v : Value) (w : World) (hv : Rows w v gens) (hg : ∀ k, k < gens.length → IsoOk n [] [] (row gens k)) (h1 : 1 ≤ n) (h12 : n ≤ 12) (h16 : gens.length ≤ 16) :
    Calls Tryz.prog 77 #[.int .i64 n, v, .int .i64 12] w fun e w' => e = .returned (.int .i64 (genA gens n).length) ∧ Ext w w' := by
  obtain ⟨hlen, b, o, c, rfl, hc⟩ := id hv
  have HG := Lib.hid hg
  have HC := Lib.hid hc
  have HIL := Lib.hid (length_idL n)
  have HD0 := Lib.hid (genA_def gens n)
  have HID := Lib.hid (iso_digits (idL_perm n) h12)
  have hmm := @run_makeMap Tryz.prog
  clear hg hv hc
  go_enter Tryz.func77, Tryz.ntmps77
  go_wp2_with fail
  clear hmm
  refine (identity_n n _ (by omega)).mono ?_
  rintro e w1 ⟨rfl, hr1, hx1⟩
  have hi1 := rowIs_intsAt hr1 HIL.out
  rw [World.size_alloc] at hi1
  have HI1 := Lib.hid (show Ints w1 (.slice (some ⟨w.heap.size + 1, 0, none⟩) n n) (idL n) from ⟨by rw [HIL.out]; omega, _, 0, n, by rw [HIL.out], hi1⟩)
  have HX1 := Lib.hid hx1
  have HS1 := Lib.hid ((SeenMap.made w).ext hx1)
  have z1 := hx1.size
  clear hr1 hi1 hx1
  go_wp2_with fail
  refine (digitsText_any (idL n) _ _ HI1.out (by rw [HIL.out]; exact h12) HID.out).mono ?_
  rintro e w2 ⟨rfl, hx2⟩
  have HS2 := Lib.hid (HS1.out.ext hx2)
  have HX2 := Lib.hid (((Ext.refl w).alloc (.map #[] 0)).trans (HX1.out.trans hx2))
  clear hx2
  go_wp2_with (refine wpList_seen_update rfl _ _ _ (.inr rfl) rfl HS2.out (by unfold maxLen; omega) rfl rfl HID.out (by rw [HIL.out]; exact h12) ?_)
  intro w3 hs3 hg3
  have HX3 := Lib.hid (ext_grownBy HX2.out hg3 (fun k e => by injection e with e; omega))
  have hw3 := HX3.out.size
  have HS3 := Lib.hid hs3
  have hB3 := hs3.lt
  clear hs3 hg3
  go_wp2_with fail
  refine (identity_n n w3 (by omega)).mono ?_
  rintro e w4 ⟨rfl, hr4, hx4⟩
  have hi4 := rowIs_intsAt hr4 HIL.out
  have hg4 : GrowT 46 w.heap.size (w4.alloc (.cells #[.slice (some ⟨w3.heap.size, 0, none⟩) n n] 46)) (.slice (some ⟨w4.heap.size, 0, none⟩) 1 1) [idL n] := by
    have := GrowT.one (e := 46) (w := w4) (c := n) (base := w.heap.size) (by have := hx4.size; omega) (by rw [HIL.out]; omega) hi4
    rw [HIL.out] at this
    exact this
  have HG4 := Lib.hid hg4
  have HS4 := Lib.hid ((HS3.out.ext hx4).ext ((Ext.refl w4).alloc (.cells #[.slice (some ⟨w3.heap.size, 0, none⟩) n n] 46)))
  have HX4 := Lib.hid ((HX3.out.trans hx4).trans ((Ext.refl w4).alloc (.cells #[.slice (some ⟨w3.heap.size, 0, none⟩) n n] 46)))
  have z4 := hx4.size
  clear hr4 hx4 hi4 hg4
  go_wp2_with fail
  go_loopw [8, 9] (fun vo x wr => ∃ (i : Nat) (out : List (List Int)), x = .int .i64 i ∧ i ≤ 13 ∧ out.length ≤ 12 ∧ genA gens n = genF gens (13 - i) out i ∧ GoodG n out ∧ GrowT 46 w.heap.size wr vo out ∧ SeenMap wr w.heap.size out.length out ∧ vo.ownBlock ≠ some w.heap.size ∧ Ext w wr) (fun _ x _ => 13 - (intOf x).toNat)
  case atStart => exact ⟨0, [idL n], rfl, by omega, by simp, HD0.out, goodG_unit (idL_perm n), HG4.out, HS4.out, by simp [Value.ownBlock]; omega, HX4.out⟩
  case round =>
    clear HG4 HS4 HX4 HD0
    obtain ⟨i, out, rfl, hi13, h12o, hd, hgood, hgo, hsm, hne, hx⟩ := hrel
    have HD := Lib.hid hd
    have HGD := Lib.hid hgood
    have HGO := Lib.hid hgo
    have HSM := Lib.hid hsm
    have HNE := Lib.hid hne
    have HX := Lib.hid hx
    obtain ⟨go, co, ob, on, od, rfl, ohc, -⟩ := hgo.head hgood.one
    clear hd hgood hgo hsm hne hx
    by_cases hil : i < out.length
    case neg =>
      have HE := Lib.hid (show genA gens n = out by rw [HD.out, genF_stop (fun h => hil h.1)])
      have h1i : ¬ (i : Int) < (out.length : Int) := by omega
      go_wp2_with fail
      go_ret
      exact ⟨by rw [HE.out]; rfl, HX.out⟩
    case pos =>
      have h1i : (i : Int) < (out.length : Int) := by omega
      have HD1 := Lib.hid (show genA gens n = genF gens (12 - i) (rowFrom gens (row out i) 0 out) (i + 1) by rw [HD.out, show 13 - i = (12 - i) + 1 by omega, genF_go hil h12o])
      obtain ⟨x, hxx⟩ : ∃ x, x = row out i := ⟨_, rfl⟩
      have HXX := Lib.hid hxx
      rw [← hxx] at HD1
      clear hxx HD
      go_wp2_with fail
      go_loopw [8, 30] (fun vo y wr => ∃ (k : Nat) (out : List (List Int)), y = .int .i64 k ∧ k ≤ gens.length ∧ i < out.length ∧ out.length ≤ 12 ∧ x = row out i ∧ genA gens n = genF gens (12 - i) (rowFrom gens x k out) (i + 1) ∧ GoodG n out ∧ GrowT 46 w.heap.size wr vo out ∧ SeenMap wr w.heap.size out.length out ∧ vo.ownBlock ≠ some w.heap.size ∧ Ext w wr) (fun _ y _ => gens.length - (intOf y).toNat)
      case atStart => exact ⟨0, out, rfl, by omega, hil, h12o, HXX.out, HD1.out, HGD.out, HGO.out, HSM.out, HNE.out, HX.out⟩
      case round =>
        clear HD1 HGD HGO HSM HNE HX HXX ohc h1i hil h12o
        obtain ⟨k, out, rfl, hk, hil, h12o, hxx, hd, hgood, hgo, hsm, hne, hx⟩ := hrel
        have HD := Lib.hid hd
        have HXX := Lib.hid hxx
        have HGD := Lib.hid hgood
        have HGO := Lib.hid hgo
        have HSM := Lib.hid hsm
        have HNE := Lib.hid hne
        have HX := Lib.hid hx
        have hon := hgood.one
        have hBl := hsm.lt
        obtain ⟨go, co, ob, on, od, rfl, ohc, -⟩ := hgo.head hgood.one
        clear hd hgood hsm hne hx hxx
        by_cases hkl : k < gens.length
        case neg =>
          have HE := Lib.hid (show rowFrom gens x k out = out from rowFrom_end (by omega))
          have h1k : ¬ (k : Int) < (gens.length : Int) := by omega
          clear hgo
          go_wp2_with fail
          go_roundw
          case rel => exact ⟨i + 1, out, by go_num, by omega, h12o, by rw [HD.out, HE.out, show 12 - i = 13 - (i + 1) by omega], HGD.out, HGO.out, HSM.out, HNE.out, HX.out⟩
          case measure => simp [intOf]; omega
        case pos =>
          have h1k : (k : Int) < (gens.length : Int) := by omega
          have hii : (i : Int) < (out.length : Int) := by omega
          obtain ⟨d1, s1, m1, q1, q2, -⟩ := (HC.out.ext HX.out).get hkl
          have hgk := HG.out k hkl
          rw [hgk.1] at q1
          have Q2 := Lib.hid (show Ints wr (.slice (some ⟨d1, s1, none⟩) n m1) (row gens k) from ⟨by rw [hgk.1]; omega, d1, s1, m1, by rw [hgk.1], q2⟩)
          obtain ⟨go', co', bi, di, hgo', r1, r2, r3⟩ := hgo.get hil
          simp only [Value.slice.injEq, Option.some.injEq, Addr.mk.injEq, and_true, true_and] at hgo'
          obtain ⟨rfl, rfl⟩ := hgo'
          have hxi : IsoOk n [] [] x := by rw [HXX.out]; exact HGD.out.row hil
          rw [← HXX.out] at r1 r2 r3
          rw [hxi.1] at r1
          have R2 := Lib.hid (show Ints wr (.slice (some ⟨bi, 0, none⟩) n di) x from ⟨r3, bi, 0, di, by rw [hxi.1], r2⟩)
          have HXI := Lib.hid hxi
          obtain ⟨pp, hpp⟩ : ∃ pp, pp = thenL x (row gens k) := ⟨_, rfl⟩
          have HPI := Lib.hid (show IsoOk n [] [] pp by rw [hpp]; exact thenL_perm hxi hgk)
          have HPL := Lib.hid HPI.out.1
          have HPD := Lib.hid (iso_digits HPI.out h12)
          have HAT := Lib.hid (show rowFrom gens x k out = rowFrom gens x (k + 1) (addL out pp) by rw [hpp]; exact rowFrom_at hkl)
          have HTH := Lib.hid (show Calls Tryz.prog 80 #[.slice (some ⟨bi, 0, none⟩) n di, .slice (some ⟨d1, s1, none⟩) n m1] wr (NewI pp wr) by
            rw [hpp]; exact then_any n x (row gens k) _ _ wr R2.out Q2.out HXI.out hgk.1 h12)
          clear hgk q2 r2 r3 hxi hpp hgo
          go_wp2_with fail
          refine HTH.out.mono ?_
          rintro e w5 ⟨b5, c5, rfl, ho5, hx5⟩
          have HP5 := Lib.hid (show Ints w5 (.slice (some ⟨b5, 0, none⟩) pp.length c5) pp from ⟨by rw [HPL.out]; omega, b5, 0, c5, rfl, ho5.2.2.1⟩)
          have HB5 := Lib.hid ho5.2.2.1
          have hb5 : wr.heap.size ≤ b5 := ho5.1
          have HX5 := Lib.hid hx5
          rw [HPL.out] at HP5 ⊢
          clear ho5 hx5 q1 r1
          go_wp2_with fail
          refine (digitsText_any pp _ _ HP5.out (by rw [HPL.out]; exact h12) HPD.out).mono ?_
          rintro e w6 ⟨rfl, hx6⟩
          have HX6 := Lib.hid (HX5.out.trans hx6)
          have HB6 := Lib.hid (HB5.out.ext hx6)
          have z6 := HX6.out.size
          have HGLT := Lib.hid (HGO.out.lt go rfl)
          have HSM6 := Lib.hid (HSM.out.ext HX6.out)
          have ohc6 := HX6.out.cell ohc
          have zwx := HX.out.size
          clear hx6
          cases hmem : decide (pp ∈ out) with
          | true =>
            have HAO := Lib.hid (show addL out pp = out from addL_old (of_decide_eq_true hmem))
            go_wp2_with (at_lookup; refine wpList_seen_lookup rfl _ _ rfl rfl HSM6.out rfl HPD.out (by rw [HPL.out]; exact h12) ?_; rw [hmem])
            go_roundw
            case rel => exact ⟨k + 1, out, by go_num, by omega, hil, h12o, HXX.out, by rw [HD.out, HAT.out, HAO.out], HGD.out, HGO.out.ext HX6.out, HSM6.out, HNE.out, HX.out.trans HX6.out⟩
            case measure => simp [intOf]; omega
          | false =>
            have HPO := Lib.hid (show pp ∉ out from of_decide_eq_false hmem)
            by_cases hfull : out.length = 12
            case pos =>
              have HE := Lib.hid (show (genA gens n).length = 13 by
                rw [HD.out, HAT.out, addL_new HPO.out h12o, genF_over hfull]; simp [hfull])
              have hfi : ((out.length : Int) == 12) = true := by simp; omega
              go_wp2_with (at_lookup; refine wpList_seen_lookup rfl _ _ rfl rfl HSM6.out rfl HPD.out (by rw [HPL.out]; exact h12) ?_; rw [hmem])
              go_ret
              exact ⟨by rw [HE.out]; rfl, HX.out.trans HX6.out⟩
            case neg =>
              have HAO := Lib.hid (show addL out pp = out ++ [pp] from addL_new HPO.out h12o)
              have HAG := Lib.hid (show GoodG n (out ++ [pp]) by rw [← HAO.out]; exact HGD.out.add HPI.out)
              have HXX2 := Lib.hid (show x = row (out ++ [pp]) i by rw [row_app _ _ hil]; exact HXX.out)
              have hfi : ((out.length : Int) == 12) = false := by simp; omega
              have hgn : go ≠ w.heap.size := fun e => HNE.out (by rw [e]; rfl)
              go_wp2_with (first | (at_lookup; refine wpList_seen_lookup rfl _ _ rfl rfl HSM6.out rfl HPD.out (by rw [HPL.out]; exact h12) ?_; rw [hmem]) | (at_mapUpdate; refine wpList_seen_update rfl _ _ _ (.inl rfl) rfl HSM6.out (by unfold maxLen; omega) rfl rfl HPD.out (by rw [HPL.out]; exact h12) ?_))
              intro w7 hs7 hg7
              have HX7 := Lib.hid (ext_grownBy (HX.out.trans HX6.out) hg7 (fun k e => by injection e with e; omega))
              have HGO7 := Lib.hid (show GrowT 46 w.heap.size w7 (.slice (some ⟨go, 0, none⟩) out.length co) out from (HGO.out.ext HX6.out).map hg7 HSM6.out.isMap (HGD.out.pos h1) (fun e => hgn (Option.some.inj e)))
              have HB7 := Lib.hid (show IntsAt w7 b5 0 pp from HB6.out.grown hg7 (fun e => by injection e with e; omega))
              have HS7 := Lib.hid hs7
              have z7 := hg7.size
              clear hs7 hg7
              go_wp2_with (at_builtin; refine wpList_append_row_at rfl _ _ 24 46 rfl Tryz.underlying24 infoSl w.heap.size _ _ rfl (HGO7.out.ext (ext_box _ _ _)) _ b5 c5 pp rfl (by rw [HPL.out]; exact cell_new _ _ _) (HB7.out.ext (ext_box _ _ _)) (by rw [HPL.out]; omega) (fun e => by have e2 : b5 = go := Option.some.inj e; have := HGLT.out; omega) (by omega) (by simp; omega) ?_)
              intro v8 w8 hg8 hgr8 hv8 hat8
              have HS8 := Lib.hid ((HS7.out.ext (ext_box w7 (.slice (some ⟨b5, 0, none⟩) n c5) 46)).kept hgr8 (fun e => hgn (Option.some.inj e).symm))
              have HN8 := Lib.hid (show v8.ownBlock ≠ some w.heap.size from fun e => by
                rcases hat8 with e2 | e2
                · rw [e2] at e; exact HNE.out e
                · rw [e2] at e; injection e with e; first | omega | (simp at e; omega))
              have HX8 := Lib.hid (ext_grownBy (HX7.out.trans (ext_box _ _ _)) hgr8 (fun k e => by have e2 : go = k := Option.some.inj e; have := HGLT.out; omega))
              have HG8 := Lib.hid hg8
              clear hgr8 hat8 hv8 hg8
              go_wp2_with fail
              go_roundw
              case rel => exact ⟨k + 1, out ++ [pp], by go_num, by omega, by simp; omega, by simp; omega, HXX2.out, by rw [HD.out, HAT.out, HAO.out], HAG.out, HG8.out, by simpa using HS8.out, HN8.out, HX8.out⟩
              case measure => simp [intOf]; omega
end Go.Proofs.YtbfhecckapgpnaaGreat
