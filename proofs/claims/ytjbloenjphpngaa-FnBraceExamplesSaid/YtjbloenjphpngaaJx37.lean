/-
  Contracts of l03Maps and what calls it.
-/
import Derived.Test.YtjbloenjphpngaaProg
import Derived.Deep.DeepCutAuto
import Derived.Deep.RegionWith
import Derived.Deep.RegionHeld3
import Derived.Deep.DrawnRows
import Derived.Test.YtjbloenjphpngaaJx0
import Derived.Test.YtjbloenjphpngaaJx1
import Derived.Test.YtjbloenjphpngaaJx5
import Derived.Test.YtjbloenjphpngaaJx8
import Derived.Test.YtjbloenjphpngaaJx9
import Derived.Test.YtjbloenjphpngaaJx2
import Derived.Test.YtjbloenjphpngaaJx14
import Derived.Test.YtjbloenjphpngaaJx10
import Derived.Test.YtjbloenjphpngaaJx6
import Derived.Test.YtjbloenjphpngaaJx3
import Derived.Test.YtjbloenjphpngaaJx4
import Derived.Test.YtjbloenjphpngaaJx12
import Derived.Test.YtjbloenjphpngaaJx16
import Derived.Test.YtjbloenjphpngaaJx21
import Derived.Test.YtjbloenjphpngaaJx22
import Derived.Test.YtjbloenjphpngaaJx23
import Derived.Test.YtjbloenjphpngaaJx24
import Derived.Test.YtjbloenjphpngaaJx36
import Derived.Test.YtjbloenjphpngaaJx15
import Derived.Test.YtjbloenjphpngaaJx33
import Derived.Test.YtjbloenjphpngaaJx34
import Derived.Test.YtjbloenjphpngaaJx27
import Derived.Test.YtjbloenjphpngaaJx42
import Derived.Test.YtjbloenjphpngaaJx17
namespace Go.Proofs.Ytjbloenjphpngaa
set_option linter.unusedVariables false
set_option linter.unusedSimpArgs false
open Go.RowKit
attribute [local go_sem ↓] Go.wp_at_zero Go.wp_at_succ

def zeroL (n : Nat) : List Int := mkL n (fun _ => 0)
theorem length_zeroL (n : Nat) : (zeroL n).length = n := length_mkL _ _
theorem ix_zeroL (n i : Nat) (h : i < n) : ix (zeroL n) i = 0 := ix_mkL _ _ _ h
theorem zero_col (n : Nat) : ColOk n (zeroL n) := ⟨length_zeroL n, fun i hi => by rw [ix_zeroL _ _ hi]; omega⟩
theorem zero_resp {n : Nat} {az bz : List (List (List Int))} {p : List Int} (hp : IsoOk n az bz p) : Resp n (zeroL n) (zeroL n) p := fun x hx => by
  rw [ix_zeroL _ _ hx, ix_zeroL _ _ (hp.bd hx).2]
theorem zero_resp2 {n : Nat} {az bz : List (List (List Int))} (h1 : 1 ≤ n) {p : List Int} (hp : IsoOk n az bz p) (he : ExtP [0] p) : Resp n ((zeroL n).set 0 60) ((zeroL n).set 0 60) p :=
  resp_own (f := []) (y := 0) (az := az) (bz := bz) (fun p hp _ => zero_resp hp) (length_zeroL n) (length_zeroL n) h1 h1 hp he
theorem begun_zero {n : Nat} {az bz : List (List (List Int))} (hA : TabsOk n az) (h1 : 1 ≤ n) (h : fitsB az bz [0] 0 = true) : Begun n az bz [0] :=
  fits_yes (f := []) (m := 0) (y := 0) hA ⟨fun i hi => by simp at hi, fun i hi => by simp at hi, fun k hk x hx => by simp at hx⟩ rfl (by omega) (by omega) (hasB_no.2 (by unfold indexOf indexFrom; omega)) h
theorem no_zero {n : Nat} {az bz : List (List (List Int))} (hA : TabsOk n az) (h1 : 1 ≤ n) (h : fitsB az bz [0] 0 = false) : extL n az bz [0] = [] :=
  fits_no hA (fun i hi => by
    have : i = 0 := by simpa using hi
    subst this; rw [ix_eq]; simp) rfl h1 h
theorem two_made (w : World) (n : Nat) : ((w.alloc (.cells (madeCells #[Value.int .i64 0] n) 2)).alloc (.cells (madeCells #[Value.int .i64 0] n) 2)).drew.rowIs w.heap.size 2 n (fun _ => .int .i64 0) ∧
    ((w.alloc (.cells (madeCells #[Value.int .i64 0] n) 2)).alloc (.cells (madeCells #[Value.int .i64 0] n) 2)).drew.rowIs (w.heap.size + 1) 2 n (fun _ => .int .i64 0) := by
  refine ⟨((World.rowIs_made w (.int .i64 0) n 2).alloc _).drew, ?_⟩
  have := (World.rowIs_made (w.alloc (.cells (madeCells #[Value.int .i64 0] n) 2)) (.int .i64 0) n 2).drew
  simpa using this
def TwoZ (n : Nat) (w : World) (p q : Value) (wx : World) : Prop := ∃ B C, p = .slice (some ⟨B, 0, none⟩) n n ∧ q = .slice (some ⟨C, 0, none⟩) n n ∧ w.heap.size ≤ B ∧ w.heap.size ≤ C ∧ B ≠ C ∧ wx.rowIs B 2 n (fun _ => .int .i64 0) ∧ wx.rowIs C 2 n (fun _ => .int .i64 0) ∧ Ext w wx

set_option maxRecDepth 100000 in
set_option maxHeartbeats 4000000 in
theorem l03Maps_any (az bz : List (List (List Int))) (v u y : Value) (n most : Nat) (w : World) (hv : Tabs w v az) (hu : Tabs w u bz) (hy : Ints w y [0]) (hA : TabsOk n az) (hB : TabsOk n bz) (hab : az.length = bz.length) (ha0 : 0 < az.length) (h1 : 1 ≤ n) (h12 : n ≤ 12) (hts : az.length ≤ 2) (hm1 : 1 ≤ most) (hmost : most ≤ 1000000) :
    Calls Try.prog 106 #[v, u, y, .int .i64 most] w fun e w' => ∃ v', e = .returned v' ∧ GrowT 28 w.heap.size w' v' ((extL n az bz [0]).take most) ∧ Ext w w' := by
  obtain ⟨hla, b, o, c, rfl, hc⟩ := id hv
  obtain ⟨hlb, b2, o2, c2, rfl, hc2⟩ := id hu
  obtain ⟨-, b3, o3, c3, rfl, hc3⟩ := id hy
  obtain ⟨t1, t2, t3, r0, -⟩ := hc.get ha0
  obtain ⟨t4, t5, t6, r1, -⟩ := hc2.get (k := 0) (by omega)
  rw [(hA 0 ha0).2] at r0
  rw [(hB 0 (by omega)).2] at r1
  simp only [Nat.add_zero] at r0 r1
  have HA := Lib.hid hA
  have HB := Lib.hid hB
  have HAB := Lib.hid hab
  have ha1 : (0 : Int) < (az.length : Int) := by omega
  have hb1 : (0 : Int) < (bz.length : Int) := by omega
  have hb0 : 0 < bz.length := by omega
  have f00 : ∀ i, i < 0 + 1 → 0 ≤ ix ([0] : List Int) i ∧ ix ([0] : List Int) i < n := fun i hi => by
    have : i = 0 := by omega
    subst this
    rw [ix_eq]; simp; omega
  have HF0 := Lib.hid f00
  clear hA hB hab f00 hc hc2
  have hmk := run_make_row' (P := Try.prog) 28 2 (.int .i64 0) 8 Try.underlying28 infoInt rfl .i64 .i64 n (by omega) (by omega)
  go_enter Try.func106, Try.ntmps106
  go_wp2_with fail
  go_cut [22] (fun p wx => p = .bool false ∧ Drawn w wx)
  case first =>
    go_quiet (fail)
    go_wp2_with fail
    go_meet
    case rel => exact ⟨rfl, (Drawn.refl _).drewN _⟩
  obtain ⟨rfl, hd⟩ := hcut
  obtain ⟨w1, rfl⟩ : ∃ w1 : World, w1 = wc := ⟨_, rfl⟩
  have e0 := hd.ext.cell r0
  have e1 := hd.ext.cell r1
  go_wp2_with fail
  go_cut [9, 10] (fun p q wx => TwoZ n w1 p q wx)
  case first =>
    go_region_held3 (fun w' => w'.cell? ⟨b, o, none⟩ = some (.slice (some ⟨t1, t2, none⟩) n t3)) ((repeat first | (with_reducible assumption) |  (with_reducible exact kc_new) | ((with_reducible refine kc_newE ?_); (simp; done)) | ((with_reducible refine kc_newEa ?_); (simp; done)) | ((with_reducible refine kc_newEb ?_); (simp; done)) | (with_reducible apply kc_alloc) | (with_reducible apply kc_drewN) | (with_reducible apply kc_drew) | ((with_reducible refine kc_set ?_ ?_); (first | (simp only []; omega) | (simp; omega) | (focus (simp; done)))) | ((with_reducible refine kc_set2 ?_ ?_); (focus (simp; done))) | (with_reducible refine kc_same (v := .slice none 0 0) ?_))) (fail)
    all_goals
      go_wp2_with fail
      go_meet
      case rel => first
        | exact ⟨_, _, rfl, rfl, by omega, by omega, by omega, two_made w1 n |>.1, two_made w1 n |>.2, (((Ext.refl w1).alloc _).alloc _).drew⟩
        | exact ⟨_, _, rfl, rfl, by omega, by omega, by omega, two_made w1 n |>.2, two_made w1 n |>.1, (((Ext.refl w1).alloc _).alloc _).drew⟩
  obtain ⟨B, C, rfl, rfl, hB1, hC1, hBC, hrB, hrC, hx2⟩ := hcut
  obtain ⟨w2, rfl⟩ : ∃ w2 : World, w2 = wc := ⟨_, rfl⟩
  have hx02 := hd.ext.trans hx2
  have HVV := Lib.hid (hv.ext hx02)
  have HUU := Lib.hid (hu.ext hx02)
  have HYY := Lib.hid (hy.ext hx02)
  have zB := hrB.lt
  have zC := hrC.lt
  have z0 := hd.ext.size
  clear hmk e0 e1 r0 r1 hd
  cases hft : fitsB az bz [0] 0 with
  | false =>
    have HX := Lib.hid (no_zero HA.out h1 hft)
    go_wp2_with fail
    refine (l03Fits_any az bz [0] _ _ _ n 0 _ HVV.out HUU.out HYY.out HA.out HB.out HAB.out rfl h1 h12 HF0.out).mono ?_
    rintro e w3 ⟨rfl, hd3⟩
    rw [hft]
    have HX3 := Lib.hid (hx02.trans hd3.ext)
    clear hd3
    go_wp2
    go_ret
    exact ⟨_, rfl, by rw [HX.out, List.take_nil]; exact GrowT.nil _ _ _, HX3.out⟩
  | true =>
    have HBG := Lib.hid (begun_zero HA.out h1 hft)
    go_wp2_with fail
    refine (l03Fits_any az bz [0] _ _ _ n 0 _ HVV.out HUU.out HYY.out HA.out HB.out HAB.out rfl h1 h12 HF0.out).mono ?_
    rintro e w3 ⟨rfl, hd3⟩
    rw [hft]
    have hr3 := hrB.of_block (Below.block hd3.ext B zB)
    have hs3 := hrC.of_block (Below.block hd3.ext C zC)
    have c1 := hr3.cell (i := 0) (by omega)
    have f1 := hr3.frozen 0
    have c2 := hs3.cell (i := 0) (by omega)
    have f2 := hs3.frozen 0
    have z3 := hd3.ext.size
    have hCB : ¬ C = B := fun e => hBC e.symm
    have hx3 := hx02.trans hd3.ext
    have hn0 : (0 : Int) < (n : Int) := by omega
    have oB := ownI_of_row (l := zeroL n) (lo := w.heap.size) (hi := w3.heap.size) hr3 (by rw [length_zeroL]; exact Nat.le_refl _) (fun i hi => by rw [ix_zeroL _ _ (by rw [length_zeroL] at hi; exact hi)]) (by omega) (by omega)
    have oC := ownI_of_row (l := zeroL n) (lo := w.heap.size) (hi := w3.heap.size) hs3 (by rw [length_zeroL]; exact Nat.le_refl _) (fun i hi => by rw [ix_zeroL _ _ (by rw [length_zeroL] at hi; exact hi)]) (by omega) (by omega)
    have i1 : IntsAt ((w3.setCell ⟨B, 0, none⟩ (.int .i64 60)).setCell ⟨C, 0, none⟩ (.int .i64 60)) B 0 ((zeroL n).set 0 60) := ki_set hBC (intsAt_set oB.2.2.1 (by rw [length_zeroL]; exact h1))
    have i2 : IntsAt ((w3.setCell ⟨B, 0, none⟩ (.int .i64 60)).setCell ⟨C, 0, none⟩ (.int .i64 60)) C 0 ((zeroL n).set 0 60) := intsAt_set (ki_set hCB oC.2.2.1) (by rw [length_zeroL]; exact h1)
    have hx4 : Ext w ((w3.setCell ⟨B, 0, none⟩ (.int .i64 60)).setCell ⟨C, 0, none⟩ (.int .i64 60)) := (hx3.setNew (by simp only []; omega) _).setNew (by simp only []; omega) _
    have HI1 := Lib.hid i1
    have HI2 := Lib.hid i2
    have HX4 := Lib.hid hx4
    have HZ := Lib.hid (colOk_set (zero_col n) 0)
    clear oB oC hr3 hs3 hrB hrC hd3 i1 i2 hx4 hft
    go_wp2_with fail
    have hx4 := HX4.out
    have j1 : Ints ((w3.setCell ⟨B, 0, none⟩ (.int .i64 60)).setCell ⟨C, 0, none⟩ (.int .i64 60)) (.slice (some ⟨B, 0, none⟩) n n) ((zeroL n).set 0 60) := ⟨by rw [HZ.out.1]; omega, B, 0, n, by rw [HZ.out.1], HI1.out⟩
    have j2 : Ints ((w3.setCell ⟨B, 0, none⟩ (.int .i64 60)).setCell ⟨C, 0, none⟩ (.int .i64 60)) (.slice (some ⟨C, 0, none⟩) n n) ((zeroL n).set 0 60) := ⟨by rw [HZ.out.1]; omega, C, 0, n, by rw [HZ.out.1], HI2.out⟩
    generalize ((w3.setCell ⟨B, 0, none⟩ (.int .i64 60)).setCell ⟨C, 0, none⟩ (.int .i64 60)) = w4 at *
    refine (l03Refine_any az bz _ _ _ _ _ _ n _ (hv.ext hx4) (hu.ext hx4) j1 j2 HA.out HB.out HAB.out HZ.out HZ.out h1 h12 hts).mono ?_
    rintro e w5 ⟨v1', v2', ok, rfl, hx5, hok, hno⟩
    have HOK := Lib.hid hok
    have HNO := Lib.hid hno
    clear hok hno j1 j2
    have hx6 := hx4.trans hx5
    cases ok with
    | false =>
      have HX0 := Lib.hid (show extL n az bz [0] = [] from extL_nil fun p hp he => HNO.out rfl p hp (zero_resp2 h1 hp he))
      go_wp2
      go_ret
      exact ⟨_, rfl, by rw [HX0.out, List.take_nil]; exact GrowT.nil _ _ _, hx6⟩
    | true =>
      obtain ⟨l2, r2, b7, o7, c7, b8, o8, c8, rfl, rfl, ⟨q1, q2, q3, q4⟩, i7, i8, hcl2, hcr2, hke⟩ := HOK.out rfl
      have HKE := Lib.hid hke
      clear hke HOK HNO
      have hi3 := hc3.ext hx6
      go_wp2_with fail
      refine (l03Seek_any az bz _ _ n most w hv hu HA.out HB.out HAB.out h1 h12 hts hmost (n - 1) 1 [0] l2 r2 b3 o3 c3 b7 o7 c7 b8 o8 c8 [] _ w5 rfl (Nat.le_refl _) (by omega) hx6 hi3 i7 i8 hcl2 hcr2 HBG.out (fun p hp he => HKE.out p hp (zero_resp2 h1 hp he)) (GrowT.nil _ _ _) (by simp [Value.ownBlock]) (by simp [Value.ownBlock]) (by simp [Value.ownBlock]) hm1).mono ?_
      rintro e w8 ⟨v8, rfl, hg8, hgr8, -⟩
      have HG8 := Lib.hid hg8
      have HX8 := Lib.hid (ext_grownBy hx6 hgr8 (fun k hk => by simp [Value.ownBlock] at hk))
      clear hg8 hgr8
      go_wp2
      go_ret
      exact ⟨_, rfl, by have := HG8.out; simpa using this, HX8.out⟩

end Go.Proofs.Ytjbloenjphpngaa

/-
  Contracts: products of tables, reference and program.
-/
namespace Go.Proofs.Ytjbloenjphpngaa
set_option linter.unusedVariables false
set_option linter.unusedSimpArgs false
open Go.RowKit
attribute [local go_sem ↓] Go.wp_at_zero Go.wp_at_succ

set_option maxRecDepth 100000 in
set_option maxHeartbeats 1000000 in
theorem l04Product_any (t u : List (List Int)) (v y : Value) (w : World) (N : Nat) (hN : N = t.length * u.length) (hN12 : N ≤ 12) (hv : Rows w v t) (hy : Rows w y u) (hT : TableOk t) (hU : TableOk u) :
    Calls Try.prog 61 #[v, y] w fun e w' => ∃ v, e = .returned v ∧ Rows w' v (mkT N (prodF t u)) ∧ Ext w w' := by
  obtain ⟨hlen, b, o, c, rfl, hc⟩ := id hv
  obtain ⟨hlen2, b2, o2, c2, rfl, hc2⟩ := id hy
  have ha12 := hT.2.1
  have hb12 := hU.2.1
  have HA := Lib.hid hT
  have HB := Lib.hid hU
  have HK := Lib.hid (show ∀ k, k < N → k < t.length * u.length by intro k hk; rw [← hN]; exact hk)
  have hnm := cast_mul' t.length u.length N hN
  have hm0 : ((u.length : Int) == 0) = false := by have := hU.1; rw [beq_eq_false_iff_ne]; omega
  have hm1 : ¬ (u.length : Int) = 0 := by have := hU.1; omega
  have hm2 : ¬ u.length = 0 := by have := hU.1; omega
  have hm3 : ¬ u = [] := fun e => by have := hU.1; rw [e] at this; simp at this
  clear hT hU hN
  have HLT := Lib.hid (length_mkT N (prodF t u))
  go_enter Try.func61, Try.ntmps61
  go_wp2
  have hX := Ext.refl w
  have hx0 : Ext w (w.alloc (.cells #[] 28)) := (Ext.refl _).alloc _
  have hg0 := GrowT.lit (e := 28) (base := w.heap.size) (w := w) (Nat.le_refl _)
  go_loopw [7, 8] (fun v x wr => ∃ k : Nat, k ≤ N ∧ x = .int .i64 k ∧ GrowT 28 w.heap.size wr v ((mkT N (prodF t u)).take k) ∧ v ≠ .slice none 0 0 ∧ Ext w wr) (fun _ x _ => N - (intOf x).toNat)
  case atStart => exact ⟨0, Nat.zero_le _, rfl, hg0, by simp, hx0⟩
  case round =>
    clear hx0 hg0
    obtain ⟨k, hk, rfl, hg, hv', hx⟩ := hrel
    have HV := Lib.hid hv'
    clear hv'
    by_cases hkl : k < N
    case neg =>
      go_wp2
      go_ret
      refine ⟨u7, rfl, ?_, hX.trans hx⟩
      have : (mkT N (prodF t u)).take k = (mkT N (prodF t u)) := List.take_of_length_le (by rw [HLT.out]; omega)
      rw [this] at hg
      exact hg.rows (by rw [HLT.out]; omega) HV.out
    case pos =>
      obtain ⟨w2, rfl⟩ : ∃ w2 : World, w2 = wr := ⟨_, rfl⟩
      have hxa : Ext w2 (w2.alloc (.cells #[] 2)) := (Ext.refl _).alloc _
      have hi0 := GrowI.lit (e := 2) (base := w2.heap.size) (w := w2) (Nat.le_refl _)
      go_wp2
      have HRL := Lib.hid (show (row (mkT N (prodF t u)) k).length = N by rw [row_mkT _ _ _ hkl, length_partRow])
      have HO := Lib.hid hg.lt
      go_loopw [9, 10] (fun v y wr => ∃ j : Nat, j ≤ N ∧ y = .int .i64 j ∧ GrowI 2 w2.heap.size wr v ((row (mkT N (prodF t u)) k).take j) ∧ v ≠ .slice none 0 0 ∧ Ext w2 wr) (fun _ y _ => N - (intOf y).toNat)
      case atStart => exact ⟨0, Nat.zero_le _, rfl, hi0, by simp, hxa⟩
      case round =>
        clear hxa hi0
        obtain ⟨j, hj, rfl, hi, hvr, hx2⟩ := hrel
        have HVR := Lib.hid hvr
        clear hvr
        by_cases hjl : j < N
        case neg =>
          have hta : (row (mkT N (prodF t u)) k).take j = row (mkT N (prodF t u)) k := List.take_of_length_le (by rw [HRL.out]; omega)
          rw [hta] at hi
          obtain ⟨br, cr, rfl, hri, hrb, hrb2⟩ := hi.row HVR.out
          have hgw := hg.ext hx2
          have hne : some br ≠ u7.ownBlock := fun e => by have := HO.out br e.symm; omega
          have HTL := Lib.hid (show ((mkT N (prodF t u)).take k).length = k by rw [List.length_take, HLT.out]; omega)
          clear hg
          go_wp2_with (at_builtin; refine wpList_append_row rfl _ _ 24 28 rfl Try.underlying24 infoSl w.heap.size _ _ rfl (hgw.ext (ext_box _ _ _)) _ br cr _ rfl (cell_new _ _ _) (hri.ext (ext_box _ _ _)) (by rw [HRL.out]; omega) hne (by rw [HTL.out]; omega) (by have := hx.size; have := hx2.size; simp; omega) ?_)
          intro v' w3 hg3 hgr hv3
          have hx3 : Ext w w3 := (hx.trans (hx2.trans (ext_box _ _ _))).grown hgr (hgw.ext (ext_box _ _ _)).own.choose_spec (Nat.le_refl _)
          clear hgr hne hgw
          go_wp2
          go_roundw
          case rel => exact ⟨k + 1, by omega, by go_num, by rw [take_row _ _ (by rw [HLT.out]; exact hkl)]; exact hg3, hv3, hx3⟩
          case measure => simp [intOf]; omega
        case pos =>
          obtain ⟨q1, z1, hq1, hz1, lq1, lz1, dq1, dz1⟩ := divs (HK.out k hkl)
          obtain ⟨q2, z2, hq2, hz2, lq2, lz2, dq2, dz2⟩ := divs (HK.out j hjl)
          obtain ⟨tq1, tz1⟩ := tdivs hq1 hz1
          obtain ⟨tq2, tz2⟩ := tdivs hq2 hz2
          have wq1 : IntKind.i64.wrap (q1 : Int) = (q1 : Int) := IntWalk.i64_in _ (by omega)
          have wq2 : IntKind.i64.wrap (q2 : Int) = (q2 : Int) := IntWalk.i64_in _ (by omega)
          have wz1 : IntKind.i64.wrap (z1 : Int) = (z1 : Int) := IntWalk.i64_in _ (by omega)
          have wz2 : IntKind.i64.wrap (z2 : Int) = (z2 : Int) := IntWalk.i64_in _ (by omega)
          obtain ⟨d1, s1, m1, r1, l1⟩ := (hc.ext hx).read HA.out rfl lq1
          obtain ⟨e1, i1, i2⟩ := l1 q2 lq2
          obtain ⟨d2, s2, m2, r2, l2⟩ := (hc2.ext hx).read HB.out rfl lz1
          obtain ⟨e2, i3, i4⟩ := l2 z2 lz2
          have hmb := mul_bd i1 (by omega) (show (0 : Int) ≤ (u.length : Int) by omega) (by omega)
          have hw1 : IntKind.i64.wrap (ent t q1 q2 * (u.length : Int)) = ent t q1 q2 * (u.length : Int) := IntWalk.i64_in _ (by omega)
          have hpf : ent t q1 q2 * (u.length : Int) + ent u z1 z2 = prodF t u k j := by rw [← prodF_def, dq1, dz1, dq2, dz2]
          have hw2 : IntKind.i64.wrap (ent t q1 q2 * (u.length : Int) + ent u z1 z2) = prodF t u k j := by rw [← hpf]; exact IntWalk.i64_in _ (by omega)
          have p1 := hx2.cell r1
          have p2 := hx2.cell r2
          have p3 := hx2.cell e1
          have p4 := hx2.cell e2
          have b1 : (q1 : Int) < (t.length : Int) := by omega
          have b2' : (q2 : Int) < (t.length : Int) := by omega
          have b3 : (z1 : Int) < (u.length : Int) := by omega
          have b4 : (z2 : Int) < (u.length : Int) := by omega
          clear l1 l2 dq1 dz1 dq2 dz2 hpf
          have HLJ := Lib.hid (show ((row (mkT N (prodF t u)) k).take j).length = j by rw [List.length_take, HRL.out]; omega)
          go_wp2_with fail
          go_region_held3 (fun w' => w'.cell? ⟨b, o + q1, none⟩ = some (.slice (some ⟨d1, s1, none⟩) t.length m1) ∧ w'.cell? ⟨b2, o2 + z1, none⟩ = some (.slice (some ⟨d2, s2, none⟩) u.length m2) ∧ w'.cell? ⟨d1, s1 + q2, none⟩ = some (.int .i64 (ent t q1 q2)) ∧ w'.cell? ⟨d2, s2 + z2, none⟩ = some (.int .i64 (ent u z1 z2)))
            ((refine ⟨?_, ?_, ?_, ?_⟩ <;> (repeat first | (with_reducible assumption) | (with_reducible refine Ext.cell hx3 ?_) |  (with_reducible exact kc_new) | ((with_reducible refine kc_newE ?_); (simp; done)) | ((with_reducible refine kc_newEa ?_); (simp; done)) | ((with_reducible refine kc_newEb ?_); (simp; done)) | (with_reducible apply kc_alloc) | (with_reducible apply kc_drewN) | (with_reducible apply kc_drew) | ((with_reducible refine kc_set ?_ ?_); (first | (simp only []; omega) | (simp; omega) | (focus (simp; done)))) | ((with_reducible refine kc_set2 ?_ ?_); (focus (simp; done))) | (with_reducible refine kc_same (v := .slice none 0 0) ?_))))
            ((refine step_append_int (by rfl) _ _ 28 2 (by rfl) Try.underlying28 infoInt w2.heap.size _ _ (by rfl) (hi.ext (by (repeat first | (with_reducible exact Ext.refl _) | (with_reducible assumption) | (with_reducible apply Ext.drew) | (with_reducible apply kx_drewN) | (with_reducible apply kx_alloc) | ((with_reducible refine kx_set ?_ ?_); (first | (simp only []; omega) | (simp; omega) | (focus (simp; done)))) ))) _ _ (by rfl) (by (repeat first | (with_reducible assumption) |  (with_reducible exact kc_new) | ((with_reducible refine kc_newE ?_); (simp; done)) | ((with_reducible refine kc_newEa ?_); (simp; done)) | ((with_reducible refine kc_newEb ?_); (simp; done)) | (with_reducible apply kc_alloc) | (with_reducible apply kc_drewN) | (with_reducible apply kc_drew) | ((with_reducible refine kc_set ?_ ?_); (first | (simp only []; omega) | (simp; omega) | (focus (simp; done)))) | ((with_reducible refine kc_set2 ?_ ?_); (focus (simp; done))) | (with_reducible refine kc_same (v := .slice none 0 0) ?_))) (by rw [HLJ.out]; omega) (by have := hx2.size; simp; omega) ?_; intro v' w3 hi3 hgr hv3; have hx3 : Ext w2 w3 := Ext.grown (hx2.trans (by (repeat first | (with_reducible exact Ext.refl _) | (with_reducible assumption) | (with_reducible apply Ext.drew) | (with_reducible apply kx_drewN) | (with_reducible apply kx_alloc) | ((with_reducible refine kx_set ?_ ?_); (first | (simp only []; omega) | (simp; omega) | (focus (simp; done)))) ))) hgr (hi.ext (by (repeat first | (with_reducible exact Ext.refl _) | (with_reducible assumption) | (with_reducible apply Ext.drew) | (with_reducible apply kx_drewN) | (with_reducible apply kx_alloc) | ((with_reducible refine kx_set ?_ ?_); (first | (simp only []; omega) | (simp; omega) | (focus (simp; done)))) ))) (Nat.le_refl _)))
          all_goals
            go_wp2
            go_roundw
            case rel => exact ⟨j + 1, by omega, by go_num, by
              rw [take_ix _ _ (by rw [HRL.out]; exact hjl), row_mkT _ _ _ hkl, ix_partRow _ _ _ _ _ hjl, if_pos hjl]
              rw [row_mkT _ _ _ hkl] at hi3
              exact hi3, hv3, hx3⟩
            case measure => simp [intOf]; omega

end Go.Proofs.Ytjbloenjphpngaa

/-
  Contract (new memory)s: products of tables, reference and program.
-/
namespace Go.Proofs.Ytjbloenjphpngaa
set_option linter.unusedVariables false
set_option linter.unusedSimpArgs false
open Go.RowKit
attribute [local go_sem ↓] Go.wp_at_zero Go.wp_at_succ
open Go.Deep

set_option maxRecDepth 100000 in
set_option maxHeartbeats 1000000 in
theorem l04Product_own (t u : List (List Int)) (v y : Value) (w : World) (N : Nat) (hN : N = t.length * u.length) (hN12 : N ≤ 12) (hv : Rows w v t) (hy : Rows w y u) (hT : TableOk t) (hU : TableOk u) :
    Calls Try.prog 61 #[v, y] w (NewT (mkT N (prodF t u)) w) := by
  obtain ⟨hlen, b, o, c, rfl, hc⟩ := id hv
  obtain ⟨hlen2, b2, o2, c2, rfl, hc2⟩ := id hy
  have ha12 := hT.2.1
  have hb12 := hU.2.1
  have HA := Lib.hid hT
  have HB := Lib.hid hU
  have HK := Lib.hid (show ∀ k, k < N → k < t.length * u.length by intro k hk; rw [← hN]; exact hk)
  have hnm := cast_mul' t.length u.length N hN
  have hm0 : ((u.length : Int) == 0) = false := by have := hU.1; rw [beq_eq_false_iff_ne]; omega
  have hm1 : ¬ (u.length : Int) = 0 := by have := hU.1; omega
  have hm2 : ¬ u.length = 0 := by have := hU.1; omega
  have hm3 : ¬ u = [] := fun e => by have := hU.1; rw [e] at this; simp at this
  clear hT hU hN
  have HLT := Lib.hid (length_mkT N (prodF t u))
  go_enter Try.func61, Try.ntmps61
  go_wp2
  have hX := Ext.refl w
  have hx0 : Ext w (w.alloc (.cells #[] 28)) := (Ext.refl _).alloc _
  have hg0 := MineT.lit (lo := w.heap.size) (w := w) (Nat.le_refl _)
  go_loopw [7, 8] (fun v x wr => ∃ k : Nat, k ≤ N ∧ x = .int .i64 k ∧ MineT w.heap.size NoO wr v ((mkT N (prodF t u)).take k) ∧ v ≠ .slice none 0 0 ∧ Ext w wr) (fun _ x _ => N - (intOf x).toNat)
  case atStart => exact ⟨0, Nat.zero_le _, rfl, hg0, by simp, hx0⟩
  case round =>
    clear hx0 hg0
    obtain ⟨k, hk, rfl, hg, hv', hx⟩ := hrel
    have HV := Lib.hid hv'
    clear hv'
    by_cases hkl : k < N
    case neg =>
      have : (mkT N (prodF t u)).take k = (mkT N (prodF t u)) := List.take_of_length_le (by rw [HLT.out]; omega)
      rw [this] at hg
      obtain ⟨bq, cq, rfl, hoq⟩ := hg.newT HV.out
      go_wp2
      go_ret
      exact ⟨bq, cq, rfl, hoq, hX.trans hx⟩
    case pos =>
      obtain ⟨w2, rfl⟩ : ∃ w2 : World, w2 = wr := ⟨_, rfl⟩
      have hxa : Ext w2 (w2.alloc (.cells #[] 2)) := (Ext.refl _).alloc _
      have hi0 := GrowI.lit (e := 2) (base := w2.heap.size) (w := w2) (Nat.le_refl _)
      go_wp2
      have HRL := Lib.hid (show (row (mkT N (prodF t u)) k).length = N by rw [row_mkT _ _ _ hkl, length_partRow])
      have HO := Lib.hid hg.lt
      go_loopw [9, 10] (fun v y wr => ∃ j : Nat, j ≤ N ∧ y = .int .i64 j ∧ GrowI 2 w2.heap.size wr v ((row (mkT N (prodF t u)) k).take j) ∧ v ≠ .slice none 0 0 ∧ Ext w2 wr) (fun _ y _ => N - (intOf y).toNat)
      case atStart => exact ⟨0, Nat.zero_le _, rfl, hi0, by simp, hxa⟩
      case round =>
        clear hxa hi0
        obtain ⟨j, hj, rfl, hi, hvr, hx2⟩ := hrel
        have HVR := Lib.hid hvr
        clear hvr
        by_cases hjl : j < N
        case neg =>
          have hta : (row (mkT N (prodF t u)) k).take j = row (mkT N (prodF t u)) k := List.take_of_length_le (by rw [HRL.out]; omega)
          rw [hta] at hi
          obtain ⟨br, cr, rfl, hoi⟩ := hi.own HVR.out
          have HTL := Lib.hid (show ((mkT N (prodF t u)).take k).length = k by rw [List.length_take, HLT.out]; omega)
          go_wp2_with (at_builtin; refine wpList_append_row_mine rfl _ _ 24 rfl Try.underlying24 infoSl w.heap.size _ _ rfl hg (hx2.trans (ext_box _ _ _)) _ br cr _ rfl (cell_new _ _ _) (OwnI.alloc1 hoi) (by rw [HTL.out]; omega) (by have := hx.size; omega) ?_)
          intro v' w3 hg3 hgr hv3 hat3
          have hx3 : Ext w w3 := (hx.trans (hx2.trans (ext_box _ _ _))).grownOwn hgr (fun g e => (HO.out g e).1)
          clear hgr hat3
          go_wp2
          go_roundw
          case rel => exact ⟨k + 1, by omega, by go_num, by rw [take_row _ _ (by rw [HLT.out]; exact hkl)]; exact hg3, hv3, hx3⟩
          case measure => simp [intOf]; omega
        case pos =>
          obtain ⟨q1, z1, hq1, hz1, lq1, lz1, dq1, dz1⟩ := divs (HK.out k hkl)
          obtain ⟨q2, z2, hq2, hz2, lq2, lz2, dq2, dz2⟩ := divs (HK.out j hjl)
          obtain ⟨tq1, tz1⟩ := tdivs hq1 hz1
          obtain ⟨tq2, tz2⟩ := tdivs hq2 hz2
          have wq1 : IntKind.i64.wrap (q1 : Int) = (q1 : Int) := IntWalk.i64_in _ (by omega)
          have wq2 : IntKind.i64.wrap (q2 : Int) = (q2 : Int) := IntWalk.i64_in _ (by omega)
          have wz1 : IntKind.i64.wrap (z1 : Int) = (z1 : Int) := IntWalk.i64_in _ (by omega)
          have wz2 : IntKind.i64.wrap (z2 : Int) = (z2 : Int) := IntWalk.i64_in _ (by omega)
          obtain ⟨d1, s1, m1, r1, l1⟩ := (hc.ext hx).read HA.out rfl lq1
          obtain ⟨e1, i1, i2⟩ := l1 q2 lq2
          obtain ⟨d2, s2, m2, r2, l2⟩ := (hc2.ext hx).read HB.out rfl lz1
          obtain ⟨e2, i3, i4⟩ := l2 z2 lz2
          have hmb := mul_bd i1 (by omega) (show (0 : Int) ≤ (u.length : Int) by omega) (by omega)
          have hw1 : IntKind.i64.wrap (ent t q1 q2 * (u.length : Int)) = ent t q1 q2 * (u.length : Int) := IntWalk.i64_in _ (by omega)
          have hpf : ent t q1 q2 * (u.length : Int) + ent u z1 z2 = prodF t u k j := by rw [← prodF_def, dq1, dz1, dq2, dz2]
          have hw2 : IntKind.i64.wrap (ent t q1 q2 * (u.length : Int) + ent u z1 z2) = prodF t u k j := by rw [← hpf]; exact IntWalk.i64_in _ (by omega)
          have p1 := hx2.cell r1
          have p2 := hx2.cell r2
          have p3 := hx2.cell e1
          have p4 := hx2.cell e2
          have b1 : (q1 : Int) < (t.length : Int) := by omega
          have b2' : (q2 : Int) < (t.length : Int) := by omega
          have b3 : (z1 : Int) < (u.length : Int) := by omega
          have b4 : (z2 : Int) < (u.length : Int) := by omega
          clear l1 l2 dq1 dz1 dq2 dz2 hpf
          have HLJ := Lib.hid (show ((row (mkT N (prodF t u)) k).take j).length = j by rw [List.length_take, HRL.out]; omega)
          go_wp2_with fail
          go_region_held3 (fun w' => w'.cell? ⟨b, o + q1, none⟩ = some (.slice (some ⟨d1, s1, none⟩) t.length m1) ∧ w'.cell? ⟨b2, o2 + z1, none⟩ = some (.slice (some ⟨d2, s2, none⟩) u.length m2) ∧ w'.cell? ⟨d1, s1 + q2, none⟩ = some (.int .i64 (ent t q1 q2)) ∧ w'.cell? ⟨d2, s2 + z2, none⟩ = some (.int .i64 (ent u z1 z2)))
            ((refine ⟨?_, ?_, ?_, ?_⟩ <;> (repeat first | (with_reducible assumption) | (with_reducible refine Ext.cell hx3 ?_) |  (with_reducible exact kc_new) | ((with_reducible refine kc_newE ?_); (simp; done)) | ((with_reducible refine kc_newEa ?_); (simp; done)) | ((with_reducible refine kc_newEb ?_); (simp; done)) | (with_reducible apply kc_alloc) | (with_reducible apply kc_drewN) | (with_reducible apply kc_drew) | ((with_reducible refine kc_set ?_ ?_); (first | (simp only []; omega) | (simp; omega) | (focus (simp; done)))) | ((with_reducible refine kc_set2 ?_ ?_); (focus (simp; done))) | (with_reducible refine kc_same (v := .slice none 0 0) ?_))))
            ((refine step_append_int (by rfl) _ _ 28 2 (by rfl) Try.underlying28 infoInt w2.heap.size _ _ (by rfl) (hi.ext (by (repeat first | (with_reducible exact Ext.refl _) | (with_reducible assumption) | (with_reducible apply Ext.drew) | (with_reducible apply kx_drewN) | (with_reducible apply kx_alloc) | ((with_reducible refine kx_set ?_ ?_); (first | (simp only []; omega) | (simp; omega) | (focus (simp; done)))) ))) _ _ (by rfl) (by (repeat first | (with_reducible assumption) |  (with_reducible exact kc_new) | ((with_reducible refine kc_newE ?_); (simp; done)) | ((with_reducible refine kc_newEa ?_); (simp; done)) | ((with_reducible refine kc_newEb ?_); (simp; done)) | (with_reducible apply kc_alloc) | (with_reducible apply kc_drewN) | (with_reducible apply kc_drew) | ((with_reducible refine kc_set ?_ ?_); (first | (simp only []; omega) | (simp; omega) | (focus (simp; done)))) | ((with_reducible refine kc_set2 ?_ ?_); (focus (simp; done))) | (with_reducible refine kc_same (v := .slice none 0 0) ?_))) (by rw [HLJ.out]; omega) (by have := hx2.size; simp; omega) ?_; intro v' w3 hi3 hgr hv3; have hx3 : Ext w2 w3 := Ext.grown (hx2.trans (by (repeat first | (with_reducible exact Ext.refl _) | (with_reducible assumption) | (with_reducible apply Ext.drew) | (with_reducible apply kx_drewN) | (with_reducible apply kx_alloc) | ((with_reducible refine kx_set ?_ ?_); (first | (simp only []; omega) | (simp; omega) | (focus (simp; done)))) ))) hgr (hi.ext (by (repeat first | (with_reducible exact Ext.refl _) | (with_reducible assumption) | (with_reducible apply Ext.drew) | (with_reducible apply kx_drewN) | (with_reducible apply kx_alloc) | ((with_reducible refine kx_set ?_ ?_); (first | (simp only []; omega) | (simp; omega) | (focus (simp; done)))) ))) (Nat.le_refl _)))
          all_goals
            go_wp2
            go_roundw
            case rel => exact ⟨j + 1, by omega, by go_num, by
              rw [take_ix _ _ (by rw [HRL.out]; exact hjl), row_mkT _ _ _ hkl, ix_partRow _ _ _ _ _ hjl, if_pos hjl]
              rw [row_mkT _ _ _ hkl] at hi3
              exact hi3, hv3, hx3⟩
            case measure => simp [intOf]; omega
end Go.Proofs.Ytjbloenjphpngaa

/-
  Contract of the reference's l10Permutations.
-/
namespace Go.Proofs.Ytjbloenjphpngaa
set_option linter.unusedVariables false
set_option linter.unusedSimpArgs false
open Go.RowKit
open Go.Deep
attribute [local go_sem ↓] Go.wp_at_zero Go.wp_at_succ

set_option maxRecDepth 100000 in
set_option maxHeartbeats 1000000 in
theorem l10Permutations_any (n : Nat) (S : List (List Int)) (v : Value) (w : World) (hv : Rows w v S) (hS : ∀ i, i < S.length → IsoOk n [] [] (row S i)) (h12 : n ≤ 12) (hl12 : S.length ≤ 12) :
    Calls Try.prog 83 #[v] w fun e w' => ∃ v, e = .returned v ∧ Rows w' v (mkT S.length (gopE S)) ∧ Ext w w' := by
  obtain ⟨hlen, b, o, c, rfl, hc⟩ := id hv
  have HS := Lib.hid hS
  clear hS
  have HLT := Lib.hid (length_mkT S.length (gopE S))
  go_enter Try.func83, Try.ntmps83
  go_wp2
  have hX := Ext.refl w
  have hx0 : Ext w (w.alloc (.cells #[] 28)) := (Ext.refl _).alloc _
  have hg0 := GrowT.lit (e := 28) (base := w.heap.size) (w := w) (Nat.le_refl _)
  go_loopw [3, 4] (fun v x wr => ∃ k : Nat, k ≤ S.length ∧ x = .int .i64 k ∧ GrowT 28 w.heap.size wr v ((mkT S.length (gopE S)).take k) ∧ v ≠ .slice none 0 0 ∧ Ext w wr) (fun _ x _ => S.length - (intOf x).toNat)
  case atStart => exact ⟨0, Nat.zero_le _, rfl, hg0, by simp, hx0⟩
  case round =>
    clear hx0 hg0
    obtain ⟨k, hk, rfl, hg, hv', hx⟩ := hrel
    have HV := Lib.hid hv'
    clear hv'
    by_cases hkl : k < S.length
    case neg =>
      go_wp2
      go_ret
      refine ⟨u3, rfl, ?_, hX.trans hx⟩
      have : (mkT S.length (gopE S)).take k = (mkT S.length (gopE S)) := List.take_of_length_le (by rw [HLT.out]; omega)
      rw [this] at hg
      exact hg.rows (by rw [HLT.out]; omega) HV.out
    case pos =>
      obtain ⟨w2, rfl⟩ : ∃ w2 : World, w2 = wr := ⟨_, rfl⟩
      have hxa : Ext w2 (w2.alloc (.cells #[] 2)) := (Ext.refl _).alloc _
      have hi0 := GrowI.lit (e := 2) (base := w2.heap.size) (w := w2) (Nat.le_refl _)
      go_wp2
      have HRL := Lib.hid (show (row (mkT S.length (gopE S)) k).length = S.length by rw [row_mkT _ _ _ hkl, length_partRow])
      have HO := Lib.hid hg.lt
      go_loopw [5, 6] (fun v y wr => ∃ j : Nat, j ≤ S.length ∧ y = .int .i64 j ∧ GrowI 2 w2.heap.size wr v ((row (mkT S.length (gopE S)) k).take j) ∧ v ≠ .slice none 0 0 ∧ Ext w2 wr) (fun _ y _ => S.length - (intOf y).toNat)
      case atStart => exact ⟨0, Nat.zero_le _, rfl, hi0, by simp, hxa⟩
      case round =>
        clear hxa hi0
        obtain ⟨j, hj, rfl, hi, hvr, hx2⟩ := hrel
        have HVR := Lib.hid hvr
        clear hvr
        by_cases hjl : j < S.length
        case neg =>
          have hta : (row (mkT S.length (gopE S)) k).take j = row (mkT S.length (gopE S)) k := List.take_of_length_le (by rw [HRL.out]; omega)
          rw [hta] at hi
          obtain ⟨br, cr, rfl, hri, hrb, hrb2⟩ := hi.row HVR.out
          have hgw := hg.ext hx2
          have hne : some br ≠ u3.ownBlock := fun e => by have := HO.out br e.symm; omega
          have HTL := Lib.hid (show ((mkT S.length (gopE S)).take k).length = k by rw [List.length_take, HLT.out]; omega)
          clear hg
          go_wp2_with (at_builtin; refine wpList_append_row rfl _ _ 24 28 rfl Try.underlying24 infoSl w.heap.size _ _ rfl (hgw.ext (ext_box _ _ _)) _ br cr _ rfl (cell_new _ _ _) (hri.ext (ext_box _ _ _)) (by rw [HRL.out]; omega) hne (by rw [HTL.out]; omega) (by have := hx.size; have := hx2.size; simp; omega) ?_)
          intro v' w3 hg3 hgr hv3
          have hx3 : Ext w w3 := (hx.trans (hx2.trans (ext_box _ _ _))).grown hgr (hgw.ext (ext_box _ _ _)).own.choose_spec (Nat.le_refl _)
          clear hgr hne hgw
          go_wp2
          go_roundw
          case rel => exact ⟨k + 1, by omega, by go_num, by rw [take_row _ _ (by rw [HLT.out]; exact hkl)]; exact hg3, hv3, hx3⟩
          case measure => simp [intOf]; omega
        case pos =>
          obtain ⟨d1, s1, m1, r1, i1, -⟩ := (hc.ext hx).get hkl
          obtain ⟨d2, s2, m2, r2, i2, -⟩ := (hc.ext hx).get hjl
          have g1 := HS.out k hkl
          have g2 := HS.out j hjl
          rw [g1.1] at r1
          rw [g2.1] at r2
          have J1 := Lib.hid (show Ints w2 (.slice (some ⟨d1, s1, none⟩) n m1) (row S k) from ⟨by rw [g1.1]; omega, d1, s1, m1, by rw [g1.1], i1⟩)
          have J2 := Lib.hid (show Ints w2 (.slice (some ⟨d2, s2, none⟩) n m2) (row S j) from ⟨by rw [g2.1]; omega, d2, s2, m2, by rw [g2.1], i2⟩)
          have HTH := Lib.hid (show ∀ W, Ext w2 W → Calls Try.prog 94 #[.slice (some ⟨d1, s1, none⟩) n m1, .slice (some ⟨d2, s2, none⟩) n m2] W (NewI (thenL (row S k) (row S j)) W) from fun W h => l01Then_any n _ _ _ _ W (J1.out.ext h) (J2.out.ext h) g1 g2.1 h12)
          have HTL := Lib.hid (show (thenL (row S k) (row S j)).length ≤ 1048576 by rw [length_thenL, g1.1]; omega)
          have p1 := hx2.cell r1
          have p2 := hx2.cell r2
          clear i1 i2 g1 g2
          have HLJ := Lib.hid (show ((row (mkT S.length (gopE S)) k).take j).length = j by rw [List.length_take, HRL.out]; omega)
          go_wp2_with fail
          go_region_held3 (fun w' => w'.cell? ⟨b, o + k, none⟩ = some (.slice (some ⟨d1, s1, none⟩) n m1) ∧ w'.cell? ⟨b, o + j, none⟩ = some (.slice (some ⟨d2, s2, none⟩) n m2))
            ((refine ⟨?_, ?_⟩ <;> (repeat first | (with_reducible assumption) | (with_reducible refine Ext.cell hx3 ?_) | (with_reducible refine Ext.cell hx4 ?_) |  (with_reducible exact kc_new) | ((with_reducible refine kc_newE ?_); (simp; done)) | ((with_reducible refine kc_newEa ?_); (simp; done)) | ((with_reducible refine kc_newEb ?_); (simp; done)) | (with_reducible apply kc_alloc) | (with_reducible apply kc_drewN) | (with_reducible apply kc_drew) | ((with_reducible refine kc_set ?_ ?_); (first | (simp only []; omega) | (simp; omega) | (focus (simp; done)))) | ((with_reducible refine kc_set2 ?_ ?_); (focus (simp; done))) | (with_reducible refine kc_same (v := .slice none 0 0) ?_))))
            (first
              | (go_at_call 94; refine (HTH.out _ (hx2.trans (by (repeat first | (with_reducible exact Ext.refl _) | (with_reducible assumption) | (with_reducible apply Ext.drew) | (with_reducible apply kx_drewN) | (with_reducible apply kx_alloc) | ((with_reducible refine kx_set ?_ ?_); (first | (simp only []; omega) | (simp; omega) | (focus (simp; done)))) )))).mono ?_; rintro e w4 ⟨b4, c4, rfl, ho4, hx4⟩; have e4 := ho4.2.2.1.ints HTL.out c4; have z4 : w2.heap.size ≤ w4.heap.size := Ext.size (show Ext w2 w4 from hx2.trans (by (repeat first | (with_reducible exact Ext.refl _) | (with_reducible assumption) | (with_reducible apply Ext.drew) | (with_reducible apply kx_drewN) | (with_reducible apply kx_alloc) | ((with_reducible refine kx_set ?_ ?_); (first | (simp only []; omega) | (simp; omega) | (focus (simp; done)))) | (with_reducible refine Ext.trans ?_ hx4) ))))
              | (go_at_call 97; refine (l04Find_any S _ _ _ _ (hv.ext ((hx.trans hx2).trans (by (repeat first | (with_reducible exact Ext.refl _) | (with_reducible assumption) | (with_reducible apply Ext.drew) | (with_reducible apply kx_drewN) | (with_reducible apply kx_alloc) | ((with_reducible refine kx_set ?_ ?_); (first | (simp only []; omega) | (simp; omega) | (focus (simp; done)))) | (with_reducible refine Ext.trans ?_ hx4) )))) e4).mono ?_; rintro e w' ⟨rfl, ⟨m4, rfl⟩⟩)
              | (refine step_append_int (by rfl) _ _ 28 2 (by rfl) Try.underlying28 infoInt w2.heap.size _ _ (by rfl) (hi.ext (by (repeat first | (with_reducible exact Ext.refl _) | (with_reducible assumption) | (with_reducible apply Ext.drew) | (with_reducible apply kx_drewN) | (with_reducible apply kx_alloc) | ((with_reducible refine kx_set ?_ ?_); (first | (simp only []; omega) | (simp; omega) | (focus (simp; done)))) | (with_reducible refine Ext.trans ?_ hx4) ))) _ _ (by rfl) (by (repeat first | (with_reducible assumption) | (with_reducible refine Ext.cell hx4 ?_) |  (with_reducible exact kc_new) | ((with_reducible refine kc_newE ?_); (simp; done)) | ((with_reducible refine kc_newEa ?_); (simp; done)) | ((with_reducible refine kc_newEb ?_); (simp; done)) | (with_reducible apply kc_alloc) | (with_reducible apply kc_drewN) | (with_reducible apply kc_drew) | ((with_reducible refine kc_set ?_ ?_); (first | (simp only []; omega) | (simp; omega) | (focus (simp; done)))) | ((with_reducible refine kc_set2 ?_ ?_); (focus (simp; done))) | (with_reducible refine kc_same (v := .slice none 0 0) ?_))) (by rw [HLJ.out]; omega) (by have := hx2.size; simp; omega) ?_; intro v' w3 hi3 hgr hv3; have hx3 : Ext w2 w3 := Ext.grown (hx2.trans (by (repeat first | (with_reducible exact Ext.refl _) | (with_reducible assumption) | (with_reducible apply Ext.drew) | (with_reducible apply kx_drewN) | (with_reducible apply kx_alloc) | ((with_reducible refine kx_set ?_ ?_); (first | (simp only []; omega) | (simp; omega) | (focus (simp; done)))) | (with_reducible refine Ext.trans ?_ hx4) ))) hgr (hi.ext (by (repeat first | (with_reducible exact Ext.refl _) | (with_reducible assumption) | (with_reducible apply Ext.drew) | (with_reducible apply kx_drewN) | (with_reducible apply kx_alloc) | ((with_reducible refine kx_set ?_ ?_); (first | (simp only []; omega) | (simp; omega) | (focus (simp; done)))) | (with_reducible refine Ext.trans ?_ hx4) ))) (Nat.le_refl _)))
          all_goals
            go_wp2
            go_roundw
            case rel => exact ⟨j + 1, by omega, by go_num, by
              rw [take_ix _ _ (by rw [HRL.out]; exact hjl), row_mkT _ _ _ hkl, ix_partRow _ _ _ _ _ hjl, if_pos hjl]
              rw [row_mkT _ _ _ hkl] at hi3
              exact hi3, hv3, hx3⟩
            case measure => simp [intOf]; omega

end Go.Proofs.Ytjbloenjphpngaa

/-
  Contract (new memory) of the reference's l10Permutations.
-/
namespace Go.Proofs.Ytjbloenjphpngaa
set_option linter.unusedVariables false
set_option linter.unusedSimpArgs false
open Go.RowKit
attribute [local go_sem ↓] Go.wp_at_zero Go.wp_at_succ
open Go.Deep

set_option maxRecDepth 100000 in
set_option maxHeartbeats 1000000 in
theorem l10Permutations_own (n : Nat) (S : List (List Int)) (v : Value) (w : World) (hv : Rows w v S) (hS : ∀ i, i < S.length → IsoOk n [] [] (row S i)) (h12 : n ≤ 12) (hl12 : S.length ≤ 12) :
    Calls Try.prog 83 #[v] w (NewT (mkT S.length (gopE S)) w) := by
  obtain ⟨hlen, b, o, c, rfl, hc⟩ := id hv
  have HS := Lib.hid hS
  clear hS
  have HLT := Lib.hid (length_mkT S.length (gopE S))
  go_enter Try.func83, Try.ntmps83
  go_wp2
  have hX := Ext.refl w
  have hx0 : Ext w (w.alloc (.cells #[] 28)) := (Ext.refl _).alloc _
  have hg0 := MineT.lit (lo := w.heap.size) (w := w) (Nat.le_refl _)
  go_loopw [3, 4] (fun v x wr => ∃ k : Nat, k ≤ S.length ∧ x = .int .i64 k ∧ MineT w.heap.size NoO wr v ((mkT S.length (gopE S)).take k) ∧ v ≠ .slice none 0 0 ∧ Ext w wr) (fun _ x _ => S.length - (intOf x).toNat)
  case atStart => exact ⟨0, Nat.zero_le _, rfl, hg0, by simp, hx0⟩
  case round =>
    clear hx0 hg0
    obtain ⟨k, hk, rfl, hg, hv', hx⟩ := hrel
    have HV := Lib.hid hv'
    clear hv'
    by_cases hkl : k < S.length
    case neg =>
      have : (mkT S.length (gopE S)).take k = (mkT S.length (gopE S)) := List.take_of_length_le (by rw [HLT.out]; omega)
      rw [this] at hg
      obtain ⟨bq, cq, rfl, hoq⟩ := hg.newT HV.out
      go_wp2
      go_ret
      exact ⟨bq, cq, rfl, hoq, hX.trans hx⟩
    case pos =>
      obtain ⟨w2, rfl⟩ : ∃ w2 : World, w2 = wr := ⟨_, rfl⟩
      have hxa : Ext w2 (w2.alloc (.cells #[] 2)) := (Ext.refl _).alloc _
      have hi0 := GrowI.lit (e := 2) (base := w2.heap.size) (w := w2) (Nat.le_refl _)
      go_wp2
      have HRL := Lib.hid (show (row (mkT S.length (gopE S)) k).length = S.length by rw [row_mkT _ _ _ hkl, length_partRow])
      have HO := Lib.hid hg.lt
      go_loopw [5, 6] (fun v y wr => ∃ j : Nat, j ≤ S.length ∧ y = .int .i64 j ∧ GrowI 2 w2.heap.size wr v ((row (mkT S.length (gopE S)) k).take j) ∧ v ≠ .slice none 0 0 ∧ Ext w2 wr) (fun _ y _ => S.length - (intOf y).toNat)
      case atStart => exact ⟨0, Nat.zero_le _, rfl, hi0, by simp, hxa⟩
      case round =>
        clear hxa hi0
        obtain ⟨j, hj, rfl, hi, hvr, hx2⟩ := hrel
        have HVR := Lib.hid hvr
        clear hvr
        by_cases hjl : j < S.length
        case neg =>
          have hta : (row (mkT S.length (gopE S)) k).take j = row (mkT S.length (gopE S)) k := List.take_of_length_le (by rw [HRL.out]; omega)
          rw [hta] at hi
          obtain ⟨br, cr, rfl, hoi⟩ := hi.own HVR.out
          have HTL := Lib.hid (show ((mkT S.length (gopE S)).take k).length = k by rw [List.length_take, HLT.out]; omega)
          go_wp2_with (at_builtin; refine wpList_append_row_mine rfl _ _ 24 rfl Try.underlying24 infoSl w.heap.size _ _ rfl hg (hx2.trans (ext_box _ _ _)) _ br cr _ rfl (cell_new _ _ _) (OwnI.alloc1 hoi) (by rw [HTL.out]; omega) (by have := hx.size; omega) ?_)
          intro v' w3 hg3 hgr hv3 hat3
          have hx3 : Ext w w3 := (hx.trans (hx2.trans (ext_box _ _ _))).grownOwn hgr (fun g e => (HO.out g e).1)
          clear hgr hat3
          go_wp2
          go_roundw
          case rel => exact ⟨k + 1, by omega, by go_num, by rw [take_row _ _ (by rw [HLT.out]; exact hkl)]; exact hg3, hv3, hx3⟩
          case measure => simp [intOf]; omega
        case pos =>
          obtain ⟨d1, s1, m1, r1, i1, -⟩ := (hc.ext hx).get hkl
          obtain ⟨d2, s2, m2, r2, i2, -⟩ := (hc.ext hx).get hjl
          have g1 := HS.out k hkl
          have g2 := HS.out j hjl
          rw [g1.1] at r1
          rw [g2.1] at r2
          have J1 := Lib.hid (show Ints w2 (.slice (some ⟨d1, s1, none⟩) n m1) (row S k) from ⟨by rw [g1.1]; omega, d1, s1, m1, by rw [g1.1], i1⟩)
          have J2 := Lib.hid (show Ints w2 (.slice (some ⟨d2, s2, none⟩) n m2) (row S j) from ⟨by rw [g2.1]; omega, d2, s2, m2, by rw [g2.1], i2⟩)
          have HTH := Lib.hid (show ∀ W, Ext w2 W → Calls Try.prog 94 #[.slice (some ⟨d1, s1, none⟩) n m1, .slice (some ⟨d2, s2, none⟩) n m2] W (NewI (thenL (row S k) (row S j)) W) from fun W h => l01Then_any n _ _ _ _ W (J1.out.ext h) (J2.out.ext h) g1 g2.1 h12)
          have HTL := Lib.hid (show (thenL (row S k) (row S j)).length ≤ 1048576 by rw [length_thenL, g1.1]; omega)
          have p1 := hx2.cell r1
          have p2 := hx2.cell r2
          clear i1 i2 g1 g2
          have HLJ := Lib.hid (show ((row (mkT S.length (gopE S)) k).take j).length = j by rw [List.length_take, HRL.out]; omega)
          go_wp2_with fail
          go_region_held3 (fun w' => w'.cell? ⟨b, o + k, none⟩ = some (.slice (some ⟨d1, s1, none⟩) n m1) ∧ w'.cell? ⟨b, o + j, none⟩ = some (.slice (some ⟨d2, s2, none⟩) n m2))
            ((refine ⟨?_, ?_⟩ <;> (repeat first | (with_reducible assumption) | (with_reducible refine Ext.cell hx3 ?_) | (with_reducible refine Ext.cell hx4 ?_) |  (with_reducible exact kc_new) | ((with_reducible refine kc_newE ?_); (simp; done)) | ((with_reducible refine kc_newEa ?_); (simp; done)) | ((with_reducible refine kc_newEb ?_); (simp; done)) | (with_reducible apply kc_alloc) | (with_reducible apply kc_drewN) | (with_reducible apply kc_drew) | ((with_reducible refine kc_set ?_ ?_); (first | (simp only []; omega) | (simp; omega) | (focus (simp; done)))) | ((with_reducible refine kc_set2 ?_ ?_); (focus (simp; done))) | (with_reducible refine kc_same (v := .slice none 0 0) ?_))))
            (first
              | (go_at_call 94; refine (HTH.out _ (hx2.trans (by (repeat first | (with_reducible exact Ext.refl _) | (with_reducible assumption) | (with_reducible apply Ext.drew) | (with_reducible apply kx_drewN) | (with_reducible apply kx_alloc) | ((with_reducible refine kx_set ?_ ?_); (first | (simp only []; omega) | (simp; omega) | (focus (simp; done)))) )))).mono ?_; rintro e w4 ⟨b4, c4, rfl, ho4, hx4⟩; have e4 := ho4.2.2.1.ints HTL.out c4; have z4 : w2.heap.size ≤ w4.heap.size := Ext.size (show Ext w2 w4 from hx2.trans (by (repeat first | (with_reducible exact Ext.refl _) | (with_reducible assumption) | (with_reducible apply Ext.drew) | (with_reducible apply kx_drewN) | (with_reducible apply kx_alloc) | ((with_reducible refine kx_set ?_ ?_); (first | (simp only []; omega) | (simp; omega) | (focus (simp; done)))) | (with_reducible refine Ext.trans ?_ hx4) ))))
              | (go_at_call 97; refine (l04Find_any S _ _ _ _ (hv.ext ((hx.trans hx2).trans (by (repeat first | (with_reducible exact Ext.refl _) | (with_reducible assumption) | (with_reducible apply Ext.drew) | (with_reducible apply kx_drewN) | (with_reducible apply kx_alloc) | ((with_reducible refine kx_set ?_ ?_); (first | (simp only []; omega) | (simp; omega) | (focus (simp; done)))) | (with_reducible refine Ext.trans ?_ hx4) )))) e4).mono ?_; rintro e w' ⟨rfl, ⟨m4, rfl⟩⟩)
              | (refine step_append_int (by rfl) _ _ 28 2 (by rfl) Try.underlying28 infoInt w2.heap.size _ _ (by rfl) (hi.ext (by (repeat first | (with_reducible exact Ext.refl _) | (with_reducible assumption) | (with_reducible apply Ext.drew) | (with_reducible apply kx_drewN) | (with_reducible apply kx_alloc) | ((with_reducible refine kx_set ?_ ?_); (first | (simp only []; omega) | (simp; omega) | (focus (simp; done)))) | (with_reducible refine Ext.trans ?_ hx4) ))) _ _ (by rfl) (by (repeat first | (with_reducible assumption) | (with_reducible refine Ext.cell hx4 ?_) |  (with_reducible exact kc_new) | ((with_reducible refine kc_newE ?_); (simp; done)) | ((with_reducible refine kc_newEa ?_); (simp; done)) | ((with_reducible refine kc_newEb ?_); (simp; done)) | (with_reducible apply kc_alloc) | (with_reducible apply kc_drewN) | (with_reducible apply kc_drew) | ((with_reducible refine kc_set ?_ ?_); (first | (simp only []; omega) | (simp; omega) | (focus (simp; done)))) | ((with_reducible refine kc_set2 ?_ ?_); (focus (simp; done))) | (with_reducible refine kc_same (v := .slice none 0 0) ?_))) (by rw [HLJ.out]; omega) (by have := hx2.size; simp; omega) ?_; intro v' w3 hi3 hgr hv3; have hx3 : Ext w2 w3 := Ext.grown (hx2.trans (by (repeat first | (with_reducible exact Ext.refl _) | (with_reducible assumption) | (with_reducible apply Ext.drew) | (with_reducible apply kx_drewN) | (with_reducible apply kx_alloc) | ((with_reducible refine kx_set ?_ ?_); (first | (simp only []; omega) | (simp; omega) | (focus (simp; done)))) | (with_reducible refine Ext.trans ?_ hx4) ))) hgr (hi.ext (by (repeat first | (with_reducible exact Ext.refl _) | (with_reducible assumption) | (with_reducible apply Ext.drew) | (with_reducible apply kx_drewN) | (with_reducible apply kx_alloc) | ((with_reducible refine kx_set ?_ ?_); (first | (simp only []; omega) | (simp; omega) | (focus (simp; done)))) | (with_reducible refine Ext.trans ?_ hx4) ))) (Nat.le_refl _)))
          all_goals
            go_wp2
            go_roundw
            case rel => exact ⟨j + 1, by omega, by go_num, by
              rw [take_ix _ _ (by rw [HRL.out]; exact hjl), row_mkT _ _ _ hkl, ix_partRow _ _ _ _ _ hjl, if_pos hjl]
              rw [row_mkT _ _ _ hkl] at hi3
              exact hi3, hv3, hx3⟩
            case measure => simp [intOf]; omega
end Go.Proofs.Ytjbloenjphpngaa

/-
  Contracts of RingBrace: reference and program.
-/
namespace Go.Proofs.Ytjbloenjphpngaa
set_option linter.unusedVariables false
set_option linter.unusedSimpArgs false
open Go.RowKit
attribute [local go_sem ↓] Go.wp_at_zero Go.wp_at_succ

/-- what RingBrace gives -/
@[irreducible] def ringT (a b : Int) : List (List Int) := if (inR a 1 12 && (inR b 0 (a - 1) && goodR a.toNat b.toNat)) = true then mkT a.toNat (cycF a.toNat) else []
@[irreducible] def ringU (a b : Int) : List (List Int) := if (inR a 1 12 && (inR b 0 (a - 1) && goodR a.toNat b.toNat)) = true then mkT a.toNat (ringF a.toNat b.toNat) else []
@[irreducible] def ringC (a b : Int) : Int := if (inR a 1 12 && inR b 0 (a - 1)) = true then (if goodR a.toNat b.toNat = true then 0 else 5) else 2

theorem ring_out1 {a b : Int} (h : inR a 1 12 = false) : ringT a b = [] ∧ ringU a b = [] ∧ ringC a b = 2 := by
  unfold ringT ringU ringC; simp [h]

theorem ring_out2 {a b : Int} (h : inR b 0 (a - 1) = false) : ringT a b = [] ∧ ringU a b = [] ∧ ringC a b = 2 := by
  unfold ringT ringU ringC; simp [h]

theorem ring_bad {n k : Nat} (h1 : 1 ≤ n) (h2 : n ≤ 12) (hk : k < n) (h : goodR n k = false) : ringT n k = [] ∧ ringU n k = [] ∧ ringC n k = 5 := by
  have e1 : inR (n : Int) 1 12 = true := inR_iff.2 (by omega)
  have e2 : inR (k : Int) 0 ((n : Int) - 1) = true := inR_iff.2 (by omega)
  unfold ringT ringU ringC; simp [e1, e2, h]

theorem ring_good {n k : Nat} (h1 : 1 ≤ n) (h2 : n ≤ 12) (hk : k < n) (h : goodR n k = true) : ringT n k = mkT n (cycF n) ∧ ringU n k = mkT n (ringF n k) ∧ ringC n k = 0 := by
  have e1 : inR (n : Int) 1 12 = true := inR_iff.2 (by omega)
  have e2 : inR (k : Int) 0 ((n : Int) - 1) = true := inR_iff.2 (by omega)
  unfold ringT ringU ringC; simp [e1, e2, h]

theorem mul_bdQ {a b m n : Nat} (ha : a ≤ m) (hb : b ≤ n) : 0 ≤ (a : Int) * (b : Int) ∧ (a : Int) * (b : Int) ≤ ((m * n : Nat) : Int) := by
  have := Nat.mul_le_mul ha hb
  rw [← Int.natCast_mul]
  omega

/-! ### primes -/
def noDiv (p d : Nat) : Bool := allN d fun e => Nat.ble e 1 || !(Nat.beq (p % e) 0)
set_option maxRecDepth 100000 in
theorem pr_end_all : allN 13 (fun p => allN 15 fun d => !(Nat.ble 2 d && (noDiv p d && Nat.blt p (d * d))) || (if Nat.blt 1 p then isPr p else !isPr p)) = true := by decide +kernel

set_option maxRecDepth 100000 in
theorem pr_hit_all : allN 13 (fun p => allN 15 fun d => !(Nat.ble 2 d && (Nat.beq (p % d) 0 && Nat.ble (d * d) p)) || !isPr p) = true := by decide +kernel

theorem pr_end {p d : Nat} (hp : p ≤ 12) (hd : d ≤ 14) (h2 : 2 ≤ d) (hn : noDiv p d = true) (h : p < d * d) : isPr p = decide ((1 : Int) < (p : Int)) := by
  have := allN_iff.1 (allN_iff.1 pr_end_all p (by omega)) d (by omega)
  have e1 : Nat.ble 2 d = true := by simpa using h2
  have e2 : Nat.blt p (d * d) = true := by simpa using h
  rw [e1, hn, e2] at this
  by_cases h1 : 1 < p
  · have e3 : Nat.blt 1 p = true := by simpa using h1
    have : isPr p = true := by simpa [e3] using this
    rw [this]; simp; omega
  · have e3 : Nat.blt 1 p = false := by
      cases e : Nat.blt 1 p with
      | false => rfl
      | true => exact absurd (Nat.le_of_ble_eq_true e) (by omega)
    have : isPr p = false := by simpa [e3] using this
    rw [this]; simp; omega

theorem pr_hit {p d : Nat} (hp : p ≤ 12) (hd : d ≤ 14) (h2 : 2 ≤ d) (hn : p % d = 0) (h : d * d ≤ p) : isPr p = false := by
  have := allN_iff.1 (allN_iff.1 pr_hit_all p (by omega)) d (by omega)
  have e1 : Nat.ble 2 d = true := by simpa using h2
  have e2 : Nat.ble (d * d) p = true := by simpa using h
  have e3 : Nat.beq (p % d) 0 = true := by simpa using hn
  rw [e1, e2, e3] at this
  simpa using this

theorem noDiv_succ {p d : Nat} (hn : noDiv p d = true) (h : p % d ≠ 0) : noDiv p (d + 1) = true := by
  unfold noDiv at hn ⊢
  unfold allN
  rw [hn]
  have : Nat.beq (p % d) 0 = false := by
    cases e : Nat.beq (p % d) 0 with
    | false => rfl
    | true => exact absurd (Nat.eq_of_beq_eq_true e) h
  simp [this]

theorem noDiv_two (p : Nat) : noDiv p 2 = true := rfl

theorem isPrime_any (p : Nat) (w : World) (hp : p ≤ 12) :
    Calls Try.prog 50 #[.int .i64 p] w fun e w' => e = .returned (.bool (isPr p)) ∧ w = w' := by
  go_enter Try.func50, Try.ntmps50
  go_wp2
  go_loop [3] (fun x => ∃ d : Nat, 2 ≤ d ∧ d ≤ 13 ∧ x = .int .i64 d ∧ noDiv p d = true) (fun x => 13 - (intOf x).toNat)
  case atStart => exact ⟨2, by omega, by omega, rfl, noDiv_two p⟩
  case round =>
    obtain ⟨d, hd2, hd, rfl, hn⟩ := hrel
    have HN := Lib.hid hn
    clear hn
    have hm := mul_bdQ hd hd
    by_cases hdd : d * d ≤ p
    · have h1 : (d : Int) * (d : Int) ≤ (p : Int) := by rw [← Int.natCast_mul]; omega
      have hd4 : d ≤ 4 := by
        apply Classical.byContradiction
        intro h
        have := Nat.mul_le_mul (show 5 ≤ d by omega) (show 5 ≤ d by omega)
        omega
      have HD := Lib.hid hdd
      clear hdd
      cases h0 : ((p : Int) % (d : Int) == 0) with
      | true =>
        have e0 : p % d = 0 := by
          have : (p : Int) % (d : Int) = 0 := by simpa using h0
          omega
        have HP := Lib.hid (pr_hit hp (by omega) hd2 e0 HD.out)
        clear e0
        go_wp2
        go_ret
        exact ⟨ret_bool (by rw [HP.out]), rfl⟩
      | false =>
        have HE := Lib.hid (show p % d ≠ 0 by
          have : (p : Int) % (d : Int) ≠ 0 := by simpa using h0
          omega)
        go_wp2
        go_round
        case rel => exact ⟨d + 1, by omega, by omega, by go_num, noDiv_succ HN.out HE.out⟩
        case measure => simp [intOf]; omega
    · have h1 : (p : Int) < (d : Int) * (d : Int) := by rw [← Int.natCast_mul]; omega
      have HP := Lib.hid (pr_end hp (by omega) hd2 HN.out (by omega))
      clear hdd
      go_wp2
      go_ret
      exact ⟨ret_bool (by rw [HP.out]), rfl⟩

/-! ### the reference -/
set_option maxRecDepth 100000 in
set_option maxHeartbeats 2000000 in
theorem l11Ring_any (n m : Nat) (w : World) (h1 : 1 ≤ n) (h2 : n ≤ 12) (hm : m < n) :
    Calls Try.prog 55 #[.int .i64 n, .int .i64 m] w fun e w' => ∃ v y, e = .returned (.agg #[v, y]) ∧ Rows w' v (mkT n (cycF n)) ∧ Rows w' y (mkT n (ringF n m)) ∧ Ext w w' := by
  have HLF := Lib.hid (length_mkT n (cycF n))
  have HLT := Lib.hid (length_mkT n (ringF n m))
  have hX : Ext w (w.alloc (.cells #[.slice none 0 0, .slice none 0 0] 26)) := (Ext.refl _).alloc _
  have r0 : (w.alloc (.cells #[.slice none 0 0, .slice none 0 0] 26)).cell? ⟨w.heap.size, 0, none⟩ = some (.slice none 0 0) := by simp [go_sem]
  have r1 : (w.alloc (.cells #[.slice none 0 0, .slice none 0 0] 26)).cell? ⟨w.heap.size, 1, none⟩ = some (.slice none 0 0) := by simp [go_sem]
  have q0 : (w.alloc (.cells #[.slice none 0 0, .slice none 0 0] 26)).frozen? ⟨w.heap.size, 0, none⟩ = false := by simp [go_sem]
  have q1 : (w.alloc (.cells #[.slice none 0 0, .slice none 0 0] 26)).frozen? ⟨w.heap.size, 1, none⟩ = false := by simp [go_sem]
  have zA : w.heap.size + 1 ≤ (w.alloc (.cells #[.slice none 0 0, .slice none 0 0] 26)).heap.size := by simp
  go_enter Try.func55, Try.ntmps55
  go_wp2_with fail
  generalize (w.alloc (.cells #[.slice none 0 0, .slice none 0 0] 26)) = A at *
  refine (l10Cyclic_any n _ h1 h2).mono ?_
  rintro e w1 ⟨vF, rfl, hrF, hx⟩
  obtain ⟨-, bF, oF, cF, rfl, -⟩ := id hrF
  rw [HLF.out]
  rw [HLF.out] at hrF
  have zz := Ext.size hx
  replace q0 := hx.free q0 (by simp only []; omega)
  replace q1 := hx.free q1 (by simp only []; omega)
  replace zA := Nat.le_trans zA zz
  replace hX := hX.trans hx
  replace r0 := hx.cell r0
  replace r1 := hx.cell r1
  clear hx zz
  have hxB : Ext w1 (w1.alloc (.cells #[.slice (some ⟨bF, oF, none⟩) n cF, .slice none 0 0] 26)) := (Ext.refl _).alloc _
  have bF0 : (w1.alloc (.cells #[.slice (some ⟨bF, oF, none⟩) n cF, .slice none 0 0] 26)).cell? ⟨w1.heap.size, 0, none⟩ = some (.slice (some ⟨bF, oF, none⟩) n cF) := by simp [go_sem]
  have bv0 : (w1.alloc (.cells #[.slice (some ⟨bF, oF, none⟩) n cF, .slice none 0 0] 26)).cell? ⟨w1.heap.size, 1, none⟩ = some (.slice none 0 0) := by simp [go_sem]
  have qv0 : (w1.alloc (.cells #[.slice (some ⟨bF, oF, none⟩) n cF, .slice none 0 0] 26)).frozen? ⟨w1.heap.size, 1, none⟩ = false := by simp [go_sem]
  have zB : w1.heap.size < (w1.alloc (.cells #[.slice (some ⟨bF, oF, none⟩) n cF, .slice none 0 0] 26)).heap.size := by simp
  have gB := GrowT.nil 28 (w1.alloc (.cells #[.slice (some ⟨bF, oF, none⟩) n cF, .slice none 0 0] 26)).heap.size (w1.alloc (.cells #[.slice (some ⟨bF, oF, none⟩) n cF, .slice none 0 0] 26))
  go_wp2
  generalize (w1.alloc (.cells #[.slice (some ⟨bF, oF, none⟩) n cF, .slice none 0 0] 26)) = B at *
  go_loopw [6] (fun x wr => ∃ k : Nat, k ≤ n ∧ x = .int .i64 k ∧ ∃ v, wr.cell? ⟨w1.heap.size, 1, none⟩ = some v ∧ wr.cell? ⟨w1.heap.size, 0, none⟩ = some (.slice (some ⟨bF, oF, none⟩) n cF) ∧ GrowT 28 B.heap.size wr v ((mkT n (ringF n m)).take k) ∧ wr.frozen? ⟨w1.heap.size, 1, none⟩ = false ∧ Ext w1 wr ∧ B.heap.size ≤ wr.heap.size) (fun x _ => n - (intOf x).toNat)
  case atStart => exact ⟨0, Nat.zero_le _, rfl, _, bv0, bF0, gB, qv0, hxB, Nat.le_refl _⟩
  case round =>
    clear bv0 qv0 gB bF0 hxB
    obtain ⟨k, hk, rfl, v, bv, bF1, hg, qv, hx, zr⟩ := hrel
    obtain ⟨sa, sc, rfl⟩ := hg.slice
    have htl : ((mkT n (ringF n m)).take k).length = k := by rw [List.length_take, HLT.out]; omega
    rw [htl] at hg bv
    have HTL := Lib.hid htl
    clear htl
    have g1 := hx.cell r0
    have g2 := hx.cell r1
    have p1 := hx.free q0 (by simp only []; omega)
    have p2 := hx.free q1 (by simp only []; omega)
    by_cases hkl : k < n
    case neg =>
      have hkk : k = n := by omega
      subst hkk
      have htk : (mkT k (ringF k m)).take k = (mkT k (ringF k m)) := List.take_of_length_le (by rw [HLT.out]; omega)
      rw [htk] at hg
      have hnn : (Value.slice sa k sc) ≠ .slice none 0 0 := by
        intro e
        simp only [Value.slice.injEq] at e
        omega
      have HNN := Lib.hid hnn
      clear hnn
      go_wp2
      refine bodyPost_ret (v := .agg #[.slice (some ⟨bF, oF, none⟩) k cF, .slice sa k sc]) (by simp [results, Try.results55, go_sem, g1, g2]) rfl ⟨_, _, rfl, ?_, ?_, ((hX.trans hx).setNew (by simp only []; omega) _).setNew (by simp only []; omega) _⟩
      · exact rows_set2 (hrF.ext hx) g1 g2 _ _
      · have h1 := (hg.setSl (a := ⟨w.heap.size, 0, none⟩) g1 (by simp only []; omega) (.slice (some ⟨bF, oF, none⟩) k cF))
        exact (h1.setSl (a := ⟨w.heap.size, 1, none⟩) (kc_set2 (by simp) g2) (by simp only []; omega) (.slice sa k sc)).rows (by rw [HLT.out]; omega) HNN.out
    case pos =>
      obtain ⟨w2, rfl⟩ : ∃ w2 : World, w2 = wr := ⟨_, rfl⟩
      go_wp2
      have hxa : Ext w2 (w2.alloc (.cells #[] 2)) := (Ext.refl _).alloc _
      have hi0 := GrowI.lit (e := 2) (base := w2.heap.size) (w := w2) (Nat.le_refl _)
      have HRL := Lib.hid (show (row (mkT n (ringF n m)) k).length = n by rw [row_mkT _ _ _ hkl, length_partRow])
      have HO := Lib.hid hg.lt
      go_loopw [7, 8] (fun v y wr => ∃ j : Nat, j ≤ n ∧ y = .int .i64 j ∧ GrowI 2 w2.heap.size wr v ((row (mkT n (ringF n m)) k).take j) ∧ v ≠ .slice none 0 0 ∧ Ext w2 wr) (fun _ y _ => n - (intOf y).toNat)
      case atStart => exact ⟨0, Nat.zero_le _, rfl, hi0, by simp, hxa⟩
      case round =>
        clear hxa hi0
        obtain ⟨j, hj, rfl, hi, hvr, hx2⟩ := hrel
        have HVR := Lib.hid hvr
        clear hvr
        have mF := hx2.cell bF1
        by_cases hjl : j < n
        case neg =>
          have hta : (row (mkT n (ringF n m)) k).take j = row (mkT n (ringF n m)) k := List.take_of_length_le (by rw [HRL.out]; omega)
          rw [hta] at hi
          obtain ⟨br, cr, rfl, hri, hrb, hrb2⟩ := hi.row HVR.out
          have hgw := hg.ext hx2
          have hne : some br ≠ (Value.slice sa k sc).ownBlock := fun e => by have := HO.out br e.symm; omega
          have bv2 := hx2.cell bv
          have qv2 := hx2.free qv (by simp only []; omega)
          clear hg
          go_wp2_with (at_builtin; refine wpList_append_row rfl _ _ 24 28 rfl Try.underlying24 infoSl B.heap.size _ _ rfl (hgw.ext (ext_box _ _ _)) _ br cr _ rfl (cell_new _ _ _) (hri.ext (ext_box _ _ _)) (by rw [HRL.out]; omega) hne (by rw [HTL.out]; omega) (by have := hx.size; have := hx2.size; simp; omega) ?_)
          intro v' w3 hg3 hgr hv3
          have hx3 : Ext w1 w3 := Ext.grown ((hx.trans hx2).trans (ext_box _ _ _)) hgr (hgw.ext (ext_box _ _ _)).own.choose_spec (by omega)
          have hgr2 := hgr.size
          have bv3 : w3.cell? ⟨w1.heap.size, 1, none⟩ = some (Value.slice sa k sc) := by
            rw [hgr.cell_far _ (by simp; omega) (by intro e; have := HO.out _ e.symm; simp only [] at this; omega)]
            exact (ext_box _ _ _).cell bv2
          have bF3 : w3.cell? ⟨w1.heap.size, 0, none⟩ = some (.slice (some ⟨bF, oF, none⟩) n cF) := by
            rw [hgr.cell_far _ (by simp; omega) (by intro e; have := HO.out _ e.symm; simp only [] at this; omega)]
            exact (ext_box _ _ _).cell mF
          have qv3 : w3.frozen? ⟨w1.heap.size, 1, none⟩ = false := by
            rw [hgr.frozen_far _ (by simp; omega) (by intro e; have := HO.out _ e.symm; simp only [] at this; omega)]
            exact (ext_box _ _ _).free qv2 (by simp only []; have := hx2.size; omega)
          clear hgr hne hgw
          obtain ⟨a3, c3, rfl⟩ := hg3.slice
          have hl3 : ((mkT n (ringF n m)).take k ++ [row (mkT n (ringF n m)) k]).length = k + 1 := by rw [List.length_append, HTL.out]; rfl
          rw [hl3] at hg3 ⊢
          clear hl3 hv3
          go_wp2
          go_roundw
          case rel => exact ⟨k + 1, by omega, by go_num, _, World.cell?_setCell_same _ _ _ bv3, kc_set2 (by simp) bF3, by rw [take_row _ _ (by rw [HLT.out]; exact hkl)]; exact hg3.setSl bv3 (by simp only []; omega) _, by rw [World.frozen?_setCell]; exact qv3, hx3.setNew (by simp only []; omega) _, by have := hx2.size; have := hgr2; simp at *; omega⟩
          case measure => simp [intOf]; omega
        case pos =>
          have HLJ := Lib.hid (show ((row (mkT n (ringF n m)) k).take j).length = j by rw [List.length_take, HRL.out]; omega)
          have b1 := mul_bdQ (show m ≤ 12 by omega) (show k ≤ 12 by omega)
          have b2 := mul_bdQ (show m * k ≤ 144 from Nat.mul_le_mul (show m ≤ 12 by omega) (show k ≤ 12 by omega)) (show j ≤ 12 by omega)
          rw [Int.natCast_mul] at b2
          have b3 := b1.2
          have b4 := b2.2
          have b5 := b1.1
          have b6 := b2.1
          clear b1 b2
          simp at b3 b4
          go_wp2_with (at_builtin; refine wpList_append_int rfl _ _ 28 2 rfl Try.underlying28 infoInt w2.heap.size _ _ rfl (hi.alloc _) _ _ rfl (cell_new _ _ _) (by rw [HLJ.out]; omega) (by have := hx2.size; simp; omega) ?_)
          intro v' w3 hi3 hgr hv3
          have hx3 : Ext w2 w3 := (hx2.trans (ext_box _ _ _)).grown hgr (hi.alloc _) (Nat.le_refl _)
          clear hgr
          go_wp2
          go_roundw
          case rel => exact ⟨j + 1, by omega, by go_num, by
            rw [take_ix _ _ (by rw [HRL.out]; exact hjl), row_mkT _ _ _ hkl, ix_partRow _ _ _ _ _ hjl, if_pos hjl, ringF_def]
            rw [row_mkT _ _ _ hkl] at hi3
            exact hi3, hv3, hx3⟩
          case measure => simp [intOf]; omega

set_option maxRecDepth 100000 in
set_option maxHeartbeats 2000000 in
theorem RingBrace_spec (a b : Int) (w : World) : Calls Try.prog 24 #[.int .i64 a, .int .i64 b] w (RetB (ringT a b) (ringU a b) (ringC a b) w) := by
  have hX : Ext w (w.alloc (.cells #[.slice none 0 0, .slice none 0 0] 26)) := (Ext.refl _).alloc _
  have r0 : (w.alloc (.cells #[.slice none 0 0, .slice none 0 0] 26)).cell? ⟨w.heap.size, 0, none⟩ = some (.slice none 0 0) := by simp [go_sem]
  have r1 : (w.alloc (.cells #[.slice none 0 0, .slice none 0 0] 26)).cell? ⟨w.heap.size, 1, none⟩ = some (.slice none 0 0) := by simp [go_sem]
  have q0 : (w.alloc (.cells #[.slice none 0 0, .slice none 0 0] 26)).frozen? ⟨w.heap.size, 0, none⟩ = false := by simp [go_sem]
  have q1 : (w.alloc (.cells #[.slice none 0 0, .slice none 0 0] 26)).frozen? ⟨w.heap.size, 1, none⟩ = false := by simp [go_sem]
  have zA : w.heap.size + 1 ≤ (w.alloc (.cells #[.slice none 0 0, .slice none 0 0] 26)).heap.size := by simp
  cases hin : inR a 1 12 with
  | false =>
    obtain ⟨e1, e2, e3⟩ := ring_out1 (b := b) hin
    rw [e1, e2, e3]
    clear e1 e2 e3
    go_enter Try.func24, Try.ntmps24
    go_wp2_with (go_at_call 54; refine (l01In_any _ _ _ _).mono ?_; rintro e w' ⟨rfl, rfl⟩; (first | rw [hin] | rw [hin2]))
    generalize (w.alloc (.cells #[.slice none 0 0, .slice none 0 0] 26)) = A at *
    refine bodyPost_ret (v := .tuple #[.agg #[.slice none 0 0, .slice none 0 0], .int .i64 2]) (by simp [results, Try.results24, go_sem, r0, r1]) rfl ⟨_, _, rfl, RowsB.nil _ _ _, hX⟩
  | true =>
    have hb := inR_iff.1 hin
    obtain ⟨n, rfl⟩ := Int.eq_ofNat_of_zero_le (a := a) (by omega)
    cases hin2 : inR b 0 ((n : Int) - 1) with
    | false =>
      obtain ⟨e1, e2, e3⟩ := ring_out2 (a := n) (b := b) hin2
      rw [e1, e2, e3]
      clear e1 e2 e3
      go_enter Try.func24, Try.ntmps24
      go_wp2_with (go_at_call 54; refine (l01In_any _ _ _ _).mono ?_; rintro e w' ⟨rfl, rfl⟩; (first | rw [hin] | rw [hin2]))
      generalize (w.alloc (.cells #[.slice none 0 0, .slice none 0 0] 26)) = A at *
      refine bodyPost_ret (v := .tuple #[.agg #[.slice none 0 0, .slice none 0 0], .int .i64 2]) (by simp [results, Try.results24, go_sem, r0, r1]) rfl ⟨_, _, rfl, RowsB.nil _ _ _, hX⟩
    | true =>
      have hb2 := inR_iff.1 hin2
      obtain ⟨m, rfl⟩ := Int.eq_ofNat_of_zero_le (a := b) (by omega)
      have h1 : 1 ≤ n := by omega
      have h2 : n ≤ 12 := by omega
      have hm : m < n := by omega
      clear hb hb2
      have HLF := Lib.hid (length_mkT n (cycF n))
      have HLT := Lib.hid (length_mkT n (ringF n m))
      cases hgd : goodR n m with
      | false =>
        obtain ⟨e1, e2, e3⟩ := ring_bad h1 h2 hm hgd
        rw [e1, e2, e3]
        clear e1 e2 e3
        have HB := Lib.hid ((brace_ring h1 h2 hm).trans hgd)
        clear hgd
        go_enter Try.func24, Try.ntmps24
        go_wp2_with (go_at_call 54; refine (l01In_any _ _ _ _).mono ?_; rintro e w' ⟨rfl, rfl⟩; (first | rw [hin] | rw [hin2]))
        generalize (w.alloc (.cells #[.slice none 0 0, .slice none 0 0] 26)) = A at *
        refine (l11Ring_any n m _ h1 h2 hm).mono ?_
        rintro e w2 ⟨v2, y2, rfl, hrF, hrG, hx⟩
        obtain ⟨-, bF, oF, cF, rfl, -⟩ := id hrF
        obtain ⟨-, bG, oG, cG, rfl, -⟩ := id hrG
        rw [HLF.out, HLT.out]
        rw [HLF.out] at hrF
        rw [HLT.out] at hrG
        have zz := Ext.size hx
        replace q0 := hx.free q0 (by simp only []; omega)
        replace q1 := hx.free q1 (by simp only []; omega)
        replace zA := Nat.le_trans zA zz
        replace hX := hX.trans hx
        replace r0 := hx.cell r0
        replace r1 := hx.cell r1
        clear hx zz
        go_wp2_with fail
        have hx := ext_boxB w2 (.slice (some ⟨bF, oF, none⟩) n cF) (.slice (some ⟨bG, oG, none⟩) n cG) 26
        have k0 := cell_new2a w2 (.slice (some ⟨bF, oF, none⟩) n cF) (.slice (some ⟨bG, oG, none⟩) n cG) 26
        have k1 := cell_new2b w2 (.slice (some ⟨bF, oF, none⟩) n cF) (.slice (some ⟨bG, oG, none⟩) n cG) 26
        replace hrF := hrF.ext hx
        replace hrG := hrG.ext hx
        have zz := Ext.size hx
        replace q0 := hx.free q0 (by simp only []; omega)
        replace q1 := hx.free q1 (by simp only []; omega)
        replace zA := Nat.le_trans zA zz
        replace hX := hX.trans hx
        replace r0 := hx.cell r0
        replace r1 := hx.cell r1
        clear hx zz
        generalize (w2.alloc (.cells #[.slice (some ⟨bF, oF, none⟩) n cF, .slice (some ⟨bG, oG, none⟩) n cG] 26)) = w3 at *
        refine (l11Is_any _ _ _ _ _ hrF hrG).mono ?_
        rintro e w4 ⟨rfl, hx⟩
        rw [HB.out]
        replace hrF := hrF.ext hx
        replace hrG := hrG.ext hx
        replace k0 := hx.cell k0
        replace k1 := hx.cell k1
        have zz := Ext.size hx
        replace q0 := hx.free q0 (by simp only []; omega)
        replace q1 := hx.free q1 (by simp only []; omega)
        replace zA := Nat.le_trans zA zz
        replace hX := hX.trans hx
        replace r0 := hx.cell r0
        replace r1 := hx.cell r1
        clear hx zz
        go_wp2
        refine bodyPost_ret (v := .tuple #[.agg #[.slice none 0 0, .slice none 0 0], .int .i64 5]) (by simp [results, Try.results24, go_sem, r0, r1]) rfl ⟨_, _, rfl, RowsB.nil _ _ _, (hX.setNew (by simp only []; omega) _).setNew (by simp only []; omega) _⟩
      | true =>
        obtain ⟨e1, e2, e3⟩ := ring_good h1 h2 hm hgd
        rw [e1, e2, e3]
        clear e1 e2 e3
        have HB := Lib.hid ((brace_ring h1 h2 hm).trans hgd)
        clear hgd
        go_enter Try.func24, Try.ntmps24
        go_wp2_with (go_at_call 54; refine (l01In_any _ _ _ _).mono ?_; rintro e w' ⟨rfl, rfl⟩; (first | rw [hin] | rw [hin2]))
        generalize (w.alloc (.cells #[.slice none 0 0, .slice none 0 0] 26)) = A at *
        refine (l11Ring_any n m _ h1 h2 hm).mono ?_
        rintro e w2 ⟨v2, y2, rfl, hrF, hrG, hx⟩
        obtain ⟨-, bF, oF, cF, rfl, -⟩ := id hrF
        obtain ⟨-, bG, oG, cG, rfl, -⟩ := id hrG
        rw [HLF.out, HLT.out]
        rw [HLF.out] at hrF
        rw [HLT.out] at hrG
        have zz := Ext.size hx
        replace q0 := hx.free q0 (by simp only []; omega)
        replace q1 := hx.free q1 (by simp only []; omega)
        replace zA := Nat.le_trans zA zz
        replace hX := hX.trans hx
        replace r0 := hx.cell r0
        replace r1 := hx.cell r1
        clear hx zz
        go_wp2_with fail
        have hx := ext_boxB w2 (.slice (some ⟨bF, oF, none⟩) n cF) (.slice (some ⟨bG, oG, none⟩) n cG) 26
        have k0 := cell_new2a w2 (.slice (some ⟨bF, oF, none⟩) n cF) (.slice (some ⟨bG, oG, none⟩) n cG) 26
        have k1 := cell_new2b w2 (.slice (some ⟨bF, oF, none⟩) n cF) (.slice (some ⟨bG, oG, none⟩) n cG) 26
        replace hrF := hrF.ext hx
        replace hrG := hrG.ext hx
        have zz := Ext.size hx
        replace q0 := hx.free q0 (by simp only []; omega)
        replace q1 := hx.free q1 (by simp only []; omega)
        replace zA := Nat.le_trans zA zz
        replace hX := hX.trans hx
        replace r0 := hx.cell r0
        replace r1 := hx.cell r1
        clear hx zz
        generalize (w2.alloc (.cells #[.slice (some ⟨bF, oF, none⟩) n cF, .slice (some ⟨bG, oG, none⟩) n cG] 26)) = w3 at *
        refine (l11Is_any _ _ _ _ _ hrF hrG).mono ?_
        rintro e w4 ⟨rfl, hx⟩
        rw [HB.out]
        replace hrF := hrF.ext hx
        replace hrG := hrG.ext hx
        replace k0 := hx.cell k0
        replace k1 := hx.cell k1
        have zz := Ext.size hx
        replace q0 := hx.free q0 (by simp only []; omega)
        replace q1 := hx.free q1 (by simp only []; omega)
        replace zA := Nat.le_trans zA zz
        replace hX := hX.trans hx
        replace r0 := hx.cell r0
        replace r1 := hx.cell r1
        clear hx zz
        go_wp2
        refine bodyPost_ret (v := .tuple #[.agg #[.slice (some ⟨bF, oF, none⟩) n cF, .slice (some ⟨bG, oG, none⟩) n cG], .int .i64 0]) (by simp [results, Try.results24, go_sem, r0, r1]) rfl ⟨_, _, rfl, ⟨?_, ?_⟩, (hX.setNew (by simp only []; omega) _).setNew (by simp only []; omega) _⟩
        · have := (rows_set2 hrF r0 r1 (.slice (some ⟨bF, oF, none⟩) n cF) (.slice (some ⟨bG, oG, none⟩) n cG)).toR
          exact this
        · have := (rows_set2 hrG r0 r1 (.slice (some ⟨bF, oF, none⟩) n cF) (.slice (some ⟨bG, oG, none⟩) n cG)).toR
          exact this

/-! ### the program -/
def NoBad (n k q : Nat) : Prop := ∀ p, p < q → badP n k p = false
theorem isPr_small {p : Nat} (h : p < 2) : isPr p = false := by
  unfold isPr
  have : Nat.ble 2 p = false := by
    cases e : Nat.ble 2 p with
    | false => rfl
    | true => exact absurd (Nat.le_of_ble_eq_true e) (by omega)
  rw [this]; rfl

theorem badP_1 {n k p : Nat} (h : isPr p = false) : badP n k p = false := by unfold badP; rw [h]; rfl

theorem badP_2 {n k p : Nat} (h : ((n : Int) % (p : Int) == 0) = false) : badP n k p = false := by
  have h : n % p ≠ 0 := by
    have : (n : Int) % (p : Int) ≠ 0 := by simpa using h
    omega
  have : Nat.beq (n % p) 0 = false := by
    cases e : Nat.beq (n % p) 0 with
    | false => rfl
    | true => exact absurd (Nat.eq_of_beq_eq_true e) h
  unfold badP; rw [this]; simp

theorem badP_3 {n k p : Nat} (h : ((k : Int) % (p : Int) != 0) = false) : badP n k p = false := by
  have h : k % p = 0 := by
    have : (k : Int) % (p : Int) = 0 := by simpa using h
    omega
  unfold badP; rw [h]; simp

theorem badP_yes {n k p : Nat} (h : isPr p = true) (h2 : ((n : Int) % (p : Int) == 0) = true) (h3 : ((k : Int) % (p : Int) != 0) = true) : badP n k p = true := by
  have e2 : n % p = 0 := by
    have : (n : Int) % (p : Int) = 0 := by simpa using h2
    omega
  have e3 : k % p ≠ 0 := by
    have : (k : Int) % (p : Int) ≠ 0 := by simpa using h3
    omega
  have : Nat.beq (k % p) 0 = false := by
    cases e : Nat.beq (k % p) 0 with
    | false => rfl
    | true => exact absurd (Nat.eq_of_beq_eq_true e) e3
  unfold badP; rw [h, e2, this]; rfl

theorem NoBad.two (n k : Nat) : NoBad n k 2 := fun p hp => badP_1 (isPr_small hp)

theorem NoBad.succ {n k q : Nat} (h : NoBad n k q) (hq : badP n k q = false) : NoBad n k (q + 1) := all_succ h hq

theorem good_no {n k p : Nat} (hp : p ≤ n) (h : badP n k p = true) : goodR n k = false := by
  rw [← Bool.not_eq_true]
  intro hg
  have := allN_iff.1 hg p (by omega)
  rw [h] at this
  simp at this

theorem good_yes {n k q : Nat} (h : NoBad n k q) (hq : n < q) : goodR n k = true := by
  unfold goodR
  rw [allN_iff]
  intro p hp
  rw [h p (by omega)]; rfl

theorem ring1_any (n m x y B C : Nat) (w : World) (hB : w.cell? ⟨B, 0, none⟩ = some (.int .i64 m)) (hC : w.cell? ⟨C, 0, none⟩ = some (.int .i64 n)) (h1 : 1 ≤ n) (h2 : n ≤ 12) (hm : m < n) (hx : x < n) (hy : y < n) :
    Calls Try.prog 53 #[.int .i64 x, .int .i64 y, .pointer (some ⟨B, 0, none⟩), .pointer (some ⟨C, 0, none⟩)] w fun e w' => e = .returned (.int .i64 (ringF n m x y)) ∧ Ext w w' := by
  rw [ringF_def]
  have b1 := mul_bdQ (show m ≤ 12 by omega) (show x ≤ 12 by omega)
  have b2 := mul_bdQ (show m * x ≤ 144 from Nat.mul_le_mul (show m ≤ 12 by omega) (show x ≤ 12 by omega)) (show y ≤ 12 by omega)
  rw [Int.natCast_mul] at b2
  have b3 := b1.2
  have b4 := b2.2
  have b5 := b1.1
  have b6 := b2.1
  clear b1 b2
  simp at b3 b4
  go_enter Try.func53, Try.ntmps53
  go_wp2
  go_ret
  exact ⟨rfl, Ext.refl _⟩

theorem fieldGroup (v : Value) (w : World) : (Instr.field 38 (.agg #[v]) 0).run Try.prog w = .ok v w := by kernel_rfl

theorem callRing1 (args : Array Value) (w : World) : (callFunc 53 args).run Try.prog w = .ok (.enter 53 args) w :=
  callFunc_enter Try.func53 (by kernel_rfl) rfl args w

set_option maxRecDepth 100000 in
set_option maxHeartbeats 2000000 in
theorem RingBrace_impl (a b : Int) (w : World) : Calls Try.prog 23 #[.int .i64 a, .int .i64 b] w (NewBC (ringT a b) (ringU a b) (ringC a b) w) := by
  have hX : Ext w (w.alloc (.cells #[.slice none 0 0, .slice none 0 0] 26)) := (Ext.refl _).alloc _
  have r0 : (w.alloc (.cells #[.slice none 0 0, .slice none 0 0] 26)).cell? ⟨w.heap.size, 0, none⟩ = some (.slice none 0 0) := by simp [go_sem]
  have r1 : (w.alloc (.cells #[.slice none 0 0, .slice none 0 0] 26)).cell? ⟨w.heap.size, 1, none⟩ = some (.slice none 0 0) := by simp [go_sem]
  have q0 : (w.alloc (.cells #[.slice none 0 0, .slice none 0 0] 26)).frozen? ⟨w.heap.size, 0, none⟩ = false := by simp [go_sem]
  have q1 : (w.alloc (.cells #[.slice none 0 0, .slice none 0 0] 26)).frozen? ⟨w.heap.size, 1, none⟩ = false := by simp [go_sem]
  have zA : w.heap.size + 1 ≤ (w.alloc (.cells #[.slice none 0 0, .slice none 0 0] 26)).heap.size := by simp
  cases hin : inR a 1 12 with
  | false =>
    obtain ⟨e1, e2, e3⟩ := ring_out1 (b := b) hin
    rw [e1, e2, e3]
    clear e1 e2 e3
    go_enter Try.func23, Try.ntmps23
    go_wp2_with (go_at_call 49; refine (within_any _ _ _ _).mono ?_; rintro e w' ⟨rfl, rfl⟩; (first | rw [hin] | rw [hin2]))
    generalize (w.alloc (.cells #[.slice none 0 0, .slice none 0 0] 26)) = A at *
    refine bodyPost_ret (v := .tuple #[.agg #[.slice none 0 0, .slice none 0 0], .int .i64 2]) (by simp [results, Try.results23, go_sem, r0, r1]) rfl ⟨_, _, rfl, OwnB.nil _ _ _ (by first | exact hX.size | (simp; omega)), hX⟩
  | true =>
    have hb := inR_iff.1 hin
    obtain ⟨n, rfl⟩ := Int.eq_ofNat_of_zero_le (a := a) (by omega)
    cases hin2 : inR b 0 ((n : Int) - 1) with
    | false =>
      obtain ⟨e1, e2, e3⟩ := ring_out2 (a := n) (b := b) hin2
      rw [e1, e2, e3]
      clear e1 e2 e3
      go_enter Try.func23, Try.ntmps23
      go_wp2_with (go_at_call 49; refine (within_any _ _ _ _).mono ?_; rintro e w' ⟨rfl, rfl⟩; (first | rw [hin] | rw [hin2]))
      generalize (w.alloc (.cells #[.slice none 0 0, .slice none 0 0] 26)) = A at *
      refine bodyPost_ret (v := .tuple #[.agg #[.slice none 0 0, .slice none 0 0], .int .i64 2]) (by simp [results, Try.results23, go_sem, r0, r1]) rfl ⟨_, _, rfl, OwnB.nil _ _ _ (by first | exact hX.size | (simp; omega)), hX⟩
    | true =>
      have hb2 := inR_iff.1 hin2
      obtain ⟨m, rfl⟩ := Int.eq_ofNat_of_zero_le (a := b) (by omega)
      have h1 : 1 ≤ n := by omega
      have h2 : n ≤ 12 := by omega
      have hm : m < n := by omega
      clear hb hb2
      have HLF := Lib.hid (length_mkT n (cycF n))
      have HLT := Lib.hid (length_mkT n (ringF n m))
      go_enter Try.func23, Try.ntmps23
      go_wp2_with (go_at_call 49; refine (within_any _ _ _ _).mono ?_; rintro e w' ⟨rfl, rfl⟩; (first | rw [hin] | rw [hin2]))
      generalize (w.alloc (.cells #[.slice none 0 0, .slice none 0 0] 26)) = A at *
      go_loop [6] (fun x => ∃ q : Nat, 2 ≤ q ∧ q ≤ 13 ∧ x = .int .i64 q ∧ NoBad n m q) (fun x => 13 - (intOf x).toNat)
      case atStart => exact ⟨2, by omega, by omega, rfl, NoBad.two n m⟩
      case round =>
        obtain ⟨q, hq2, hq, rfl, hnb⟩ := hrel
        have HNB := Lib.hid hnb
        clear hnb
        by_cases hqn : q ≤ n
        · have h12 : q ≤ 12 := by omega
          cases hp : isPr q with
          | false =>
            have HX := Lib.hid (badP_1 (n := n) (k := m) hp)
            go_wp2_with (go_at_call 50; refine (isPrime_any q _ h12).mono ?_; rintro e w' ⟨rfl, rfl⟩; rw [hp])
            go_round
            case rel => exact ⟨q + 1, by omega, by omega, by go_num, HNB.out.succ HX.out⟩
            case measure => simp [intOf]; omega
          | true =>
            cases hn0 : ((n : Int) % (q : Int) == 0) with
            | false =>
              have HX := Lib.hid (badP_2 (k := m) hn0)
              go_wp2_with (go_at_call 50; refine (isPrime_any q _ h12).mono ?_; rintro e w' ⟨rfl, rfl⟩; rw [hp])
              go_round
              case rel => exact ⟨q + 1, by omega, by omega, by go_num, HNB.out.succ HX.out⟩
              case measure => simp [intOf]; omega
            | true =>
              cases hk0 : ((m : Int) % (q : Int) != 0) with
              | false =>
                have HX := Lib.hid (badP_3 (n := n) hk0)
                go_wp2_with (go_at_call 50; refine (isPrime_any q _ h12).mono ?_; rintro e w' ⟨rfl, rfl⟩; rw [hp])
                go_round
                case rel => exact ⟨q + 1, by omega, by omega, by go_num, HNB.out.succ HX.out⟩
                case measure => simp [intOf]; omega
              | true =>
                obtain ⟨e1, e2, e3⟩ := ring_bad h1 h2 hm (good_no (by omega) (badP_yes hp hn0 hk0))
                rw [e1, e2, e3]
                clear e1 e2 e3
                go_wp2_with (go_at_call 50; refine (isPrime_any q _ h12).mono ?_; rintro e w' ⟨rfl, rfl⟩; rw [hp])
                refine bodyPost_ret (v := .tuple #[.agg #[.slice none 0 0, .slice none 0 0], .int .i64 5]) (by simp [results, Try.results23, go_sem, r0, r1]) rfl ⟨_, _, rfl, OwnB.nil _ _ _ (by first | exact hX.size | (simp; omega)), (hX.setNew (by simp only []; omega) _).setNew (by simp only []; omega) _⟩
        · obtain ⟨e1, e2, e3⟩ := ring_good h1 h2 hm (good_yes (HNB.out) (by omega))
          have E1 := Lib.hid e1
          have E2 := Lib.hid e2
          have E3 := Lib.hid e3
          clear e1 e2 e3
          have b0 : ((A.alloc (.cells #[.int .i64 n] 3)).alloc (.cells #[.int .i64 m] 3)).cell? ⟨A.heap.size, 0, none⟩ = some (.int .i64 n) := by simp [go_sem]
          have b1 : ((A.alloc (.cells #[.int .i64 n] 3)).alloc (.cells #[.int .i64 m] 3)).cell? ⟨A.heap.size + 1, 0, none⟩ = some (.int .i64 m) := by simp [go_sem]
          have hx : Ext A ((A.alloc (.cells #[.int .i64 n] 3)).alloc (.cells #[.int .i64 m] 3)) := ext_box2 A _ _ _ _
          have zA0 := zA
          have zz := Ext.size hx
          replace q0 := hx.free q0 (by simp only []; omega)
          replace q1 := hx.free q1 (by simp only []; omega)
          replace zA := Nat.le_trans zA zz
          replace hX := hX.trans hx
          replace r0 := hx.cell r0
          replace r1 := hx.cell r1
          clear hx zz
          go_wp2_with fail
          generalize ((A.alloc (.cells #[.int .i64 n] 3)).alloc (.cells #[.int .i64 m] 3)) = w2 at *
          have hX0 := Ext.refl w2
          have hfd := fieldGroup
          go_region_held3 (fun w' => w'.cell? ⟨A.heap.size, 0, none⟩ = some (.int .i64 n))
            ((first | (focus ((repeat first | (with_reducible assumption) | (with_reducible refine Ext.cell hxG ?_) | (with_reducible refine Ext.cell hxF ?_) |  (with_reducible exact kc_new) | ((with_reducible refine kc_newE ?_); (simp; done)) | ((with_reducible refine kc_newEa ?_); (simp; done)) | ((with_reducible refine kc_newEb ?_); (simp; done)) | (with_reducible apply kc_alloc) | (with_reducible apply kc_drewN) | (with_reducible apply kc_drew) | ((with_reducible refine kc_set ?_ ?_); (first | (simp only []; omega) | (simp; omega) | (focus (simp; done)))) | ((with_reducible refine kc_set2 ?_ ?_); (focus (simp; done))) | (with_reducible refine kc_same (v := .slice none 0 0) ?_)); done)) | (focus ((repeat first | (with_reducible assumption) | (with_reducible refine Ext.cell hxF ?_) | (with_reducible refine Ext.cell hxG ?_) |  (with_reducible exact kc_new) | ((with_reducible refine kc_newE ?_); (simp; done)) | ((with_reducible refine kc_newEa ?_); (simp; done)) | ((with_reducible refine kc_newEb ?_); (simp; done)) | (with_reducible apply kc_alloc) | (with_reducible apply kc_drewN) | (with_reducible apply kc_drew) | ((with_reducible refine kc_set ?_ ?_); (first | (simp only []; omega) | (simp; omega) | (focus (simp; done)))) | ((with_reducible refine kc_set2 ?_ ?_); (focus (simp; done))) | (with_reducible refine kc_same (v := .slice none 0 0) ?_)); done))))
            (first
              | (go_at_call 51; refine (cyclic_any n _ h1 h2).mono ?_; rintro e wF ⟨bF, cF, rfl, hoF, hxF⟩; rw [length_mkT]; replace r0 := hxF.cell (p := ⟨w.heap.size, 0, none⟩) (v := .slice none 0 0) (by (repeat first | (with_reducible assumption) | (with_reducible refine Ext.cell hxG ?_) |  (with_reducible exact kc_new) | ((with_reducible refine kc_newE ?_); (simp; done)) | ((with_reducible refine kc_newEa ?_); (simp; done)) | ((with_reducible refine kc_newEb ?_); (simp; done)) | (with_reducible apply kc_alloc) | (with_reducible apply kc_drewN) | (with_reducible apply kc_drew) | ((with_reducible refine kc_set ?_ ?_); (first | (simp only []; omega) | (simp; omega) | (focus (simp; done)))) | ((with_reducible refine kc_set2 ?_ ?_); (focus (simp; done))) | (with_reducible refine kc_same (v := .slice none 0 0) ?_))); replace r1 := hxF.cell (p := ⟨w.heap.size, 1, none⟩) (v := .slice none 0 0) (by (repeat first | (with_reducible assumption) | (with_reducible refine Ext.cell hxG ?_) |  (with_reducible exact kc_new) | ((with_reducible refine kc_newE ?_); (simp; done)) | ((with_reducible refine kc_newEa ?_); (simp; done)) | ((with_reducible refine kc_newEb ?_); (simp; done)) | (with_reducible apply kc_alloc) | (with_reducible apply kc_drewN) | (with_reducible apply kc_drew) | ((with_reducible refine kc_set ?_ ?_); (first | (simp only []; omega) | (simp; omega) | (focus (simp; done)))) | ((with_reducible refine kc_set2 ?_ ?_); (focus (simp; done))) | (with_reducible refine kc_same (v := .slice none 0 0) ?_))); replace q0 := hxF.free (p := ⟨w.heap.size, 0, none⟩) (by (repeat first | (with_reducible assumption) | ((with_reducible refine Ext.free hxG ?_ ?_); rotate_left; (first | (simp only []; omega) | (simp; omega)); rotate_left)  | (with_reducible apply kf_drew) | (with_reducible apply kf_drewN) | (with_reducible apply kf_set) | ((with_reducible refine kf_alloc ?_ ?_); (first | (simp only []; omega) | (simp; omega))))) (by first | (simp only []; omega) | (simp; omega)); replace q1 := hxF.free (p := ⟨w.heap.size, 1, none⟩) (by (repeat first | (with_reducible assumption) | ((with_reducible refine Ext.free hxG ?_ ?_); rotate_left; (first | (simp only []; omega) | (simp; omega)); rotate_left)  | (with_reducible apply kf_drew) | (with_reducible apply kf_drewN) | (with_reducible apply kf_set) | ((with_reducible refine kf_alloc ?_ ?_); (first | (simp only []; omega) | (simp; omega))))) (by first | (simp only []; omega) | (simp; omega)); have zF := hxF.size; (try simp only [size_drew] at zF))
              | (go_at_call 52; refine (tableBy_any n (ringF n m) 53 #[.pointer (some ⟨A.heap.size + 1, 0, none⟩), .pointer (some ⟨A.heap.size, 0, none⟩)] _ (by omega) callRing1 (fun w1 x y hx hxn hyn => by rw [app22]; exact ring1_any n m x y _ _ w1 (hx.cell (by (repeat first | (with_reducible assumption) | (with_reducible refine Ext.cell hxF ?_) |  (with_reducible exact kc_new) | ((with_reducible refine kc_newE ?_); (simp; done)) | ((with_reducible refine kc_newEa ?_); (simp; done)) | ((with_reducible refine kc_newEb ?_); (simp; done)) | (with_reducible apply kc_alloc) | (with_reducible apply kc_drewN) | (with_reducible apply kc_drew) | ((with_reducible refine kc_set ?_ ?_); (first | (simp only []; omega) | (simp; omega) | (focus (simp; done)))) | ((with_reducible refine kc_set2 ?_ ?_); (focus (simp; done))) | (with_reducible refine kc_same (v := .slice none 0 0) ?_)))) (hx.cell (by (repeat first | (with_reducible assumption) | (with_reducible refine Ext.cell hxF ?_) |  (with_reducible exact kc_new) | ((with_reducible refine kc_newE ?_); (simp; done)) | ((with_reducible refine kc_newEa ?_); (simp; done)) | ((with_reducible refine kc_newEb ?_); (simp; done)) | (with_reducible apply kc_alloc) | (with_reducible apply kc_drewN) | (with_reducible apply kc_drew) | ((with_reducible refine kc_set ?_ ?_); (first | (simp only []; omega) | (simp; omega) | (focus (simp; done)))) | ((with_reducible refine kc_set2 ?_ ?_); (focus (simp; done))) | (with_reducible refine kc_same (v := .slice none 0 0) ?_)))) h1 h2 hm hxn hyn)).mono ?_; rintro e wG ⟨bG, cG, rfl, hoG, hxG⟩; rw [length_mkT]; replace r0 := hxG.cell (p := ⟨w.heap.size, 0, none⟩) (v := .slice none 0 0) (by (repeat first | (with_reducible assumption) | (with_reducible refine Ext.cell hxF ?_) |  (with_reducible exact kc_new) | ((with_reducible refine kc_newE ?_); (simp; done)) | ((with_reducible refine kc_newEa ?_); (simp; done)) | ((with_reducible refine kc_newEb ?_); (simp; done)) | (with_reducible apply kc_alloc) | (with_reducible apply kc_drewN) | (with_reducible apply kc_drew) | ((with_reducible refine kc_set ?_ ?_); (first | (simp only []; omega) | (simp; omega) | (focus (simp; done)))) | ((with_reducible refine kc_set2 ?_ ?_); (focus (simp; done))) | (with_reducible refine kc_same (v := .slice none 0 0) ?_))); replace r1 := hxG.cell (p := ⟨w.heap.size, 1, none⟩) (v := .slice none 0 0) (by (repeat first | (with_reducible assumption) | (with_reducible refine Ext.cell hxF ?_) |  (with_reducible exact kc_new) | ((with_reducible refine kc_newE ?_); (simp; done)) | ((with_reducible refine kc_newEa ?_); (simp; done)) | ((with_reducible refine kc_newEb ?_); (simp; done)) | (with_reducible apply kc_alloc) | (with_reducible apply kc_drewN) | (with_reducible apply kc_drew) | ((with_reducible refine kc_set ?_ ?_); (first | (simp only []; omega) | (simp; omega) | (focus (simp; done)))) | ((with_reducible refine kc_set2 ?_ ?_); (focus (simp; done))) | (with_reducible refine kc_same (v := .slice none 0 0) ?_))); replace q0 := hxG.free (p := ⟨w.heap.size, 0, none⟩) (by (repeat first | (with_reducible assumption) | ((with_reducible refine Ext.free hxF ?_ ?_); rotate_left; (first | (simp only []; omega) | (simp; omega)); rotate_left)  | (with_reducible apply kf_drew) | (with_reducible apply kf_drewN) | (with_reducible apply kf_set) | ((with_reducible refine kf_alloc ?_ ?_); (first | (simp only []; omega) | (simp; omega))))) (by first | (simp only []; omega) | (simp; omega)); replace q1 := hxG.free (p := ⟨w.heap.size, 1, none⟩) (by (repeat first | (with_reducible assumption) | ((with_reducible refine Ext.free hxF ?_ ?_); rotate_left; (first | (simp only []; omega) | (simp; omega)); rotate_left)  | (with_reducible apply kf_drew) | (with_reducible apply kf_drewN) | (with_reducible apply kf_set) | ((with_reducible refine kf_alloc ?_ ?_); (first | (simp only []; omega) | (simp; omega))))) (by first | (simp only []; omega) | (simp; omega)); have zG := hxG.size; (try simp only [size_drew] at zG)))
          all_goals
            go_wp2
          · first
            | exact bodyPost_ret (v := .tuple #[.agg #[.slice (some ⟨bF, 0, none⟩) n cF, .slice (some ⟨bG, 0, none⟩) n cG], .int .i64 0]) (by simp [results, Try.results23, go_sem, r0, r1]) rfl ⟨_, _, by rw [E3.out], by rw [E1.out, E2.out]; exact ⟨w2.drew.heap.size, wF.heap.size, wF.heap.size, wG.heap.size, by simp only [size_drew]; omega, by simp; omega, by omega, by simp, .inl (Nat.le_refl _), (by have h := ((OwnV.ext (hoF.v (small_mkT (by omega) _) cF) hxG (Nat.le_refl _)).set2 (B := w.heap.size) (by simp only [size_drew]; omega) (.slice (some ⟨bF, 0, none⟩) n cF) (.slice (some ⟨bG, 0, none⟩) n cG)); rw [length_mkT] at h; exact h), (by have h := ((hoG.v (small_mkT (by omega) _) cG).set2 (B := w.heap.size) (by omega) (.slice (some ⟨bF, 0, none⟩) n cF) (.slice (some ⟨bG, 0, none⟩) n cG)); rw [length_mkT] at h; exact h)⟩, (((hX.drew.trans hxF).trans hxG).setNew (by simp only []; omega) _).setNew (by simp only []; omega) _⟩
            | exact bodyPost_ret (v := .tuple #[.agg #[.slice (some ⟨bF, 0, none⟩) n cF, .slice (some ⟨bG, 0, none⟩) n cG], .int .i64 0]) (by simp [results, Try.results23, go_sem, r0, r1]) rfl ⟨_, _, by rw [E3.out], by rw [E1.out, E2.out]; exact ⟨wG.heap.size, wF.heap.size, w2.drew.heap.size, wG.heap.size, by omega, by simp, by simp only [size_drew]; omega, by simp; omega, .inr (Nat.le_refl _), (by have h := ((hoF.v (small_mkT (by omega) _) cF).set2 (B := w.heap.size) (by omega) (.slice (some ⟨bF, 0, none⟩) n cF) (.slice (some ⟨bG, 0, none⟩) n cG)); rw [length_mkT] at h; exact h), (by have h := ((OwnV.ext (hoG.v (small_mkT (by omega) _) cG) hxF (Nat.le_refl _)).set2 (B := w.heap.size) (by simp only [size_drew]; omega) (.slice (some ⟨bF, 0, none⟩) n cF) (.slice (some ⟨bG, 0, none⟩) n cG)); rw [length_mkT] at h; exact h)⟩, (((hX.drew.trans hxG).trans hxF).setNew (by simp only []; omega) _).setNew (by simp only []; omega) _⟩
          · first
            | exact bodyPost_ret (v := .tuple #[.agg #[.slice (some ⟨bF, 0, none⟩) n cF, .slice (some ⟨bG, 0, none⟩) n cG], .int .i64 0]) (by simp [results, Try.results23, go_sem, r0, r1]) rfl ⟨_, _, by rw [E3.out], by rw [E1.out, E2.out]; exact ⟨w2.drew.heap.size, wF.heap.size, wF.heap.size, wG.heap.size, by simp only [size_drew]; omega, by simp; omega, by omega, by simp, .inl (Nat.le_refl _), (by have h := ((OwnV.ext (hoF.v (small_mkT (by omega) _) cF) hxG (Nat.le_refl _)).set2 (B := w.heap.size) (by simp only [size_drew]; omega) (.slice (some ⟨bF, 0, none⟩) n cF) (.slice (some ⟨bG, 0, none⟩) n cG)); rw [length_mkT] at h; exact h), (by have h := ((hoG.v (small_mkT (by omega) _) cG).set2 (B := w.heap.size) (by omega) (.slice (some ⟨bF, 0, none⟩) n cF) (.slice (some ⟨bG, 0, none⟩) n cG)); rw [length_mkT] at h; exact h)⟩, (((hX.drew.trans hxF).trans hxG).setNew (by simp only []; omega) _).setNew (by simp only []; omega) _⟩
            | exact bodyPost_ret (v := .tuple #[.agg #[.slice (some ⟨bF, 0, none⟩) n cF, .slice (some ⟨bG, 0, none⟩) n cG], .int .i64 0]) (by simp [results, Try.results23, go_sem, r0, r1]) rfl ⟨_, _, by rw [E3.out], by rw [E1.out, E2.out]; exact ⟨wG.heap.size, wF.heap.size, w2.drew.heap.size, wG.heap.size, by omega, by simp, by simp only [size_drew]; omega, by simp; omega, .inr (Nat.le_refl _), (by have h := ((hoF.v (small_mkT (by omega) _) cF).set2 (B := w.heap.size) (by omega) (.slice (some ⟨bF, 0, none⟩) n cF) (.slice (some ⟨bG, 0, none⟩) n cG)); rw [length_mkT] at h; exact h), (by have h := ((OwnV.ext (hoG.v (small_mkT (by omega) _) cG) hxF (Nat.le_refl _)).set2 (B := w.heap.size) (by simp only [size_drew]; omega) (.slice (some ⟨bF, 0, none⟩) n cF) (.slice (some ⟨bG, 0, none⟩) n cG)); rw [length_mkT] at h; exact h)⟩, (((hX.drew.trans hxG).trans hxF).setNew (by simp only []; omega) _).setNew (by simp only []; omega) _⟩

end Go.Proofs.Ytjbloenjphpngaa

/-
  Contracts of LambdaOf: reference and program.
-/
namespace Go.Proofs.Ytjbloenjphpngaa
set_option linter.unusedVariables false
set_option linter.unusedSimpArgs false
open Go.RowKit
attribute [local go_sem ↓] Go.wp_at_zero Go.wp_at_succ

/-- lambda -/
@[irreducible] def lamF (t u : List (List Int)) (x y : Nat) : Int := ent t (backF t x).toNat (ent u x y).toNat
theorem lamF_def (t u : List (List Int)) (x y : Nat) : ent t (backF t x).toNat (ent u x y).toNat = lamF t u x y := by unfold lamF; rfl
theorem lamF_bd {t u : List (List Int)} (hG : GroupOk t) (hU : GroupOk u) (hl : t.length = u.length) {x y : Nat} (hx : x < t.length) (hy : y < t.length) : 0 ≤ lamF t u x y ∧ lamF t u x y < (t.length : Int) := by
  rw [← lamF_def]
  have h1 := backF_ok hG hx
  have h2 := hU.1.bd (x := x) (y := y) (by omega) (by omega)
  have := hG.1.bd (x := (backF t x).toNat) (y := (ent u x y).toNat) (by omega) (by omega)
  omega

theorem lambdaTable1_any (t u : List (List Int)) (v y : Value) (b3 c3 : Nat) (i j B C : Nat) (w : World) (hB : w.cell? ⟨B, 0, none⟩ = some v) (hB1 : w.cell? ⟨B, 1, none⟩ = some y) (hC : w.cell? ⟨C, 0, none⟩ = some (.slice (some ⟨b3, 0, none⟩) t.length c3)) (hv : Rows w v t) (hy : Rows w y u) (hi : IntsAt w b3 0 (backs t)) (hG : GroupOk t) (hU : GroupOk u) (hl : t.length = u.length) (hx : i < t.length) (hj : j < t.length) :
    Calls Try.prog 68 #[.int .i64 i, .int .i64 j, .pointer (some ⟨B, 0, none⟩), .pointer (some ⟨C, 0, none⟩)] w fun e w' => e = .returned (.int .i64 (lamF t u i j)) ∧ Ext w w' := by
  obtain ⟨hlen, b, o, c, rfl, hc⟩ := id hv
  obtain ⟨hlen2, b2, o2, c2, rfl, hc2⟩ := id hy
  have h12 := hG.1.2.1
  have hb := backF_ok hG hx
  have i0 : backF t i < (t.length : Int) := by omega
  obtain ⟨d1, s1, m1, r1, l1⟩ := hc2.read hU.1 hl.symm hx
  obtain ⟨f1, p1, p2⟩ := l1 j hj
  obtain ⟨d2, s2, m2, r2, l2⟩ := hc.read hG.1 rfl (x := (backF t i).toNat) (by omega)
  obtain ⟨f2, p3, p4⟩ := l2 (ent u i j).toNat (by omega)
  rw [lamF_def] at f2 p3 p4
  have ib := hi i (by rw [length_backs]; exact hx)
  rw [ix_backs _ _ hx, Nat.zero_add] at ib
  have HL := Lib.hid hl
  rw [← hl] at hB1
  clear l1 l2 hl
  go_enter Try.func68, Try.ntmps68
  go_wp2
  go_quiet (fail)
  go_wp2
  go_ret
  exact ⟨rfl, (Ext.refl _).drewN _⟩

theorem callLambdaTable1 (args : Array Value) (w : World) : (callFunc 68 args).run Try.prog w = .ok (.enter 68 args) w :=
  callFunc_enter Try.func68 (by kernel_rfl) rfl args w

set_option maxRecDepth 100000 in
theorem lambdaTable_any (t u : List (List Int)) (v y : Value) (w : World) (hv : Rows w v t) (hy : Rows w y u) (hG : GroupOk t) (hU : GroupOk u) (hl : t.length = u.length) :
    Calls Try.prog 39 #[.agg #[v, y]] w (NewT (mkT t.length (lamF t u)) w) := by
  obtain ⟨hlen, b, o, c, rfl, hc⟩ := id hv
  obtain ⟨hlen2, b2, o2, c2, rfl, hc2⟩ := id hy
  have hX := ext_boxB w (.slice (some ⟨b, o, none⟩) t.length c) (.slice (some ⟨b2, o2, none⟩) u.length c2) 26
  have k0 := cell_new2a w (.slice (some ⟨b, o, none⟩) t.length c) (.slice (some ⟨b2, o2, none⟩) u.length c2) 26
  have k1 := cell_new2b w (.slice (some ⟨b, o, none⟩) t.length c) (.slice (some ⟨b2, o2, none⟩) u.length c2) 26
  have zA : w.heap.size + 1 = (w.alloc (.cells #[.slice (some ⟨b, o, none⟩) t.length c, .slice (some ⟨b2, o2, none⟩) u.length c2] 26)).heap.size := by simp
  clear hc hc2
  have h12 := hG.1.2.1
  have HG := Lib.hid hG
  have HU := Lib.hid hU
  have HL := Lib.hid hl
  clear hG hU hl
  replace zA := Nat.le_of_eq zA
  go_enter Try.func39, Try.ntmps39
  go_wp2_with fail
  generalize (w.alloc (.cells #[.slice (some ⟨b, o, none⟩) t.length c, .slice (some ⟨b2, o2, none⟩) u.length c2] 26)) = A at *
  refine (groupInverses_any t _ _ (hv.ext hX)).mono ?_
  rintro e w1 ⟨b3, c3, rfl, hi3, hx1⟩
  replace hX := hX.trans hx1
  replace k0 := hx1.cell k0
  replace k1 := hx1.cell k1
  have hxB := ext_box w1 (.slice (some ⟨b3, 0, none⟩) t.length c3) 28
  have bB := cell_new w1 (.slice (some ⟨b3, 0, none⟩) t.length c3) 28
  have hz := hx1.size
  replace k0 := hxB.cell k0
  replace k1 := hxB.cell k1
  go_wp2_with fail
  refine (tableBy_any t.length (lamF t u) 68 #[.pointer (some ⟨w.heap.size, 0, none⟩), .pointer (some ⟨w1.heap.size, 0, none⟩)] _ (by omega) callLambdaTable1 (fun w3 x y h3 hx hy' => by
    rw [app22]
    have hX3 := hX.trans (hxB.trans h3)
    exact lambdaTable1_any t u _ _ b3 c3 x y w.heap.size w1.heap.size w3 (h3.cell k0) (h3.cell k1) (h3.cell bB) (hv.ext hX3) (hy.ext hX3) (hi3.ext (hxB.trans h3)) HG.out HU.out HL.out hx hy')).mono ?_
  rintro e w2 ⟨b4, c4, rfl, ho, hx2⟩
  go_wp2
  go_ret
  exact ⟨b4, c4, rfl, ho.mono (by simp; omega) (Nat.le_refl _), hX.trans (hxB.trans hx2)⟩

set_option maxRecDepth 100000 in
theorem LambdaOf_impl (t u : List (List Int)) (v y : Value) (w : World) (hv : Rows w v t) (hy : Rows w y u) :
    Calls Try.prog 12 #[.agg #[v, y]] w (NewTC (ifB t u (mkT t.length (lamF t u)) []) (codeB t u) w) := by
  obtain ⟨hlen, b, o, c, rfl, hc⟩ := id hv
  obtain ⟨hlen2, b2, o2, c2, rfl, hc2⟩ := id hy
  have hX := ext_boxB w (.slice (some ⟨b, o, none⟩) t.length c) (.slice (some ⟨b2, o2, none⟩) u.length c2) 26
  have k0 := cell_new2a w (.slice (some ⟨b, o, none⟩) t.length c) (.slice (some ⟨b2, o2, none⟩) u.length c2) 26
  have k1 := cell_new2b w (.slice (some ⟨b, o, none⟩) t.length c) (.slice (some ⟨b2, o2, none⟩) u.length c2) 26
  cases hb : braceB t u with
  | false =>
    rw [ifB_no hb, codeB_no hb]
    clear hc hc2
    go_enter Try.func12, Try.ntmps12
    go_wp2_with fail
    refine (IsBrace_impl t u _ _ _ (hv.ext hX) (hy.ext hX)).mono ?_
    rintro e wn ⟨rfl, hx⟩
    replace hX := hX.trans hx
    replace k0 := hx.cell k0
    replace k1 := hx.cell k1
    clear hx
    rw [hb]
    go_wp2
    go_ret2
    exact ⟨_, rfl, OwnV.nil _ _ _, hX⟩
  | true =>
    rw [ifB_yes hb, codeB_yes hb]
    obtain ⟨hG, hU, hL⟩ := braceB_ok hb
    have HL := Lib.hid hL
    have HG := Lib.hid hG
    have HU := Lib.hid hU
    have h12 := hG.1.2.1
    have HBR := Lib.hid hb
    clear hL hG hU
    go_enter Try.func12, Try.ntmps12
    go_wp2_with fail
    refine (IsBrace_impl t u _ _ _ (hv.ext hX) (hy.ext hX)).mono ?_
    rintro e wn ⟨rfl, hx⟩
    replace hX := hX.trans hx
    replace k0 := hx.cell k0
    replace k1 := hx.cell k1
    clear hx
    rw [hb]
    clear hb
    have zX := hX.size
    go_wp2_with fail
    refine (lambdaTable_any t u _ _ _ (hv.ext hX) (hy.ext hX) HG.out HU.out HL.out).mono ?_
    rintro e w3 ⟨b3, c3, rfl, ho, hx⟩
    go_wp2
    go_ret2
    exact ⟨_, rfl, (ho.v (small_mkT (by omega) _) c3).mono zX (Nat.le_refl _), hX.trans hx⟩

end Go.Proofs.Ytjbloenjphpngaa

/-
  Contracts of OppositeBrace: reference and program.
-/
namespace Go.Proofs.Ytjbloenjphpngaa
set_option linter.unusedVariables false
set_option linter.unusedSimpArgs false
open Go.RowKit
attribute [local go_sem ↓] Go.wp_at_zero Go.wp_at_succ

set_option maxRecDepth 100000 in
set_option maxHeartbeats 2000000 in
theorem OppositeBrace_spec (t u : List (List Int)) (v y : Value) (w : World) (hv : Rows w v t) (hy : Rows w y u) :
    Calls Try.prog 29 #[.agg #[v, y]] w (RetB (ifB t u (turnT t) []) (ifB t u u []) (codeB t u) w) := by
  obtain ⟨hlen, b, o, c, rfl, -⟩ := id hv
  obtain ⟨hlen2, b2, o2, c2, rfl, -⟩ := id hy
  have hX : Ext w ((w.alloc (.cells #[.slice (some ⟨b, o, none⟩) t.length c, .slice (some ⟨b2, o2, none⟩) u.length c2] 26)).alloc (.cells #[.slice none 0 0, .slice none 0 0] 26)) := ((Ext.refl _).alloc _).alloc _
  have k0 : ((w.alloc (.cells #[.slice (some ⟨b, o, none⟩) t.length c, .slice (some ⟨b2, o2, none⟩) u.length c2] 26)).alloc (.cells #[.slice none 0 0, .slice none 0 0] 26)).cell? ⟨w.heap.size, 0, none⟩ = some (.slice (some ⟨b, o, none⟩) t.length c) := by simp [go_sem]
  have k1 : ((w.alloc (.cells #[.slice (some ⟨b, o, none⟩) t.length c, .slice (some ⟨b2, o2, none⟩) u.length c2] 26)).alloc (.cells #[.slice none 0 0, .slice none 0 0] 26)).cell? ⟨w.heap.size, 1, none⟩ = some (.slice (some ⟨b2, o2, none⟩) u.length c2) := by simp [go_sem]
  have r0 : ((w.alloc (.cells #[.slice (some ⟨b, o, none⟩) t.length c, .slice (some ⟨b2, o2, none⟩) u.length c2] 26)).alloc (.cells #[.slice none 0 0, .slice none 0 0] 26)).cell? ⟨w.heap.size + 1, 0, none⟩ = some (.slice none 0 0) := by simp [go_sem]
  have r1 : ((w.alloc (.cells #[.slice (some ⟨b, o, none⟩) t.length c, .slice (some ⟨b2, o2, none⟩) u.length c2] 26)).alloc (.cells #[.slice none 0 0, .slice none 0 0] 26)).cell? ⟨w.heap.size + 1, 1, none⟩ = some (.slice none 0 0) := by simp [go_sem]
  have q0 : ((w.alloc (.cells #[.slice (some ⟨b, o, none⟩) t.length c, .slice (some ⟨b2, o2, none⟩) u.length c2] 26)).alloc (.cells #[.slice none 0 0, .slice none 0 0] 26)).frozen? ⟨w.heap.size + 1, 0, none⟩ = false := by simp [go_sem]
  have q1 : ((w.alloc (.cells #[.slice (some ⟨b, o, none⟩) t.length c, .slice (some ⟨b2, o2, none⟩) u.length c2] 26)).alloc (.cells #[.slice none 0 0, .slice none 0 0] 26)).frozen? ⟨w.heap.size + 1, 1, none⟩ = false := by simp [go_sem]
  have zA : w.heap.size + 2 ≤ ((w.alloc (.cells #[.slice (some ⟨b, o, none⟩) t.length c, .slice (some ⟨b2, o2, none⟩) u.length c2] 26)).alloc (.cells #[.slice none 0 0, .slice none 0 0] 26)).heap.size := by simp
  cases hb : braceB t u with
  | false =>
    rw [ifB_no hb, ifB_no hb, codeB_no hb]
    go_enter Try.func29, Try.ntmps29
    go_wp2_with fail
    generalize ((w.alloc (.cells #[.slice (some ⟨b, o, none⟩) t.length c, .slice (some ⟨b2, o2, none⟩) u.length c2] 26)).alloc (.cells #[.slice none 0 0, .slice none 0 0] 26)) = A at *
    refine (l11Is_any t u _ _ _ (hv.ext hX) (hy.ext hX)).mono ?_
    rintro e w2 ⟨rfl, hx⟩
    rw [hb]
    have zz := Ext.size hx
    replace q0 := hx.free q0 (by simp only []; omega)
    replace q1 := hx.free q1 (by simp only []; omega)
    replace zA := Nat.le_trans zA zz
    replace hX := hX.trans hx
    replace k0 := hx.cell k0
    replace k1 := hx.cell k1
    replace r0 := hx.cell r0
    replace r1 := hx.cell r1
    clear hx zz
    go_wp2
    refine bodyPost_ret (v := .tuple #[.agg #[.slice none 0 0, .slice none 0 0], .int .i64 1]) (by simp [results, Try.results29, go_sem, r0, r1]) rfl ⟨_, _, rfl, RowsB.nil _ _ _, (hX.setNew (by simp only []; omega) _).setNew (by simp only []; omega) _⟩
  | true =>
    obtain ⟨hG, hU, hL⟩ := braceB_ok hb
    rw [ifB_yes hb, ifB_yes hb, codeB_yes hb]
    have HG := Lib.hid hG
    have HU := Lib.hid hU
    have h12 := hG.1.2.1
    have h12u := hU.1.2.1
    have hsv := Lib.hid hv.small
    have hsy := Lib.hid hy.small
    clear hG hU hL
    go_enter Try.func29, Try.ntmps29
    go_wp2_with fail
    generalize ((w.alloc (.cells #[.slice (some ⟨b, o, none⟩) t.length c, .slice (some ⟨b2, o2, none⟩) u.length c2] 26)).alloc (.cells #[.slice none 0 0, .slice none 0 0] 26)) = A at *
    refine (l11Is_any t u _ _ _ (hv.ext hX) (hy.ext hX)).mono ?_
    rintro e w2 ⟨rfl, hx⟩
    rw [hb]
    have zz := Ext.size hx
    replace q0 := hx.free q0 (by simp only []; omega)
    replace q1 := hx.free q1 (by simp only []; omega)
    replace zA := Nat.le_trans zA zz
    replace hX := hX.trans hx
    replace k0 := hx.cell k0
    replace k1 := hx.cell k1
    replace r0 := hx.cell r0
    replace r1 := hx.cell r1
    clear hx zz
    clear hb
    have zd : w2.drew.heap.size = w2.heap.size := rfl
    go_wp2
    go_region_with (first
      | (go_at_call 46; refine (l01Turn_any t _ _ (hv.ext ((hX.drew).trans hxB)) HG.out.1).mono ?_; rintro e wA ⟨vA, rfl, hrA, hxA⟩; obtain ⟨-, bA, oA, cA, rfl, -⟩ := id hrA; replace k0 := hxA.cell k0; replace k1 := hxA.cell k1; replace r0 := hxA.cell r0; replace r1 := hxA.cell r1; replace q0 := hxA.free q0 (by simp only []; have := hxB.size; omega); replace q1 := hxA.free q1 (by simp only []; have := hxB.size; omega))
      | (go_at_call 45; refine (l01Own2_any u _ _ (hy.ext ((hX.drew).trans hxA))).mono ?_; rintro e wB ⟨vB, rfl, hrB, hxB⟩; obtain ⟨-, bB, oB, cB, rfl, -⟩ := id hrB; replace k0 := hxB.cell k0; replace k1 := hxB.cell k1; replace r0 := hxB.cell r0; replace r1 := hxB.cell r1; replace q0 := hxB.free q0 (by simp only []; have := hxA.size; omega); replace q1 := hxB.free q1 (by simp only []; have := hxA.size; omega))
      | (go_at_call 46; refine (l01Turn_any t _ _ (hv.ext hX.drew) HG.out.1).mono ?_; rintro e wA ⟨vA, rfl, hrA, hxA⟩; obtain ⟨-, bA, oA, cA, rfl, -⟩ := id hrA; replace k0 := hxA.cell (show w2.drew.cell? _ = some _ from k0); replace k1 := hxA.cell (show w2.drew.cell? _ = some _ from k1); replace r0 := hxA.cell (show w2.drew.cell? _ = some _ from r0); replace r1 := hxA.cell (show w2.drew.cell? _ = some _ from r1); replace q0 := hxA.free (show w2.drew.frozen? _ = false from q0) (by simp only []; omega); replace q1 := hxA.free (show w2.drew.frozen? _ = false from q1) (by simp only []; omega))
      | (go_at_call 45; refine (l01Own2_any u _ _ (hy.ext hX.drew)).mono ?_; rintro e wB ⟨vB, rfl, hrB, hxB⟩; obtain ⟨-, bB, oB, cB, rfl, -⟩ := id hrB; replace k0 := hxB.cell (show w2.drew.cell? _ = some _ from k0); replace k1 := hxB.cell (show w2.drew.cell? _ = some _ from k1); replace r0 := hxB.cell (show w2.drew.cell? _ = some _ from r0); replace r1 := hxB.cell (show w2.drew.cell? _ = some _ from r1); replace q0 := hxB.free (show w2.drew.frozen? _ = false from q0) (by simp only []; omega); replace q1 := hxB.free (show w2.drew.frozen? _ = false from q1) (by simp only []; omega)))
    all_goals
      go_wp2
      first
        | exact bodyPost_ret (v := .tuple #[.agg #[.slice (some ⟨bA, oA, none⟩) (turnT t).length cA, .slice (some ⟨bB, oB, none⟩) u.length cB], .int .i64 0]) (by simp [results, Try.results29, go_sem, r0, r1]) rfl ⟨_, _, rfl, ⟨(rows_set2 (hrA.ext hxB) r0 r1 _ _).toR, (rows_set2 hrB r0 r1 _ _).toR⟩, ((((hX.drew).trans hxA).trans hxB).setNew (by simp only []; omega) _).setNew (by simp only []; omega) _⟩
        | exact bodyPost_ret (v := .tuple #[.agg #[.slice (some ⟨bA, oA, none⟩) (turnT t).length cA, .slice (some ⟨bB, oB, none⟩) u.length cB], .int .i64 0]) (by simp [results, Try.results29, go_sem, r0, r1]) rfl ⟨_, _, rfl, ⟨(rows_set2 hrA r0 r1 _ _).toR, (rows_set2 (hrB.ext hxA) r0 r1 _ _).toR⟩, ((((hX.drew).trans hxB).trans hxA).setNew (by simp only []; omega) _).setNew (by simp only []; omega) _⟩

set_option maxRecDepth 100000 in
set_option maxHeartbeats 2000000 in
theorem OppositeBrace_impl (t u : List (List Int)) (v y : Value) (w : World) (hv : Rows w v t) (hy : Rows w y u) :
    Calls Try.prog 28 #[.agg #[v, y]] w (NewBC (ifB t u (turnT t) []) (ifB t u u []) (codeB t u) w) := by
  obtain ⟨hlen, b, o, c, rfl, -⟩ := id hv
  obtain ⟨hlen2, b2, o2, c2, rfl, -⟩ := id hy
  have hX : Ext w ((w.alloc (.cells #[.slice (some ⟨b, o, none⟩) t.length c, .slice (some ⟨b2, o2, none⟩) u.length c2] 26)).alloc (.cells #[.slice none 0 0, .slice none 0 0] 26)) := ((Ext.refl _).alloc _).alloc _
  have k0 : ((w.alloc (.cells #[.slice (some ⟨b, o, none⟩) t.length c, .slice (some ⟨b2, o2, none⟩) u.length c2] 26)).alloc (.cells #[.slice none 0 0, .slice none 0 0] 26)).cell? ⟨w.heap.size, 0, none⟩ = some (.slice (some ⟨b, o, none⟩) t.length c) := by simp [go_sem]
  have k1 : ((w.alloc (.cells #[.slice (some ⟨b, o, none⟩) t.length c, .slice (some ⟨b2, o2, none⟩) u.length c2] 26)).alloc (.cells #[.slice none 0 0, .slice none 0 0] 26)).cell? ⟨w.heap.size, 1, none⟩ = some (.slice (some ⟨b2, o2, none⟩) u.length c2) := by simp [go_sem]
  have r0 : ((w.alloc (.cells #[.slice (some ⟨b, o, none⟩) t.length c, .slice (some ⟨b2, o2, none⟩) u.length c2] 26)).alloc (.cells #[.slice none 0 0, .slice none 0 0] 26)).cell? ⟨w.heap.size + 1, 0, none⟩ = some (.slice none 0 0) := by simp [go_sem]
  have r1 : ((w.alloc (.cells #[.slice (some ⟨b, o, none⟩) t.length c, .slice (some ⟨b2, o2, none⟩) u.length c2] 26)).alloc (.cells #[.slice none 0 0, .slice none 0 0] 26)).cell? ⟨w.heap.size + 1, 1, none⟩ = some (.slice none 0 0) := by simp [go_sem]
  have q0 : ((w.alloc (.cells #[.slice (some ⟨b, o, none⟩) t.length c, .slice (some ⟨b2, o2, none⟩) u.length c2] 26)).alloc (.cells #[.slice none 0 0, .slice none 0 0] 26)).frozen? ⟨w.heap.size + 1, 0, none⟩ = false := by simp [go_sem]
  have q1 : ((w.alloc (.cells #[.slice (some ⟨b, o, none⟩) t.length c, .slice (some ⟨b2, o2, none⟩) u.length c2] 26)).alloc (.cells #[.slice none 0 0, .slice none 0 0] 26)).frozen? ⟨w.heap.size + 1, 1, none⟩ = false := by simp [go_sem]
  have zA : w.heap.size + 2 ≤ ((w.alloc (.cells #[.slice (some ⟨b, o, none⟩) t.length c, .slice (some ⟨b2, o2, none⟩) u.length c2] 26)).alloc (.cells #[.slice none 0 0, .slice none 0 0] 26)).heap.size := by simp
  cases hb : braceB t u with
  | false =>
    rw [ifB_no hb, ifB_no hb, codeB_no hb]
    go_enter Try.func28, Try.ntmps28
    go_wp2_with fail
    generalize ((w.alloc (.cells #[.slice (some ⟨b, o, none⟩) t.length c, .slice (some ⟨b2, o2, none⟩) u.length c2] 26)).alloc (.cells #[.slice none 0 0, .slice none 0 0] 26)) = A at *
    refine (IsBrace_impl t u _ _ _ (hv.ext hX) (hy.ext hX)).mono ?_
    rintro e w2 ⟨rfl, hx⟩
    rw [hb]
    have zz := Ext.size hx
    replace q0 := hx.free q0 (by simp only []; omega)
    replace q1 := hx.free q1 (by simp only []; omega)
    replace zA := Nat.le_trans zA zz
    replace hX := hX.trans hx
    replace k0 := hx.cell k0
    replace k1 := hx.cell k1
    replace r0 := hx.cell r0
    replace r1 := hx.cell r1
    clear hx zz
    go_wp2
    refine bodyPost_ret (v := .tuple #[.agg #[.slice none 0 0, .slice none 0 0], .int .i64 1]) (by simp [results, Try.results28, go_sem, r0, r1]) rfl ⟨_, _, rfl, OwnB.nil _ _ _ (by simp; omega), (hX.setNew (by simp only []; omega) _).setNew (by simp only []; omega) _⟩
  | true =>
    obtain ⟨hG, hU, hL⟩ := braceB_ok hb
    rw [ifB_yes hb, ifB_yes hb, codeB_yes hb]
    have HG := Lib.hid hG
    have HU := Lib.hid hU
    have h12 := hG.1.2.1
    have h12u := hU.1.2.1
    have hsv := Lib.hid hv.small
    have hsy := Lib.hid hy.small
    clear hG hU hL
    go_enter Try.func28, Try.ntmps28
    go_wp2_with fail
    generalize ((w.alloc (.cells #[.slice (some ⟨b, o, none⟩) t.length c, .slice (some ⟨b2, o2, none⟩) u.length c2] 26)).alloc (.cells #[.slice none 0 0, .slice none 0 0] 26)) = A at *
    refine (IsBrace_impl t u _ _ _ (hv.ext hX) (hy.ext hX)).mono ?_
    rintro e w2 ⟨rfl, hx⟩
    rw [hb]
    have zz := Ext.size hx
    replace q0 := hx.free q0 (by simp only []; omega)
    replace q1 := hx.free q1 (by simp only []; omega)
    replace zA := Nat.le_trans zA zz
    replace hX := hX.trans hx
    replace k0 := hx.cell k0
    replace k1 := hx.cell k1
    replace r0 := hx.cell r0
    replace r1 := hx.cell r1
    clear hx zz
    clear hb
    have zd : w2.drew.heap.size = w2.heap.size := rfl
    go_wp2
    go_region_with (first
      | (go_at_call 44; refine (transposed_any t _ _ (hv.ext ((hX.drew).trans hxB)) HG.out.1).mono ?_; rintro e wA ⟨bA, cA, rfl, hoA, hxA⟩; replace k0 := hxA.cell k0; replace k1 := hxA.cell k1; replace r0 := hxA.cell r0; replace r1 := hxA.cell r1; replace q0 := hxA.free q0 (by simp only []; have := hxB.size; omega); replace q1 := hxA.free q1 (by simp only []; have := hxB.size; omega))
      | (go_at_call 43; refine (cloneTable_any u _ _ (hy.ext ((hX.drew).trans hxA))).mono ?_; rintro e wB ⟨bB, cB, rfl, hoB, hxB⟩; replace k0 := hxB.cell k0; replace k1 := hxB.cell k1; replace r0 := hxB.cell r0; replace r1 := hxB.cell r1; replace q0 := hxB.free q0 (by simp only []; have := hxA.size; omega); replace q1 := hxB.free q1 (by simp only []; have := hxA.size; omega))
      | (go_at_call 44; refine (transposed_any t _ _ (hv.ext hX.drew) HG.out.1).mono ?_; rintro e wA ⟨bA, cA, rfl, hoA, hxA⟩; replace k0 := hxA.cell (show w2.drew.cell? _ = some _ from k0); replace k1 := hxA.cell (show w2.drew.cell? _ = some _ from k1); replace r0 := hxA.cell (show w2.drew.cell? _ = some _ from r0); replace r1 := hxA.cell (show w2.drew.cell? _ = some _ from r1); replace q0 := hxA.free (show w2.drew.frozen? _ = false from q0) (by simp only []; omega); replace q1 := hxA.free (show w2.drew.frozen? _ = false from q1) (by simp only []; omega))
      | (go_at_call 43; refine (cloneTable_any u _ _ (hy.ext hX.drew)).mono ?_; rintro e wB ⟨bB, cB, rfl, hoB, hxB⟩; replace k0 := hxB.cell (show w2.drew.cell? _ = some _ from k0); replace k1 := hxB.cell (show w2.drew.cell? _ = some _ from k1); replace r0 := hxB.cell (show w2.drew.cell? _ = some _ from r0); replace r1 := hxB.cell (show w2.drew.cell? _ = some _ from r1); replace q0 := hxB.free (show w2.drew.frozen? _ = false from q0) (by simp only []; omega); replace q1 := hxB.free (show w2.drew.frozen? _ = false from q1) (by simp only []; omega)))
    all_goals
      go_wp2
      first
        | exact bodyPost_ret (v := .tuple #[.agg #[.slice (some ⟨bA, 0, none⟩) (turnT t).length cA, .slice (some ⟨bB, 0, none⟩) u.length cB], .int .i64 0]) (by simp [results, Try.results28, go_sem, r0, r1]) rfl ⟨_, _, rfl, ⟨w2.drew.heap.size, wA.heap.size, wA.heap.size, wB.heap.size, by omega, by have := hxB.size; simp; omega, by have := hxA.size; omega, by simp, .inl (Nat.le_refl _), ((OwnV.ext (hoA.v (small_turnT (by omega)) cA) hxB (Nat.le_refl _)).set2 (by omega) _ _), ((hoB.v hsy.out cB).set2 (by have := hxA.size; omega) _ _)⟩, ((((hX.drew).trans hxA).trans hxB).setNew (by simp only []; omega) _).setNew (by simp only []; omega) _⟩
        | exact bodyPost_ret (v := .tuple #[.agg #[.slice (some ⟨bA, 0, none⟩) (turnT t).length cA, .slice (some ⟨bB, 0, none⟩) u.length cB], .int .i64 0]) (by simp [results, Try.results28, go_sem, r0, r1]) rfl ⟨_, _, rfl, ⟨wB.heap.size, wA.heap.size, w2.drew.heap.size, wB.heap.size, by have := hxB.size; omega, by simp, by omega, by have := hxA.size; simp; omega, .inr (Nat.le_refl _), ((hoA.v (small_turnT (by omega)) cA).set2 (by have := hxB.size; omega) _ _), ((OwnV.ext (hoB.v hsy.out cB) hxA (Nat.le_refl _)).set2 (by omega) _ _)⟩, ((((hX.drew).trans hxB).trans hxA).setNew (by simp only []; omega) _).setNew (by simp only []; omega) _⟩

end Go.Proofs.Ytjbloenjphpngaa
