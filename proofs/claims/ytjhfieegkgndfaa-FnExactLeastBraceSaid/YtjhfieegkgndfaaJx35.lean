/-
  Contracts: equality (reference), the socle, trivial and classical braces, the annihilator.
-/
import Derived.Test.YtjhfieegkgndfaaProg
import Derived.Deep.DeepCutAuto
import Derived.Deep.RegionWith
import Derived.Deep.RegionHeld3
import Derived.Deep.DrawnRows
import Derived.Test.YtjhfieegkgndfaaJx0
import Derived.Test.YtjhfieegkgndfaaJx1
import Derived.Test.YtjhfieegkgndfaaJx3
import Derived.Test.YtjhfieegkgndfaaJx8
import Derived.Test.YtjhfieegkgndfaaJx2
import Derived.Test.YtjhfieegkgndfaaJx4
import Derived.Test.YtjhfieegkgndfaaJx5
import Derived.Test.YtjhfieegkgndfaaJx14
import Derived.Test.YtjhfieegkgndfaaJx15
import Derived.Test.YtjhfieegkgndfaaJx23
import Derived.Test.YtjhfieegkgndfaaJx6
import Derived.Test.YtjhfieegkgndfaaJx11
import Derived.Test.YtjhfieegkgndfaaJx9
import Derived.Test.YtjhfieegkgndfaaJx7
import Derived.Test.YtjhfieegkgndfaaJx12
import Derived.Test.YtjhfieegkgndfaaJx24
import Derived.Test.YtjhfieegkgndfaaJx13
import Derived.Test.YtjhfieegkgndfaaJx17
import Derived.Test.YtjhfieegkgndfaaJx18
import Derived.Test.YtjhfieegkgndfaaJx19
import Derived.Test.YtjhfieegkgndfaaJx20
namespace Go.Proofs.Ytjhfieegkgndfaa
set_option linter.unusedVariables false
set_option linter.unusedSimpArgs false
open Go.RowKit
attribute [local go_sem ↓] Go.wp_at_zero Go.wp_at_succ

theorem l01Same_any (l m : List Int) (v u : Value) (w : World) (hv : IntsR w v l) (hu : IntsR w u m) (hs : l.length ≤ 1048576) :
    Calls Try.prog 76 #[v, u] w fun e w' => e = .returned (.bool (eqIB l m)) ∧ Drawn w w' := by
  obtain ⟨a1, c1, rfl, h1⟩ := hv
  obtain ⟨a2, c2, rfl, h2⟩ := hu
  have H1 := Lib.hid h1
  have H2 := Lib.hid h2
  clear h1 h2
  by_cases hl : l.length = m.length
  case neg =>
    have hb : ((l.length : Int) != (m.length : Int)) = true := by simp; omega
    go_enter Try.func76, Try.ntmps76
    go_wp2
    go_ret
    exact ⟨ret_bool (eqIB_no (fun e => hl (by rw [e]))).symm, Drawn.refl _⟩
  case pos =>
    rw [← hl]
    have Hl := Lib.hid hl
    clear hl
    go_enter Try.func76, Try.ntmps76
    go_wp2
    go_loopw [5] (fun i wr => ∃ k : Nat, k ≤ l.length ∧ i = .int .i64 k ∧ SameTo l m k ∧ Drawn w wr) (fun i _ => l.length - (intOf i).toNat)
    case atStart => exact ⟨0, Nat.zero_le _, rfl, fun i hi => by omega, Drawn.refl _⟩
    case round =>
      obtain ⟨k, hk, rfl, hto, hx⟩ := hrel
      by_cases hlt : k < l.length
      · obtain ⟨b1, o1, rfl, hc1⟩ := H1.out (ne_nil_of_lt hlt)
        obtain ⟨b2, o2, rfl, hc2⟩ := H2.out (ne_nil_of_lt (k := k) (by have := Hl.out; omega))
        have e1 := hc1.ext hx.ext k hlt
        have e2 := hc2.ext hx.ext k (by have := Hl.out; omega)
        cases he : (ix l k != ix m k) with
        | true =>
          go_wp2
          go_quiet (fail)
          go_wp2
          go_ret
          exact ⟨ret_bool (eqIB_no (fun e => by rw [e] at he; simp at he)).symm, hx.drewN _⟩
        | false =>
          go_wp2
          go_quiet (fail)
          go_wp2
          go_roundw
          case rel => exact ⟨k + 1, by omega, by go_num, fun i hi => by
            by_cases e : i = k
            · rw [e]; simpa using he
            · exact hto i (by omega), hx.drewN _⟩
          case measure => simp [intOf]; omega
      · go_wp2
        go_ret
        exact ⟨ret_bool (eqIB_yes (ix_ext Hl.out (fun i hi => hto i (by omega)))).symm, hx⟩

theorem slicesEqual_dr (l m : List Int) (v u : Value) (w : World) (hv : Ints w v l) (hu : Ints w u m) :
    Calls Try.prog 115 #[v, u] w fun e w' => e = .returned (.bool (eqIB l m)) ∧ Drawn w w' := by
  obtain ⟨hl1, b1, o1, c1, rfl, hc1⟩ := hv
  obtain ⟨hl2, b2, o2, c2, rfl, hc2⟩ := hu
  by_cases hl : l.length = m.length
  case neg =>
    have hb : ((l.length : Int) != (m.length : Int)) = true := by simp; omega
    go_enter Try.func115, Try.ntmps115
    go_wp2
    go_ret
    exact ⟨ret_bool (eqIB_no (fun e => hl (by rw [e]))).symm, Drawn.refl _⟩
  case pos =>
    rw [← hl]
    have Hl := Lib.hid hl
    clear hl
    go_enter Try.func115, Try.ntmps115
    go_wp2
    go_loopw [13] (fun i wr => ∃ k : Nat, k ≤ l.length ∧ i = .int .i64 k ∧ SameTo l m k ∧ Drawn w wr) (fun i _ => l.length - (intOf i).toNat)
    case atStart => exact ⟨0, Nat.zero_le _, rfl, fun i hi => by omega, Drawn.refl _⟩
    case round =>
      obtain ⟨k, hk, rfl, hto, hx⟩ := hrel
      by_cases hlt : k < l.length
      · have e1 := hc1.ext hx.ext k hlt
        have e2 := hc2.ext hx.ext k (by have := Hl.out; omega)
        cases he : (ix l k != ix m k) with
        | true =>
          go_wp2
          go_quiet (fail)
          go_wp2
          go_ret
          exact ⟨ret_bool (eqIB_no (fun e => by rw [e] at he; simp at he)).symm, hx.drewN _⟩
        | false =>
          go_wp2
          go_quiet (fail)
          go_wp2
          go_roundw
          case rel => exact ⟨k + 1, by omega, by go_num, all_succ hto (by simpa using he), hx.drewN _⟩
          case measure => simp [intOf]; omega
      · go_wp2
        go_ret
        exact ⟨ret_bool (eqIB_yes (ix_ext Hl.out (fun i hi => hto i (by omega)))).symm, hx⟩

end Go.Proofs.Ytjhfieegkgndfaa

/-
  Contracts of l03Maps and what calls it.
-/
namespace Go.Proofs.Ytjhfieegkgndfaa
set_option linter.unusedVariables false
set_option linter.unusedSimpArgs false
open Go.RowKit
attribute [local go_sem ↓] Go.wp_at_zero Go.wp_at_succ

def zeroL (n : Nat) : List Int := mkL n (fun _ => 0)
theorem length_zeroL (n : Nat) : (zeroL n).length = n := length_mkL _ _
theorem ix_zeroL (n i : Nat) (h : i < n) : ix (zeroL n) i = 0 := ix_mkL _ _ _ h
theorem zero_col (n : Nat) : ColOk n (zeroL n) := ⟨length_zeroL n, fun i hi => by rw [ix_zeroL _ _ hi]; omega⟩
theorem zero_resp {n : Nat} {az bz : List (List (List Int))} {p : List Int} (hp : IsoOk n az bz p) : Resp n (zeroL n) (zeroL n) p := fun x hx => by
  rw [ix_zeroL _ _ hx, ix_zeroL _ _ (hp.bd hx).2]
theorem zero_resp2 {n : Nat} {az bz : List (List (List Int))} (h1 : 1 ≤ n) {p : List Int} (hp : IsoOk n az bz p) (he : ExtP [0] p) : Resp n ((zeroL n).set 0 60) ((zeroL n).set 0 60) p :=
  resp_own (f := []) (y := 0) (az := az) (bz := bz) (fun p hp _ => zero_resp hp) (length_zeroL n) (length_zeroL n) h1 h1 hp he
theorem begun_zero {n : Nat} {az bz : List (List (List Int))} (hA : TabsOk n az) (h1 : 1 ≤ n) (h : fitsB az bz [0] 0 = true) : Begun n az bz [0] :=
  fits_yes (f := []) (m := 0) (y := 0) hA ⟨fun i hi => by simp at hi, fun i hi => by simp at hi, fun k hk x hx => by simp at hx⟩ rfl (by omega) (by omega) (hasB_no.2 (by unfold indexOf indexFrom; omega)) h
theorem no_zero {n : Nat} {az bz : List (List (List Int))} (hA : TabsOk n az) (h1 : 1 ≤ n) (h : fitsB az bz [0] 0 = false) : extL n az bz [0] = [] :=
  fits_no hA (fun i hi => by
    have : i = 0 := by simpa using hi
    subst this; rw [ix_eq]; simp) rfl h1 h
theorem two_made (w : World) (n : Nat) : ((w.alloc (.cells (madeCells #[Value.int .i64 0] n) 2)).alloc (.cells (madeCells #[Value.int .i64 0] n) 2)).drew.rowIs w.heap.size 2 n (fun _ => .int .i64 0) ∧
    ((w.alloc (.cells (madeCells #[Value.int .i64 0] n) 2)).alloc (.cells (madeCells #[Value.int .i64 0] n) 2)).drew.rowIs (w.heap.size + 1) 2 n (fun _ => .int .i64 0) := by
  refine ⟨((World.rowIs_made w (.int .i64 0) n 2).alloc _).drew, ?_⟩
  have := (World.rowIs_made (w.alloc (.cells (madeCells #[Value.int .i64 0] n) 2)) (.int .i64 0) n 2).drew
  simpa using this
def TwoZ (n : Nat) (w : World) (p q : Value) (wx : World) : Prop := ∃ B C, p = .slice (some ⟨B, 0, none⟩) n n ∧ q = .slice (some ⟨C, 0, none⟩) n n ∧ w.heap.size ≤ B ∧ w.heap.size ≤ C ∧ B ≠ C ∧ wx.rowIs B 2 n (fun _ => .int .i64 0) ∧ wx.rowIs C 2 n (fun _ => .int .i64 0) ∧ Ext w wx

set_option maxRecDepth 100000 in
set_option maxHeartbeats 4000000 in
theorem l03Maps_any (az bz : List (List (List Int))) (v u y : Value) (n most : Nat) (w : World) (hv : Tabs w v az) (hu : Tabs w u bz) (hy : Ints w y [0]) (hA : TabsOk n az) (hB : TabsOk n bz) (hab : az.length = bz.length) (ha0 : 0 < az.length) (h1 : 1 ≤ n) (h12 : n ≤ 12) (hts : az.length ≤ 2) (hm1 : 1 ≤ most) (hmost : most ≤ 1000000) :
    Calls Try.prog 93 #[v, u, y, .int .i64 most] w fun e w' => ∃ v', e = .returned v' ∧ GrowT 65 w.heap.size w' v' ((extL n az bz [0]).take most) ∧ Ext w w' := by
  obtain ⟨hla, b, o, c, rfl, hc⟩ := id hv
  obtain ⟨hlb, b2, o2, c2, rfl, hc2⟩ := id hu
  obtain ⟨-, b3, o3, c3, rfl, hc3⟩ := id hy
  obtain ⟨t1, t2, t3, r0, -⟩ := hc.get ha0
  obtain ⟨t4, t5, t6, r1, -⟩ := hc2.get (k := 0) (by omega)
  rw [(hA 0 ha0).2] at r0
  rw [(hB 0 (by omega)).2] at r1
  simp only [Nat.add_zero] at r0 r1
  have HA := Lib.hid hA
  have HB := Lib.hid hB
  have HAB := Lib.hid hab
  have ha1 : (0 : Int) < (az.length : Int) := by omega
  have hb1 : (0 : Int) < (bz.length : Int) := by omega
  have hb0 : 0 < bz.length := by omega
  have f00 : ∀ i, i < 0 + 1 → 0 ≤ ix ([0] : List Int) i ∧ ix ([0] : List Int) i < n := fun i hi => by
    have : i = 0 := by omega
    subst this
    rw [ix_eq]; simp; omega
  have HF0 := Lib.hid f00
  clear hA hB hab f00 hc hc2
  have hmk := run_make_row' (P := Try.prog) 65 2 (.int .i64 0) 8 Try.underlying65 infoInt rfl .i64 .i64 n (by omega) (by omega)
  go_enter Try.func93, Try.ntmps93
  go_wp2_with fail
  go_cut [22] (fun p wx => p = .bool false ∧ Drawn w wx)
  case first =>
    go_quiet (fail)
    go_wp2_with fail
    go_meet
    case rel => exact ⟨rfl, (Drawn.refl _).drewN _⟩
  obtain ⟨rfl, hd⟩ := hcut
  obtain ⟨w1, rfl⟩ : ∃ w1 : World, w1 = wc := ⟨_, rfl⟩
  have e0 := hd.ext.cell r0
  have e1 := hd.ext.cell r1
  go_wp2_with fail
  go_cut [9, 10] (fun p q wx => TwoZ n w1 p q wx)
  case first =>
    go_region_held3 (fun w' => w'.cell? ⟨b, o, none⟩ = some (.slice (some ⟨t1, t2, none⟩) n t3)) ((repeat first | (with_reducible assumption) |  (with_reducible exact kc_new) | ((with_reducible refine kc_newE ?_); (simp; done)) | ((with_reducible refine kc_newEa ?_); (simp; done)) | ((with_reducible refine kc_newEb ?_); (simp; done)) | (with_reducible apply kc_alloc) | (with_reducible apply kc_drewN) | (with_reducible apply kc_drew) | ((with_reducible refine kc_set ?_ ?_); (first | (simp only []; omega) | (simp; omega) | (focus (simp; done)))) | ((with_reducible refine kc_set2 ?_ ?_); (focus (simp; done))) | (with_reducible refine kc_same (v := .slice none 0 0) ?_))) (fail)
    all_goals
      go_wp2_with fail
      go_meet
      case rel => first
        | exact ⟨_, _, rfl, rfl, by omega, by omega, by omega, two_made w1 n |>.1, two_made w1 n |>.2, (((Ext.refl w1).alloc _).alloc _).drew⟩
        | exact ⟨_, _, rfl, rfl, by omega, by omega, by omega, two_made w1 n |>.2, two_made w1 n |>.1, (((Ext.refl w1).alloc _).alloc _).drew⟩
  obtain ⟨B, C, rfl, rfl, hB1, hC1, hBC, hrB, hrC, hx2⟩ := hcut
  obtain ⟨w2, rfl⟩ : ∃ w2 : World, w2 = wc := ⟨_, rfl⟩
  have hx02 := hd.ext.trans hx2
  have HVV := Lib.hid (hv.ext hx02)
  have HUU := Lib.hid (hu.ext hx02)
  have HYY := Lib.hid (hy.ext hx02)
  have zB := hrB.lt
  have zC := hrC.lt
  have z0 := hd.ext.size
  clear hmk e0 e1 r0 r1 hd
  cases hft : fitsB az bz [0] 0 with
  | false =>
    have HX := Lib.hid (no_zero HA.out h1 hft)
    go_wp2_with fail
    refine (l03Fits_any az bz [0] _ _ _ n 0 _ HVV.out HUU.out HYY.out HA.out HB.out HAB.out rfl h1 h12 HF0.out).mono ?_
    rintro e w3 ⟨rfl, hd3⟩
    rw [hft]
    have HX3 := Lib.hid (hx02.trans hd3.ext)
    clear hd3
    go_wp2
    go_ret
    exact ⟨_, rfl, by rw [HX.out, List.take_nil]; exact GrowT.nil _ _ _, HX3.out⟩
  | true =>
    have HBG := Lib.hid (begun_zero HA.out h1 hft)
    go_wp2_with fail
    refine (l03Fits_any az bz [0] _ _ _ n 0 _ HVV.out HUU.out HYY.out HA.out HB.out HAB.out rfl h1 h12 HF0.out).mono ?_
    rintro e w3 ⟨rfl, hd3⟩
    rw [hft]
    have hr3 := hrB.of_block (Below.block hd3.ext B zB)
    have hs3 := hrC.of_block (Below.block hd3.ext C zC)
    have c1 := hr3.cell (i := 0) (by omega)
    have f1 := hr3.frozen 0
    have c2 := hs3.cell (i := 0) (by omega)
    have f2 := hs3.frozen 0
    have z3 := hd3.ext.size
    have hCB : ¬ C = B := fun e => hBC e.symm
    have hx3 := hx02.trans hd3.ext
    have hn0 : (0 : Int) < (n : Int) := by omega
    have oB := ownI_of_row (l := zeroL n) (lo := w.heap.size) (hi := w3.heap.size) hr3 (by rw [length_zeroL]; exact Nat.le_refl _) (fun i hi => by rw [ix_zeroL _ _ (by rw [length_zeroL] at hi; exact hi)]) (by omega) (by omega)
    have oC := ownI_of_row (l := zeroL n) (lo := w.heap.size) (hi := w3.heap.size) hs3 (by rw [length_zeroL]; exact Nat.le_refl _) (fun i hi => by rw [ix_zeroL _ _ (by rw [length_zeroL] at hi; exact hi)]) (by omega) (by omega)
    have i1 : IntsAt ((w3.setCell ⟨B, 0, none⟩ (.int .i64 60)).setCell ⟨C, 0, none⟩ (.int .i64 60)) B 0 ((zeroL n).set 0 60) := ki_set hBC (intsAt_set oB.2.2.1 (by rw [length_zeroL]; exact h1))
    have i2 : IntsAt ((w3.setCell ⟨B, 0, none⟩ (.int .i64 60)).setCell ⟨C, 0, none⟩ (.int .i64 60)) C 0 ((zeroL n).set 0 60) := intsAt_set (ki_set hCB oC.2.2.1) (by rw [length_zeroL]; exact h1)
    have hx4 : Ext w ((w3.setCell ⟨B, 0, none⟩ (.int .i64 60)).setCell ⟨C, 0, none⟩ (.int .i64 60)) := (hx3.setNew (by simp only []; omega) _).setNew (by simp only []; omega) _
    have HI1 := Lib.hid i1
    have HI2 := Lib.hid i2
    have HX4 := Lib.hid hx4
    have HZ := Lib.hid (colOk_set (zero_col n) 0)
    clear oB oC hr3 hs3 hrB hrC hd3 i1 i2 hx4 hft
    go_wp2_with fail
    have hx4 := HX4.out
    have j1 : Ints ((w3.setCell ⟨B, 0, none⟩ (.int .i64 60)).setCell ⟨C, 0, none⟩ (.int .i64 60)) (.slice (some ⟨B, 0, none⟩) n n) ((zeroL n).set 0 60) := ⟨by rw [HZ.out.1]; omega, B, 0, n, by rw [HZ.out.1], HI1.out⟩
    have j2 : Ints ((w3.setCell ⟨B, 0, none⟩ (.int .i64 60)).setCell ⟨C, 0, none⟩ (.int .i64 60)) (.slice (some ⟨C, 0, none⟩) n n) ((zeroL n).set 0 60) := ⟨by rw [HZ.out.1]; omega, C, 0, n, by rw [HZ.out.1], HI2.out⟩
    generalize ((w3.setCell ⟨B, 0, none⟩ (.int .i64 60)).setCell ⟨C, 0, none⟩ (.int .i64 60)) = w4 at *
    refine (l03Refine_any az bz _ _ _ _ _ _ n _ (hv.ext hx4) (hu.ext hx4) j1 j2 HA.out HB.out HAB.out HZ.out HZ.out h1 h12 hts).mono ?_
    rintro e w5 ⟨v1', v2', ok, rfl, hx5, hok, hno⟩
    have HOK := Lib.hid hok
    have HNO := Lib.hid hno
    clear hok hno j1 j2
    have hx6 := hx4.trans hx5
    cases ok with
    | false =>
      have HX0 := Lib.hid (show extL n az bz [0] = [] from extL_nil fun p hp he => HNO.out rfl p hp (zero_resp2 h1 hp he))
      go_wp2
      go_ret
      exact ⟨_, rfl, by rw [HX0.out, List.take_nil]; exact GrowT.nil _ _ _, hx6⟩
    | true =>
      obtain ⟨l2, r2, b7, o7, c7, b8, o8, c8, rfl, rfl, ⟨q1, q2, q3, q4⟩, i7, i8, hcl2, hcr2, hke⟩ := HOK.out rfl
      have HKE := Lib.hid hke
      clear hke HOK HNO
      have hi3 := hc3.ext hx6
      go_wp2_with fail
      refine (l03Seek_any az bz _ _ n most w hv hu HA.out HB.out HAB.out h1 h12 hts hmost (n - 1) 1 [0] l2 r2 b3 o3 c3 b7 o7 c7 b8 o8 c8 [] _ w5 rfl (Nat.le_refl _) (by omega) hx6 hi3 i7 i8 hcl2 hcr2 HBG.out (fun p hp he => HKE.out p hp (zero_resp2 h1 hp he)) (GrowT.nil _ _ _) (by simp [Value.ownBlock]) (by simp [Value.ownBlock]) (by simp [Value.ownBlock]) hm1).mono ?_
      rintro e w8 ⟨v8, rfl, hg8, hgr8, -⟩
      have HG8 := Lib.hid hg8
      have HX8 := Lib.hid (ext_grownBy hx6 hgr8 (fun k hk => by simp [Value.ownBlock] at hk))
      clear hg8 hgr8
      go_wp2
      go_ret
      exact ⟨_, rfl, by have := HG8.out; simpa using this, HX8.out⟩

end Go.Proofs.Ytjhfieegkgndfaa

/-
  Contract of the reference's l03Before: which list of tables stands ahead.
-/
namespace Go.Proofs.Ytjhfieegkgndfaa
set_option linter.unusedVariables false
set_option linter.unusedSimpArgs false
open Go.RowKit
attribute [local go_sem ↓] Go.wp_at_zero Go.wp_at_succ
open Go.Deep

set_option maxRecDepth 100000 in
set_option maxHeartbeats 2000000 in
theorem l03Before_any (az bz : List (List (List Int))) (v u : Value) (n : Nat) (w : World) (hv : Tabs w v az) (hu : Tabs w u bz) (hA : TabsOk n az) (hB : TabsOk n bz) (hab : az.length = bz.length) (h12 : n ≤ 12) (hts : az.length ≤ 2) :
    Calls Try.prog 100 #[v, u] w fun e w' => e = .returned (.bool (befG az bz az.length 0)) ∧ Drawn w w' := by
  obtain ⟨hla, b, o, c, rfl, hc⟩ := id hv
  obtain ⟨hlb, b2, o2, c2, rfl, hc2⟩ := id hu
  have HA := Lib.hid hA
  have HB := Lib.hid hB
  have HAB := Lib.hid hab
  rw [← hab]
  clear hA hB hab hv hu hlb
  go_enter Try.func100, Try.ntmps100
  go_wp2_with fail
  go_loopw [5] (fun x wr => ∃ k : Nat, k ≤ az.length ∧ x = .int .i64 k ∧ befG az bz az.length 0 = befG az bz (az.length - k) k ∧ Drawn w wr) (fun x _ => az.length - (intOf x).toNat)
  case atStart => exact ⟨0, Nat.zero_le _, rfl, rfl, Drawn.refl _⟩
  case round =>
    obtain ⟨k, hk, rfl, he, hd⟩ := hrel
    have HE := Lib.hid he
    have HD := Lib.hid hd
    clear he hd
    by_cases hkl : k < az.length
    case neg =>
      have hkk : k = az.length := by omega
      subst hkk
      go_wp2
      go_ret
      exact ⟨by rw [HE.out, Nat.sub_self, befG_zero]; rfl, HD.out⟩
    case pos =>
      obtain ⟨t1, t2, t3, q1, r1⟩ := (hc.ext HD.out.ext).get hkl
      obtain ⟨u1, u2, u3, q2, r2⟩ := (hc2.ext HD.out.ext).get (k := k) (by have := HAB.out; omega)
      have hla1 := (HA.out k hkl).2
      have hlb1 := (HB.out k (by have := HAB.out; omega)).2
      have hta := (HA.out k hkl).1
      have htb := (HB.out k (by have := HAB.out; omega)).1
      rw [hla1] at q1
      rw [hlb1] at q2
      have HE2 := Lib.hid (show befG az bz az.length 0 = befR az bz (az.length - (k + 1)) k 0 by rw [HE.out, show az.length - k = (az.length - (k + 1)) + 1 by omega, befG_row])
      have HTA := Lib.hid hta
      have HTB := Lib.hid htb
      have HLA := Lib.hid hla1
      have HLB := Lib.hid hlb1
      clear hta htb hla1 hlb1
      go_wp2_with fail
      go_loopw [6] (fun x wr2 => ∃ j : Nat, j ≤ n ∧ x = .int .i64 j ∧ befG az bz az.length 0 = befR az bz (az.length - (k + 1)) k j ∧ Drawn wr wr2) (fun x _ => n - (intOf x).toNat)
      case atStart => exact ⟨0, Nat.zero_le _, rfl, HE2.out, Drawn.refl _⟩
      case round =>
        obtain ⟨j, hj, rfl, he, hd⟩ := hrel
        have HE3 := Lib.hid he
        have HD2 := Lib.hid hd
        clear he hd
        have q1' := HD2.out.ext.cell q1
        have q2' := HD2.out.ext.cell q2
        by_cases hjn : j < n
        case neg =>
          have hjj : j = n := by omega
          subst hjj
          have HEE := Lib.hid (befR_end (az := az) (bz := bz) (d := az.length - (k + 1)) (k := k) (x := j) (by rw [HLA.out]; exact Nat.le_refl _) (by rw [HLB.out]; exact Nat.le_refl _))
          go_wp2_with fail
          go_roundw
          case rel => exact ⟨k + 1, by omega, by go_num, by rw [HE3.out, HEE.out], HD.out.trans HD2.out⟩
          case measure => simp [intOf]; omega
        case pos =>
          obtain ⟨d1, s1, m1, p1, i1, l1⟩ := (r1.ext HD2.out.ext).get (i := j) (by rw [HLA.out]; exact hjn)
          obtain ⟨d2, s2, m2, p2, i2, l2⟩ := (r2.ext HD2.out.ext).get (i := j) (by rw [HLB.out]; exact hjn)
          have I1 := Lib.hid (i1.ints l1 m1)
          have I2 := Lib.hid (i2.ints l2 m2)
          clear i1 i2
          cases hs : eqIB (row (tab az k) j) (row (tab bz k) j) with
          | true =>
            have HN := Lib.hid (befR_same (az := az) (bz := bz) (d := az.length - (k + 1)) (k := k) (x := j) (by rw [HLA.out]; exact hjn) (by rw [HLB.out]; exact hjn) hs)
            go_wp2_with fail
            go_quiet ((go_at_call 76; exact Calls.quiet_of ((l01Same_any (row (tab az k) j) (row (tab bz k) j) _ _ _ (I1.out.ext ((Ext.refl _).drewN _)).toR (I2.out.ext ((Ext.refl _).drewN _)).toR l1).mono fun _ _ ⟨h1, h2⟩ => ⟨by rw [hs] at h1; exact h1, h2⟩)))
            go_wp2_with fail
            go_roundw
            case rel => exact ⟨j + 1, by omega, by go_num, by rw [HE3.out, HN.out], HD2.out.trans ((Drawn.refl _).drewN _)⟩
            case measure => simp [intOf]; omega
          | false =>
            have HN := Lib.hid (befR_diff (az := az) (bz := bz) (d := az.length - (k + 1)) (k := k) (x := j) (by rw [HLA.out]; exact hjn) (by rw [HLB.out]; exact hjn) hs)
            go_wp2_with fail
            go_quiet ((go_at_call 76; exact Calls.quiet_of ((l01Same_any (row (tab az k) j) (row (tab bz k) j) _ _ _ (I1.out.ext ((Ext.refl _).drewN _)).toR (I2.out.ext ((Ext.refl _).drewN _)).toR l1).mono fun _ _ ⟨h1, h2⟩ => ⟨by rw [hs] at h1; exact h1, h2⟩)))
            go_wp2_with fail
            generalize hw7 : World.drewN _ _ = w7
            have hd7 : Drawn wr w7 := ⟨_, hw7.symm⟩
            have HD7 := Lib.hid hd7
            replace q1' := hd7.ext.cell q1'
            replace q2' := hd7.ext.cell q2'
            replace p1 := hd7.ext.cell p1
            replace p2 := hd7.ext.cell p2
            clear hw7 hd7 q1 q2
            go_quiet ((go_at_call 77; exact Calls.quiet_of ((l01Less_any (row (tab az k) j) (row (tab bz k) j) _ _ _ (I1.out.ext (HD7.out.ext.trans ((Ext.refl _).drewN _))) (I2.out.ext (HD7.out.ext.trans ((Ext.refl _).drewN _)))).mono fun _ _ ⟨h1, h2⟩ => ⟨h1, h2⟩)))
            go_wp2_with fail
            go_ret
            exact ⟨by rw [HE3.out, HN.out]; rfl, ((HD.out.trans HD2.out).trans HD7.out).trans ((Drawn.refl _).drewN _)⟩
end Go.Proofs.Ytjhfieegkgndfaa
