/-
  A group is drawn: l10Draw.
-/
import Derived.Test.YtbfhecckapgpnaaProg
import Derived.Deep.DeepCutAuto
import Derived.Deep.RegionWith
import Derived.BigQuiet
import Derived.Maps.AppendAt
import Derived.Test.YtbfhecckapgpnaaKx0
import Derived.Test.YtbfhecckapgpnaaKx1
import Derived.Test.YtbfhecckapgpnaaKx2
import Derived.Test.YtbfhecckapgpnaaKx8
import Derived.Test.YtbfhecckapgpnaaKx9
import Derived.Test.YtbfhecckapgpnaaKx7
import Derived.Test.YtbfhecckapgpnaaKx3
import Derived.Test.YtbfhecckapgpnaaKx22
import Derived.Test.YtbfhecckapgpnaaKx31
import Derived.Test.YtbfhecckapgpnaaKx5
import Derived.Test.YtbfhecckapgpnaaKx10
import Derived.Test.YtbfhecckapgpnaaKx6
import Derived.Test.YtbfhecckapgpnaaKx12
import Derived.Test.YtbfhecckapgpnaaKx13
import Derived.Test.YtbfhecckapgpnaaKx14
import Derived.Test.YtbfhecckapgpnaaKx15
import Derived.Test.YtbfhecckapgpnaaKx19
import Derived.Test.YtbfhecckapgpnaaKx28
import Derived.Test.YtbfhecckapgpnaaKx37
import Derived.Test.YtbfhecckapgpnaaKx29
import Derived.Test.YtbfhecckapgpnaaKx35
import Derived.Test.YtbfhecckapgpnaaKx32
import Derived.Test.YtbfhecckapgpnaaKx33
import Derived.Test.YtbfhecckapgpnaaKx34
import Derived.Test.YtbfhecckapgpnaaKx36
import Derived.Test.YtbfhecckapgpnaaKx4
import Derived.Test.YtbfhecckapgpnaaKx30
namespace Go.Proofs.Ytbfhecckapgpnaa
set_option linter.unusedVariables false
set_option linter.unusedSimpArgs false
open Go.RowKit
attribute [local go_sem ↓] Go.wp_at_zero Go.wp_at_succ
open Go.Deep

theorem RangeP.shift {m : Nat} {l : List Int} (h : RangeP m l) : RangeP (m + 1) (0 :: l.map (· + 1)) := by
  refine ⟨by simp [h.1], fun z => ?_⟩
  rw [List.mem_cons, List.mem_map]
  constructor
  · rintro (rfl | ⟨x, hx, rfl⟩)
    · omega
    · have := (h.2 x).1 hx; omega
  · intro hz
    by_cases e : z = 0
    · exact .inl e
    · exact .inr ⟨z - 1, (h.2 _).2 (by omega), by omega⟩
theorem OwnT.touch {lo hi lo' hi' : Nat} {w w' : World} {b o : Nat} {t : List (List Int)} (h : OwnT lo hi w b o t) (m : Touch lo' hi' w w') (hd : hi ≤ lo' ∨ hi' ≤ lo) (hw : hi ≤ w.heap.size) : OwnT lo hi w' b o t :=
  h.keep fun k h1 h2 => m.block k (by omega) (by omega)
theorem OwnT.ext {lo hi : Nat} {w w' : World} {b o : Nat} {t : List (List Int)} (h : OwnT lo hi w b o t) (hx : Ext w w') (hh : hi ≤ w.heap.size) : OwnT lo hi w' b o t := h.keep fun k _ hk => hx.block k (by omega)
/-- a slice that grows in block A or in a block of its own -/
def At (A : Nat) (w6 : World) (v : Value) : Prop := v.ownBlock = some A ∨ ∃ g, v.ownBlock = some g ∧ w6.heap.size ≤ g
theorem At.next {A n : Nat} {w6 wr w' : World} {v v' : Value} (h : At A w6 v) (hs : w6.heap.size ≤ wr.heap.size) (hg : wr.grownBy w' v.ownBlock) (ha : v'.ownBlock = v.ownBlock ∨ v'.ownBlock = some n) (hn : w6.heap.size ≤ n) (hT : Touch A (A + 1) w6 wr) : At A w6 v' ∧ Touch A (A + 1) w6 w' := by
  refine ⟨?_, hg.os.trans hT.os, hg.tape.trans hT.tape, hg.output.trans hT.output, Nat.le_trans hs hg.size, fun k hk hn => (hg.block k (by omega) (fun e => ?_)).trans (hT.block k hk hn)⟩
  · rcases ha with e | e
    · rw [At, e]; exact h
    · exact .inr ⟨_, e, hn⟩
  · rcases h with e2 | ⟨g, e2, hg2⟩
    · rw [e2] at e
      have : k = A := Option.some.inj e
      omega
    · rw [e2] at e
      have : k = g := Option.some.inj e
      omega
/-- a table is drawn, in memory of its own -/
def DrawT (S : Nat) (w : World) (e : Ending) (w' : World) : Prop :=
  ∃ T b c lo hi, e = .returned (.slice (some ⟨b, 0, none⟩) T.length c) ∧ OwnT lo hi w' b 0 T ∧ w.heap.size ≤ lo ∧ hi ≤ w'.heap.size ∧ TableOk T ∧ Src S w' ∧ Touch S (S + 1) w w'

set_option maxRecDepth 100000 in
set_option maxHeartbeats 1000000 in
theorem l10Draw_any (S most : Nat) (w : World) (hs : Src S w) (h1 : 1 ≤ most) (h12 : most ≤ 12) :
    Calls Try.prog 105 #[.pointer (some ⟨S, 0, none⟩), .int .i64 most] w (DrawT S w) := by
  have hlt := hs.lt
  go_enter Try.func105, Try.ntmps105
  go_wp2_with fail
  refine (l01Next_any S _ _ hs).mono ?_
  rintro e w1 ⟨r, rfl, r1, r2, -, hs1, hT1⟩
  obtain ⟨q, rfl⟩ := Int.eq_ofNat_of_zero_le r1
  have hq : q < most := by have := r2 (by omega); omega
  have z1 := hT1.size
  have HS := Lib.hid hs1
  have HT := Lib.hid hT1
  clear r1 r2 hs1 hT1 hs
  go_wp2_with fail
  rw [show (1 + (q : Int)) = ((q + 1 : Nat) : Int) by omega]
  obtain ⟨N, hN⟩ : ∃ N, N = q + 1 := ⟨_, rfl⟩
  rw [← hN]
  have hN1 : 1 ≤ N := by omega
  have hN12 : N ≤ 12 := by omega
  clear hN
  have HOK := Lib.hid (fun i hi => namedL_ok (n := N) hN1 hN12 (i := i) hi)
  have hlen := namedL_len0 N
  refine (l10Named_any N hN1 hN12 _).mono ?_
  obtain ⟨ts, hts⟩ : ∃ ts, ts = namedL N := ⟨_, rfl⟩
  rw [← hts] at HOK hlen ⊢
  clear hts
  rintro e w2 ⟨v2, rfl, hgd, hx2⟩
  obtain ⟨g, d, rfl⟩ := hgd.slice (by omega)
  have HD := Lib.hid hgd
  have HS := Lib.hid (HS.out.ext hx2)
  have HT := Lib.hid (HT.out.trans (Touch.of_ext hx2))
  have z2 := hx2.size
  clear hgd hx2
  go_wp2_with fail
  refine (l01Next_any S _ _ HS.out).mono ?_
  rintro e w3 ⟨r, rfl, r1, r2, -, hs3, hT3⟩
  obtain ⟨j, rfl⟩ := Int.eq_ofNat_of_zero_le r1
  have hj : j < ts.length := by have := r2 (by omega); omega
  obtain ⟨b, c, p, e1, k1⟩ := HD.out.cell hj
  have hcg := HD.out.lt g rfl
  have e3 := hT3.cell e1 (by simp only []; omega)
  obtain ⟨b', c'', hbe, o1, o2, o3, o4⟩ := k1
  obtain ⟨rfl, rfl⟩ : b = b' ∧ c = c'' := by
    simp only [Value.slice.injEq, Option.some.injEq, Addr.mk.injEq] at hbe
    exact ⟨hbe.1.1, hbe.2.2⟩
  have HO := Lib.hid (o1.touch hT3 (by omega) o4)
  have z3 := hT3.size
  have HS := Lib.hid hs3
  have HT := Lib.hid (HT.out.trans hT3)
  have HTK := Lib.hid (HOK.out j hj)
  clear r1 r2 hs3 hT3 e1 o1 hbe HD
  obtain ⟨T, hTe⟩ : ∃ T, T = tab ts j := ⟨_, rfl⟩
  rw [← hTe] at HO HTK e3 o2
  have o2' := o2
  clear hTe
  have hG := groupB_iff.1 HTK.out.1
  have HG := Lib.hid hG
  have ht1 := hG.1.1
  have ht12 := hG.1.2.1
  clear hG
  by_cases hn1 : (T.length : Int) ≤ 1
  case pos =>
    go_wp2_with fail
    go_ret
    exact ⟨T, b, c, p.1, p.2, rfl, HO.out, by omega, by omega, HG.out.1, HS.out, HT.out⟩
  case neg =>
    go_wp2_with fail
    refine (l01Next_any S _ _ HS.out).mono ?_
    rintro e w4 ⟨r, rfl, r1, r2, -, hs4, hT4⟩
    have HO := Lib.hid (HO.out.touch hT4 (by omega) (by omega))
    have z4 := hT4.size
    have HS := Lib.hid hs4
    have HT := Lib.hid (HT.out.trans hT4)
    clear hs4 hT4 r2
    by_cases hr : r = 0
    case neg =>
      go_wp2_with fail
      go_ret
      exact ⟨T, b, c, p.1, p.2, rfl, HO.out, by omega, by omega, HG.out.1, HS.out, HT.out⟩
    case pos =>
      subst hr
      clear r1
      go_wp2_with fail
      have hx5 := ext_box w4 (.int .i64 0) 2
      have HG5 := Lib.hid (GrowI.one (e := 2) (base := w4.heap.size) (w := w4) (x := 0) (Nat.le_refl _))
      have z5 : w4.heap.size + 1 ≤ (w4.alloc (.cells #[.int .i64 0] 2)).heap.size := by simp
      have HO := Lib.hid (HO.out.ext hx5 (by omega))
      have HS := Lib.hid (HS.out.ext hx5)
      have HT := Lib.hid (HT.out.trans (Touch.of_ext hx5))
      generalize (w4.alloc (.cells #[.int .i64 0] 2)) = w5 at *
      clear hx5
      rw [show ((T.length : Int) - 1) = ((T.length - 1 : Nat) : Int) by omega]
      refine (l03DrawPerm_any S (T.length - 1) _ HS.out (by omega)).mono ?_
      rintro e w6 ⟨rs, bp, cp, rfl, hrp, hop, hs6, hT6⟩
      have hlt4 : S < w4.heap.size := by omega
      have HO := Lib.hid (HO.out.touch hT6 (by omega) (by omega))
      have HG6 := Lib.hid (HG5.out.touch hT6 (by omega))
      have z6 := hT6.size
      have HS := Lib.hid hs6
      have HT := Lib.hid (HT.out.trans hT6)
      have HR := Lib.hid hrp
      have HI := Lib.hid hop.2.2.1
      have hbp := hop.1
      have hbp2 := hop.2.1
      have hrl := hrp.1
      have HRL := Lib.hid hrl
      obtain ⟨R1, hR1⟩ : ∃ R1, R1 = rs.map (· + 1) := ⟨_, rfl⟩
      have HR1L := Lib.hid (show R1.length = T.length - 1 by rw [hR1, List.length_map]; exact hrl)
      have HR1X := Lib.hid (show ∀ k, k < T.length - 1 → ix R1 k = ix rs k + 1 from fun k hk => by
        rw [hR1, ix_eq, ix_eq]
        simp [List.getD, List.getElem?_eq_getElem (show k < rs.length by omega)])
      have HRP := Lib.hid (show RangeP (T.length - 1 + 1) (0 :: R1) by rw [hR1]; exact HR.out.shift)
      clear hR1
      clear hs6 hT6 hop hrp HG5 hrl
      go_wp2_with fail
      go_loopw [8, 10] (fun v i wr => ∃ k : Nat, k ≤ T.length - 1 ∧ i = .int .i64 k ∧ GrowI 2 w4.heap.size wr v (0 :: R1.take k) ∧ v ≠ .slice none 0 0 ∧ At w4.heap.size w6 v ∧ w6.heap.size ≤ wr.heap.size ∧ Touch w4.heap.size (w4.heap.size + 1) w6 wr) (fun _ i _ => T.length - 1 - (intOf i).toNat)
      case atStart => exact ⟨0, Nat.zero_le _, rfl, HG6.out, by simp, .inl rfl, Nat.le_refl _, Touch.of_ext (Ext.refl _)⟩
      case round =>
        clear HG6
        obtain ⟨k, hk, rfl, hg, hv, hat, hsz, hT⟩ := hrel
        have HGK := Lib.hid hg
        have HVK := Lib.hid hv
        have HAT := Lib.hid hat
        have HTK2 := Lib.hid hT
        clear hg hv hat hT
        by_cases hkl : k < T.length - 1
        case pos =>
          have e1 := (HTK2.out).cell (HI.out k (by rw [HRL.out]; exact hkl)) (by simp only []; omega)
          rw [Nat.zero_add] at e1
          have HTA := Lib.hid (show 0 :: (R1.take k ++ [ix rs k + 1]) = 0 :: R1.take (k + 1) by
            rw [List.take_add_one, List.getElem?_eq_getElem (by rw [HR1L.out]; exact hkl), ← HR1X.out k hkl, ix_eq]
            simp [List.getD, List.getElem?_eq_getElem (show k < R1.length by rw [HR1L.out]; exact hkl)])
          have HLK := Lib.hid (show (0 :: R1.take k).length ≤ 1048576 by simp; omega)
          have hix : 0 ≤ ix rs k ∧ ix rs k < 100 := by
            have := (HR.out.2 (ix rs k)).1 (ix_mem _ _ (by rw [HRL.out]; exact hkl))
            omega
          have HGA := Lib.hid (HGK.out.ext (ext_box wr (.int .i64 (ix rs k + 1)) 2))
          have zb : wr.heap.size + 1 = (wr.alloc (.cells #[.int .i64 (ix rs k + 1)] 2)).heap.size := by simp
          have zb1 : w4.heap.size ≤ (wr.alloc (.cells #[.int .i64 (ix rs k + 1)] 2)).heap.size := by omega
          have HTB := Lib.hid (HTK2.out.trans (Touch.of_ext (ext_box wr (.int .i64 (ix rs k + 1)) 2)))
          have zb2 : w6.heap.size ≤ (wr.alloc (.cells #[.int .i64 (ix rs k + 1)] 2)).heap.size := by omega
          have HZ := Lib.hid (And.intro zb1 zb2)
          clear zb zb1 zb2
          go_wp2_with (at_builtin; refine wpList_append_int_at rfl _ _ 45 2 rfl Try.underlying45 infoInt w4.heap.size _ _ rfl HGA.out wr.heap.size (ix rs k + 1) rfl (cell_new _ _ _) HLK.out HZ.out.1 ?_)
          intro v' w' hg' hgr' hv' hat'
          rw [HTA.out] at hg'
          have hnx := HAT.out.next HZ.out.2 hgr' hat' (by omega) HTB.out
          have hsz' : w6.heap.size ≤ w'.heap.size := Nat.le_trans HZ.out.2 hgr'.size
          have HG' := Lib.hid hg'
          have HV' := Lib.hid hv'
          have HN' := Lib.hid hnx
          clear hg' hgr' hv' hat' hnx
          go_wp2
          go_roundw
          case rel => exact ⟨k + 1, by omega, by go_num, HG'.out, HV'.out, HN'.out.1, hsz', HN'.out.2⟩
          case measure => simp [intOf]; omega
        case neg =>
          have hkk : k = T.length - 1 := by omega
          have HTF := Lib.hid (show (0 :: R1.take k) = 0 :: R1 by rw [List.take_of_length_le (by rw [HR1L.out, hkk]; exact Nat.le_refl _)])
          have HGF := Lib.hid (by have := HGK.out; rwa [HTF.out] at this : GrowI 2 w4.heap.size wr _ (0 :: R1))
          have HPM := Lib.hid (show IsoOk T.length [] [] (0 :: R1) by have := HRP.out.perm; rwa [show T.length - 1 + 1 = T.length by omega] at this)
          have HPL := Lib.hid HPM.out.1
          obtain ⟨bg, cg, rfl, hog⟩ := HGF.out.own HVK.out
          have HIP := Lib.hid (hog.2.2.1.ints (by rw [HPL.out]; omega) cg)
          rw [HPL.out] at HIP ⊢
          have HO := Lib.hid (HO.out.touch HTK2.out (by omega) (by omega))
          have HRT := Lib.hid ((HO.out.rowsAt o2').rows o2'.1 c)
          have HT := Lib.hid (show Touch S (S + 1) w wr from ⟨HTK2.out.os.trans HT.out.os, HTK2.out.tape.trans HT.out.tape, HTK2.out.output.trans HT.out.output, Nat.le_trans HT.out.size HTK2.out.size, fun k hk hn => (HTK2.out.block k (by omega) (by omega)).trans (HT.out.block k hk hn)⟩)
          have HSW := Lib.hid (HS.out.touch2 HTK2.out (by omega))
          have HTO := Lib.hid HG.out.1
          have HLT := Lib.hid (length_imgT T (0 :: R1))
          clear HTF hkk
          go_wp2_with fail
          refine (l03Image_any T (0 :: R1) _ _ _ HRT.out HIP.out HTO.out HPM.out).mono ?_
          rintro e w7 ⟨bi, ci, rfl, hoi, hxi⟩
          have HOI := Lib.hid hoi
          have HXI := Lib.hid hxi
          have zi := hxi.size
          clear hoi hxi
          go_wp2_with fail
          go_ret
          exact ⟨imgT T (0 :: R1), bi, ci, _, _, rfl, HOI.out, by omega, Nat.le_refl _, imgT_ok HTO.out HPM.out, HSW.out.ext HXI.out, HT.out.trans (Touch.of_ext HXI.out)⟩
end Go.Proofs.Ytbfhecckapgpnaa
