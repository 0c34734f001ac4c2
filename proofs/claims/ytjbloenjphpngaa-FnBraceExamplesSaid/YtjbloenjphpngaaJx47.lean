/-
  l11Ring of the reference: where its tables lie.
-/
import Derived.Test.YtjbloenjphpngaaProg
import Derived.Deep.DeepCutAuto
import Derived.Deep.RegionWith
import Derived.Deep.RegionHeld3
import Derived.Deep.DrawnRows
import Derived.Maps.AppendAt
import Derived.Test.YtjbloenjphpngaaJx0
import Derived.Test.YtjbloenjphpngaaJx1
import Derived.Test.YtjbloenjphpngaaJx5
import Derived.Test.YtjbloenjphpngaaJx8
import Derived.Test.YtjbloenjphpngaaJx9
import Derived.Test.YtjbloenjphpngaaJx2
import Derived.Test.YtjbloenjphpngaaJx14
import Derived.Test.YtjbloenjphpngaaJx27
import Derived.Test.YtjbloenjphpngaaJx10
import Derived.Test.YtjbloenjphpngaaJx12
import Derived.Test.YtjbloenjphpngaaJx3
import Derived.Test.YtjbloenjphpngaaJx4
import Derived.Test.YtjbloenjphpngaaJx42
import Derived.Test.YtjbloenjphpngaaJx17
import Derived.Test.YtjbloenjphpngaaJx6
import Derived.Test.YtjbloenjphpngaaJx15
import Derived.Test.YtjbloenjphpngaaJx33
import Derived.Test.YtjbloenjphpngaaJx34
import Derived.Test.YtjbloenjphpngaaJx19
import Derived.Test.YtjbloenjphpngaaJx37
namespace Go.Proofs.Ytjbloenjphpngaa
set_option linter.unusedVariables false
set_option linter.unusedSimpArgs false
open Go.RowKit
attribute [local go_sem ↓] Go.wp_at_zero Go.wp_at_succ


/-! ### the reference -/
set_option maxRecDepth 100000 in
set_option maxHeartbeats 2000000 in
theorem l11Ring_p (n m : Nat) (w : World) (h1 : 1 ≤ n) (h2 : n ≤ 12) (hm : m < n) :
    Calls Try.prog 55 #[.int .i64 n, .int .i64 m] w fun e w' => ∃ bF cF y hi, e = .returned (.agg #[.slice (some ⟨bF, 0, none⟩) n cF, y]) ∧ OwnT w.heap.size hi w' bF 0 (mkT n (cycF n)) ∧ RowsP (fun k => hi ≤ k) w' y (mkT n (ringF n m)) ∧ hi ≤ w'.heap.size ∧ Ext w w' := by
  have HLF := Lib.hid (length_mkT n (cycF n))
  have HLT := Lib.hid (length_mkT n (ringF n m))
  have hX : Ext w (w.alloc (.cells #[.slice none 0 0, .slice none 0 0] 26)) := (Ext.refl _).alloc _
  have r0 : (w.alloc (.cells #[.slice none 0 0, .slice none 0 0] 26)).cell? ⟨w.heap.size, 0, none⟩ = some (.slice none 0 0) := by simp [go_sem]
  have r1 : (w.alloc (.cells #[.slice none 0 0, .slice none 0 0] 26)).cell? ⟨w.heap.size, 1, none⟩ = some (.slice none 0 0) := by simp [go_sem]
  have q0 : (w.alloc (.cells #[.slice none 0 0, .slice none 0 0] 26)).frozen? ⟨w.heap.size, 0, none⟩ = false := by simp [go_sem]
  have q1 : (w.alloc (.cells #[.slice none 0 0, .slice none 0 0] 26)).frozen? ⟨w.heap.size, 1, none⟩ = false := by simp [go_sem]
  have zA : w.heap.size + 1 ≤ (w.alloc (.cells #[.slice none 0 0, .slice none 0 0] 26)).heap.size := by simp
  go_enter Try.func55, Try.ntmps55
  go_wp2_with fail
  generalize (w.alloc (.cells #[.slice none 0 0, .slice none 0 0] 26)) = A at *
  refine (l10Cyclic_own n _ h1 h2).mono ?_
  rintro e w1 ⟨bF, cF, rfl, hrF, hx⟩
  rw [HLF.out]
  have zq : w.heap.size + 1 ≤ A.heap.size := zA
  have zz := Ext.size hx
  replace q0 := hx.free q0 (by simp only []; omega)
  replace q1 := hx.free q1 (by simp only []; omega)
  replace zA := Nat.le_trans zA zz
  replace hX := hX.trans hx
  replace r0 := hx.cell r0
  replace r1 := hx.cell r1
  clear hx zz
  have hxB : Ext w1 (w1.alloc (.cells #[.slice (some ⟨bF, 0, none⟩) n cF, .slice none 0 0] 26)) := (Ext.refl _).alloc _
  have bF0 : (w1.alloc (.cells #[.slice (some ⟨bF, 0, none⟩) n cF, .slice none 0 0] 26)).cell? ⟨w1.heap.size, 0, none⟩ = some (.slice (some ⟨bF, 0, none⟩) n cF) := by simp [go_sem]
  have bv0 : (w1.alloc (.cells #[.slice (some ⟨bF, 0, none⟩) n cF, .slice none 0 0] 26)).cell? ⟨w1.heap.size, 1, none⟩ = some (.slice none 0 0) := by simp [go_sem]
  have qv0 : (w1.alloc (.cells #[.slice (some ⟨bF, 0, none⟩) n cF, .slice none 0 0] 26)).frozen? ⟨w1.heap.size, 1, none⟩ = false := by simp [go_sem]
  have zB : w1.heap.size < (w1.alloc (.cells #[.slice (some ⟨bF, 0, none⟩) n cF, .slice none 0 0] 26)).heap.size := by simp
  have gB := GrowP.nil 28 (w1.alloc (.cells #[.slice (some ⟨bF, 0, none⟩) n cF, .slice none 0 0] 26)).heap.size (w1.alloc (.cells #[.slice (some ⟨bF, 0, none⟩) n cF, .slice none 0 0] 26))
  go_wp2
  generalize (w1.alloc (.cells #[.slice (some ⟨bF, 0, none⟩) n cF, .slice none 0 0] 26)) = B at *
  go_loopw [6] (fun x wr => ∃ k : Nat, k ≤ n ∧ x = .int .i64 k ∧ ∃ v, wr.cell? ⟨w1.heap.size, 1, none⟩ = some v ∧ wr.cell? ⟨w1.heap.size, 0, none⟩ = some (.slice (some ⟨bF, 0, none⟩) n cF) ∧ GrowP 28 B.heap.size wr v ((mkT n (ringF n m)).take k) ∧ wr.frozen? ⟨w1.heap.size, 1, none⟩ = false ∧ Ext w1 wr ∧ B.heap.size ≤ wr.heap.size) (fun x _ => n - (intOf x).toNat)
  case atStart => exact ⟨0, Nat.zero_le _, rfl, _, bv0, bF0, gB, qv0, hxB, Nat.le_refl _⟩
  case round =>
    clear bv0 qv0 gB bF0 hxB
    obtain ⟨k, hk, rfl, v, bv, bF1, hg, qv, hx, zr⟩ := hrel
    obtain ⟨sa, sc, rfl⟩ := hg.slice
    have htl : ((mkT n (ringF n m)).take k).length = k := by rw [List.length_take, HLT.out]; omega
    rw [htl] at hg bv
    have HTL := Lib.hid htl
    clear htl
    have g1 := hx.cell r0
    have g2 := hx.cell r1
    have p1 := hx.free q0 (by simp only []; omega)
    have p2 := hx.free q1 (by simp only []; omega)
    by_cases hkl : k < n
    case neg =>
      have hkk : k = n := by omega
      subst hkk
      have htk : (mkT k (ringF k m)).take k = (mkT k (ringF k m)) := List.take_of_length_le (by rw [HLT.out]; omega)
      rw [htk] at hg
      have hnn : (Value.slice sa k sc) ≠ .slice none 0 0 := by
        intro e
        simp only [Value.slice.injEq] at e
        omega
      have HNN := Lib.hid hnn
      clear hnn
      go_wp2
      refine bodyPost_ret (v := .agg #[.slice (some ⟨bF, 0, none⟩) k cF, .slice sa k sc]) (by simp [results, Try.results55, go_sem, g1, g2]) rfl ⟨_, _, _, w1.heap.size, rfl, ?_, ?_, ?_, ((hX.trans hx).setNew (by simp only []; omega) _).setNew (by simp only []; omega) _⟩
      · exact (((hrF.keep (w' := wr) fun k _ hk => hx.block k hk).setOther (a := ⟨w.heap.size, 0, none⟩) (.inl (by simp only []; omega)) _).setOther (a := ⟨w.heap.size, 1, none⟩) (.inl (by simp only []; omega)) _).mono (by omega) (Nat.le_refl _)
      · have h1 := (hg.setSl (a := ⟨w.heap.size, 0, none⟩) g1 (by simp only []; omega) (.slice (some ⟨bF, 0, none⟩) k cF))
        exact (h1.setSl (a := ⟨w.heap.size, 1, none⟩) (kc_set2 (by simp) g2) (by simp only []; omega) (.slice sa k sc)).rowsP (by rw [HLT.out]; omega) HNN.out |>.weaken (fun k hk => by omega)
      · simp; have := hx.size; omega
    case pos =>
      obtain ⟨w2, rfl⟩ : ∃ w2 : World, w2 = wr := ⟨_, rfl⟩
      go_wp2
      have hxa : Ext w2 (w2.alloc (.cells #[] 2)) := (Ext.refl _).alloc _
      have hi0 := GrowI.lit (e := 2) (base := w2.heap.size) (w := w2) (Nat.le_refl _)
      have HRL := Lib.hid (show (row (mkT n (ringF n m)) k).length = n by rw [row_mkT _ _ _ hkl, length_partRow])
      have HO := Lib.hid hg.lt
      go_loopw [7, 8] (fun v y wr => ∃ j : Nat, j ≤ n ∧ y = .int .i64 j ∧ GrowI 2 w2.heap.size wr v ((row (mkT n (ringF n m)) k).take j) ∧ v ≠ .slice none 0 0 ∧ Ext w2 wr) (fun _ y _ => n - (intOf y).toNat)
      case atStart => exact ⟨0, Nat.zero_le _, rfl, hi0, by simp, hxa⟩
      case round =>
        clear hxa hi0
        obtain ⟨j, hj, rfl, hi, hvr, hx2⟩ := hrel
        have HVR := Lib.hid hvr
        clear hvr
        have mF := hx2.cell bF1
        by_cases hjl : j < n
        case neg =>
          have hta : (row (mkT n (ringF n m)) k).take j = row (mkT n (ringF n m)) k := List.take_of_length_le (by rw [HRL.out]; omega)
          rw [hta] at hi
          obtain ⟨br, cr, rfl, hri, hrb, hrb2⟩ := hi.row HVR.out
          have hgw := hg.ext hx2
          have hne : some br ≠ (Value.slice sa k sc).ownBlock := fun e => by have := HO.out br e.symm; omega
          have bv2 := hx2.cell bv
          have qv2 := hx2.free qv (by simp only []; omega)
          clear hg
          go_wp2_with (at_builtin; refine wpList_append_row_p rfl _ _ 24 28 rfl Try.underlying24 infoSl B.heap.size _ _ rfl (hgw.ext (ext_box _ _ _)) _ br cr _ rfl (cell_new _ _ _) (hri.ext (ext_box _ _ _)) (by rw [HRL.out]; omega) (by omega) hne (by rw [HTL.out]; omega) (by have := hx.size; have := hx2.size; simp; omega) ?_)
          intro v' w3 hg3 hgr hv3
          have hx3 : Ext w1 w3 := Ext.grown ((hx.trans hx2).trans (ext_box _ _ _)) hgr (hgw.ext (ext_box _ _ _)).own.choose_spec (by omega)
          have hgr2 := hgr.size
          have bv3 : w3.cell? ⟨w1.heap.size, 1, none⟩ = some (Value.slice sa k sc) := by
            rw [hgr.cell_far _ (by simp; omega) (by intro e; have := HO.out _ e.symm; simp only [] at this; omega)]
            exact (ext_box _ _ _).cell bv2
          have bF3 : w3.cell? ⟨w1.heap.size, 0, none⟩ = some (.slice (some ⟨bF, 0, none⟩) n cF) := by
            rw [hgr.cell_far _ (by simp; omega) (by intro e; have := HO.out _ e.symm; simp only [] at this; omega)]
            exact (ext_box _ _ _).cell mF
          have qv3 : w3.frozen? ⟨w1.heap.size, 1, none⟩ = false := by
            rw [hgr.frozen_far _ (by simp; omega) (by intro e; have := HO.out _ e.symm; simp only [] at this; omega)]
            exact (ext_box _ _ _).free qv2 (by simp only []; have := hx2.size; omega)
          clear hgr hne hgw
          obtain ⟨a3, c3, rfl⟩ := hg3.slice
          have hl3 : ((mkT n (ringF n m)).take k ++ [row (mkT n (ringF n m)) k]).length = k + 1 := by rw [List.length_append, HTL.out]; rfl
          rw [hl3] at hg3 ⊢
          clear hl3 hv3
          go_wp2
          go_roundw
          case rel => exact ⟨k + 1, by omega, by go_num, _, World.cell?_setCell_same _ _ _ bv3, kc_set2 (by simp) bF3, by rw [take_row _ _ (by rw [HLT.out]; exact hkl)]; exact hg3.setSl bv3 (by simp only []; omega) _, by rw [World.frozen?_setCell]; exact qv3, hx3.setNew (by simp only []; omega) _, by have := hx2.size; have := hgr2; simp at *; omega⟩
          case measure => simp [intOf]; omega
        case pos =>
          have HLJ := Lib.hid (show ((row (mkT n (ringF n m)) k).take j).length = j by rw [List.length_take, HRL.out]; omega)
          have b1 := mul_bdQ (show m ≤ 12 by omega) (show k ≤ 12 by omega)
          have b2 := mul_bdQ (show m * k ≤ 144 from Nat.mul_le_mul (show m ≤ 12 by omega) (show k ≤ 12 by omega)) (show j ≤ 12 by omega)
          rw [Int.natCast_mul] at b2
          have b3 := b1.2
          have b4 := b2.2
          have b5 := b1.1
          have b6 := b2.1
          clear b1 b2
          simp at b3 b4
          go_wp2_with (at_builtin; refine wpList_append_int rfl _ _ 28 2 rfl Try.underlying28 infoInt w2.heap.size _ _ rfl (hi.alloc _) _ _ rfl (cell_new _ _ _) (by rw [HLJ.out]; omega) (by have := hx2.size; simp; omega) ?_)
          intro v' w3 hi3 hgr hv3
          have hx3 : Ext w2 w3 := (hx2.trans (ext_box _ _ _)).grown hgr (hi.alloc _) (Nat.le_refl _)
          clear hgr
          go_wp2
          go_roundw
          case rel => exact ⟨j + 1, by omega, by go_num, by
            rw [take_ix _ _ (by rw [HRL.out]; exact hjl), row_mkT _ _ _ hkl, ix_partRow _ _ _ _ _ hjl, if_pos hjl, ringF_def]
            rw [row_mkT _ _ _ hkl] at hi3
            exact hi3, hv3, hx3⟩
          case measure => simp [intOf]; omega
end Go.Proofs.Ytjbloenjphpngaa
