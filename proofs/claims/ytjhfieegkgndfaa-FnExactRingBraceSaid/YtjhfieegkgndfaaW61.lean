/-
  Contracts of RingBrace: reference and program.
-/
import Derived.Test.YtjhfieegkgndfaaProg
import Derived.Deep.DeepCutAuto
import Derived.Deep.RegionWith
import Derived.Deep.RegionHeld3
import Derived.Deep.DrawnRows
import Derived.Test.YtjhfieegkgndfaaBase
import Derived.Test.YtjhfieegkgndfaaBase2
import Derived.Test.YtjhfieegkgndfaaRet
import Derived.Test.YtjhfieegkgndfaaSteps
import Derived.Test.YtjhfieegkgndfaaGrow
import Derived.Test.YtjhfieegkgndfaaGrowR
import Derived.Test.YtjhfieegkgndfaaPure1
import Derived.Test.YtjhfieegkgndfaaPureOrd
import Derived.Test.YtjhfieegkgndfaaPureInv
import Derived.Test.YtjhfieegkgndfaaPureTurn
import Derived.Test.YtjhfieegkgndfaaPureConj
import Derived.Test.YtjhfieegkgndfaaSteps2
import Derived.Test.YtjhfieegkgndfaaPureBr
import Derived.Test.YtjhfieegkgndfaaPureRing
import Derived.Test.YtjhfieegkgndfaaW1
import Derived.Test.YtjhfieegkgndfaaW3
import Derived.Test.YtjhfieegkgndfaaW6
import Derived.Test.YtjhfieegkgndfaaW8
import Derived.Test.YtjhfieegkgndfaaW10
import Derived.Test.YtjhfieegkgndfaaW11
import Derived.Test.YtjhfieegkgndfaaW12
import Derived.Test.YtjhfieegkgndfaaW13
import Derived.Test.YtjhfieegkgndfaaW15
import Derived.Test.YtjhfieegkgndfaaW20
import Derived.Test.YtjhfieegkgndfaaW28
import Derived.Test.YtjhfieegkgndfaaW29
import Derived.Test.YtjhfieegkgndfaaK2
namespace Go.Proofs.Ytjhfieegkgndfaa
set_option linter.unusedVariables false
set_option linter.unusedSimpArgs false
open Go.RowKit
attribute [local go_sem ↓] Go.wp_at_zero Go.wp_at_succ

/-- what RingBrace gives -/
@[irreducible] def ringT (a b : Int) : List (List Int) := if (inR a 1 12 && (inR b 0 (a - 1) && goodR a.toNat b.toNat)) = true then mkT a.toNat (cycF a.toNat) else []
@[irreducible] def ringU (a b : Int) : List (List Int) := if (inR a 1 12 && (inR b 0 (a - 1) && goodR a.toNat b.toNat)) = true then mkT a.toNat (ringF a.toNat b.toNat) else []
@[irreducible] def ringC (a b : Int) : Int := if (inR a 1 12 && inR b 0 (a - 1)) = true then (if goodR a.toNat b.toNat = true then 0 else 5) else 2

theorem ring_out1 {a b : Int} (h : inR a 1 12 = false) : ringT a b = [] ∧ ringU a b = [] ∧ ringC a b = 2 := by
  unfold ringT ringU ringC; simp [h]

theorem ring_out2 {a b : Int} (h : inR b 0 (a - 1) = false) : ringT a b = [] ∧ ringU a b = [] ∧ ringC a b = 2 := by
  unfold ringT ringU ringC; simp [h]

theorem ring_bad {n k : Nat} (h1 : 1 ≤ n) (h2 : n ≤ 12) (hk : k < n) (h : goodR n k = false) : ringT n k = [] ∧ ringU n k = [] ∧ ringC n k = 5 := by
  have e1 : inR (n : Int) 1 12 = true := inR_iff.2 (by omega)
  have e2 : inR (k : Int) 0 ((n : Int) - 1) = true := inR_iff.2 (by omega)
  unfold ringT ringU ringC; simp [e1, e2, h]

theorem ring_good {n k : Nat} (h1 : 1 ≤ n) (h2 : n ≤ 12) (hk : k < n) (h : goodR n k = true) : ringT n k = mkT n (cycF n) ∧ ringU n k = mkT n (ringF n k) ∧ ringC n k = 0 := by
  have e1 : inR (n : Int) 1 12 = true := inR_iff.2 (by omega)
  have e2 : inR (k : Int) 0 ((n : Int) - 1) = true := inR_iff.2 (by omega)
  unfold ringT ringU ringC; simp [e1, e2, h]

theorem mul_bd {a b m n : Nat} (ha : a ≤ m) (hb : b ≤ n) : 0 ≤ (a : Int) * (b : Int) ∧ (a : Int) * (b : Int) ≤ ((m * n : Nat) : Int) := by
  have := Nat.mul_le_mul ha hb
  rw [← Int.natCast_mul]
  omega

/-! ### primes -/
def noDiv (p d : Nat) : Bool := allN d fun e => Nat.ble e 1 || !(Nat.beq (p % e) 0)
set_option maxRecDepth 100000 in
theorem pr_end_all : allN 13 (fun p => allN 15 fun d => !(Nat.ble 2 d && (noDiv p d && Nat.blt p (d * d))) || (if Nat.blt 1 p then isPr p else !isPr p)) = true := by decide +kernel

set_option maxRecDepth 100000 in
theorem pr_hit_all : allN 13 (fun p => allN 15 fun d => !(Nat.ble 2 d && (Nat.beq (p % d) 0 && Nat.ble (d * d) p)) || !isPr p) = true := by decide +kernel

theorem pr_end {p d : Nat} (hp : p ≤ 12) (hd : d ≤ 14) (h2 : 2 ≤ d) (hn : noDiv p d = true) (h : p < d * d) : isPr p = decide ((1 : Int) < (p : Int)) := by
  have := allN_iff.1 (allN_iff.1 pr_end_all p (by omega)) d (by omega)
  have e1 : Nat.ble 2 d = true := by simpa using h2
  have e2 : Nat.blt p (d * d) = true := by simpa using h
  rw [e1, hn, e2] at this
  by_cases h1 : 1 < p
  · have e3 : Nat.blt 1 p = true := by simpa using h1
    have : isPr p = true := by simpa [e3] using this
    rw [this]; simp; omega
  · have e3 : Nat.blt 1 p = false := by
      cases e : Nat.blt 1 p with
      | false => rfl
      | true => exact absurd (Nat.le_of_ble_eq_true e) (by omega)
    have : isPr p = false := by simpa [e3] using this
    rw [this]; simp; omega

theorem pr_hit {p d : Nat} (hp : p ≤ 12) (hd : d ≤ 14) (h2 : 2 ≤ d) (hn : p % d = 0) (h : d * d ≤ p) : isPr p = false := by
  have := allN_iff.1 (allN_iff.1 pr_hit_all p (by omega)) d (by omega)
  have e1 : Nat.ble 2 d = true := by simpa using h2
  have e2 : Nat.ble (d * d) p = true := by simpa using h
  have e3 : Nat.beq (p % d) 0 = true := by simpa using hn
  rw [e1, e2, e3] at this
  simpa using this

theorem noDiv_succ {p d : Nat} (hn : noDiv p d = true) (h : p % d ≠ 0) : noDiv p (d + 1) = true := by
  unfold noDiv at hn ⊢
  unfold allN
  rw [hn]
  have : Nat.beq (p % d) 0 = false := by
    cases e : Nat.beq (p % d) 0 with
    | false => rfl
    | true => exact absurd (Nat.eq_of_beq_eq_true e) h
  simp [this]

theorem noDiv_two (p : Nat) : noDiv p 2 = true := rfl

theorem isPrime_any (p : Nat) (w : World) (hp : p ≤ 12) :
    Calls Try.prog 39 #[.int .i64 p] w fun e w' => e = .returned (.bool (isPr p)) ∧ w = w' := by
  go_enter Try.func39, Try.ntmps39
  go_wp2
  go_loop [3] (fun x => ∃ d : Nat, 2 ≤ d ∧ d ≤ 13 ∧ x = .int .i64 d ∧ noDiv p d = true) (fun x => 13 - (intOf x).toNat)
  case atStart => exact ⟨2, by omega, by omega, rfl, noDiv_two p⟩
  case round =>
    obtain ⟨d, hd2, hd, rfl, hn⟩ := hrel
    have HN := Lib.hid hn
    clear hn
    have hm := mul_bd hd hd
    by_cases hdd : d * d ≤ p
    · have h1 : (d : Int) * (d : Int) ≤ (p : Int) := by rw [← Int.natCast_mul]; omega
      have hd4 : d ≤ 4 := by
        apply Classical.byContradiction
        intro h
        have := Nat.mul_le_mul (show 5 ≤ d by omega) (show 5 ≤ d by omega)
        omega
      have HD := Lib.hid hdd
      clear hdd
      cases h0 : ((p : Int) % (d : Int) == 0) with
      | true =>
        have e0 : p % d = 0 := by
          have : (p : Int) % (d : Int) = 0 := by simpa using h0
          omega
        have HP := Lib.hid (pr_hit hp (by omega) hd2 e0 HD.out)
        clear e0
        go_wp2
        go_ret
        exact ⟨ret_bool (by rw [HP.out]), rfl⟩
      | false =>
        have HE := Lib.hid (show p % d ≠ 0 by
          have : (p : Int) % (d : Int) ≠ 0 := by simpa using h0
          omega)
        go_wp2
        go_round
        case rel => exact ⟨d + 1, by omega, by omega, by go_num, noDiv_succ HN.out HE.out⟩
        case measure => simp [intOf]; omega
    · have h1 : (p : Int) < (d : Int) * (d : Int) := by rw [← Int.natCast_mul]; omega
      have HP := Lib.hid (pr_end hp (by omega) hd2 HN.out (by omega))
      clear hdd
      go_wp2
      go_ret
      exact ⟨ret_bool (by rw [HP.out]), rfl⟩

/-! ### the reference -/
set_option maxRecDepth 100000 in
set_option maxHeartbeats 2000000 in
theorem l11Ring_any (n m : Nat) (w : World) (h1 : 1 ≤ n) (h2 : n ≤ 12) (hm : m < n) :
    Calls Try.prog 36 #[.int .i64 n, .int .i64 m] w fun e w' => ∃ v y, e = .returned (.agg #[v, y]) ∧ Rows w' v (mkT n (cycF n)) ∧ Rows w' y (mkT n (ringF n m)) ∧ Ext w w' := by
  have HLF := Lib.hid (length_mkT n (cycF n))
  have HLT := Lib.hid (length_mkT n (ringF n m))
  have hX : Ext w (w.alloc (.cells #[.slice none 0 0, .slice none 0 0] 24)) := (Ext.refl _).alloc _
  have r0 : (w.alloc (.cells #[.slice none 0 0, .slice none 0 0] 24)).cell? ⟨w.heap.size, 0, none⟩ = some (.slice none 0 0) := by simp [go_sem]
  have r1 : (w.alloc (.cells #[.slice none 0 0, .slice none 0 0] 24)).cell? ⟨w.heap.size, 1, none⟩ = some (.slice none 0 0) := by simp [go_sem]
  have q0 : (w.alloc (.cells #[.slice none 0 0, .slice none 0 0] 24)).frozen? ⟨w.heap.size, 0, none⟩ = false := by simp [go_sem]
  have q1 : (w.alloc (.cells #[.slice none 0 0, .slice none 0 0] 24)).frozen? ⟨w.heap.size, 1, none⟩ = false := by simp [go_sem]
  have zA : w.heap.size + 1 ≤ (w.alloc (.cells #[.slice none 0 0, .slice none 0 0] 24)).heap.size := by simp
  go_enter Try.func36, Try.ntmps36
  go_wp2_with fail
  generalize (w.alloc (.cells #[.slice none 0 0, .slice none 0 0] 24)) = A at *
  refine (l10Cyclic_any n _ h1 h2).mono ?_
  rintro e w1 ⟨vF, rfl, hrF, hx⟩
  obtain ⟨-, bF, oF, cF, rfl, -⟩ := id hrF
  rw [HLF.out]
  rw [HLF.out] at hrF
  have zz := Ext.size hx
  replace q0 := hx.free q0 (by simp only []; omega)
  replace q1 := hx.free q1 (by simp only []; omega)
  replace zA := Nat.le_trans zA zz
  replace hX := hX.trans hx
  replace r0 := hx.cell r0
  replace r1 := hx.cell r1
  clear hx zz
  have hxB : Ext w1 (w1.alloc (.cells #[.slice (some ⟨bF, oF, none⟩) n cF, .slice none 0 0] 24)) := (Ext.refl _).alloc _
  have bF0 : (w1.alloc (.cells #[.slice (some ⟨bF, oF, none⟩) n cF, .slice none 0 0] 24)).cell? ⟨w1.heap.size, 0, none⟩ = some (.slice (some ⟨bF, oF, none⟩) n cF) := by simp [go_sem]
  have bv0 : (w1.alloc (.cells #[.slice (some ⟨bF, oF, none⟩) n cF, .slice none 0 0] 24)).cell? ⟨w1.heap.size, 1, none⟩ = some (.slice none 0 0) := by simp [go_sem]
  have qv0 : (w1.alloc (.cells #[.slice (some ⟨bF, oF, none⟩) n cF, .slice none 0 0] 24)).frozen? ⟨w1.heap.size, 1, none⟩ = false := by simp [go_sem]
  have zB : w1.heap.size < (w1.alloc (.cells #[.slice (some ⟨bF, oF, none⟩) n cF, .slice none 0 0] 24)).heap.size := by simp
  have gB := GrowT.nil 65 (w1.alloc (.cells #[.slice (some ⟨bF, oF, none⟩) n cF, .slice none 0 0] 24)).heap.size (w1.alloc (.cells #[.slice (some ⟨bF, oF, none⟩) n cF, .slice none 0 0] 24))
  go_wp2
  generalize (w1.alloc (.cells #[.slice (some ⟨bF, oF, none⟩) n cF, .slice none 0 0] 24)) = B at *
  go_loopw [6] (fun x wr => ∃ k : Nat, k ≤ n ∧ x = .int .i64 k ∧ ∃ v, wr.cell? ⟨w1.heap.size, 1, none⟩ = some v ∧ wr.cell? ⟨w1.heap.size, 0, none⟩ = some (.slice (some ⟨bF, oF, none⟩) n cF) ∧ GrowT 65 B.heap.size wr v ((mkT n (ringF n m)).take k) ∧ wr.frozen? ⟨w1.heap.size, 1, none⟩ = false ∧ Ext w1 wr ∧ B.heap.size ≤ wr.heap.size) (fun x _ => n - (intOf x).toNat)
  case atStart => exact ⟨0, Nat.zero_le _, rfl, _, bv0, bF0, gB, qv0, hxB, Nat.le_refl _⟩
  case round =>
    clear bv0 qv0 gB bF0 hxB
    obtain ⟨k, hk, rfl, v, bv, bF1, hg, qv, hx, zr⟩ := hrel
    obtain ⟨sa, sc, rfl⟩ := hg.slice
    have htl : ((mkT n (ringF n m)).take k).length = k := by rw [List.length_take, HLT.out]; omega
    rw [htl] at hg bv
    have HTL := Lib.hid htl
    clear htl
    have g1 := hx.cell r0
    have g2 := hx.cell r1
    have p1 := hx.free q0 (by simp only []; omega)
    have p2 := hx.free q1 (by simp only []; omega)
    by_cases hkl : k < n
    case neg =>
      have hkk : k = n := by omega
      subst hkk
      have htk : (mkT k (ringF k m)).take k = (mkT k (ringF k m)) := List.take_of_length_le (by rw [HLT.out]; omega)
      rw [htk] at hg
      have hnn : (Value.slice sa k sc) ≠ .slice none 0 0 := by
        intro e
        simp only [Value.slice.injEq] at e
        omega
      have HNN := Lib.hid hnn
      clear hnn
      go_wp2
      refine bodyPost_ret (v := .agg #[.slice (some ⟨bF, oF, none⟩) k cF, .slice sa k sc]) (by simp [results, Try.results36, go_sem, g1, g2]) rfl ⟨_, _, rfl, ?_, ?_, ((hX.trans hx).setNew (by simp only []; omega) _).setNew (by simp only []; omega) _⟩
      · exact rows_set2 (hrF.ext hx) g1 g2 _ _
      · have h1 := (hg.setSl (a := ⟨w.heap.size, 0, none⟩) g1 (by simp only []; omega) (.slice (some ⟨bF, oF, none⟩) k cF))
        exact (h1.setSl (a := ⟨w.heap.size, 1, none⟩) (kc_set2 (by simp) g2) (by simp only []; omega) (.slice sa k sc)).rows (by rw [HLT.out]; omega) HNN.out
    case pos =>
      obtain ⟨w2, rfl⟩ : ∃ w2 : World, w2 = wr := ⟨_, rfl⟩
      go_wp2
      have hxa : Ext w2 (w2.alloc (.cells #[] 2)) := (Ext.refl _).alloc _
      have hi0 := GrowI.lit (e := 2) (base := w2.heap.size) (w := w2) (Nat.le_refl _)
      have HRL := Lib.hid (show (row (mkT n (ringF n m)) k).length = n by rw [row_mkT _ _ _ hkl, length_partRow])
      have HO := Lib.hid hg.lt
      go_loopw [7, 8] (fun v y wr => ∃ j : Nat, j ≤ n ∧ y = .int .i64 j ∧ GrowI 2 w2.heap.size wr v ((row (mkT n (ringF n m)) k).take j) ∧ v ≠ .slice none 0 0 ∧ Ext w2 wr) (fun _ y _ => n - (intOf y).toNat)
      case atStart => exact ⟨0, Nat.zero_le _, rfl, hi0, by simp, hxa⟩
      case round =>
        clear hxa hi0
        obtain ⟨j, hj, rfl, hi, hvr, hx2⟩ := hrel
        have HVR := Lib.hid hvr
        clear hvr
        have mF := hx2.cell bF1
        by_cases hjl : j < n
        case neg =>
          have hta : (row (mkT n (ringF n m)) k).take j = row (mkT n (ringF n m)) k := List.take_of_length_le (by rw [HRL.out]; omega)
          rw [hta] at hi
          obtain ⟨br, cr, rfl, hri, hrb, hrb2⟩ := hi.row HVR.out
          have hgw := hg.ext hx2
          have hne : some br ≠ (Value.slice sa k sc).ownBlock := fun e => by have := HO.out br e.symm; omega
          have bv2 := hx2.cell bv
          have qv2 := hx2.free qv (by simp only []; omega)
          clear hg
          go_wp2_with (at_builtin; refine wpList_append_row rfl _ _ 22 65 rfl Try.underlying22 infoSl B.heap.size _ _ rfl (hgw.ext (ext_box _ _ _)) _ br cr _ rfl (cell_new _ _ _) (hri.ext (ext_box _ _ _)) (by rw [HRL.out]; omega) hne (by rw [HTL.out]; omega) (by have := hx.size; have := hx2.size; simp; omega) ?_)
          intro v' w3 hg3 hgr hv3
          have hx3 : Ext w1 w3 := Ext.grown ((hx.trans hx2).trans (ext_box _ _ _)) hgr (hgw.ext (ext_box _ _ _)).own.choose_spec (by omega)
          have hgr2 := hgr.size
          have bv3 : w3.cell? ⟨w1.heap.size, 1, none⟩ = some (Value.slice sa k sc) := by
            rw [hgr.cell_far _ (by simp; omega) (by intro e; have := HO.out _ e.symm; simp only [] at this; omega)]
            exact (ext_box _ _ _).cell bv2
          have bF3 : w3.cell? ⟨w1.heap.size, 0, none⟩ = some (.slice (some ⟨bF, oF, none⟩) n cF) := by
            rw [hgr.cell_far _ (by simp; omega) (by intro e; have := HO.out _ e.symm; simp only [] at this; omega)]
            exact (ext_box _ _ _).cell mF
          have qv3 : w3.frozen? ⟨w1.heap.size, 1, none⟩ = false := by
            rw [hgr.frozen_far _ (by simp; omega) (by intro e; have := HO.out _ e.symm; simp only [] at this; omega)]
            exact (ext_box _ _ _).free qv2 (by simp only []; have := hx2.size; omega)
          clear hgr hne hgw
          obtain ⟨a3, c3, rfl⟩ := hg3.slice
          have hl3 : ((mkT n (ringF n m)).take k ++ [row (mkT n (ringF n m)) k]).length = k + 1 := by rw [List.length_append, HTL.out]; rfl
          rw [hl3] at hg3 ⊢
          clear hl3 hv3
          go_wp2
          go_roundw
          case rel => exact ⟨k + 1, by omega, by go_num, _, World.cell?_setCell_same _ _ _ bv3, kc_set2 (by simp) bF3, by rw [take_row _ _ (by rw [HLT.out]; exact hkl)]; exact hg3.setSl bv3 (by simp only []; omega) _, by rw [World.frozen?_setCell]; exact qv3, hx3.setNew (by simp only []; omega) _, by have := hx2.size; have := hgr2; simp at *; omega⟩
          case measure => simp [intOf]; omega
        case pos =>
          have HLJ := Lib.hid (show ((row (mkT n (ringF n m)) k).take j).length = j by rw [List.length_take, HRL.out]; omega)
          have b1 := mul_bd (show m ≤ 12 by omega) (show k ≤ 12 by omega)
          have b2 := mul_bd (show m * k ≤ 144 from Nat.mul_le_mul (show m ≤ 12 by omega) (show k ≤ 12 by omega)) (show j ≤ 12 by omega)
          rw [Int.natCast_mul] at b2
          have b3 := b1.2
          have b4 := b2.2
          have b5 := b1.1
          have b6 := b2.1
          clear b1 b2
          simp at b3 b4
          go_wp2_with (at_builtin; refine wpList_append_int rfl _ _ 65 2 rfl Try.underlying65 infoInt w2.heap.size _ _ rfl (hi.alloc _) _ _ rfl (cell_new _ _ _) (by rw [HLJ.out]; omega) (by have := hx2.size; simp; omega) ?_)
          intro v' w3 hi3 hgr hv3
          have hx3 : Ext w2 w3 := (hx2.trans (ext_box _ _ _)).grown hgr (hi.alloc _) (Nat.le_refl _)
          clear hgr
          go_wp2
          go_roundw
          case rel => exact ⟨j + 1, by omega, by go_num, by
            rw [take_ix _ _ (by rw [HRL.out]; exact hjl), row_mkT _ _ _ hkl, ix_partRow _ _ _ _ _ hjl, if_pos hjl, ringF_def]
            rw [row_mkT _ _ _ hkl] at hi3
            exact hi3, hv3, hx3⟩
          case measure => simp [intOf]; omega

set_option maxRecDepth 100000 in
set_option maxHeartbeats 2000000 in
theorem RingBrace_spec (a b : Int) (w : World) : Calls Try.prog 8 #[.int .i64 a, .int .i64 b] w (RetB (ringT a b) (ringU a b) (ringC a b) w) := by
  have hX : Ext w (w.alloc (.cells #[.slice none 0 0, .slice none 0 0] 24)) := (Ext.refl _).alloc _
  have r0 : (w.alloc (.cells #[.slice none 0 0, .slice none 0 0] 24)).cell? ⟨w.heap.size, 0, none⟩ = some (.slice none 0 0) := by simp [go_sem]
  have r1 : (w.alloc (.cells #[.slice none 0 0, .slice none 0 0] 24)).cell? ⟨w.heap.size, 1, none⟩ = some (.slice none 0 0) := by simp [go_sem]
  have q0 : (w.alloc (.cells #[.slice none 0 0, .slice none 0 0] 24)).frozen? ⟨w.heap.size, 0, none⟩ = false := by simp [go_sem]
  have q1 : (w.alloc (.cells #[.slice none 0 0, .slice none 0 0] 24)).frozen? ⟨w.heap.size, 1, none⟩ = false := by simp [go_sem]
  have zA : w.heap.size + 1 ≤ (w.alloc (.cells #[.slice none 0 0, .slice none 0 0] 24)).heap.size := by simp
  cases hin : inR a 1 12 with
  | false =>
    obtain ⟨e1, e2, e3⟩ := ring_out1 (b := b) hin
    rw [e1, e2, e3]
    clear e1 e2 e3
    go_enter Try.func8, Try.ntmps8
    go_wp2_with (go_at_call 35; refine (l01In_any _ _ _ _).mono ?_; rintro e w' ⟨rfl, rfl⟩; (first | rw [hin] | rw [hin2]))
    generalize (w.alloc (.cells #[.slice none 0 0, .slice none 0 0] 24)) = A at *
    refine bodyPost_ret (v := .tuple #[.agg #[.slice none 0 0, .slice none 0 0], .int .i64 2]) (by simp [results, Try.results8, go_sem, r0, r1]) rfl ⟨_, _, rfl, RowsB.nil _ _ _, hX⟩
  | true =>
    have hb := inR_iff.1 hin
    obtain ⟨n, rfl⟩ := Int.eq_ofNat_of_zero_le (a := a) (by omega)
    cases hin2 : inR b 0 ((n : Int) - 1) with
    | false =>
      obtain ⟨e1, e2, e3⟩ := ring_out2 (a := n) (b := b) hin2
      rw [e1, e2, e3]
      clear e1 e2 e3
      go_enter Try.func8, Try.ntmps8
      go_wp2_with (go_at_call 35; refine (l01In_any _ _ _ _).mono ?_; rintro e w' ⟨rfl, rfl⟩; (first | rw [hin] | rw [hin2]))
      generalize (w.alloc (.cells #[.slice none 0 0, .slice none 0 0] 24)) = A at *
      refine bodyPost_ret (v := .tuple #[.agg #[.slice none 0 0, .slice none 0 0], .int .i64 2]) (by simp [results, Try.results8, go_sem, r0, r1]) rfl ⟨_, _, rfl, RowsB.nil _ _ _, hX⟩
    | true =>
      have hb2 := inR_iff.1 hin2
      obtain ⟨m, rfl⟩ := Int.eq_ofNat_of_zero_le (a := b) (by omega)
      have h1 : 1 ≤ n := by omega
      have h2 : n ≤ 12 := by omega
      have hm : m < n := by omega
      clear hb hb2
      have HLF := Lib.hid (length_mkT n (cycF n))
      have HLT := Lib.hid (length_mkT n (ringF n m))
      cases hgd : goodR n m with
      | false =>
        obtain ⟨e1, e2, e3⟩ := ring_bad h1 h2 hm hgd
        rw [e1, e2, e3]
        clear e1 e2 e3
        have HB := Lib.hid ((brace_ring h1 h2 hm).trans hgd)
        clear hgd
        go_enter Try.func8, Try.ntmps8
        go_wp2_with (go_at_call 35; refine (l01In_any _ _ _ _).mono ?_; rintro e w' ⟨rfl, rfl⟩; (first | rw [hin] | rw [hin2]))
        generalize (w.alloc (.cells #[.slice none 0 0, .slice none 0 0] 24)) = A at *
        refine (l11Ring_any n m _ h1 h2 hm).mono ?_
        rintro e w2 ⟨v2, y2, rfl, hrF, hrG, hx⟩
        obtain ⟨-, bF, oF, cF, rfl, -⟩ := id hrF
        obtain ⟨-, bG, oG, cG, rfl, -⟩ := id hrG
        rw [HLF.out, HLT.out]
        rw [HLF.out] at hrF
        rw [HLT.out] at hrG
        have zz := Ext.size hx
        replace q0 := hx.free q0 (by simp only []; omega)
        replace q1 := hx.free q1 (by simp only []; omega)
        replace zA := Nat.le_trans zA zz
        replace hX := hX.trans hx
        replace r0 := hx.cell r0
        replace r1 := hx.cell r1
        clear hx zz
        go_wp2_with fail
        have hx := ext_boxB w2 (.slice (some ⟨bF, oF, none⟩) n cF) (.slice (some ⟨bG, oG, none⟩) n cG) 24
        have k0 := cell_new2a w2 (.slice (some ⟨bF, oF, none⟩) n cF) (.slice (some ⟨bG, oG, none⟩) n cG) 24
        have k1 := cell_new2b w2 (.slice (some ⟨bF, oF, none⟩) n cF) (.slice (some ⟨bG, oG, none⟩) n cG) 24
        replace hrF := hrF.ext hx
        replace hrG := hrG.ext hx
        have zz := Ext.size hx
        replace q0 := hx.free q0 (by simp only []; omega)
        replace q1 := hx.free q1 (by simp only []; omega)
        replace zA := Nat.le_trans zA zz
        replace hX := hX.trans hx
        replace r0 := hx.cell r0
        replace r1 := hx.cell r1
        clear hx zz
        generalize (w2.alloc (.cells #[.slice (some ⟨bF, oF, none⟩) n cF, .slice (some ⟨bG, oG, none⟩) n cG] 24)) = w3 at *
        refine (l11Is_any _ _ _ _ _ hrF hrG).mono ?_
        rintro e w4 ⟨rfl, hx⟩
        rw [HB.out]
        replace hrF := hrF.ext hx
        replace hrG := hrG.ext hx
        replace k0 := hx.cell k0
        replace k1 := hx.cell k1
        have zz := Ext.size hx
        replace q0 := hx.free q0 (by simp only []; omega)
        replace q1 := hx.free q1 (by simp only []; omega)
        replace zA := Nat.le_trans zA zz
        replace hX := hX.trans hx
        replace r0 := hx.cell r0
        replace r1 := hx.cell r1
        clear hx zz
        go_wp2
        refine bodyPost_ret (v := .tuple #[.agg #[.slice none 0 0, .slice none 0 0], .int .i64 5]) (by simp [results, Try.results8, go_sem, r0, r1]) rfl ⟨_, _, rfl, RowsB.nil _ _ _, (hX.setNew (by simp only []; omega) _).setNew (by simp only []; omega) _⟩
      | true =>
        obtain ⟨e1, e2, e3⟩ := ring_good h1 h2 hm hgd
        rw [e1, e2, e3]
        clear e1 e2 e3
        have HB := Lib.hid ((brace_ring h1 h2 hm).trans hgd)
        clear hgd
        go_enter Try.func8, Try.ntmps8
        go_wp2_with (go_at_call 35; refine (l01In_any _ _ _ _).mono ?_; rintro e w' ⟨rfl, rfl⟩; (first | rw [hin] | rw [hin2]))
        generalize (w.alloc (.cells #[.slice none 0 0, .slice none 0 0] 24)) = A at *
        refine (l11Ring_any n m _ h1 h2 hm).mono ?_
        rintro e w2 ⟨v2, y2, rfl, hrF, hrG, hx⟩
        obtain ⟨-, bF, oF, cF, rfl, -⟩ := id hrF
        obtain ⟨-, bG, oG, cG, rfl, -⟩ := id hrG
        rw [HLF.out, HLT.out]
        rw [HLF.out] at hrF
        rw [HLT.out] at hrG
        have zz := Ext.size hx
        replace q0 := hx.free q0 (by simp only []; omega)
        replace q1 := hx.free q1 (by simp only []; omega)
        replace zA := Nat.le_trans zA zz
        replace hX := hX.trans hx
        replace r0 := hx.cell r0
        replace r1 := hx.cell r1
        clear hx zz
        go_wp2_with fail
        have hx := ext_boxB w2 (.slice (some ⟨bF, oF, none⟩) n cF) (.slice (some ⟨bG, oG, none⟩) n cG) 24
        have k0 := cell_new2a w2 (.slice (some ⟨bF, oF, none⟩) n cF) (.slice (some ⟨bG, oG, none⟩) n cG) 24
        have k1 := cell_new2b w2 (.slice (some ⟨bF, oF, none⟩) n cF) (.slice (some ⟨bG, oG, none⟩) n cG) 24
        replace hrF := hrF.ext hx
        replace hrG := hrG.ext hx
        have zz := Ext.size hx
        replace q0 := hx.free q0 (by simp only []; omega)
        replace q1 := hx.free q1 (by simp only []; omega)
        replace zA := Nat.le_trans zA zz
        replace hX := hX.trans hx
        replace r0 := hx.cell r0
        replace r1 := hx.cell r1
        clear hx zz
        generalize (w2.alloc (.cells #[.slice (some ⟨bF, oF, none⟩) n cF, .slice (some ⟨bG, oG, none⟩) n cG] 24)) = w3 at *
        refine (l11Is_any _ _ _ _ _ hrF hrG).mono ?_
        rintro e w4 ⟨rfl, hx⟩
        rw [HB.out]
        replace hrF := hrF.ext hx
        replace hrG := hrG.ext hx
        replace k0 := hx.cell k0
        replace k1 := hx.cell k1
        have zz := Ext.size hx
        replace q0 := hx.free q0 (by simp only []; omega)
        replace q1 := hx.free q1 (by simp only []; omega)
        replace zA := Nat.le_trans zA zz
        replace hX := hX.trans hx
        replace r0 := hx.cell r0
        replace r1 := hx.cell r1
        clear hx zz
        go_wp2
        refine bodyPost_ret (v := .tuple #[.agg #[.slice (some ⟨bF, oF, none⟩) n cF, .slice (some ⟨bG, oG, none⟩) n cG], .int .i64 0]) (by simp [results, Try.results8, go_sem, r0, r1]) rfl ⟨_, _, rfl, ⟨?_, ?_⟩, (hX.setNew (by simp only []; omega) _).setNew (by simp only []; omega) _⟩
        · have := (rows_set2 hrF r0 r1 (.slice (some ⟨bF, oF, none⟩) n cF) (.slice (some ⟨bG, oG, none⟩) n cG)).toR
          exact this
        · have := (rows_set2 hrG r0 r1 (.slice (some ⟨bF, oF, none⟩) n cF) (.slice (some ⟨bG, oG, none⟩) n cG)).toR
          exact this

/-! ### the program -/
def NoBad (n k q : Nat) : Prop := ∀ p, p < q → badP n k p = false
theorem isPr_small {p : Nat} (h : p < 2) : isPr p = false := by
  unfold isPr
  have : Nat.ble 2 p = false := by
    cases e : Nat.ble 2 p with
    | false => rfl
    | true => exact absurd (Nat.le_of_ble_eq_true e) (by omega)
  rw [this]; rfl

theorem badP_1 {n k p : Nat} (h : isPr p = false) : badP n k p = false := by unfold badP; rw [h]; rfl

theorem badP_2 {n k p : Nat} (h : ((n : Int) % (p : Int) == 0) = false) : badP n k p = false := by
  have h : n % p ≠ 0 := by
    have : (n : Int) % (p : Int) ≠ 0 := by simpa using h
    omega
  have : Nat.beq (n % p) 0 = false := by
    cases e : Nat.beq (n % p) 0 with
    | false => rfl
    | true => exact absurd (Nat.eq_of_beq_eq_true e) h
  unfold badP; rw [this]; simp

theorem badP_3 {n k p : Nat} (h : ((k : Int) % (p : Int) != 0) = false) : badP n k p = false := by
  have h : k % p = 0 := by
    have : (k : Int) % (p : Int) = 0 := by simpa using h
    omega
  unfold badP; rw [h]; simp

theorem badP_yes {n k p : Nat} (h : isPr p = true) (h2 : ((n : Int) % (p : Int) == 0) = true) (h3 : ((k : Int) % (p : Int) != 0) = true) : badP n k p = true := by
  have e2 : n % p = 0 := by
    have : (n : Int) % (p : Int) = 0 := by simpa using h2
    omega
  have e3 : k % p ≠ 0 := by
    have : (k : Int) % (p : Int) ≠ 0 := by simpa using h3
    omega
  have : Nat.beq (k % p) 0 = false := by
    cases e : Nat.beq (k % p) 0 with
    | false => rfl
    | true => exact absurd (Nat.eq_of_beq_eq_true e) e3
  unfold badP; rw [h, e2, this]; rfl

theorem NoBad.two (n k : Nat) : NoBad n k 2 := fun p hp => badP_1 (isPr_small hp)

theorem NoBad.succ {n k q : Nat} (h : NoBad n k q) (hq : badP n k q = false) : NoBad n k (q + 1) := all_succ h hq

theorem good_no {n k p : Nat} (hp : p ≤ n) (h : badP n k p = true) : goodR n k = false := by
  rw [← Bool.not_eq_true]
  intro hg
  have := allN_iff.1 hg p (by omega)
  rw [h] at this
  simp at this

theorem good_yes {n k q : Nat} (h : NoBad n k q) (hq : n < q) : goodR n k = true := by
  unfold goodR
  rw [allN_iff]
  intro p hp
  rw [h p (by omega)]; rfl

theorem ring1_any (n m x y B C : Nat) (w : World) (hB : w.cell? ⟨B, 0, none⟩ = some (.int .i64 m)) (hC : w.cell? ⟨C, 0, none⟩ = some (.int .i64 n)) (h1 : 1 ≤ n) (h2 : n ≤ 12) (hm : m < n) (hx : x < n) (hy : y < n) :
    Calls Try.prog 42 #[.int .i64 x, .int .i64 y, .pointer (some ⟨B, 0, none⟩), .pointer (some ⟨C, 0, none⟩)] w fun e w' => e = .returned (.int .i64 (ringF n m x y)) ∧ Ext w w' := by
  rw [ringF_def]
  have b1 := mul_bd (show m ≤ 12 by omega) (show x ≤ 12 by omega)
  have b2 := mul_bd (show m * x ≤ 144 from Nat.mul_le_mul (show m ≤ 12 by omega) (show x ≤ 12 by omega)) (show y ≤ 12 by omega)
  rw [Int.natCast_mul] at b2
  have b3 := b1.2
  have b4 := b2.2
  have b5 := b1.1
  have b6 := b2.1
  clear b1 b2
  simp at b3 b4
  go_enter Try.func42, Try.ntmps42
  go_wp2
  go_ret
  exact ⟨rfl, Ext.refl _⟩

theorem fieldGroup (v : Value) (w : World) : (Instr.field 37 (.agg #[v]) 0).run Try.prog w = .ok v w := by kernel_rfl

theorem callRing1 (args : Array Value) (w : World) : (callFunc 42 args).run Try.prog w = .ok (.enter 42 args) w :=
  callFunc_enter Try.func42 (by kernel_rfl) rfl args w

set_option maxRecDepth 100000 in
set_option maxHeartbeats 2000000 in
theorem RingBrace_impl (a b : Int) (w : World) : Calls Try.prog 9 #[.int .i64 a, .int .i64 b] w (NewBC (ringT a b) (ringU a b) (ringC a b) w) := by
  have hX : Ext w (w.alloc (.cells #[.slice none 0 0, .slice none 0 0] 24)) := (Ext.refl _).alloc _
  have r0 : (w.alloc (.cells #[.slice none 0 0, .slice none 0 0] 24)).cell? ⟨w.heap.size, 0, none⟩ = some (.slice none 0 0) := by simp [go_sem]
  have r1 : (w.alloc (.cells #[.slice none 0 0, .slice none 0 0] 24)).cell? ⟨w.heap.size, 1, none⟩ = some (.slice none 0 0) := by simp [go_sem]
  have q0 : (w.alloc (.cells #[.slice none 0 0, .slice none 0 0] 24)).frozen? ⟨w.heap.size, 0, none⟩ = false := by simp [go_sem]
  have q1 : (w.alloc (.cells #[.slice none 0 0, .slice none 0 0] 24)).frozen? ⟨w.heap.size, 1, none⟩ = false := by simp [go_sem]
  have zA : w.heap.size + 1 ≤ (w.alloc (.cells #[.slice none 0 0, .slice none 0 0] 24)).heap.size := by simp
  cases hin : inR a 1 12 with
  | false =>
    obtain ⟨e1, e2, e3⟩ := ring_out1 (b := b) hin
    rw [e1, e2, e3]
    clear e1 e2 e3
    go_enter Try.func9, Try.ntmps9
    go_wp2_with (go_at_call 38; refine (within_any _ _ _ _).mono ?_; rintro e w' ⟨rfl, rfl⟩; (first | rw [hin] | rw [hin2]))
    generalize (w.alloc (.cells #[.slice none 0 0, .slice none 0 0] 24)) = A at *
    refine bodyPost_ret (v := .tuple #[.agg #[.slice none 0 0, .slice none 0 0], .int .i64 2]) (by simp [results, Try.results9, go_sem, r0, r1]) rfl ⟨_, _, rfl, OwnB.nil _ _ _ (by first | exact hX.size | (simp; omega)), hX⟩
  | true =>
    have hb := inR_iff.1 hin
    obtain ⟨n, rfl⟩ := Int.eq_ofNat_of_zero_le (a := a) (by omega)
    cases hin2 : inR b 0 ((n : Int) - 1) with
    | false =>
      obtain ⟨e1, e2, e3⟩ := ring_out2 (a := n) (b := b) hin2
      rw [e1, e2, e3]
      clear e1 e2 e3
      go_enter Try.func9, Try.ntmps9
      go_wp2_with (go_at_call 38; refine (within_any _ _ _ _).mono ?_; rintro e w' ⟨rfl, rfl⟩; (first | rw [hin] | rw [hin2]))
      generalize (w.alloc (.cells #[.slice none 0 0, .slice none 0 0] 24)) = A at *
      refine bodyPost_ret (v := .tuple #[.agg #[.slice none 0 0, .slice none 0 0], .int .i64 2]) (by simp [results, Try.results9, go_sem, r0, r1]) rfl ⟨_, _, rfl, OwnB.nil _ _ _ (by first | exact hX.size | (simp; omega)), hX⟩
    | true =>
      have hb2 := inR_iff.1 hin2
      obtain ⟨m, rfl⟩ := Int.eq_ofNat_of_zero_le (a := b) (by omega)
      have h1 : 1 ≤ n := by omega
      have h2 : n ≤ 12 := by omega
      have hm : m < n := by omega
      clear hb hb2
      have HLF := Lib.hid (length_mkT n (cycF n))
      have HLT := Lib.hid (length_mkT n (ringF n m))
      go_enter Try.func9, Try.ntmps9
      go_wp2_with (go_at_call 38; refine (within_any _ _ _ _).mono ?_; rintro e w' ⟨rfl, rfl⟩; (first | rw [hin] | rw [hin2]))
      generalize (w.alloc (.cells #[.slice none 0 0, .slice none 0 0] 24)) = A at *
      go_loop [6] (fun x => ∃ q : Nat, 2 ≤ q ∧ q ≤ 13 ∧ x = .int .i64 q ∧ NoBad n m q) (fun x => 13 - (intOf x).toNat)
      case atStart => exact ⟨2, by omega, by omega, rfl, NoBad.two n m⟩
      case round =>
        obtain ⟨q, hq2, hq, rfl, hnb⟩ := hrel
        have HNB := Lib.hid hnb
        clear hnb
        by_cases hqn : q ≤ n
        · have h12 : q ≤ 12 := by omega
          cases hp : isPr q with
          | false =>
            have HX := Lib.hid (badP_1 (n := n) (k := m) hp)
            go_wp2_with (go_at_call 39; refine (isPrime_any q _ h12).mono ?_; rintro e w' ⟨rfl, rfl⟩; rw [hp])
            go_round
            case rel => exact ⟨q + 1, by omega, by omega, by go_num, HNB.out.succ HX.out⟩
            case measure => simp [intOf]; omega
          | true =>
            cases hn0 : ((n : Int) % (q : Int) == 0) with
            | false =>
              have HX := Lib.hid (badP_2 (k := m) hn0)
              go_wp2_with (go_at_call 39; refine (isPrime_any q _ h12).mono ?_; rintro e w' ⟨rfl, rfl⟩; rw [hp])
              go_round
              case rel => exact ⟨q + 1, by omega, by omega, by go_num, HNB.out.succ HX.out⟩
              case measure => simp [intOf]; omega
            | true =>
              cases hk0 : ((m : Int) % (q : Int) != 0) with
              | false =>
                have HX := Lib.hid (badP_3 (n := n) hk0)
                go_wp2_with (go_at_call 39; refine (isPrime_any q _ h12).mono ?_; rintro e w' ⟨rfl, rfl⟩; rw [hp])
                go_round
                case rel => exact ⟨q + 1, by omega, by omega, by go_num, HNB.out.succ HX.out⟩
                case measure => simp [intOf]; omega
              | true =>
                obtain ⟨e1, e2, e3⟩ := ring_bad h1 h2 hm (good_no (by omega) (badP_yes hp hn0 hk0))
                rw [e1, e2, e3]
                clear e1 e2 e3
                go_wp2_with (go_at_call 39; refine (isPrime_any q _ h12).mono ?_; rintro e w' ⟨rfl, rfl⟩; rw [hp])
                refine bodyPost_ret (v := .tuple #[.agg #[.slice none 0 0, .slice none 0 0], .int .i64 5]) (by simp [results, Try.results9, go_sem, r0, r1]) rfl ⟨_, _, rfl, OwnB.nil _ _ _ (by first | exact hX.size | (simp; omega)), (hX.setNew (by simp only []; omega) _).setNew (by simp only []; omega) _⟩
        · obtain ⟨e1, e2, e3⟩ := ring_good h1 h2 hm (good_yes (HNB.out) (by omega))
          have E1 := Lib.hid e1
          have E2 := Lib.hid e2
          have E3 := Lib.hid e3
          clear e1 e2 e3
          have b0 : ((A.alloc (.cells #[.int .i64 n] 3)).alloc (.cells #[.int .i64 m] 3)).cell? ⟨A.heap.size, 0, none⟩ = some (.int .i64 n) := by simp [go_sem]
          have b1 : ((A.alloc (.cells #[.int .i64 n] 3)).alloc (.cells #[.int .i64 m] 3)).cell? ⟨A.heap.size + 1, 0, none⟩ = some (.int .i64 m) := by simp [go_sem]
          have hx : Ext A ((A.alloc (.cells #[.int .i64 n] 3)).alloc (.cells #[.int .i64 m] 3)) := ext_box2 A _ _ _ _
          have zA0 := zA
          have zz := Ext.size hx
          replace q0 := hx.free q0 (by simp only []; omega)
          replace q1 := hx.free q1 (by simp only []; omega)
          replace zA := Nat.le_trans zA zz
          replace hX := hX.trans hx
          replace r0 := hx.cell r0
          replace r1 := hx.cell r1
          clear hx zz
          go_wp2_with fail
          generalize ((A.alloc (.cells #[.int .i64 n] 3)).alloc (.cells #[.int .i64 m] 3)) = w2 at *
          have hX0 := Ext.refl w2
          have hfd := fieldGroup
          go_region_held3 (fun w' => w'.cell? ⟨A.heap.size, 0, none⟩ = some (.int .i64 n))
            ((first | (focus ((repeat first | (with_reducible assumption) | (with_reducible refine Ext.cell hxG ?_) | (with_reducible refine Ext.cell hxF ?_) |  (with_reducible exact kc_new) | ((with_reducible refine kc_newE ?_); (simp; done)) | ((with_reducible refine kc_newEa ?_); (simp; done)) | ((with_reducible refine kc_newEb ?_); (simp; done)) | (with_reducible apply kc_alloc) | (with_reducible apply kc_drewN) | (with_reducible apply kc_drew) | ((with_reducible refine kc_set ?_ ?_); (first | (simp only []; omega) | (simp; omega) | (focus (simp; done)))) | ((with_reducible refine kc_set2 ?_ ?_); (focus (simp; done))) | (with_reducible refine kc_same (v := .slice none 0 0) ?_)); done)) | (focus ((repeat first | (with_reducible assumption) | (with_reducible refine Ext.cell hxF ?_) | (with_reducible refine Ext.cell hxG ?_) |  (with_reducible exact kc_new) | ((with_reducible refine kc_newE ?_); (simp; done)) | ((with_reducible refine kc_newEa ?_); (simp; done)) | ((with_reducible refine kc_newEb ?_); (simp; done)) | (with_reducible apply kc_alloc) | (with_reducible apply kc_drewN) | (with_reducible apply kc_drew) | ((with_reducible refine kc_set ?_ ?_); (first | (simp only []; omega) | (simp; omega) | (focus (simp; done)))) | ((with_reducible refine kc_set2 ?_ ?_); (focus (simp; done))) | (with_reducible refine kc_same (v := .slice none 0 0) ?_)); done))))
            (first
              | (go_at_call 40; refine (cyclic_any n _ h1 h2).mono ?_; rintro e wF ⟨bF, cF, rfl, hoF, hxF⟩; rw [length_mkT]; replace r0 := hxF.cell (p := ⟨w.heap.size, 0, none⟩) (v := .slice none 0 0) (by (repeat first | (with_reducible assumption) | (with_reducible refine Ext.cell hxG ?_) |  (with_reducible exact kc_new) | ((with_reducible refine kc_newE ?_); (simp; done)) | ((with_reducible refine kc_newEa ?_); (simp; done)) | ((with_reducible refine kc_newEb ?_); (simp; done)) | (with_reducible apply kc_alloc) | (with_reducible apply kc_drewN) | (with_reducible apply kc_drew) | ((with_reducible refine kc_set ?_ ?_); (first | (simp only []; omega) | (simp; omega) | (focus (simp; done)))) | ((with_reducible refine kc_set2 ?_ ?_); (focus (simp; done))) | (with_reducible refine kc_same (v := .slice none 0 0) ?_))); replace r1 := hxF.cell (p := ⟨w.heap.size, 1, none⟩) (v := .slice none 0 0) (by (repeat first | (with_reducible assumption) | (with_reducible refine Ext.cell hxG ?_) |  (with_reducible exact kc_new) | ((with_reducible refine kc_newE ?_); (simp; done)) | ((with_reducible refine kc_newEa ?_); (simp; done)) | ((with_reducible refine kc_newEb ?_); (simp; done)) | (with_reducible apply kc_alloc) | (with_reducible apply kc_drewN) | (with_reducible apply kc_drew) | ((with_reducible refine kc_set ?_ ?_); (first | (simp only []; omega) | (simp; omega) | (focus (simp; done)))) | ((with_reducible refine kc_set2 ?_ ?_); (focus (simp; done))) | (with_reducible refine kc_same (v := .slice none 0 0) ?_))); replace q0 := hxF.free (p := ⟨w.heap.size, 0, none⟩) (by (repeat first | (with_reducible assumption) | ((with_reducible refine Ext.free hxG ?_ ?_); rotate_left; (first | (simp only []; omega) | (simp; omega)); rotate_left)  | (with_reducible apply kf_drew) | (with_reducible apply kf_drewN) | (with_reducible apply kf_set) | ((with_reducible refine kf_alloc ?_ ?_); (first | (simp only []; omega) | (simp; omega))))) (by first | (simp only []; omega) | (simp; omega)); replace q1 := hxF.free (p := ⟨w.heap.size, 1, none⟩) (by (repeat first | (with_reducible assumption) | ((with_reducible refine Ext.free hxG ?_ ?_); rotate_left; (first | (simp only []; omega) | (simp; omega)); rotate_left)  | (with_reducible apply kf_drew) | (with_reducible apply kf_drewN) | (with_reducible apply kf_set) | ((with_reducible refine kf_alloc ?_ ?_); (first | (simp only []; omega) | (simp; omega))))) (by first | (simp only []; omega) | (simp; omega)); have zF := hxF.size; (try simp only [size_drew] at zF))
              | (go_at_call 41; refine (tableBy_any n (ringF n m) 42 #[.pointer (some ⟨A.heap.size + 1, 0, none⟩), .pointer (some ⟨A.heap.size, 0, none⟩)] _ (by omega) callRing1 (fun w1 x y hx hxn hyn => by rw [app22]; exact ring1_any n m x y _ _ w1 (hx.cell (by (repeat first | (with_reducible assumption) | (with_reducible refine Ext.cell hxF ?_) |  (with_reducible exact kc_new) | ((with_reducible refine kc_newE ?_); (simp; done)) | ((with_reducible refine kc_newEa ?_); (simp; done)) | ((with_reducible refine kc_newEb ?_); (simp; done)) | (with_reducible apply kc_alloc) | (with_reducible apply kc_drewN) | (with_reducible apply kc_drew) | ((with_reducible refine kc_set ?_ ?_); (first | (simp only []; omega) | (simp; omega) | (focus (simp; done)))) | ((with_reducible refine kc_set2 ?_ ?_); (focus (simp; done))) | (with_reducible refine kc_same (v := .slice none 0 0) ?_)))) (hx.cell (by (repeat first | (with_reducible assumption) | (with_reducible refine Ext.cell hxF ?_) |  (with_reducible exact kc_new) | ((with_reducible refine kc_newE ?_); (simp; done)) | ((with_reducible refine kc_newEa ?_); (simp; done)) | ((with_reducible refine kc_newEb ?_); (simp; done)) | (with_reducible apply kc_alloc) | (with_reducible apply kc_drewN) | (with_reducible apply kc_drew) | ((with_reducible refine kc_set ?_ ?_); (first | (simp only []; omega) | (simp; omega) | (focus (simp; done)))) | ((with_reducible refine kc_set2 ?_ ?_); (focus (simp; done))) | (with_reducible refine kc_same (v := .slice none 0 0) ?_)))) h1 h2 hm hxn hyn)).mono ?_; rintro e wG ⟨bG, cG, rfl, hoG, hxG⟩; rw [length_mkT]; replace r0 := hxG.cell (p := ⟨w.heap.size, 0, none⟩) (v := .slice none 0 0) (by (repeat first | (with_reducible assumption) | (with_reducible refine Ext.cell hxF ?_) |  (with_reducible exact kc_new) | ((with_reducible refine kc_newE ?_); (simp; done)) | ((with_reducible refine kc_newEa ?_); (simp; done)) | ((with_reducible refine kc_newEb ?_); (simp; done)) | (with_reducible apply kc_alloc) | (with_reducible apply kc_drewN) | (with_reducible apply kc_drew) | ((with_reducible refine kc_set ?_ ?_); (first | (simp only []; omega) | (simp; omega) | (focus (simp; done)))) | ((with_reducible refine kc_set2 ?_ ?_); (focus (simp; done))) | (with_reducible refine kc_same (v := .slice none 0 0) ?_))); replace r1 := hxG.cell (p := ⟨w.heap.size, 1, none⟩) (v := .slice none 0 0) (by (repeat first | (with_reducible assumption) | (with_reducible refine Ext.cell hxF ?_) |  (with_reducible exact kc_new) | ((with_reducible refine kc_newE ?_); (simp; done)) | ((with_reducible refine kc_newEa ?_); (simp; done)) | ((with_reducible refine kc_newEb ?_); (simp; done)) | (with_reducible apply kc_alloc) | (with_reducible apply kc_drewN) | (with_reducible apply kc_drew) | ((with_reducible refine kc_set ?_ ?_); (first | (simp only []; omega) | (simp; omega) | (focus (simp; done)))) | ((with_reducible refine kc_set2 ?_ ?_); (focus (simp; done))) | (with_reducible refine kc_same (v := .slice none 0 0) ?_))); replace q0 := hxG.free (p := ⟨w.heap.size, 0, none⟩) (by (repeat first | (with_reducible assumption) | ((with_reducible refine Ext.free hxF ?_ ?_); rotate_left; (first | (simp only []; omega) | (simp; omega)); rotate_left)  | (with_reducible apply kf_drew) | (with_reducible apply kf_drewN) | (with_reducible apply kf_set) | ((with_reducible refine kf_alloc ?_ ?_); (first | (simp only []; omega) | (simp; omega))))) (by first | (simp only []; omega) | (simp; omega)); replace q1 := hxG.free (p := ⟨w.heap.size, 1, none⟩) (by (repeat first | (with_reducible assumption) | ((with_reducible refine Ext.free hxF ?_ ?_); rotate_left; (first | (simp only []; omega) | (simp; omega)); rotate_left)  | (with_reducible apply kf_drew) | (with_reducible apply kf_drewN) | (with_reducible apply kf_set) | ((with_reducible refine kf_alloc ?_ ?_); (first | (simp only []; omega) | (simp; omega))))) (by first | (simp only []; omega) | (simp; omega)); have zG := hxG.size; (try simp only [size_drew] at zG)))
          all_goals
            go_wp2
          · first
            | exact bodyPost_ret (v := .tuple #[.agg #[.slice (some ⟨bF, 0, none⟩) n cF, .slice (some ⟨bG, 0, none⟩) n cG], .int .i64 0]) (by simp [results, Try.results9, go_sem, r0, r1]) rfl ⟨_, _, by rw [E3.out], by rw [E1.out, E2.out]; exact ⟨w2.drew.heap.size, wF.heap.size, wF.heap.size, wG.heap.size, by simp only [size_drew]; omega, by simp; omega, by omega, by simp, .inl (Nat.le_refl _), (by have h := ((OwnV.ext (hoF.v (small_mkT (by omega) _) cF) hxG (Nat.le_refl _)).set2 (B := w.heap.size) (by simp only [size_drew]; omega) (.slice (some ⟨bF, 0, none⟩) n cF) (.slice (some ⟨bG, 0, none⟩) n cG)); rw [length_mkT] at h; exact h), (by have h := ((hoG.v (small_mkT (by omega) _) cG).set2 (B := w.heap.size) (by omega) (.slice (some ⟨bF, 0, none⟩) n cF) (.slice (some ⟨bG, 0, none⟩) n cG)); rw [length_mkT] at h; exact h)⟩, (((hX.drew.trans hxF).trans hxG).setNew (by simp only []; omega) _).setNew (by simp only []; omega) _⟩
            | exact bodyPost_ret (v := .tuple #[.agg #[.slice (some ⟨bF, 0, none⟩) n cF, .slice (some ⟨bG, 0, none⟩) n cG], .int .i64 0]) (by simp [results, Try.results9, go_sem, r0, r1]) rfl ⟨_, _, by rw [E3.out], by rw [E1.out, E2.out]; exact ⟨wG.heap.size, wF.heap.size, w2.drew.heap.size, wG.heap.size, by omega, by simp, by simp only [size_drew]; omega, by simp; omega, .inr (Nat.le_refl _), (by have h := ((hoF.v (small_mkT (by omega) _) cF).set2 (B := w.heap.size) (by omega) (.slice (some ⟨bF, 0, none⟩) n cF) (.slice (some ⟨bG, 0, none⟩) n cG)); rw [length_mkT] at h; exact h), (by have h := ((OwnV.ext (hoG.v (small_mkT (by omega) _) cG) hxF (Nat.le_refl _)).set2 (B := w.heap.size) (by simp only [size_drew]; omega) (.slice (some ⟨bF, 0, none⟩) n cF) (.slice (some ⟨bG, 0, none⟩) n cG)); rw [length_mkT] at h; exact h)⟩, (((hX.drew.trans hxG).trans hxF).setNew (by simp only []; omega) _).setNew (by simp only []; omega) _⟩
          · first
            | exact bodyPost_ret (v := .tuple #[.agg #[.slice (some ⟨bF, 0, none⟩) n cF, .slice (some ⟨bG, 0, none⟩) n cG], .int .i64 0]) (by simp [results, Try.results9, go_sem, r0, r1]) rfl ⟨_, _, by rw [E3.out], by rw [E1.out, E2.out]; exact ⟨w2.drew.heap.size, wF.heap.size, wF.heap.size, wG.heap.size, by simp only [size_drew]; omega, by simp; omega, by omega, by simp, .inl (Nat.le_refl _), (by have h := ((OwnV.ext (hoF.v (small_mkT (by omega) _) cF) hxG (Nat.le_refl _)).set2 (B := w.heap.size) (by simp only [size_drew]; omega) (.slice (some ⟨bF, 0, none⟩) n cF) (.slice (some ⟨bG, 0, none⟩) n cG)); rw [length_mkT] at h; exact h), (by have h := ((hoG.v (small_mkT (by omega) _) cG).set2 (B := w.heap.size) (by omega) (.slice (some ⟨bF, 0, none⟩) n cF) (.slice (some ⟨bG, 0, none⟩) n cG)); rw [length_mkT] at h; exact h)⟩, (((hX.drew.trans hxF).trans hxG).setNew (by simp only []; omega) _).setNew (by simp only []; omega) _⟩
            | exact bodyPost_ret (v := .tuple #[.agg #[.slice (some ⟨bF, 0, none⟩) n cF, .slice (some ⟨bG, 0, none⟩) n cG], .int .i64 0]) (by simp [results, Try.results9, go_sem, r0, r1]) rfl ⟨_, _, by rw [E3.out], by rw [E1.out, E2.out]; exact ⟨wG.heap.size, wF.heap.size, w2.drew.heap.size, wG.heap.size, by omega, by simp, by simp only [size_drew]; omega, by simp; omega, .inr (Nat.le_refl _), (by have h := ((hoF.v (small_mkT (by omega) _) cF).set2 (B := w.heap.size) (by omega) (.slice (some ⟨bF, 0, none⟩) n cF) (.slice (some ⟨bG, 0, none⟩) n cG)); rw [length_mkT] at h; exact h), (by have h := ((OwnV.ext (hoG.v (small_mkT (by omega) _) cG) hxF (Nat.le_refl _)).set2 (B := w.heap.size) (by simp only [size_drew]; omega) (.slice (some ⟨bF, 0, none⟩) n cF) (.slice (some ⟨bG, 0, none⟩) n cG)); rw [length_mkT] at h; exact h)⟩, (((hX.drew.trans hxG).trans hxF).setNew (by simp only []; omega) _).setNew (by simp only []; omega) _⟩

end Go.Proofs.Ytjhfieegkgndfaa
