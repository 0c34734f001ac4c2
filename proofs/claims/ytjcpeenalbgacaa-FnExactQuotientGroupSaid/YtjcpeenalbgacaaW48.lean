/-
  Contracts of ClassesOf: reference and program; numbering, orbits.
-/
import Derived.Test.YtjcpeenalbgacaaProg
import Derived.Deep.DeepCutAuto
import Derived.Deep.RegionWith
import Derived.Deep.RegionHeld3
import Derived.Deep.DrawnRows
import Derived.Test.YtjcpeenalbgacaaBase
import Derived.Test.YtjcpeenalbgacaaBase2
import Derived.Test.YtjcpeenalbgacaaRet
import Derived.Test.YtjcpeenalbgacaaSteps
import Derived.Test.YtjcpeenalbgacaaGrow
import Derived.Test.YtjcpeenalbgacaaGrowR
import Derived.Test.YtjcpeenalbgacaaPure1
import Derived.Test.YtjcpeenalbgacaaPureOrd
import Derived.Test.YtjcpeenalbgacaaPureInv
import Derived.Test.YtjcpeenalbgacaaPureTurn
import Derived.Test.YtjcpeenalbgacaaPureConj
import Derived.Test.YtjcpeenalbgacaaPureSet
import Derived.Test.YtjcpeenalbgacaaPureNorm
import Derived.Test.YtjcpeenalbgacaaPureNum
import Derived.Test.YtjcpeenalbgacaaPureCls
import Derived.Test.YtjcpeenalbgacaaW1
import Derived.Test.YtjcpeenalbgacaaW3
import Derived.Test.YtjcpeenalbgacaaW6
import Derived.Test.YtjcpeenalbgacaaW8
import Derived.Test.YtjcpeenalbgacaaW11
import Derived.Test.YtjcpeenalbgacaaW12
import Derived.Test.YtjcpeenalbgacaaW13
import Derived.Test.YtjcpeenalbgacaaW20
import Derived.Test.YtjcpeenalbgacaaW33
import Derived.Test.YtjcpeenalbgacaaW41
import Derived.Test.YtjcpeenalbgacaaK3
namespace Go.Proofs.Ytjcpeenalbgacaa
set_option linter.unusedVariables false
set_option linter.unusedSimpArgs false
open Go.RowKit
attribute [local go_sem ↓] Go.wp_at_zero Go.wp_at_succ

/-- the numbers below n -/
@[irreducible] def idL (n : Nat) : List Int := mkL n (fun i => (i : Int))
theorem length_idL (n : Nat) : (idL n).length = n := by unfold idL; exact length_mkL _ _
theorem ix_idL (n i : Nat) (h : i < n) : ix (idL n) i = (i : Int) := by unfold idL; exact ix_mkL _ _ _ h

theorem slicesIndex_r (l : List Int) (v : Value) (n : Int) (w : World) (hv : IntsR w v l) (hlen : l.length ≤ 1048576) :
    Calls Try.prog 144 #[v, .int .i64 n] w fun e w' => e = .returned (.int .i64 (indexOf l n)) ∧ w = w' := by
  obtain ⟨a, c, rfl, hr⟩ := hv
  have HR := Lib.hid hr
  clear hr
  go_enter Try.func144, Try.ntmps144
  go_wp2
  go_loop [8] (fun i => ∃ k : Nat, k ≤ l.length ∧ i = .int .i64 k ∧ indexOf l n = indexFrom n (l.drop k) k) (fun i => l.length - (intOf i).toNat)
  case atStart => exact ⟨0, Nat.zero_le _, rfl, by unfold indexOf; rfl⟩
  case round =>
    obtain ⟨k, hk, rfl, hr⟩ := hrel
    have Hr := Lib.hid hr
    clear hr
    by_cases hlt : k < l.length
    · obtain ⟨b, o, rfl, hc⟩ := HR.out (ne_nil_of_lt hlt)
      have hcell := hc k hlt
      clear hc
      by_cases he : (n == ix l k) = true
      · go_wp2
        go_ret
        exact ⟨ret_int (by rw [Hr.out, indexFrom_hit l n k hlt (eq_of_beq he).symm]), rfl⟩
      · have he' : (n == ix l k) = false := by simpa using he
        have hne : ¬ ix l k = n := fun h => he (by rw [h]; exact beq_self_eq_true n)
        have HN := Lib.hid hne
        clear he hne
        go_wp2
        go_round
        case rel => exact ⟨k + 1, by omega, by go_num, by rw [Hr.out, indexFrom_miss l n k hlt HN.out]⟩
        case measure => simp [intOf]; omega
    · go_wp2
      go_ret
      exact ⟨ret_int (by rw [Hr.out, indexFrom_end l n k (by omega)]), rfl⟩

set_option maxRecDepth 100000 in
theorem numbered_any (l : List Int) (v : Value) (w : World) (hv : Ints w v l) :
    Calls Try.prog 126 #[v] w fun e w' => ∃ b c, e = .returned (.slice (some ⟨b, 0, none⟩) l.length c) ∧ OwnI w.heap.size w'.heap.size w' b 0 (numL l) ∧ Ext w w' := by
  obtain ⟨hlen, b, o, c, rfl, hc⟩ := id hv
  have hmk := run_make_row' (P := Try.prog) 26 2 (.int .i64 0) 8 Try.underlying26 infoInt rfl .i64 .i64 l.length (by omega) (by omega)
  go_enter Try.func126, Try.ntmps126
  go_wp2_with fail
  clear hmk
  have hx0 : Ext w (w.alloc (.cells (madeCells #[Value.int .i64 0] l.length) 2)) := (Ext.refl _).alloc _
  have hr0 := World.rowIs_made w (.int .i64 0) l.length 2
  have hz0 : w.heap.size + 1 = (w.alloc (.cells (madeCells #[Value.int .i64 0] l.length) 2)).heap.size := by simp
  go_loopw [3, 13] (fun s i wr => ∃ k : Nat, k ≤ l.length ∧ i = .int .i64 k ∧ GrowI 2 (w.heap.size + 1) wr s (seenTo l k) ∧ wr.rowIs w.heap.size 2 l.length (fun i => .int .i64 (copyTo (numL l) k i)) ∧ Ext w wr ∧ w.heap.size + 1 ≤ wr.heap.size) (fun _ i _ => l.length - (intOf i).toNat)
  case atStart => exact ⟨0, Nat.zero_le _, rfl, GrowI.nil _ _ _, hr0.congr (fun i hi => by rw [copyTo_zero]), hx0, by omega⟩
  case round =>
    clear hx0 hr0 hz0
    obtain ⟨k, hk, rfl, hs, hrow, hx, hz⟩ := hrel
    have hsl := seenTo_len l k
    by_cases hlt : k < l.length
    case neg =>
      go_wp2
      go_ret
      have hkk : k = l.length := by omega
      subst hkk
      exact ⟨w.heap.size, l.length, rfl, ownI_of_row hrow (by rw [length_numL]; omega) (fun i hi => by rw [length_numL] at hi; rw [copyTo_all _ _ _ hi]) (Nat.le_refl _) hrow.lt, hx⟩
    case pos =>
      have hsr := Lib.hid ((hs.ownIV (hi := wr.heap.size) (by omega) (Nat.le_refl _)).toR)
      have e1 := (hc.ext hx) k hlt
      have e2 := hrow.cell hlt
      have e3 := hrow.frozen k
      obtain ⟨sa, sc, rfl⟩ := hs.slice
      cases hb : hasB (seenTo l k) (ix l k) with
      | true =>
        have hpos := hasB_iff.1 hb
        have HO := Lib.hid (numF_old hb)
        have HS := Lib.hid (seenTo_old hb)
        go_wp2_with (go_at_call 144; refine (slicesIndex_r (seenTo l k) _ _ _ hsr.out (by omega)).mono ?_; rintro e w' ⟨rfl, rfl⟩)
        go_roundw
        case rel => exact ⟨k + 1, by omega, by go_num, by rw [HS.out]; exact ⟨hs.1, by
            rcases hs.2 with h1 | ⟨g, cap, cur, h1, h2, h3, h4⟩
            · exact .inl h1
            · exact .inr ⟨g, cap, cur, h1, h2, by rw [Below.heap_setCell _ _ _ _ (by simp only []; omega)]; exact h3, h4⟩⟩, (hrow.set k (.int .i64 (indexOf (seenTo l k) (ix l k)))).congr (fun i hi => by rw [copyTo_succ, ix_numL _ _ hlt, HO.out]; split <;> rfl), hx.setNew (Nat.le_refl _) _, by simpa using hz⟩
        case measure => simp [intOf]; omega
      | false =>
        have hneg : indexOf (seenTo l k) (ix l k) < 0 := by have := hasB_no.1 hb; omega
        have HO := Lib.hid (numF_new hb)
        have HS := Lib.hid (seenTo_new hb)
        have hlt2 : w.heap.size < wr.heap.size := by omega
        go_wp2_with (first | (go_at_call 144; refine (slicesIndex_r (seenTo l k) _ _ _ hsr.out (by omega)).mono ?_; rintro e w' ⟨rfl, rfl⟩) | (at_builtin; refine wpList_append_int rfl _ _ 26 2 rfl Try.underlying26 infoInt (w.heap.size + 1) _ _ rfl (hs.alloc _) _ _ rfl (cell_new _ _ _) (by omega) (by simp; omega) ?_))
        intro v' w3 hi3 hgr hv3
        have hrow3 : w3.rowIs w.heap.size 2 l.length (fun i => .int .i64 (copyTo (numL l) k i)) := hrow.of_block (by
          rw [hgr.block w.heap.size (by simp; omega) (fun e => by have := (World.ownsRow.lt hs _ e.symm).1; omega)]
          exact (ext_box wr _ _).block _ hlt2)
        have hx3 : Ext w w3 := Ext.grown (hx.trans (ext_box _ _ _)) hgr (hs.alloc _) (by omega)
        have hz3 := hgr.size
        have e4 := hrow3.cell hlt
        have e5 := hrow3.frozen k
        clear hgr hs hrow e2 e3
        go_wp2
        go_roundw
        case rel => exact ⟨k + 1, by omega, by go_num, by rw [HS.out]; exact ⟨hi3.1, by
            rcases hi3.2 with h1 | ⟨g, cap, cur, h1, h2, h3, h4⟩
            · exact .inl h1
            · exact .inr ⟨g, cap, cur, h1, h2, by rw [Below.heap_setCell _ _ _ _ (by simp only []; omega)]; exact h3, h4⟩⟩, (hrow3.set k (.int .i64 ((seenTo l k).length : Int))).congr (fun i hi => by rw [copyTo_succ, ix_numL _ _ hlt, HO.out]; split <;> rfl), hx3.setNew (Nat.le_refl _) _, by simp at hz3 ⊢; omega⟩
        case measure => simp [intOf]; omega

end Go.Proofs.Ytjcpeenalbgacaa
