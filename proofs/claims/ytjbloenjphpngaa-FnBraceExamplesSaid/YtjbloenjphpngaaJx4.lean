/-
  Contract of tableBy: the table of the values of a function.
-/
import Derived.Test.YtjbloenjphpngaaProg
import Derived.Deep.DeepCutAuto
import Derived.Deep.RegionWith
import Derived.Test.YtjbloenjphpngaaJx0
import Derived.Test.YtjbloenjphpngaaJx1
import Derived.Test.YtjbloenjphpngaaJx2
import Derived.Test.YtjbloenjphpngaaJx3
namespace Go.Proofs.Ytjbloenjphpngaa
set_option linter.unusedVariables false
set_option linter.unusedSimpArgs false
open Go.RowKit

/-- the table of the values of f -/
@[irreducible] def mkT (n : Nat) (f : Nat → Nat → Int) : List (List Int) := (List.range n).map fun x => (List.range n).map fun y => f x y
theorem length_mkT (n : Nat) (f : Nat → Nat → Int) : (mkT n f).length = n := by unfold mkT; simp
/-- a row of which the first j entries are there -/
@[irreducible] def partRow (f : Nat → Nat → Int) (n x j : Nat) : List Int := (List.range n).map fun y => if y < j then f x y else 0
theorem length_partRow (f : Nat → Nat → Int) (n x j : Nat) : (partRow f n x j).length = n := by unfold partRow; simp
theorem ix_partRow (f : Nat → Nat → Int) (n x j y : Nat) (h : y < n) : ix (partRow f n x j) y = if y < j then f x y else 0 := by
  rw [ix_eq]; unfold partRow; simp [List.getD, h]
theorem row_mkT (n : Nat) (f : Nat → Nat → Int) (x : Nat) (h : x < n) : row (mkT n f) x = partRow f n x n := by
  apply ix_ext
  · rw [length_partRow, row_eq]; unfold mkT; simp [List.getD, h]
  · intro y hy
    have hy' : y < n := by rw [row_eq] at hy; unfold mkT at hy; simpa [List.getD, h] using hy
    rw [ix_partRow _ _ _ _ _ hy', if_pos hy', ix_eq, row_eq]; unfold mkT; simp [List.getD, h, hy']
theorem ent_mkT (n : Nat) (f : Nat → Nat → Int) (x y : Nat) (hx : x < n) (hy : y < n) : ent (mkT n f) x y = f x y := by
  rw [← ent_def, row_mkT _ _ _ hx, ix_partRow _ _ _ _ _ hy, if_pos hy]
theorem small_mkT {n : Nat} (hn : n ≤ 1048576) (f : Nat → Nat → Int) : Small (mkT n f) := ⟨by rw [length_mkT]; exact hn, fun i => by
  by_cases h : i < n
  · rw [row_mkT _ _ _ h, length_partRow]; exact hn
  · rw [row_eq]; unfold mkT; simp [List.getD, h]⟩

/-- the rows while row k is made: j entries of it are there -/
def making (f : Nat → Nat → Int) (n k j : Nat) (i : Nat) : List Int := if i = k then partRow f n k j else partRow f n i n

theorem making_other (f : Nat → Nat → Int) (n k j i : Nat) (h : i ≠ k) : making f n k j i = partRow f n i n := by unfold making; rw [if_neg h]
theorem making_own (f : Nat → Nat → Int) (n k j : Nat) : making f n k j k = partRow f n k j := by unfold making; rw [if_pos rfl]
theorem making_all (f : Nat → Nat → Int) (n k i : Nat) : making f n k n i = partRow f n i n := by
  unfold making
  by_cases h : i = k
  · subst h; rw [if_pos rfl]
  · rw [if_neg h]
set_option maxRecDepth 100000 in
theorem tableBy_any (n : Nat) (f : Nat → Nat → Int) (F : Nat) (cap : Array Value) (w : World) (hn : n ≤ 1048576)
    (hcall : ∀ (args : Array Value) (w : World), (callFunc F args).run Try.prog w = .ok (.enter F args) w)
    (hf : ∀ w1 x y, Ext w w1 → x < n → y < n → Calls Try.prog F (#[.int .i64 (x : Nat), .int .i64 (y : Nat)] ++ cap) w1 fun e w' => e = .returned (.int .i64 (f x y)) ∧ Ext w1 w') :
    Calls Try.prog 52 #[.int .i64 n, .func (.func F) #[] cap] w (NewT (mkT n f) w) := by
  have HF := Lib.hid hf
  clear hf
  have hmk := run_make_row' (P := Try.prog) 24 28 (.slice none 0 0) 24 Try.underlying24 infoSl rfl .i64 .i64 n (by omega) (by omega)
  go_enter Try.func52, Try.ntmps52
  go_wp2_with fail
  clear hmk
  have hx0 : Ext w (w.alloc (.cells (madeCells #[Value.slice none 0 0] n) 28)) := (Ext.refl _).alloc _
  have hr0 := World.rowIs_made w (.slice none 0 0) n 28
  go_loopw [12] (fun i wr => ∃ k : Nat, k ≤ n ∧ i = .int .i64 k ∧ Build wr w.heap.size 28 n k (fun i => partRow f n i n) ∧ Ext w wr) (fun i _ => n - (intOf i).toNat)
  case atStart => exact ⟨0, Nat.zero_le _, rfl, Build.zero _ hr0, hx0⟩
  case round =>
    clear hx0 hr0
    obtain ⟨k, hk, rfl, hb, hx⟩ := hrel
    by_cases hlt : k < n
    case neg =>
      go_wp2
      go_ret
      exact ⟨w.heap.size, n, by rw [length_mkT]; rfl, hb.done (fun i hi => (row_mkT _ _ _ (by rw [length_mkT] at hi; exact hi)).symm) (by rw [length_mkT]; omega) (by rw [length_mkT]; omega) (Nat.le_refl _) (Nat.le_refl _), hx⟩
    case pos =>
      have hmk := run_make_row' (P := Try.prog) 28 2 (.int .i64 0) 8 Try.underlying28 infoInt rfl .i64 .i64 n (by omega) (by omega)
      have hlb := hb.lt
      have e1 := hb.cell hlt (Nat.le_refl _)
      have e2 := hb.frozen k
      go_wp2
      clear hmk e1 e2
      obtain ⟨w2, rfl⟩ : ∃ w2 : World, w2 = wr := ⟨_, rfl⟩
      have hxa : Ext w2 (w2.alloc (.cells (madeCells #[Value.int .i64 0] n) 2)) := (Ext.refl _).alloc _
      have hra := World.rowIs_made w2 (.int .i64 0) n 2
      have hb0 : Build ((w2.alloc (.cells (madeCells #[Value.int .i64 0] n) 2)).setCell ⟨w.heap.size, k, none⟩ (.slice (some ⟨w2.heap.size, 0, none⟩) n n)) w.heap.size 28 n (k + 1) (making f n k 0) :=
        (hb.congr (fun i hi => (making_other f n k 0 i (by omega)).symm)).succ hxa (by
          rw [making_own]
          exact ownI_of_row hra (by rw [length_partRow]; exact Nat.le_refl _) (fun i hi => by rw [ix_partRow _ _ _ _ _ (by rw [length_partRow] at hi; exact hi)]; rfl) (Nat.le_refl _) hra.lt) (by rw [making_own, length_partRow])
      have hc0 : ((w2.alloc (.cells (madeCells #[Value.int .i64 0] n) 2)).setCell ⟨w.heap.size, k, none⟩ (.slice (some ⟨w2.heap.size, 0, none⟩) n n)).cell? ⟨w.heap.size, k, none⟩ = some (.slice (some ⟨w2.heap.size, 0, none⟩) n n) :=
        World.cell?_setCell_same _ _ _ (hxa.cell (hb.cell hlt (Nat.le_refl _)))
      have hx0 : Ext w ((w2.alloc (.cells (madeCells #[Value.int .i64 0] n) 2)).setCell ⟨w.heap.size, k, none⟩ (.slice (some ⟨w2.heap.size, 0, none⟩) n n)) := (hx.trans hxa).setNew (Nat.le_refl _) _
      rw [World.setCell_alloc_past _ _ _ _ hlb] at hb0 hc0 hx0
      clear hxa hra hb hx
      go_loopw [25] (fun i wr => ∃ j : Nat, j ≤ n ∧ i = .int .i64 j ∧ Build wr w.heap.size 28 n (k + 1) (making f n k j) ∧ wr.cell? ⟨w.heap.size, k, none⟩ = some (.slice (some ⟨w2.heap.size, 0, none⟩) n n) ∧ Ext w wr) (fun i _ => n - (intOf i).toNat)
      case atStart => exact ⟨0, Nat.zero_le _, rfl, hb0, hc0, hx0⟩
      case round =>
        clear hb0 hc0 hx0
        obtain ⟨j, hj, rfl, hb, hc, hx⟩ := hrel
        by_cases hjl : j < n
        case neg =>
          go_wp2
          go_roundw
          case rel => exact ⟨k + 1, by omega, by go_num, hb.congr (fun i _ => by
            have : j = n := by omega
            subst this
            exact making_all f j k i), hx⟩
          case measure => simp [intOf]; omega
        case pos =>
          have hlen : (making f n k j k).length = n := by rw [making_own, length_partRow]
          go_wp2
          obtain ⟨b1, c1, hrc, hro⟩ := hb.row (k0 := k) (by omega) hlt
          rw [hc, hlen] at hrc
          simp only [Option.some.injEq, Value.slice.injEq, Addr.mk.injEq, and_true, true_and] at hrc
          obtain ⟨rfl, rfl⟩ := hrc
          have r1 := hro.2.2.1 j (by rw [hlen]; exact hjl)
          have r2 := hro.2.2.2 j (by rw [hlen]; exact hjl)
          have r3 := hro.2.1
          rw [Nat.zero_add] at r1 r2
          generalize ix (making f n k j k) j = z at r1
          clear hro
          have HL := Lib.hid hlen
          clear hlen
          go_region_with (refine (HF.out _ k j hx.drew hlt hjl).mono ?_; rintro e w3 ⟨rfl, hx3⟩; have d0 := hx3.cell (show wr.drew.cell? _ = some _ from hc); have d1 := hx3.cell (show wr.drew.cell? _ = some _ from r1); have d2 := hx3.free (show wr.drew.frozen? _ = false from r2) r3)
          all_goals
            go_wp2
            go_roundw
            case rel => exact ⟨j + 1, by omega, by go_num, hb.store (k0 := k) (by omega) hlt (by rw [HL.out]; exact hc) ((Ext.drew (Ext.refl _)).trans hx3) j _ (by rw [HL.out]; exact hjl) (fun i hi => by rw [making_other _ _ _ _ _ hi, making_other _ _ _ _ _ hi]) (by rw [making_own, making_own, length_partRow, length_partRow]) (fun i hi hi2 => by
                rw [HL.out] at hi2
                rw [making_own, making_own, ix_partRow _ _ _ _ _ hi2, ix_partRow _ _ _ _ _ hi2]
                by_cases h : i < j
                · rw [if_pos h, if_pos (by omega)]
                · rw [if_neg h, if_neg (by omega)]) (by rw [making_own, ix_partRow _ _ _ _ _ hjl, if_pos (by omega)]), by rw [World.cell?_setCell_other _ _ _ _ (fun h => by have := congrArg Addr.block h; simp only [] at this; omega)]; exact d0, ((hx.drew).trans hx3).setNew (by simp only []; omega) _⟩
            case measure => simp [intOf]; omega
end Go.Proofs.Ytjbloenjphpngaa
