/-
  Contracts of the texts of lists: reference and program.
-/
import Derived.Laws.IdiomStrings
import Derived.Laws.Concat
import Derived.Test.YtjfjpngajboidaaGreatKx33
namespace Go.Proofs.YtjfjpngajboidaaGreat
set_option linter.unusedVariables false
set_option linter.unusedSimpArgs false
open Go.RowKit
attribute [local go_sem ↓] Go.wp_at_zero Go.wp_at_succ

def strB (l : List UInt8) : ByteArray := ⟨l.toArray⟩
theorem strB_size (l : List UInt8) : (strB l).size = l.length := bytes_size l
/-! ### the program -/
set_option maxRecDepth 100000 in
theorem elem_digit {x : Nat} (h : x < 12) (w : World) : (Instr.index 9 (.string ⟨#[48, 49, 50, 51, 52, 53, 54, 55, 56, 57, 97, 98]⟩) (.int .i64 x)).run Tryz.prog w = .ok (.int .u8 ((digB x).toNat : Int)) w := by
  by_cases h10 : x < 10
  · rw [digB_lo h10]
    rcases (show x = 0 ∨ x = 1 ∨ x = 2 ∨ x = 3 ∨ x = 4 ∨ x = 5 ∨ x = 6 ∨ x = 7 ∨ x = 8 ∨ x = 9 by omega) with rfl | rfl | rfl | rfl | rfl | rfl | rfl | rfl | rfl | rfl <;> kernel_rfl
  · rw [digB_hi (by omega) h]
    rcases (show x = 10 ∨ x = 11 by omega) with rfl | rfl <;> kernel_rfl

theorem infoByte : (Tryz.prog.info? 5).map (fun i => (i.zero, i.size, i.bytes)) = some (some (.int .u8 0), 1, 1) := by kernel_rfl

@[irreducible] def digTo (l : List Int) (k i : Nat) : Value := if i < k then .int .u8 ((digB (ix l i)).toNat : Int) else .int .u8 0
theorem digTo_zero (l : List Int) (i : Nat) : digTo l 0 i = .int .u8 0 := by unfold digTo; simp
theorem digTo_in (l : List Int) (k i : Nat) (h : i < k) : digTo l k i = .int .u8 ((digB (ix l i)).toNat : Int) := by unfold digTo; rw [if_pos h]
theorem digTo_succ (l : List Int) (k i : Nat) : digTo l (k + 1) i = if i = k then .int .u8 ((digB (ix l k)).toNat : Int) else digTo l k i := by
  unfold digTo
  by_cases h : i = k
  · subst h; simp
  · rw [if_neg h]
    by_cases h2 : i < k
    · rw [if_pos h2, if_pos (by omega)]
    · rw [if_neg h2, if_neg (by omega)]

theorem digitsText_any (l : List Int) (v : Value) (w : World) (hv : Ints w v l) (h12 : l.length ≤ 12) (hb : ∀ i, i < l.length → 0 ≤ ix l i ∧ ix l i < 12) :
    Calls Tryz.prog 90 #[v] w fun e w' => e = .returned (.string (strB (lineL l))) ∧ Ext w w' := by
  obtain ⟨hlen, b, o, c, rfl, hc⟩ := id hv
  have HB := Lib.hid hb
  clear hb
  have hmk := run_make_row' (P := Tryz.prog) 22 5 (.int .u8 0) 1 Tryz.underlying22 infoByte rfl .i64 .i64 l.length (by omega) (by omega)
  go_enter Tryz.func90, Tryz.ntmps90
  go_wp2_with fail
  clear hmk
  have hx0 : Ext w (w.alloc (.cells (madeCells #[Value.int .u8 0] l.length) 5)) := (Ext.refl _).alloc _
  have hr0 := World.rowIs_made w (.int .u8 0) l.length 5
  go_loopw [11] (fun i wr => ∃ k : Nat, k ≤ l.length ∧ i = .int .i64 k ∧ wr.rowIs w.heap.size 5 l.length (digTo l k) ∧ Ext w wr) (fun i _ => l.length - (intOf i).toNat)
  case atStart => exact ⟨0, Nat.zero_le _, rfl, hr0.congr (fun i hi => by rw [digTo_zero]), hx0⟩
  case round =>
    clear hx0 hr0
    obtain ⟨k, hk, rfl, hrow, hx⟩ := hrel
    by_cases hlt : k < l.length
    · obtain ⟨b0, b1⟩ := HB.out k hlt
      obtain ⟨y, hy⟩ := Int.eq_ofNat_of_zero_le b0
      have hcell := (hc.ext hx) k hlt
      rw [hy] at hcell b1
      have hy12 : y < 12 := by omega
      have hdig := fun (W : World) => elem_digit hy12 W
      have HY := Lib.hid hy
      clear hy b0 b1
      have e2 := hrow.cell hlt
      have e3 := hrow.frozen k
      go_wp2
      go_roundw
      case rel => exact ⟨k + 1, by omega, by go_num, (hrow.set k (.int .u8 ((digB (y : Int)).toNat : Int))).congr (fun i hi => by rw [digTo_succ, HY.out]), hx.setNew (Nat.le_refl _) _⟩
      case measure => simp [intOf]; omega
    · have hkk : k = l.length := by omega
      subst hkk
      have hcv := fun (cap : Nat) => run_convert_bytes_back (P := Tryz.prog) wr 22 9 5 ⟨w.heap.size, 0, none⟩ cap (lineL l) Tryz.underlying22 Tryz.underlying5 Tryz.underlying9 (by
        intro j hj
        have hj' : j < l.length := by rw [length_lineL] at hj; exact hj
        have hcj := hrow.cell hj'
        rw [digTo_in _ _ _ hj'] at hcj
        rw [lineL_at]
        have e : (Addr.add ⟨w.heap.size, 0, none⟩ j) = ⟨w.heap.size, j, none⟩ := by
          unfold Addr.add
          by_cases hj0 : j = 0
          · subst hj0; rfl
          · simp [hj0]
        rw [e]
        exact hcj)
      rw [length_lineL] at hcv
      go_wp2
      go_ret
      exact ⟨rfl, hx⟩

end Go.Proofs.YtjfjpngajboidaaGreat
