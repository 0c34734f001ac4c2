/-
  Contracts of the laws' own helpers: copies.
-/
import Derived.Test.YtjcpeenalbgacaaProg
import Derived.Test.YtjcpeenalbgacaaBase
import Derived.Test.YtjcpeenalbgacaaBase2
namespace Go.Proofs.Ytjcpeenalbgacaa
set_option linter.unusedVariables false
set_option linter.unusedSimpArgs false
open Go.RowKit

theorem infoInt : (Try.prog.info? 2).map (fun i => (i.zero, i.size, i.bytes)) = some (some (.int .i64 0), 1, 8) := by kernel_rfl
theorem infoSl : (Try.prog.info? 26).map (fun i => (i.zero, i.size, i.bytes)) = some (some (.slice none 0 0), 1, 24) := by kernel_rfl

/-- a new slice of integers is returned -/
def NewI (l : List Int) (w : World) (e : Ending) (w' : World) : Prop :=
  ∃ b c, e = .returned (.slice (some ⟨b, 0, none⟩) l.length c) ∧ OwnI w.heap.size w'.heap.size w' b 0 l ∧ Ext w w'
/-- a new table is returned -/
def NewT (t : List (List Int)) (w : World) (e : Ending) (w' : World) : Prop :=
  ∃ b c, e = .returned (.slice (some ⟨b, 0, none⟩) t.length c) ∧ OwnT w.heap.size w'.heap.size w' b 0 t ∧ Ext w w'

theorem toInt64S_any (l : List Int) (v : Value) (w : World) (hv : IntsR w v l) (hl : l.length ≤ 1048576) :
    Calls Try.prog 103 #[v] w (NewI l w) := by
  obtain ⟨a, c, rfl, hc⟩ := hv
  have HC := Lib.hid hc
  clear hc
  have hmk := run_make_row' (P := Try.prog) 26 2 (.int .i64 0) 8 Try.underlying26 infoInt rfl .i64 .i64 l.length (by omega) (by omega)
  go_enter Try.func103, Try.ntmps103
  go_wp2
  clear hmk
  have hx0 : Ext w (w.alloc (.cells (madeCells #[Value.int .i64 0] l.length) 2)) := (Ext.refl _).alloc _
  have hr0 := World.rowIs_made w (.int .i64 0) l.length 2
  go_loopw [4] (fun i wr => ∃ k : Nat, k ≤ l.length ∧ i = .int .i64 k ∧ wr.rowIs w.heap.size 2 l.length (fun i => .int .i64 (copyTo l k i)) ∧ Ext w wr) (fun i _ => l.length - (intOf i).toNat)
  case atStart => exact ⟨0, Nat.zero_le _, rfl, hr0.congr (fun i hi => by rw [copyTo_zero]), hx0⟩
  case round =>
    clear hx0 hr0
    obtain ⟨k, hk, rfl, hrow, hx⟩ := hrel
    by_cases hlt : k < l.length
    · obtain ⟨b, o, rfl, hc⟩ := HC.out (ne_nil_of_lt hlt)
      have e1 := hc.ext hx k hlt
      have e2 := hrow.cell hlt
      have e3 := hrow.frozen k
      clear hc
      go_wp2
      go_roundw
      case rel => exact ⟨k + 1, by omega, by go_num, (hrow.set k (.int .i64 (ix l k))).congr (fun i hi => by rw [copyTo_succ]; split <;> rfl), hx.setNew (Nat.le_refl _) _⟩
      case measure => simp [intOf]; omega
    · go_wp2
      go_ret
      exact ⟨w.heap.size, l.length, rfl, ownI_of_row hrow (Nat.le_refl _) (fun i hi => by rw [copyTo_all _ _ _ (by omega)]) (Nat.le_refl _) hrow.lt, hx⟩

theorem toInt64SS_any (t : List (List Int)) (v : Value) (w : World) (hv : RowsR w v t) (hs : Small t) :
    Calls Try.prog 62 #[v] w (NewT t w) := by
  obtain ⟨a, c, rfl, hc⟩ := hv
  obtain ⟨hs0, hs1⟩ := hs
  have HS := Lib.hid hs1
  have HC := Lib.hid hc
  clear hc hs1
  have hmk := run_make_row' (P := Try.prog) 22 26 (.slice none 0 0) 24 Try.underlying22 infoSl rfl .i64 .i64 t.length (by omega) (by omega)
  go_enter Try.func62, Try.ntmps62
  go_wp2_with fail
  clear hmk
  have hx0 : Ext w (w.alloc (.cells (madeCells #[Value.slice none 0 0] t.length) 26)) := (Ext.refl _).alloc _
  have hr0 := World.rowIs_made w (.slice none 0 0) t.length 26
  go_loopw [4] (fun i wr => ∃ k : Nat, k ≤ t.length ∧ i = .int .i64 k ∧ Build wr w.heap.size 26 t.length k (row t) ∧ Ext w wr) (fun i _ => t.length - (intOf i).toNat)
  case atStart => exact ⟨0, Nat.zero_le _, rfl, Build.zero _ hr0, hx0⟩
  case round =>
    clear hx0 hr0
    obtain ⟨k, hk, rfl, hb, hx⟩ := hrel
    by_cases hlt : k < t.length
    · obtain ⟨b, o, rfl, hc⟩ := HC.out (ne_nil_of_lt hlt)
      obtain ⟨r, e1, i1⟩ := hc k hlt
      have e1' := hx.cell e1
      clear hc
      go_wp2_with fail
      refine (toInt64S_any (row t k) _ _ (i1.ext hx) (HS.out k)).mono ?_
      rintro e w1 ⟨b1, c1, rfl, ho, hx1⟩
      have hb1 := hb.ext hx1
      have e2 := hb1.cell hlt (Nat.le_refl _)
      have e3 := hb1.frozen k
      go_wp2
      go_roundw
      case rel => exact ⟨k + 1, by omega, by go_num, hb.succ hx1 ho rfl, (hx.trans hx1).setNew (Nat.le_refl _) _⟩
      case measure => simp [intOf]; omega
    · go_wp2
      go_ret
      exact ⟨w.heap.size, t.length, rfl, hb.done (fun _ _ => rfl) (by omega) (Nat.le_refl _) (Nat.le_refl _) (Nat.le_refl _), hx⟩
end Go.Proofs.Ytjcpeenalbgacaa
