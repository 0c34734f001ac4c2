/-
  Contracts of the program: is it a table, is it a permutation, is it the table of a group.
-/
import Derived.Test.YtjbloenjphpngaaProg
import Derived.Deep.OwnRows
import Derived.Test.YtjbloenjphpngaaJx0
import Derived.Test.YtjbloenjphpngaaJx2
import Derived.Test.YtjbloenjphpngaaJx10
namespace Go.Proofs.Ytjbloenjphpngaa
set_option linter.unusedVariables false
set_option linter.unusedSimpArgs false
open Go.RowKit

theorem infoBool : (Try.prog.info? 4).map (fun i => (i.zero, i.size, i.bytes)) = some (some (.bool false), 1, 1) := by kernel_rfl

theorem IsTable1_any (l : List Int) (r : Value) (n : Int) (B : Nat) (w : World) (hr : Ints w r l) (hB : w.cell? ⟨B, 0, none⟩ = some (.int .i64 n)) (h0 : 0 ≤ n) (h1 : n ≤ 1048576) :
    Calls Try.prog 99 #[r, .pointer (some ⟨B, 0, none⟩)] w fun e w' => e = .returned (.bool (badRow n l)) ∧ Ext w w' := by
  have hr' := hr
  obtain ⟨hlen, b, o, c, rfl, hc⟩ := hr
  cases hn : ((l.length : Int) != n) with
  | true =>
    go_enter Try.func99, Try.ntmps99
    go_wp2
    go_ret
    exact ⟨ret_bool (by rw [badRow_def, hn]; rfl), Ext.refl _⟩
  | false =>
    go_enter Try.func99, Try.ntmps99
    go_wp2_with (go_at_call 100; refine (allWithin_any l _ _ _ _ hr').mono ?_; rintro e w' ⟨rfl, rfl⟩)
    go_ret
    exact ⟨ret_bool (by rw [badRow_def, hn]; rfl), Ext.refl _⟩

theorem callIsTable1 (args : Array Value) (w : World) : (callFunc 99 args).run Try.prog w = .ok (.enter 99 args) w := by
  exact callFunc_enter Try.func99 (by kernel_rfl) rfl args w

theorem IsTable_any (t : List (List Int)) (v : Value) (w : World) (hv : Rows w v t) :
    Calls Try.prog 84 #[v] w fun e w' => e = .returned (.bool (tableB t)) ∧ Ext w w' := by
  have hv' := hv
  obtain ⟨hlen, b, o, c, rfl, hc⟩ := hv
  cases hin : inR t.length 1 12 with
  | false =>
    go_enter Try.func84, Try.ntmps84
    go_wp2_with (go_at_call 49; refine (within_any _ _ _ _).mono ?_; rintro e w' ⟨rfl, rfl⟩)
    go_ret
    exact ⟨ret_bool (by rw [tableB_any, hin]; rfl), (Ext.refl _).alloc _⟩
  | true =>
    go_enter Try.func84, Try.ntmps84
    go_wp2_with (go_at_call 49; refine (within_any _ _ _ _).mono ?_; rintro e w' ⟨rfl, rfl⟩)
    have hx0 : Ext w (w.alloc (Obj.cells #[Value.int IntKind.i64 ↑t.length] 2)) := (Ext.refl _).alloc _
    have hb := inR_iff.1 hin
    refine (ContainsFunc_any t (badRow t.length) 99 #[Value.pointer (some ⟨w.heap.size, 0, none⟩)] _ _ (hv'.ext hx0) callIsTable1 (fun w1 r i hx hi hr => by rw [app1]; exact IsTable1_any _ r t.length _ _ hr (hx.cell (by simp [go_sem])) (by omega) (by omega))).mono ?_
    rintro e w1 ⟨rfl, hx1⟩
    go_wp2
    go_ret
    exact ⟨ret_bool (by rw [tableB_any, hin]; rfl), hx0.trans hx1⟩

set_option maxRecDepth 100000 in
theorem isPermuted_any (l : List Int) (v : Value) (w : World) (hv : Ints w v l) :
    Calls Try.prog 102 #[v] w fun e w' => e = .returned (.bool (permB l)) ∧ Ext w w' := by
  obtain ⟨hlen, b, o, c, rfl, hc⟩ := hv
  have hmk := run_make_row' (P := Try.prog) 104 4 (.bool false) 1 Try.underlying104 infoBool rfl .i64 .i64 l.length (by omega) (by omega)
  go_enter Try.func102, Try.ntmps102
  go_wp2
  clear hmk
  have hx0 : Ext w (w.alloc (.cells (madeCells #[Value.bool false] l.length) 4)) := (Ext.refl _).alloc _
  have hr0 := World.rowIs_made w (.bool false) l.length 4
  go_loopw [11] (fun i wr => ∃ k : Nat, k ≤ l.length ∧ i = .int .i64 k ∧ InTo l k ∧ DistinctTo l k ∧ wr.rowIs w.heap.size 4 l.length (fun i => .bool (seenB l k i)) ∧ Ext w wr) (fun i _ => l.length - (intOf i).toNat)
  case atStart => exact ⟨0, Nat.zero_le _, rfl, InTo.zero _, DistinctTo.zero _, hr0.congr (fun i hi => by rw [seenB_zero]), hx0⟩
  case round =>
    clear hx0 hr0
    obtain ⟨k, hk, rfl, hto, hdi, hseen, hx⟩ := hrel
    by_cases hlt : k < l.length
    · have hcell := hc.ext hx k hlt
      cases hin : inR (ix l k) 0 (l.length - 1) with
      | false =>
        go_wp2_with (go_at_call 49; refine (within_any _ _ _ _).mono ?_; rintro e w' ⟨rfl, rfl⟩)
        go_ret
        exact ⟨ret_bool (permB_no (fun h => inR_false.1 hin (h.1 k hlt))).symm, hx⟩
      | true =>
        have hb := inR_iff.1 hin
        have hs := hseen.cell (i := (ix l k).toNat) (by omega)
        have hz := hseen.frozen (ix l k).toNat
        cases hse : seenB l k (ix l k).toNat with
        | true =>
          rw [hse] at hs
          go_wp2_with (go_at_call 49; refine (within_any _ _ _ _).mono ?_; rintro e w' ⟨rfl, rfl⟩)
          go_ret
          obtain ⟨j, hj, e⟩ := seenB_iff.1 hse
          exact ⟨ret_bool (permB_no (fun h => h.2 k hlt j hj (by omega))).symm, hx⟩
        | false =>
          rw [hse] at hs
          go_wp2_with (go_at_call 49; refine (within_any _ _ _ _).mono ?_; rintro e w' ⟨rfl, rfl⟩)
          go_roundw
          case rel =>
            exact ⟨k + 1, by omega, by go_num, hto.succ hb, hdi.succ (fun j hj e => seenB_no.1 hse j hj (by omega)),
              (hseen.set (ix l k).toNat (.bool true)).congr (fun i hi => by rw [seenB_succ _ _ _ hb.1]; split <;> rfl), hx.setNew (Nat.le_refl _) _⟩
          case measure => simp [intOf]; omega
    · go_wp2
      go_ret
      exact ⟨ret_bool (permB_yes ⟨hto.mono (by omega), hdi.mono (by omega)⟩).symm, hx⟩

theorem permRows1_any (l : List Int) (r : Value) (w : World) (hr : Ints w r l) :
    Calls Try.prog 101 #[r] w fun e w' => e = .returned (.bool (!permB l)) ∧ Ext w w' := by
  go_enter Try.func101, Try.ntmps101
  go_wp2_with fail
  refine (isPermuted_any l _ _ hr).mono ?_
  rintro e w1 ⟨rfl, hx1⟩
  go_wp2
  go_ret
  exact ⟨ret_bool rfl, hx1⟩
theorem callPermRows1 (args : Array Value) (w : World) : (callFunc 101 args).run Try.prog w = .ok (.enter 101 args) w :=
  callFunc_enter Try.func101 (by kernel_rfl) rfl args w

theorem permutationRows_any (t : List (List Int)) (v : Value) (w : World) (hv : Rows w v t) :
    Calls Try.prog 85 #[v] w fun e w' => e = .returned (.bool (permRowsB t)) ∧ Ext w w' := by
  go_enter Try.func85, Try.ntmps85
  go_wp2_with fail
  refine (ContainsFunc_any t (fun l => !permB l) 101 #[] _ _ hv callPermRows1 (fun w1 r i hx hi hr => by rw [app0]; exact permRows1_any _ r _ hr)).mono ?_
  rintro e w1 ⟨rfl, hx1⟩
  go_wp2
  go_ret
  exact ⟨ret_bool (permRowsB_def t).symm, hx1⟩
end Go.Proofs.Ytjbloenjphpngaa
