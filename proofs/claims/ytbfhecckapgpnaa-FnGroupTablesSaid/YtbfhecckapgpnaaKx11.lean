/-
  Contracts of the program: is it a table, is it a permutation, is it the table of a group.
-/
import Derived.Test.YtbfhecckapgpnaaProg
import Derived.Deep.OwnRows
import Derived.Test.YtbfhecckapgpnaaKx0
import Derived.Test.YtbfhecckapgpnaaKx2
import Derived.Test.YtbfhecckapgpnaaKx5
import Derived.Test.YtbfhecckapgpnaaKx1
import Derived.Test.YtbfhecckapgpnaaKx3
import Derived.Test.YtbfhecckapgpnaaKx40
import Derived.Test.YtbfhecckapgpnaaKx10
import Derived.Test.YtbfhecckapgpnaaKx4
namespace Go.Proofs.Ytbfhecckapgpnaa
set_option linter.unusedVariables false
set_option linter.unusedSimpArgs false
open Go.RowKit

theorem infoBool : (Try.prog.info? 4).map (fun i => (i.zero, i.size, i.bytes)) = some (some (.bool false), 1, 1) := by kernel_rfl

theorem IsTable1_any (l : List Int) (r : Value) (n : Int) (B : Nat) (w : World) (hr : Ints w r l) (hB : w.cell? ⟨B, 0, none⟩ = some (.int .i64 n)) (h0 : 0 ≤ n) (h1 : n ≤ 1048576) :
    Calls Try.prog 102 #[r, .pointer (some ⟨B, 0, none⟩)] w fun e w' => e = .returned (.bool (badRow n l)) ∧ Ext w w' := by
  have hr' := hr
  obtain ⟨hlen, b, o, c, rfl, hc⟩ := hr
  cases hn : ((l.length : Int) != n) with
  | true =>
    go_enter Try.func102, Try.ntmps102
    go_wp2
    go_ret
    exact ⟨ret_bool (by rw [badRow_def, hn]; rfl), Ext.refl _⟩
  | false =>
    go_enter Try.func102, Try.ntmps102
    go_wp2_with (go_at_call 93; refine (allWithin_any l _ _ _ _ hr').mono ?_; rintro e w' ⟨rfl, rfl⟩)
    go_ret
    exact ⟨ret_bool (by rw [badRow_def, hn]; rfl), Ext.refl _⟩

theorem callIsTable1 (args : Array Value) (w : World) : (callFunc 102 args).run Try.prog w = .ok (.enter 102 args) w := by
  exact callFunc_enter Try.func102 (by kernel_rfl) rfl args w

theorem IsTable_any (t : List (List Int)) (v : Value) (w : World) (hv : Rows w v t) :
    Calls Try.prog 82 #[v] w fun e w' => e = .returned (.bool (tableB t)) ∧ Ext w w' := by
  have hv' := hv
  obtain ⟨hlen, b, o, c, rfl, hc⟩ := hv
  cases hin : inR t.length 1 12 with
  | false =>
    go_enter Try.func82, Try.ntmps82
    go_wp2_with (go_at_call 39; refine (within_any _ _ _ _).mono ?_; rintro e w' ⟨rfl, rfl⟩)
    go_ret
    exact ⟨ret_bool (by rw [tableB_any, hin]; rfl), (Ext.refl _).alloc _⟩
  | true =>
    go_enter Try.func82, Try.ntmps82
    go_wp2_with (go_at_call 39; refine (within_any _ _ _ _).mono ?_; rintro e w' ⟨rfl, rfl⟩)
    have hx0 : Ext w (w.alloc (Obj.cells #[Value.int IntKind.i64 ↑t.length] 2)) := (Ext.refl _).alloc _
    have hb := inR_iff.1 hin
    refine (ContainsFunc_any t (badRow t.length) 102 #[Value.pointer (some ⟨w.heap.size, 0, none⟩)] _ _ (hv'.ext hx0) callIsTable1 (fun w1 r i hx hi hr => by rw [app1]; exact IsTable1_any _ r t.length _ _ hr (hx.cell (by simp [go_sem])) (by omega) (by omega))).mono ?_
    rintro e w1 ⟨rfl, hx1⟩
    go_wp2
    go_ret
    exact ⟨ret_bool (by rw [tableB_any, hin]; rfl), hx0.trans hx1⟩

set_option maxRecDepth 100000 in
theorem isPermuted_any (l : List Int) (v : Value) (w : World) (hv : Ints w v l) :
    Calls Try.prog 104 #[v] w fun e w' => e = .returned (.bool (permB l)) ∧ Ext w w' := by
  obtain ⟨hlen, b, o, c, rfl, hc⟩ := hv
  have hmk := run_make_row' (P := Try.prog) 98 4 (.bool false) 1 Try.underlying98 infoBool rfl .i64 .i64 l.length (by omega) (by omega)
  go_enter Try.func104, Try.ntmps104
  go_wp2
  clear hmk
  have hx0 : Ext w (w.alloc (.cells (madeCells #[Value.bool false] l.length) 4)) := (Ext.refl _).alloc _
  have hr0 := World.rowIs_made w (.bool false) l.length 4
  go_loopw [11] (fun i wr => ∃ k : Nat, k ≤ l.length ∧ i = .int .i64 k ∧ InTo l k ∧ DistinctTo l k ∧ wr.rowIs w.heap.size 4 l.length (fun i => .bool (seenB l k i)) ∧ Ext w wr) (fun i _ => l.length - (intOf i).toNat)
  case atStart => exact ⟨0, Nat.zero_le _, rfl, InTo.zero _, DistinctTo.zero _, hr0.congr (fun i hi => by rw [seenB_zero]), hx0⟩
  case round =>
    clear hx0 hr0
    obtain ⟨k, hk, rfl, hto, hdi, hseen, hx⟩ := hrel
    by_cases hlt : k < l.length
    · have hcell := hc.ext hx k hlt
      cases hin : inR (ix l k) 0 (l.length - 1) with
      | false =>
        go_wp2_with (go_at_call 39; refine (within_any _ _ _ _).mono ?_; rintro e w' ⟨rfl, rfl⟩)
        go_ret
        exact ⟨ret_bool (permB_no (fun h => inR_false.1 hin (h.1 k hlt))).symm, hx⟩
      | true =>
        have hb := inR_iff.1 hin
        have hs := hseen.cell (i := (ix l k).toNat) (by omega)
        have hz := hseen.frozen (ix l k).toNat
        cases hse : seenB l k (ix l k).toNat with
        | true =>
          rw [hse] at hs
          go_wp2_with (go_at_call 39; refine (within_any _ _ _ _).mono ?_; rintro e w' ⟨rfl, rfl⟩)
          go_ret
          obtain ⟨j, hj, e⟩ := seenB_iff.1 hse
          exact ⟨ret_bool (permB_no (fun h => h.2 k hlt j hj (by omega))).symm, hx⟩
        | false =>
          rw [hse] at hs
          go_wp2_with (go_at_call 39; refine (within_any _ _ _ _).mono ?_; rintro e w' ⟨rfl, rfl⟩)
          go_roundw
          case rel =>
            exact ⟨k + 1, by omega, by go_num, hto.succ hb, hdi.succ (fun j hj e => seenB_no.1 hse j hj (by omega)),
              (hseen.set (ix l k).toNat (.bool true)).congr (fun i hi => by rw [seenB_succ _ _ _ hb.1]; split <;> rfl), hx.setNew (Nat.le_refl _) _⟩
          case measure => simp [intOf]; omega
    · go_wp2
      go_ret
      exact ⟨ret_bool (permB_yes ⟨hto.mono (by omega), hdi.mono (by omega)⟩).symm, hx⟩

theorem permRows1_any (l : List Int) (r : Value) (w : World) (hr : Ints w r l) :
    Calls Try.prog 103 #[r] w fun e w' => e = .returned (.bool (!permB l)) ∧ Ext w w' := by
  go_enter Try.func103, Try.ntmps103
  go_wp2_with fail
  refine (isPermuted_any l _ _ hr).mono ?_
  rintro e w1 ⟨rfl, hx1⟩
  go_wp2
  go_ret
  exact ⟨ret_bool rfl, hx1⟩
theorem callPermRows1 (args : Array Value) (w : World) : (callFunc 103 args).run Try.prog w = .ok (.enter 103 args) w :=
  callFunc_enter Try.func103 (by kernel_rfl) rfl args w

theorem permutationRows_any (t : List (List Int)) (v : Value) (w : World) (hv : Rows w v t) :
    Calls Try.prog 83 #[v] w fun e w' => e = .returned (.bool (permRowsB t)) ∧ Ext w w' := by
  go_enter Try.func83, Try.ntmps83
  go_wp2_with fail
  refine (ContainsFunc_any t (fun l => !permB l) 103 #[] _ _ hv callPermRows1 (fun w1 r i hx hi hr => by rw [app0]; exact permRows1_any _ r _ hr)).mono ?_
  rintro e w1 ⟨rfl, hx1⟩
  go_wp2
  go_ret
  exact ⟨ret_bool (permRowsB_def t).symm, hx1⟩
end Go.Proofs.Ytbfhecckapgpnaa

/-
  Contracts of the helpers of laws.go.
-/
namespace Go.Proofs.Ytbfhecckapgpnaa
set_option linter.unusedVariables false
set_option linter.unusedSimpArgs false
open Go.RowKit

theorem big_any (a : Option Addr) (n c : Nat) (w : World) : Calls Try.prog 5 #[.slice a n c] w fun e w' => e = .returned (.bool (decide (4096 < (n : Int)))) ∧ w = w' := by
  by_cases h : 4096 < (n : Int)
  · go_enter Try.func5, Try.ntmps5
    go_wp2
    go_ret
    exact ⟨ret_bool (by simpa using h), rfl⟩
  · go_enter Try.func5, Try.ntmps5
    go_wp2
    go_ret
    exact ⟨ret_bool (by simpa using h), rfl⟩

theorem likeInts_any (l m : List Int) (v u : Value) (w : World) (hv : IntsR w v l) (hu : IntsR w u m) (hs : l.length ≤ 1048576) :
    Calls Try.prog 37 #[v, u] w fun e w' => e = .returned (.bool (eqIB l m)) ∧ Drawn w w' := by
  obtain ⟨a1, c1, rfl, h1⟩ := hv
  obtain ⟨a2, c2, rfl, h2⟩ := hu
  have H1 := Lib.hid h1
  have H2 := Lib.hid h2
  clear h1 h2
  by_cases hl : l.length = m.length
  case neg =>
    have hb : ((l.length : Int) != (m.length : Int)) = true := by simp; omega
    go_enter Try.func37, Try.ntmps37
    go_wp2
    go_ret
    exact ⟨ret_bool (eqIB_no (fun e => hl (by rw [e]))).symm, Drawn.refl _⟩
  case pos =>
    rw [← hl]
    have Hl := Lib.hid hl
    clear hl
    go_enter Try.func37, Try.ntmps37
    go_wp2
    go_loopw [5] (fun i wr => ∃ k : Nat, k ≤ l.length ∧ i = .int .i64 k ∧ SameTo l m k ∧ Drawn w wr) (fun i _ => l.length - (intOf i).toNat)
    case atStart => exact ⟨0, Nat.zero_le _, rfl, fun i hi => by omega, Drawn.refl _⟩
    case round =>
      obtain ⟨k, hk, rfl, hto, hx⟩ := hrel
      by_cases hlt : k < l.length
      · obtain ⟨b1, o1, rfl, hc1⟩ := H1.out (ne_nil_of_lt hlt)
        obtain ⟨b2, o2, rfl, hc2⟩ := H2.out (ne_nil_of_lt (k := k) (by have := Hl.out; omega))
        have e1 := hc1.ext hx.ext k hlt
        have e2 := hc2.ext hx.ext k (by have := Hl.out; omega)
        cases he : (ix l k != ix m k) with
        | true =>
          go_wp2
          go_quiet (fail)
          go_wp2
          go_ret
          exact ⟨ret_bool (eqIB_no (fun e => by rw [e] at he; simp at he)).symm, hx.drewN _⟩
        | false =>
          go_wp2
          go_quiet (fail)
          go_wp2
          go_roundw
          case rel => exact ⟨k + 1, by omega, by go_num, fun i hi => by
            by_cases e : i = k
            · rw [e]; simpa using he
            · exact hto i (by omega), hx.drewN _⟩
          case measure => simp [intOf]; omega
      · go_wp2
        go_ret
        exact ⟨ret_bool (eqIB_yes (ix_ext Hl.out (fun i hi => hto i (by omega)))).symm, hx⟩

theorem same9_any (s t : List (List Int)) (v u : Value) (w : World) (hv : RowsR w v s) (hu : RowsR w u t) (hs : Small s) :
    Calls Try.prog 9 #[v, u] w fun e w' => e = .returned (.bool (eqTB s t)) ∧ Drawn w w' := by
  obtain ⟨a1, c1, rfl, h1⟩ := hv
  obtain ⟨a2, c2, rfl, h2⟩ := hu
  obtain ⟨hs0, hs1⟩ := hs
  have HS := Lib.hid hs1
  have H1 := Lib.hid h1
  have H2 := Lib.hid h2
  clear h1 h2 hs1
  by_cases hl : s.length = t.length
  case neg =>
    have hb : ((s.length : Int) != (t.length : Int)) = true := by simp; omega
    go_enter Try.func9, Try.ntmps9
    go_wp2
    go_ret
    exact ⟨ret_bool (eqTB_no (fun e => hl (by rw [e]))).symm, Drawn.refl _⟩
  case pos =>
    rw [← hl]
    have Hl := Lib.hid hl
    clear hl
    go_enter Try.func9, Try.ntmps9
    go_wp2
    go_loopw [5] (fun i wr => ∃ k : Nat, k ≤ s.length ∧ i = .int .i64 k ∧ SameRows s t k ∧ Drawn w wr) (fun i _ => s.length - (intOf i).toNat)
    case atStart => exact ⟨0, Nat.zero_le _, rfl, fun i hi => by omega, Drawn.refl _⟩
    case round =>
      obtain ⟨k, hk, rfl, hto, hx⟩ := hrel
      by_cases hlt : k < s.length
      · obtain ⟨b1, o1, rfl, hc1⟩ := H1.out (ne_nil_of_lt hlt)
        obtain ⟨b2, o2, rfl, hc2⟩ := H2.out (ne_nil_of_lt (k := k) (by have := Hl.out; omega))
        obtain ⟨r1, e1, i1⟩ := hc1 k hlt
        obtain ⟨r2, e2, i2⟩ := hc2 k (by have := Hl.out; omega)
        have e1' := hx.ext.cell e1
        have e2' := hx.ext.cell e2
        clear e1 e2
        have i1' := i1.ext hx.ext
        have i2' := i2.ext hx.ext
        clear i1 i2 hc1 hc2
        have hls := HS.out k
        cases he : eqIB (row s k) (row t k) with
        | true =>
          go_wp2
          go_quiet ((go_at_call 37; exact Calls.quiet_of (likeInts_any _ _ _ _ _ (i1'.ext ((Ext.refl _).drewN _)) (i2'.ext ((Ext.refl _).drewN _)) hls)))
          go_wp2
          go_roundw
          case rel => exact ⟨k + 1, by omega, by go_num, fun i hi => by
            by_cases e : i = k
            · rw [e]; exact eqIB_iff.1 he
            · exact hto i (by omega), hx.drewN _⟩
          case measure => simp [intOf]; omega
        | false =>
          go_wp2
          go_quiet ((go_at_call 37; exact Calls.quiet_of (likeInts_any _ _ _ _ _ (i1'.ext ((Ext.refl _).drewN _)) (i2'.ext ((Ext.refl _).drewN _)) hls)))
          go_wp2
          go_ret
          exact ⟨ret_bool (eqTB_no (fun e => by rw [e, eqIB_yes rfl] at he; cases he)).symm, hx.drewN _⟩
      · go_wp2
        go_ret
        exact ⟨ret_bool (eqTB_yes (row_ext Hl.out (fun i hi => hto i (by omega)))).symm, hx⟩

/-! ### sizes -/
@[irreducible] def memB (l : List Int) (x : Int) : Bool := decide (x ∈ l)
theorem memB_iff {l : List Int} {x : Int} : memB l x = true ↔ x ∈ l := by unfold memB; simp
theorem memB_no {l : List Int} {x : Int} (h : x ∉ l) : memB l x = false := by rw [← Bool.not_eq_true, memB_iff]; exact h

theorem hasInt_any (l : List Int) (x : Int) (v : Value) (w : World) (hv : IntsR w v l) (hs : l.length ≤ 1048576) :
    Calls Try.prog 35 #[v, .int .i64 x] w fun e w' => e = .returned (.bool (memB l x)) ∧ w = w' := by
  obtain ⟨a1, c1, rfl, h1⟩ := hv
  have H1 := Lib.hid h1
  clear h1
  go_enter Try.func35, Try.ntmps35
  go_wp2
  go_loop [5] (fun i => ∃ k : Nat, k ≤ l.length ∧ i = .int .i64 k ∧ ∀ j, j < k → ix l j ≠ x) (fun i => l.length - (intOf i).toNat)
  case atStart => exact ⟨0, Nat.zero_le _, rfl, fun j hj => by omega⟩
  case round =>
    obtain ⟨k, hk, rfl, hr⟩ := hrel
    have HR := Lib.hid hr
    clear hr
    by_cases hlt : k < l.length
    · obtain ⟨b1, o1, rfl, hc1⟩ := H1.out (ne_nil_of_lt hlt)
      have e1 := hc1 k hlt
      clear hc1
      cases he : (ix l k == x) with
      | true =>
        go_wp2
        go_ret
        exact ⟨ret_bool (memB_iff.2 (by rw [← eq_of_beq he]; exact ix_mem l k hlt)).symm, rfl⟩
      | false =>
        go_wp2
        go_round
        case rel => exact ⟨k + 1, by omega, by go_num, fun j hj => by
          by_cases e : j = k
          · rw [e]; simpa using he
          · exact HR.out j (by omega)⟩
        case measure => simp [intOf]; omega
    · go_wp2
      go_ret
      refine ⟨ret_bool (memB_no fun hm => ?_).symm, rfl⟩
      obtain ⟨j, hj, e⟩ := mem_ix hm
      exact HR.out j (by omega) e

theorem bits9_any (m : Nat) (w : World) (hm : m < 2 ^ 62) :
    Calls Try.prog 36 #[.int .i64 m] w fun e w' => e = .returned (.int .i64 (popN m)) ∧ w = w' := by
  have H := Lib.hid hm
  clear hm
  go_enter Try.func36, Try.ntmps36
  go_wp2
  have hle := popN_le m
  have HL := Lib.hid hle
  clear hle
  go_loop [0, 3] (fun s c => ∃ k q : Nat, s = .int .i64 k ∧ c = .int .i64 q ∧ q + popN k = popN m ∧ k < 4611686018427387904) (fun s _ => (intOf s).toNat)
  case atStart => exact ⟨m, 0, rfl, rfl, by omega, by have := H.out; omega⟩
  case round =>
    obtain ⟨k, q, rfl, rfl, hq, hk⟩ := hrel
    have hqb : q < 4611686018427387904 := by have := HL.out; have := H.out; omega
    by_cases h0 : k = 0
    · subst h0
      have hz : q = popN m := by rw [popN_zero] at hq; omega
      go_wp2
      go_ret
      exact ⟨ret_int (by first | rfl | rw [hz]), rfl⟩
    · have hk0 : 0 < (k : Int) := by omega
      have HP := Lib.hid (popN_pos h0)
      have HQ := Lib.hid hq
      clear hq
      have e2 : (k : Int).tmod 2 = ((k % 2 : Nat) : Int) := by rw [Int.tmod_eq_emod_of_nonneg (by omega)]; omega
      have e3 : (k : Int).tdiv 2 = ((k / 2 : Nat) : Int) := by rw [Int.tdiv_eq_ediv_of_nonneg (by omega)]; omega
      go_wp2
      go_round
      case rel => exact ⟨k / 2, q + k % 2, by go_num, by go_num, by have := HP.out; have := HQ.out; omega, by omega⟩
      case measure => simp [intOf]; omega
end Go.Proofs.Ytbfhecckapgpnaa
