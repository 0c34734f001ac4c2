/-
  Contracts of the program: is it a table, is it a permutation, is it the table of a group.
-/
import Derived.Test.YthlafeefjonkdaaDoorProg
import Derived.Deep.OwnRows
import Derived.Test.YthlafeefjonkdaaDoorJx0
import Derived.Test.YthlafeefjonkdaaDoorJx3
import Derived.Test.YthlafeefjonkdaaDoorJx4
import Derived.Test.YthlafeefjonkdaaDoorJx6
namespace Go.Proofs.YthlafeefjonkdaaDoor
set_option linter.unusedVariables false
set_option linter.unusedSimpArgs false
open Go.RowKit

theorem infoBool : (Tryd.prog.info? 4).map (fun i => (i.zero, i.size, i.bytes)) = some (some (.bool false), 1, 1) := by kernel_rfl

theorem IsTable1_any (l : List Int) (r : Value) (n : Int) (B : Nat) (w : World) (hr : Ints w r l) (hB : w.cell? ⟨B, 0, none⟩ = some (.int .i64 n)) (h0 : 0 ≤ n) (h1 : n ≤ 1048576) :
    Calls Tryd.prog 39 #[r, .pointer (some ⟨B, 0, none⟩)] w fun e w' => e = .returned (.bool (badRow n l)) ∧ Ext w w' := by
  have hr' := hr
  obtain ⟨hlen, b, o, c, rfl, hc⟩ := hr
  cases hn : ((l.length : Int) != n) with
  | true =>
    go_enter Tryd.func39, Tryd.ntmps39
    go_wp2
    go_ret
    exact ⟨ret_bool (by rw [badRow_def, hn]; rfl), Ext.refl _⟩
  | false =>
    go_enter Tryd.func39, Tryd.ntmps39
    go_wp2_with (go_at_call 40; refine (allWithin_any l _ _ _ _ hr').mono ?_; rintro e w' ⟨rfl, rfl⟩)
    go_ret
    exact ⟨ret_bool (by rw [badRow_def, hn]; rfl), Ext.refl _⟩

theorem callIsTable1 (args : Array Value) (w : World) : (callFunc 39 args).run Tryd.prog w = .ok (.enter 39 args) w := by
  exact callFunc_enter Tryd.func39 (by kernel_rfl) rfl args w

theorem IsTable_any (t : List (List Int)) (v : Value) (w : World) (hv : Rows w v t) :
    Calls Tryd.prog 25 #[v] w fun e w' => e = .returned (.bool (tableB t)) ∧ Ext w w' := by
  have hv' := hv
  obtain ⟨hlen, b, o, c, rfl, hc⟩ := hv
  cases hin : inR t.length 1 12 with
  | false =>
    go_enter Tryd.func25, Tryd.ntmps25
    go_wp2_with (go_at_call 37; refine (within_any _ _ _ _).mono ?_; rintro e w' ⟨rfl, rfl⟩)
    go_ret
    exact ⟨ret_bool (by rw [tableB_any, hin]; rfl), (Ext.refl _).alloc _⟩
  | true =>
    go_enter Tryd.func25, Tryd.ntmps25
    go_wp2_with (go_at_call 37; refine (within_any _ _ _ _).mono ?_; rintro e w' ⟨rfl, rfl⟩)
    have hx0 : Ext w (w.alloc (Obj.cells #[Value.int IntKind.i64 ↑t.length] 2)) := (Ext.refl _).alloc _
    have hb := inR_iff.1 hin
    refine (ContainsFunc_any t (badRow t.length) 39 #[Value.pointer (some ⟨w.heap.size, 0, none⟩)] _ _ (hv'.ext hx0) callIsTable1 (fun w1 r i hx hi hr => by rw [app1]; exact IsTable1_any _ r t.length _ _ hr (hx.cell (by simp [go_sem])) (by omega) (by omega))).mono ?_
    rintro e w1 ⟨rfl, hx1⟩
    go_wp2
    go_ret
    exact ⟨ret_bool (by rw [tableB_any, hin]; rfl), hx0.trans hx1⟩

set_option maxRecDepth 100000 in
theorem isPermuted_any (l : List Int) (v : Value) (w : World) (hv : Ints w v l) :
    Calls Tryd.prog 61 #[v] w fun e w' => e = .returned (.bool (permB l)) ∧ Ext w w' := by
  obtain ⟨hlen, b, o, c, rfl, hc⟩ := hv
  have hmk := run_make_row' (P := Tryd.prog) 69 4 (.bool false) 1 Tryd.underlying69 infoBool rfl .i64 .i64 l.length (by omega) (by omega)
  go_enter Tryd.func61, Tryd.ntmps61
  go_wp2
  clear hmk
  have hx0 : Ext w (w.alloc (.cells (madeCells #[Value.bool false] l.length) 4)) := (Ext.refl _).alloc _
  have hr0 := World.rowIs_made w (.bool false) l.length 4
  go_loopw [11] (fun i wr => ∃ k : Nat, k ≤ l.length ∧ i = .int .i64 k ∧ InTo l k ∧ DistinctTo l k ∧ wr.rowIs w.heap.size 4 l.length (fun i => .bool (seenB l k i)) ∧ Ext w wr) (fun i _ => l.length - (intOf i).toNat)
  case atStart => exact ⟨0, Nat.zero_le _, rfl, InTo.zero _, DistinctTo.zero _, hr0.congr (fun i hi => by rw [seenB_zero]), hx0⟩
  case round =>
    clear hx0 hr0
    obtain ⟨k, hk, rfl, hto, hdi, hseen, hx⟩ := hrel
    by_cases hlt : k < l.length
    · have hcell := hc.ext hx k hlt
      cases hin : inR (ix l k) 0 (l.length - 1) with
      | false =>
        go_wp2_with (go_at_call 37; refine (within_any _ _ _ _).mono ?_; rintro e w' ⟨rfl, rfl⟩)
        go_ret
        exact ⟨ret_bool (permB_no (fun h => inR_false.1 hin (h.1 k hlt))).symm, hx⟩
      | true =>
        have hb := inR_iff.1 hin
        have hs := hseen.cell (i := (ix l k).toNat) (by omega)
        have hz := hseen.frozen (ix l k).toNat
        cases hse : seenB l k (ix l k).toNat with
        | true =>
          rw [hse] at hs
          go_wp2_with (go_at_call 37; refine (within_any _ _ _ _).mono ?_; rintro e w' ⟨rfl, rfl⟩)
          go_ret
          obtain ⟨j, hj, e⟩ := seenB_iff.1 hse
          exact ⟨ret_bool (permB_no (fun h => h.2 k hlt j hj (by omega))).symm, hx⟩
        | false =>
          rw [hse] at hs
          go_wp2_with (go_at_call 37; refine (within_any _ _ _ _).mono ?_; rintro e w' ⟨rfl, rfl⟩)
          go_roundw
          case rel =>
            exact ⟨k + 1, by omega, by go_num, hto.succ hb, hdi.succ (fun j hj e => seenB_no.1 hse j hj (by omega)),
              (hseen.set (ix l k).toNat (.bool true)).congr (fun i hi => by rw [seenB_succ _ _ _ hb.1]; split <;> rfl), hx.setNew (Nat.le_refl _) _⟩
          case measure => simp [intOf]; omega
    · go_wp2
      go_ret
      exact ⟨ret_bool (permB_yes ⟨hto.mono (by omega), hdi.mono (by omega)⟩).symm, hx⟩

theorem permRows1_any (l : List Int) (r : Value) (w : World) (hr : Ints w r l) :
    Calls Tryd.prog 60 #[r] w fun e w' => e = .returned (.bool (!permB l)) ∧ Ext w w' := by
  go_enter Tryd.func60, Tryd.ntmps60
  go_wp2_with fail
  refine (isPermuted_any l _ _ hr).mono ?_
  rintro e w1 ⟨rfl, hx1⟩
  go_wp2
  go_ret
  exact ⟨ret_bool rfl, hx1⟩
theorem callPermRows1 (args : Array Value) (w : World) : (callFunc 60 args).run Tryd.prog w = .ok (.enter 60 args) w :=
  callFunc_enter Tryd.func60 (by kernel_rfl) rfl args w

theorem permutationRows_any (t : List (List Int)) (v : Value) (w : World) (hv : Rows w v t) :
    Calls Tryd.prog 53 #[v] w fun e w' => e = .returned (.bool (permRowsB t)) ∧ Ext w w' := by
  go_enter Tryd.func53, Tryd.ntmps53
  go_wp2_with fail
  refine (ContainsFunc_any t (fun l => !permB l) 60 #[] _ _ hv callPermRows1 (fun w1 r i hx hi hr => by rw [app0]; exact permRows1_any _ r _ hr)).mono ?_
  rintro e w1 ⟨rfl, hx1⟩
  go_wp2
  go_ret
  exact ⟨ret_bool (permRowsB_def t).symm, hx1⟩
end Go.Proofs.YthlafeefjonkdaaDoor

/-
  Contract of the program: is it the table of a group.
-/
namespace Go.Proofs.YthlafeefjonkdaaDoor
set_option linter.unusedVariables false
set_option linter.unusedSimpArgs false
open Go.RowKit

set_option maxRecDepth 100000 in
theorem isGroupTable_any (t : List (List Int)) (v : Value) (w : World) (hv : Rows w v t) :
    Calls Tryd.prog 41 #[v] w fun e w' => e = .returned (.bool (groupB t)) ∧ Ext w w' := by
  by_cases hT : TableOk t
  case neg =>
    have hB := tableB_no hT
    go_enter Tryd.func41, Tryd.ntmps41
    go_wp2_with fail
    refine (IsTable_any t _ _ hv).mono ?_
    rintro e w1 ⟨rfl, hx1⟩
    go_wp2
    go_ret
    exact ⟨ret_bool (groupB_no (fun h => hT h.1)).symm, hx1⟩
  case pos =>
    have hB := tableB_yes hT
    cases hP : permRowsB t with
    | false =>
      go_enter Tryd.func41, Tryd.ntmps41
      go_wp2_with fail
      refine (IsTable_any t _ _ hv).mono ?_
      rintro e w1 ⟨rfl, hx1⟩
      go_wp2_with fail
      refine (permutationRows_any t _ _ (hv.ext hx1)).mono ?_
      rintro e w2 ⟨rfl, hx2⟩
      go_wp2
      go_ret
      exact ⟨ret_bool (groupB_no (fun h => absurd (permRowsB_iff.2 h.2.1) (by rw [hP]; simp))).symm, hx1.trans hx2⟩
    | true =>
    have hv' := hv
    obtain ⟨hlen, b, o, c, rfl, hc⟩ := hv
    have HT := Lib.hid hT
    have h1 := hT.1
    have h2 := hT.2.1
    clear hT
    have HP := Lib.hid (permRowsB_iff.1 hP)
    go_enter Tryd.func41, Tryd.ntmps41
    go_wp2_with fail
    refine (IsTable_any t _ _ hv').mono ?_
    rintro e w1 ⟨rfl, hx1⟩
    go_wp2_with fail
    refine (permutationRows_any t _ _ (hv'.ext hx1)).mono ?_
    rintro e w2 ⟨rfl, hx2⟩
    have hx := hx1.trans hx2
    clear hx1 hx2
    go_wp2
    clear hB hP
    go_loopw [16] (fun x wr => ∃ k : Nat, k ≤ t.length ∧ x = .int .i64 k ∧ UnitAssocTo t t.length k ∧ Ext w wr) (fun x _ => t.length - (intOf x).toNat)
    case atStart => exact ⟨0, Nat.zero_le _, rfl, UnitAssocTo.zero _ _, hx⟩
    case round =>
      clear hx
      obtain ⟨k, hk, rfl, hua, hx⟩ := hrel
      by_cases hlt : k < t.length
      case neg =>
        go_wp2
        go_ret
        exact ⟨ret_bool (groupB_yes ⟨HT.out, HP.out, hua.mono (by omega)⟩).symm, hx⟩
      case pos =>
        obtain ⟨b0, o0, c0, hr0, hc0, -⟩ := (hc.ext hx).head (by omega)
        obtain ⟨b1, o1, c1, hr, hc1, hl⟩ := (hc.ext hx).get hlt
        have hl0 := HT.out.len (x := 0) (by omega)
        have hl1 := HT.out.len hlt
        have e0 := hc0.ent hl0 hlt
        have e1 := hc1.ent0 hl1 (by omega)
        rw [hl0] at hr0
        rw [hl1] at hr
        clear hl0 hc0
        cases hu0 : (ent t 0 k != (k : Int)) with
        | true =>
          go_wp2
          go_ret
          exact ⟨ret_bool (groupB_no (fun h => absurd (h.2.2 k hlt).1.1 (by simpa using hu0))).symm, hx⟩
        | false =>
          cases hu1 : (ent t k 0 != (k : Int)) with
          | true =>
            go_wp2
            go_ret
            exact ⟨ret_bool (groupB_no (fun h => absurd (h.2.2 k hlt).1.2 (by simpa using hu1))).symm, hx⟩
          | false =>
            have hun : UnitAt t k := ⟨by simpa using hu0, by simpa using hu1⟩
            go_wp2
            clear hu0 hu1 e0 e1 hr0 hr hc1
            obtain ⟨w3, rfl⟩ : ∃ w1 : World, w1 = wr := ⟨_, rfl⟩
            go_loopw [39] (fun y wr => ∃ m : Nat, m ≤ t.length ∧ y = .int .i64 m ∧ AssocY t t.length k m ∧ Ext w wr) (fun y _ => t.length - (intOf y).toNat)
            case atStart => exact ⟨0, Nat.zero_le _, rfl, AssocY.zero _ _ _, hx⟩
            case round =>
              clear hx
              obtain ⟨m, hm, rfl, hay, hx⟩ := hrel
              by_cases hml : m < t.length
              case neg =>
                go_wp2
                go_roundw
                case rel => exact ⟨k + 1, by omega, by go_num, hua.succ hun (hay.mono (by omega)), hx⟩
                case measure => simp [intOf]; omega
              case pos =>
                go_wp2
                obtain ⟨w4, rfl⟩ : ∃ w1 : World, w1 = wr := ⟨_, rfl⟩
                go_loopw [44] (fun z wr => ∃ j : Nat, j ≤ t.length ∧ z = .int .i64 j ∧ AssocTo t k m j ∧ Ext w wr) (fun z _ => t.length - (intOf z).toNat)
                case atStart => exact ⟨0, Nat.zero_le _, rfl, AssocTo.zero _ _ _, hx⟩
                case round =>
                  clear hx
                  obtain ⟨j, hj, rfl, hato, hx⟩ := hrel
                  by_cases hjl : j < t.length
                  case neg =>
                    go_wp2
                    go_roundw
                    case rel => exact ⟨m + 1, by omega, by go_num, hay.succ (hato.mono (by omega)), hx⟩
                    case measure => simp [intOf]; omega
                  case pos =>
                    have bxy := HT.out.bd hlt hml
                    have byz := HT.out.bd hml hjl
                    have hcw := hc.ext hx
                    obtain ⟨b1, o1, c1, hr, hc1, -⟩ := hcw.get hlt
                    obtain ⟨b2, o2, c2, hrm, hc2, -⟩ := hcw.get hml
                    obtain ⟨b3, o3, c3, hrx, hc3, -⟩ := hcw.get (i := (ent t k m).toNat) (by omega)
                    have f1 := hc1.ent hl1 hml
                    have f2 := hc2.ent (HT.out.len hml) hjl
                    have f3 := hc1.ent (y := (ent t m j).toNat) hl1 (by omega)
                    have f4 := hc3.ent (HT.out.len (by omega)) hjl
                    clear hc1 hc2 hc3 hcw
                    rw [HT.out.len hml] at hrm
                    rw [HT.out.len hlt] at hr
                    rw [HT.out.len (x := (ent t k m).toNat) (by omega)] at hrx
                    cases ha : (ent t (ent t k m).toNat j != ent t k (ent t m j).toNat) with
                    | true =>
                      go_wp2
                      go_quiet (fail)
                      go_wp2
                      go_ret
                      exact ⟨ret_bool (groupB_no (fun h => absurd ((h.2.2 k hlt).2 m hml j hjl) (by simpa using ha))).symm, hx.drewN _⟩
                    | false =>
                      go_wp2
                      go_quiet (fail)
                      go_wp2
                      go_roundw
                      case rel => exact ⟨j + 1, by omega, by go_num, hato.succ (by simpa using ha), hx.drewN _⟩
                      case measure => simp [intOf]; omega

end Go.Proofs.YthlafeefjonkdaaDoor
