/-
  Contracts of the laws' own helpers: copies.
-/
import Derived.Test.YthlafeefjonkdaaGreatDoorProg
import Derived.Test.YthlafeefjonkdaaGreatDoorJx1
namespace Go.Proofs.YthlafeefjonkdaaGreatDoor
set_option linter.unusedVariables false
set_option linter.unusedSimpArgs false
open Go.RowKit

theorem infoInt : (Tryz.prog.info? 2).map (fun i => (i.zero, i.size, i.bytes)) = some (some (.int .i64 0), 1, 8) := by kernel_rfl
theorem infoSl : (Tryz.prog.info? 29).map (fun i => (i.zero, i.size, i.bytes)) = some (some (.slice none 0 0), 1, 24) := by kernel_rfl

def NewI (l : List Int) (w : World) (e : Ending) (w' : World) : Prop :=
  ∃ b c, e = .returned (.slice (some ⟨b, 0, none⟩) l.length c) ∧ OwnI w.heap.size w'.heap.size w' b 0 l ∧ Ext w w'
def NewT (t : List (List Int)) (w : World) (e : Ending) (w' : World) : Prop :=
  ∃ b c, e = .returned (.slice (some ⟨b, 0, none⟩) t.length c) ∧ OwnT w.heap.size w'.heap.size w' b 0 t ∧ Ext w w'

end Go.Proofs.YthlafeefjonkdaaGreatDoor


namespace Go.Proofs.YthlafeefjonkdaaGreatDoor
set_option linter.unusedVariables false
set_option linter.unusedSimpArgs false
open Go.RowKit

theorem l01In_any (n lo hi : Int) (w : World) : Calls Tryz.prog 79 #[.int .i64 n, .int .i64 lo, .int .i64 hi] w fun e w' => e = .returned (.bool (inR n lo hi)) ∧ w = w' := by
  go_enter Tryz.func79, Tryz.ntmps79
  go_wp2
  all_goals go_ret
  all_goals exact ⟨by unfold inR; apply ret_bool; simp; omega, rfl⟩

theorem within_any (n lo hi : Int) (w : World) : Calls Tryz.prog 100 #[.int .i64 n, .int .i64 lo, .int .i64 hi] w fun e w' => e = .returned (.bool (inR n lo hi)) ∧ w = w' := by
  go_enter Tryz.func100, Tryz.ntmps100
  go_wp2
  all_goals go_ret
  all_goals exact ⟨by unfold inR; apply ret_bool; simp; omega, rfl⟩

theorem l01Index_any (l : List Int) (v : Value) (n : Int) (w : World) (hv : Ints w v l) :
    Calls Tryz.prog 107 #[v, .int .i64 n] w fun e w' => e = .returned (.int .i64 (indexOf l n)) ∧ w = w' := by
  obtain ⟨hlen, b, o, c, rfl, hc⟩ := hv
  go_enter Tryz.func107, Tryz.ntmps107
  go_wp2
  go_loop [5] (fun i => ∃ k : Nat, k ≤ l.length ∧ i = .int .i64 k ∧ indexOf l n = indexFrom n (l.drop k) k) (fun i => l.length - (intOf i).toNat)
  case atStart => exact ⟨0, Nat.zero_le _, rfl, by unfold indexOf; rfl⟩
  case round =>
    obtain ⟨k, hk, rfl, hr⟩ := hrel
    have Hr := Lib.hid hr
    clear hr
    by_cases hlt : k < l.length
    · have hcell := hc k hlt
      by_cases he : (ix l k == n) = true
      · go_wp2
        go_ret
        exact ⟨ret_int (by rw [Hr.out, indexFrom_hit l n k hlt (by simpa using he)]), rfl⟩
      · have he' : (ix l k == n) = false := by simpa using he
        clear he
        go_wp2
        go_round
        case rel => exact ⟨k + 1, by omega, by go_num, by rw [Hr.out, indexFrom_miss l n k hlt (by simpa using he')]⟩
        case measure => simp [intOf]; omega
    · go_wp2
      go_ret
      exact ⟨ret_int (by rw [Hr.out, indexFrom_end l n k (by omega)]), rfl⟩

theorem l01Has_any (l : List Int) (v : Value) (n : Int) (w : World) (hv : Ints w v l) :
    Calls Tryz.prog 80 #[v, .int .i64 n] w fun e w' => e = .returned (.bool (hasB l n)) ∧ w = w' := by
  go_enter Tryz.func80, Tryz.ntmps80
  go_wp2_with (go_at_call 107; refine (l01Index_any l _ _ _ hv).mono ?_; rintro e w' ⟨rfl, rfl⟩)
  go_ret
  exact ⟨ret_bool (by rw [hasB_def]), rfl⟩
end Go.Proofs.YthlafeefjonkdaaGreatDoor


namespace Go.Proofs.YthlafeefjonkdaaGreatDoor
set_option linter.unusedVariables false
set_option linter.unusedSimpArgs false
open Go.RowKit

theorem l01Table_any (t : List (List Int)) (v : Value) (w : World) (hv : Rows w v t) :
    Calls Tryz.prog 67 #[v] w fun e w' => e = .returned (.bool (tableB t)) ∧ w = w' := by
  obtain ⟨hlen, b, o, c, rfl, hc⟩ := hv
  cases hin : inR t.length 1 12 with
  | false =>
    go_enter Tryz.func67, Tryz.ntmps67
    go_wp2_with (go_at_call 79; refine (l01In_any _ _ _ _).mono ?_; rintro e w' ⟨rfl, rfl⟩)
    go_ret
    have := inR_false.1 hin
    exact ⟨ret_bool (tableB_no (fun h => this ⟨by have := h.1; omega, by have := h.2.1; omega⟩)).symm, rfl⟩
  | true =>
    have hb := inR_iff.1 hin
    go_enter Tryz.func67, Tryz.ntmps67
    go_wp2_with (go_at_call 79; refine (l01In_any _ _ _ _).mono ?_; rintro e w' ⟨rfl, rfl⟩)
    clear hin
    go_loop [4] (fun x => ∃ k : Nat, k ≤ t.length ∧ x = .int .i64 k ∧ RowsOk t t.length k) (fun x => t.length - (intOf x).toNat)
    case atStart => exact ⟨0, Nat.zero_le _, rfl, RowsOk.zero _ _⟩
    case round =>
      obtain ⟨k, hk, rfl, hok⟩ := hrel
      by_cases hlt : k < t.length
      · obtain ⟨b1, o1, c1, hr, hc1, hrl⟩ := hc.get hlt
        by_cases hw : (row t k).length = t.length
        · go_wp2
          go_loop [5] (fun y => ∃ j : Nat, j ≤ t.length ∧ y = .int .i64 j ∧ RowTo t t.length k j) (fun y => t.length - (intOf y).toNat)
          case atStart => exact ⟨0, Nat.zero_le _, rfl, RowTo.zero _ _ _⟩
          case round =>
            obtain ⟨j, hj, rfl, hto⟩ := hrel
            by_cases hjl : j < t.length
            · have hcell := hc1.ent hw hjl
              cases hin : inR (ent t k j) 0 (t.length - 1) with
              | false =>
                go_wp2_with (go_at_call 79; refine (l01In_any _ _ _ _).mono ?_; rintro e w' ⟨rfl, rfl⟩)
                go_ret
                exact ⟨ret_bool (tableB_no (fun h => inR_false.1 hin ((h.2.2 k hlt).2 j hjl))).symm, rfl⟩
              | true =>
                go_wp2_with (go_at_call 79; refine (l01In_any _ _ _ _).mono ?_; rintro e w' ⟨rfl, rfl⟩)
                go_round
                case rel => exact ⟨j + 1, by omega, by go_num, hto.succ (inR_iff.1 hin)⟩
                case measure => simp [intOf]; omega
            · have hjn : t.length ≤ j := by omega
              go_wp2
              go_round
              case rel => exact ⟨k + 1, by omega, by go_num, hok.succ ⟨hw, hto.mono hjn⟩⟩
              case measure => simp [intOf]; omega
        · go_wp2
          go_ret
          exact ⟨ret_bool (tableB_no (fun h => hw (h.2.2 k hlt).1)).symm, rfl⟩
      · go_wp2
        go_ret
        exact ⟨ret_bool (tableB_yes ⟨by omega, by omega, hok.mono (by omega)⟩).symm, rfl⟩
end Go.Proofs.YthlafeefjonkdaaGreatDoor


namespace Go.Proofs.YthlafeefjonkdaaGreatDoor
set_option linter.unusedVariables false
set_option linter.unusedSimpArgs false
open Go.RowKit

theorem l01Perm_any (l : List Int) (v : Value) (w : World) (hv : Ints w v l) (h1 : 1 ≤ l.length) (h2 : l.length ≤ 12) :
    Calls Tryz.prog 50 #[v] w fun e w' => e = .returned (.bool (permB l)) ∧ w = w' := by
  have hin : inR l.length 1 12 = true := inR_iff.2 ⟨by omega, by omega⟩
  have hv' := hv
  obtain ⟨hlen, b, o, c, rfl, hc⟩ := hv
  clear hc
  go_enter Tryz.func50, Tryz.ntmps50
  go_wp2_with (go_at_call 79; refine (l01In_any _ _ _ _).mono ?_; rintro e w' ⟨rfl, rfl⟩)
  go_loop [4] (fun x => ∃ k : Nat, k ≤ l.length ∧ x = .int .i64 k ∧ HasTo l k) (fun x => l.length - (intOf x).toNat)
  case atStart => exact ⟨0, Nat.zero_le _, rfl, HasTo.zero _⟩
  case round =>
    obtain ⟨k, hk, rfl, hto⟩ := hrel
    by_cases hlt : k < l.length
    · cases hi : hasB l k with
      | true =>
        go_wp2_with (go_at_call 80; refine (l01Has_any l _ _ _ hv').mono ?_; rintro e w' ⟨rfl, rfl⟩)
        go_round
        case rel => exact ⟨k + 1, by omega, by go_num, hto.succ (hasB_iff.1 hi)⟩
        case measure => simp [intOf]; omega
      | false =>
        go_wp2_with (go_at_call 80; refine (l01Has_any l _ _ _ hv').mono ?_; rintro e w' ⟨rfl, rfl⟩)
        go_ret
        exact ⟨ret_bool (permB_no (fun h => hasB_no.1 hi ((permOk_iff_has l).1 h k hlt))).symm, rfl⟩
    · go_wp2
      go_ret
      exact ⟨ret_bool (permB_yes ((permOk_iff_has l).2 (hto.mono (by omega)))).symm, rfl⟩

set_option maxRecDepth 100000 in
theorem l10Is_any (t : List (List Int)) (v : Value) (w : World) (hv : Rows w v t) :
    Calls Tryz.prog 42 #[v] w fun e w' => e = .returned (.bool (groupB t)) ∧ Ext w w' := by
  by_cases hT : TableOk t
  case neg =>
    have hB := tableB_no hT
    go_enter Tryz.func42, Tryz.ntmps42
    go_wp2_with (go_at_call 67; refine (l01Table_any t _ _ hv).mono ?_; rintro e w' ⟨rfl, rfl⟩)
    go_ret
    exact ⟨ret_bool (groupB_no (fun h => hT h.1)).symm, Ext.refl _⟩
  case pos =>
    have hB := tableB_yes hT
    have hv' := hv
    obtain ⟨hlen, b, o, c, rfl, hc⟩ := hv
    have HT := Lib.hid hT
    have h1 := hT.1
    have h2 := hT.2.1
    clear hT
    go_enter Tryz.func42, Tryz.ntmps42
    go_wp2_with (go_at_call 67; refine (l01Table_any t _ _ hv').mono ?_; rintro e w' ⟨rfl, rfl⟩)
    clear hB
    go_loopw [3] (fun x wr => ∃ k : Nat, k ≤ t.length ∧ x = .int .i64 k ∧ PermRows t k ∧ UnitAssocTo t t.length k ∧ Ext w wr) (fun x _ => t.length - (intOf x).toNat)
    case atStart => exact ⟨0, Nat.zero_le _, rfl, PermRows.zero _, UnitAssocTo.zero _ _, Ext.refl _⟩
    case round =>
      obtain ⟨k, hk, rfl, hpr, hua, hx⟩ := hrel
      by_cases hlt : k < t.length
      case neg =>
        go_wp2
        go_ret
        exact ⟨ret_bool (groupB_yes ⟨HT.out, hpr.mono (by omega), hua.mono (by omega)⟩).symm, hx⟩
      case pos =>
        obtain ⟨b0, o0, c0, hr0, hc0, -⟩ := (hc.ext hx).head (by omega)
        obtain ⟨b1, o1, c1, hr, hc1, hl⟩ := (hc.ext hx).get hlt
        have hl0 := HT.out.len (x := 0) (by omega)
        have hl1 := HT.out.len hlt
        have e0 := hc0.ent hl0 hlt
        have e1 := hc1.ent0 hl1 (by omega)
        have hri' := hc1.ints hl c1
        rw [hl0] at hr0
        rw [hl1] at hr hri'
        clear hl0 hc0
        cases hu0 : (ent t 0 k != (k : Int)) with
        | true =>
          go_wp2
          go_ret
          exact ⟨ret_bool (groupB_no (fun h => absurd (h.2.2 k hlt).1.1 (by simpa using hu0))).symm, hx⟩
        | false =>
          cases hu1 : (ent t k 0 != (k : Int)) with
          | true =>
            go_wp2
            go_ret
            exact ⟨ret_bool (groupB_no (fun h => absurd (h.2.2 k hlt).1.2 (by simpa using hu1))).symm, hx⟩
          | false =>
            have hun : UnitAt t k := ⟨by simpa using hu0, by simpa using hu1⟩
            cases hp : permB (row t k) with
            | false =>
              go_wp2_with (go_at_call 50; refine (l01Perm_any (row t k) _ _ hri' (by omega) (by omega)).mono ?_; rintro e w' ⟨rfl, rfl⟩)
              go_ret
              exact ⟨ret_bool (groupB_no (fun h => absurd (permB_yes (h.2.1 k hlt)) (by rw [hp]; simp))).symm, hx⟩
            | true =>
              go_wp2_with (go_at_call 50; refine (l01Perm_any (row t k) _ _ hri' (by omega) (by omega)).mono ?_; rintro e w' ⟨rfl, rfl⟩)
              have hpk := permB_iff.1 hp
              clear hp hu0 hu1 e0 e1 hr0 hr hc1 hri'
              obtain ⟨w1, rfl⟩ : ∃ w1 : World, w1 = wr := ⟨_, rfl⟩
              go_loopw [4] (fun y wr => ∃ m : Nat, m ≤ t.length ∧ y = .int .i64 m ∧ AssocY t t.length k m ∧ Ext w wr) (fun y _ => t.length - (intOf y).toNat)
              case atStart => exact ⟨0, Nat.zero_le _, rfl, AssocY.zero _ _ _, hx⟩
              case round =>
                clear hx
                obtain ⟨m, hm, rfl, hay, hx⟩ := hrel
                by_cases hml : m < t.length
                case neg =>
                  go_wp2
                  go_roundw
                  case rel => exact ⟨k + 1, by omega, by go_num, hpr.succ hpk, hua.succ hun (hay.mono (by omega)), hx⟩
                  case measure => simp [intOf]; omega
                case pos =>
                  go_wp2
                  obtain ⟨w2, rfl⟩ : ∃ w1 : World, w1 = wr := ⟨_, rfl⟩
                  go_loopw [5] (fun z wr => ∃ j : Nat, j ≤ t.length ∧ z = .int .i64 j ∧ AssocTo t k m j ∧ Ext w wr) (fun z _ => t.length - (intOf z).toNat)
                  case atStart => exact ⟨0, Nat.zero_le _, rfl, AssocTo.zero _ _ _, hx⟩
                  case round =>
                    clear hx
                    obtain ⟨j, hj, rfl, hato, hx⟩ := hrel
                    by_cases hjl : j < t.length
                    case neg =>
                      go_wp2
                      go_roundw
                      case rel => exact ⟨m + 1, by omega, by go_num, hay.succ (hato.mono (by omega)), hx⟩
                      case measure => simp [intOf]; omega
                    case pos =>
                      have bxy := HT.out.bd hlt hml
                      have byz := HT.out.bd hml hjl
                      have hcw := hc.ext hx
                      obtain ⟨b1, o1, c1, hr, hc1, -⟩ := hcw.get hlt
                      obtain ⟨b2, o2, c2, hrm, hc2, -⟩ := hcw.get hml
                      obtain ⟨b3, o3, c3, hrx, hc3, -⟩ := hcw.get (i := (ent t k m).toNat) (by omega)
                      have f1 := hc1.ent hl1 hml
                      have f2 := hc2.ent (HT.out.len hml) hjl
                      have f3 := hc1.ent (y := (ent t m j).toNat) hl1 (by omega)
                      have f4 := hc3.ent (HT.out.len (by omega)) hjl
                      clear hc1 hc2 hc3 hcw
                      rw [HT.out.len hml] at hrm
                      rw [HT.out.len hlt] at hr
                      rw [HT.out.len (x := (ent t k m).toNat) (by omega)] at hrx
                      cases ha : (ent t (ent t k m).toNat j != ent t k (ent t m j).toNat) with
                      | true =>
                        go_wp2
                        go_quiet (fail)
                        go_wp2
                        go_ret
                        exact ⟨ret_bool (groupB_no (fun h => absurd ((h.2.2 k hlt).2 m hml j hjl) (by simpa using ha))).symm, hx.drewN _⟩
                      | false =>
                        go_wp2
                        go_quiet (fail)
                        go_wp2
                        go_roundw
                        case rel => exact ⟨j + 1, by omega, by go_num, hato.succ (by simpa using ha), hx.drewN _⟩
                        case measure => simp [intOf]; omega
end Go.Proofs.YthlafeefjonkdaaGreatDoor


namespace Go.Proofs.YthlafeefjonkdaaGreatDoor
set_option linter.unusedVariables false
set_option linter.unusedSimpArgs false
open Go.RowKit

theorem allWithin_any (l : List Int) (v : Value) (lo hi : Int) (w : World) (hv : Ints w v l) :
    Calls Tryz.prog 103 #[v, .int .i64 lo, .int .i64 hi] w fun e w' => e = .returned (.bool (allInB l lo hi)) ∧ w = w' := by
  obtain ⟨hlen, b, o, c, rfl, hc⟩ := hv
  go_enter Tryz.func103, Tryz.ntmps103
  go_wp2
  go_loop [11] (fun i => ∃ k : Nat, k ≤ l.length ∧ i = .int .i64 k ∧ AllInTo l lo hi k) (fun i => l.length - (intOf i).toNat)
  case atStart => exact ⟨0, Nat.zero_le _, rfl, AllInTo.zero _ _ _⟩
  case round =>
    obtain ⟨k, hk, rfl, hto⟩ := hrel
    by_cases hlt : k < l.length
    · have hcell := hc k hlt
      cases hin : inR (ix l k) lo hi with
      | true =>
        go_wp2_with (go_at_call 100; refine (within_any _ _ _ _).mono ?_; rintro e w' ⟨rfl, rfl⟩)
        go_round
        case rel => exact ⟨k + 1, by omega, by go_num, hto.succ (inR_iff.1 hin)⟩
        case measure => simp [intOf]; omega
      | false =>
        go_wp2_with (go_at_call 100; refine (within_any _ _ _ _).mono ?_; rintro e w' ⟨rfl, rfl⟩)
        go_ret
        exact ⟨ret_bool (allInB_no (fun h => inR_false.1 hin (h k hlt))).symm, rfl⟩
    · go_wp2
      go_ret
      exact ⟨ret_bool (allInB_yes (hto.mono (by omega))).symm, rfl⟩

theorem IndexFunc_any (t : List (List Int)) (p : List Int → Bool) (F : Nat) (cap : Array Value) (v : Value) (w : World) (hv : Rows w v t)
    (hcall : ∀ (args : Array Value) (w : World), (callFunc F args).run Tryz.prog w = .ok (.enter F args) w)
    (hf : ∀ w1 r i, Ext w w1 → i < t.length → Ints w1 r (row t i) → Calls Tryz.prog F (#[r] ++ cap) w1 fun e w' => e = .returned (.bool (p (row t i))) ∧ Ext w1 w') :
    Calls Tryz.prog 133 #[v, .func (.func F) #[] cap] w fun e w' => e = .returned (.int .i64 (findIx p t)) ∧ Ext w w' := by
  obtain ⟨hlen, b, o, c, rfl, hc⟩ := hv
  have HF := Lib.hid hf
  clear hf
  go_enter Tryz.func133, Tryz.ntmps133
  go_wp2
  go_loopw [8] (fun i wr => ∃ k : Nat, k ≤ t.length ∧ i = .int .i64 k ∧ findIx p t = findFrom p (t.drop k) k ∧ Ext w wr) (fun i _ => t.length - (intOf i).toNat)
  case atStart => exact ⟨0, Nat.zero_le _, rfl, by unfold findIx; rfl, Ext.refl _⟩
  case round =>
    obtain ⟨k, hk, rfl, hr, hx⟩ := hrel
    have Hr := Lib.hid hr
    clear hr
    by_cases hlt : k < t.length
    · obtain ⟨b1, o1, c1, hrow, hc1, hl⟩ := (hc.ext hx).get hlt
      have hri := hc1.ints hl c1
      cases hp : p (row t k) with
      | true =>
        go_wp2_with fail
        refine (HF.out _ _ k hx hlt hri).mono ?_
        rintro e w1 ⟨rfl, hx1⟩
        rw [hp]
        go_wp2
        go_ret
        exact ⟨ret_int (by rw [Hr.out, findFrom_hit p t k hlt hp]), hx.trans hx1⟩
      | false =>
        go_wp2_with fail
        refine (HF.out _ _ k hx hlt hri).mono ?_
        rintro e w1 ⟨rfl, hx1⟩
        rw [hp]
        go_wp2
        go_roundw
        case rel => exact ⟨k + 1, by omega, by go_num, by rw [Hr.out, findFrom_miss p t k hlt hp], hx.trans hx1⟩
        case measure => simp [intOf]; omega
    · go_wp2
      go_ret
      exact ⟨ret_int (by rw [Hr.out, findFrom_end p t k (by omega)]), hx⟩

theorem ContainsFunc_any (t : List (List Int)) (p : List Int → Bool) (F : Nat) (cap : Array Value) (v : Value) (w : World) (hv : Rows w v t)
    (hcall : ∀ (args : Array Value) (w : World), (callFunc F args).run Tryz.prog w = .ok (.enter F args) w)
    (hf : ∀ w1 r i, Ext w w1 → i < t.length → Ints w1 r (row t i) → Calls Tryz.prog F (#[r] ++ cap) w1 fun e w' => e = .returned (.bool (p (row t i))) ∧ Ext w1 w') :
    Calls Tryz.prog 101 #[v, .func (.func F) #[] cap] w fun e w' => e = .returned (.bool (anyB p t)) ∧ Ext w w' := by
  go_enter Tryz.func101, Tryz.ntmps101
  go_wp2_with fail
  refine (IndexFunc_any t p F cap v _ hv hcall hf).mono ?_
  rintro e w1 ⟨rfl, hx1⟩
  clear hcall hf
  go_wp2
  go_ret
  exact ⟨ret_bool (anyB_find p t).symm, hx1⟩
end Go.Proofs.YthlafeefjonkdaaGreatDoor
