/-
  Contracts of the laws' own helpers: equality, size, copies, marks.
-/
import Derived.Test.YthlafeefjonkdaaGreatDoorJx3
import Derived.Test.YthlafeefjonkdaaGreatDoorJx6
namespace Go.Proofs.YthlafeefjonkdaaGreatDoor
set_option linter.unusedVariables false
set_option linter.unusedSimpArgs false
open Go.RowKit

@[irreducible] def eqIB (a b : List Int) : Bool := decide (a = b)
@[irreducible] def eqTB (a b : List (List Int)) : Bool := decide (a = b)
theorem eqIB_yes {a b : List Int} (h : a = b) : eqIB a b = true := by unfold eqIB; simpa using h
theorem eqIB_no {a b : List Int} (h : a ≠ b) : eqIB a b = false := by unfold eqIB; simpa using h
theorem eqIB_iff {a b : List Int} : eqIB a b = true ↔ a = b := by unfold eqIB; simp
theorem eqTB_yes {a b : List (List Int)} (h : a = b) : eqTB a b = true := by unfold eqTB; simpa using h
theorem eqTB_no {a b : List (List Int)} (h : a ≠ b) : eqTB a b = false := by unfold eqTB; simpa using h
theorem eqTB_iff {a b : List (List Int)} : eqTB a b = true ↔ a = b := by unfold eqTB; simp
def SameTo (a b : List Int) (k : Nat) : Prop := ∀ i, i < k → ix a i = ix b i
def SameRows (a b : List (List Int)) (k : Nat) : Prop := ∀ i, i < k → row a i = row b i

end Go.Proofs.YthlafeefjonkdaaGreatDoor


namespace Go.Proofs.YthlafeefjonkdaaGreatDoor
set_option linter.unusedVariables false
set_option linter.unusedSimpArgs false
open Go.RowKit

@[irreducible] def turnF (t : List (List Int)) (x y : Nat) : Int := ent t y x
theorem turnF_def (t : List (List Int)) (x y : Nat) : turnF t x y = ent t y x := by unfold turnF; rfl
@[irreducible] def turnT (t : List (List Int)) : List (List Int) := mkT t.length (turnF t)
theorem turnT_def (t : List (List Int)) : turnT t = mkT t.length (turnF t) := by unfold turnT; rfl
theorem length_turnT (t : List (List Int)) : (turnT t).length = t.length := by rw [turnT_def]; exact length_mkT _ _
theorem length_row_mkT (n : Nat) (f : Nat → Nat → Int) (x : Nat) (h : x < n) : (row (mkT n f) x).length = n := by rw [row_mkT _ _ _ h]; exact length_partRow _ _ _ _
theorem length_row_turnT (t : List (List Int)) (x : Nat) (h : x < t.length) : (row (turnT t) x).length = t.length := by rw [turnT_def]; exact length_row_mkT _ _ _ h
theorem ent_turnT (t : List (List Int)) (x y : Nat) (hx : x < t.length) (hy : y < t.length) : ent (turnT t) x y = ent t y x := by rw [turnT_def, ent_mkT _ _ _ _ hx hy, turnF_def]
/-! ### comparing -/
def cmpI (a b : Int) : Int := if a < b then -1 else if b < a then 1 else 0
theorem cmpI_zero {a b : Int} : cmpI a b = 0 ↔ a = b := by
  unfold cmpI
  split
  · constructor
    · intro h; simp at h
    · intro h; omega
  · split
    · constructor
      · intro h; simp at h
      · intro h; omega
    · constructor
      · intro _; omega
      · intro _; rfl
def cmpBy {α : Type} (c : α → α → Int) : List α → List α → Int
  | [], [] => 0
  | [], _ :: _ => -1
  | _ :: _, [] => 1
  | x :: r, y :: s => if c x y = 0 then cmpBy c r s else c x y
theorem cmpBy_zero {α : Type} {c : α → α → Int} (hc : ∀ x y, c x y = 0 ↔ x = y) : ∀ l m : List α, cmpBy c l m = 0 ↔ l = m
  | [], [] => by simp [cmpBy]
  | [], _ :: _ => by simp [cmpBy]
  | _ :: _, [] => by simp [cmpBy]
  | x :: r, y :: s => by
    unfold cmpBy
    by_cases h : c x y = 0
    · rw [if_pos h, cmpBy_zero hc r s]
      have := (hc x y).1 h
      subst this; simp
    · rw [if_neg h]
      constructor
      · intro h2; exact absurd h2 h
      · intro h2
        have : x = y := by simpa using congrArg List.head? h2
        exact absurd ((hc x y).2 this) h
@[irreducible] def cmpL (l m : List Int) : Int := cmpBy cmpI l m
@[irreducible] def cmpT (s t : List (List Int)) : Int := cmpBy cmpL s t
theorem cmpL_zero {l m : List Int} : cmpL l m = 0 ↔ l = m := by unfold cmpL; exact cmpBy_zero (fun _ _ => cmpI_zero) l m
theorem cmpT_zero {s t : List (List Int)} : cmpT s t = 0 ↔ s = t := by unfold cmpT; exact cmpBy_zero (fun _ _ => cmpL_zero) s t
@[irreducible] def cmpLF (l m : List Int) (k : Nat) : Int := cmpL (l.drop k) (m.drop k)
@[irreducible] def cmpTF (s t : List (List Int)) (k : Nat) : Int := cmpT (s.drop k) (t.drop k)
theorem cmpLF_zero (l m : List Int) : cmpL l m = cmpLF l m 0 := by unfold cmpLF; simp
theorem cmpTF_zero (l m : List (List Int)) : cmpT l m = cmpTF l m 0 := by unfold cmpTF; simp
theorem cmpLF_more {l m : List Int} {k : Nat} (h : k < l.length) (h2 : m.length ≤ k) : cmpLF l m k = 1 := by
  unfold cmpLF cmpL; rw [drop_cons l k h, List.drop_of_length_le h2]; rfl
theorem cmpLF_less {l m : List Int} {k : Nat} (h : l.length ≤ k) (h2 : k < m.length) : cmpLF l m k = -1 := by
  unfold cmpLF cmpL; rw [drop_cons m k h2, List.drop_of_length_le h]; rfl
theorem cmpLF_end {l m : List Int} {k : Nat} (h : l.length ≤ k) (h2 : m.length ≤ k) : cmpLF l m k = 0 := by
  unfold cmpLF cmpL; rw [List.drop_of_length_le h2, List.drop_of_length_le h]; rfl
theorem cmpLF_ne {l m : List Int} {k : Nat} (h : k < l.length) (h2 : k < m.length) (e : cmpI (ix l k) (ix m k) ≠ 0) : cmpLF l m k = cmpI (ix l k) (ix m k) := by
  unfold cmpLF cmpL; rw [drop_cons l k h, drop_cons m k h2]; simp only [cmpBy]; rw [if_neg e]
theorem cmpLF_eq {l m : List Int} {k : Nat} (h : k < l.length) (h2 : k < m.length) (e : cmpI (ix l k) (ix m k) = 0) : cmpLF l m k = cmpLF l m (k + 1) := by
  unfold cmpLF cmpL; rw [drop_cons l k h, drop_cons m k h2]; simp only [cmpBy]; rw [if_pos e]
theorem cmpTF_more {l m : List (List Int)} {k : Nat} (h : k < l.length) (h2 : m.length ≤ k) : cmpTF l m k = 1 := by
  unfold cmpTF cmpT; rw [row_drop l k h, List.drop_of_length_le h2]; rfl
theorem cmpTF_less {l m : List (List Int)} {k : Nat} (h : l.length ≤ k) (h2 : k < m.length) : cmpTF l m k = -1 := by
  unfold cmpTF cmpT; rw [row_drop m k h2, List.drop_of_length_le h]; rfl
theorem cmpTF_end {l m : List (List Int)} {k : Nat} (h : l.length ≤ k) (h2 : m.length ≤ k) : cmpTF l m k = 0 := by
  unfold cmpTF cmpT; rw [List.drop_of_length_le h2, List.drop_of_length_le h]; rfl
theorem cmpTF_ne {l m : List (List Int)} {k : Nat} (h : k < l.length) (h2 : k < m.length) (e : cmpL (row l k) (row m k) ≠ 0) : cmpTF l m k = cmpL (row l k) (row m k) := by
  unfold cmpTF cmpT; rw [row_drop l k h, row_drop m k h2]; simp only [cmpBy]; rw [if_neg e]
theorem cmpTF_eq {l m : List (List Int)} {k : Nat} (h : k < l.length) (h2 : k < m.length) (e : cmpL (row l k) (row m k) = 0) : cmpTF l m k = cmpTF l m (k + 1) := by
  unfold cmpTF cmpT; rw [row_drop l k h, row_drop m k h2]; simp only [cmpBy]; rw [if_pos e]
def ComTo (t : List (List Int)) (x k : Nat) : Prop := ∀ y, y < k → ent t x y = ent t y x
instance (t x k) : Decidable (ComTo t x k) := by unfold ComTo; infer_instance
@[irreducible] def codeG (t : List (List Int)) : Int := if groupB t = true then 0 else 1
theorem codeG_yes {t} (h : groupB t = true) : codeG t = 0 := by unfold codeG; rw [if_pos h]
theorem codeG_no {t} (h : groupB t = false) : codeG t = 1 := by unfold codeG; rw [if_neg (by rw [h]; simp)]
@[irreducible] def ifG {α : Type} (t : List (List Int)) (a d : α) : α := if groupB t = true then a else d
theorem ifG_yes {α : Type} {t} {a d : α} (h : groupB t = true) : ifG t a d = a := by unfold ifG; rw [if_pos h]
theorem ifG_no {α : Type} {t} {a d : α} (h : groupB t = false) : ifG t a d = d := by unfold ifG; rw [if_neg (by rw [h]; simp)]
end Go.Proofs.YthlafeefjonkdaaGreatDoor


namespace Go.Proofs.YthlafeefjonkdaaGreatDoor
set_option linter.unusedVariables false
set_option linter.unusedSimpArgs false

@[irreducible] def conjF (t : List (List Int)) (x y : Nat) : Int := ent t (ent t x y).toNat (backF t x).toNat
theorem RowsAt.read {w : World} {b o n : Nat} {t : List (List Int)} (h : RowsAt w b o t) (hT : TableOk t) (hn : t.length = n) {x : Nat} (hx : x < n) :
    ∃ d s m, w.cell? ⟨b, o + x, none⟩ = some (.slice (some ⟨d, s, none⟩) n m) ∧ ∀ y, y < n → w.cell? ⟨d, s + y, none⟩ = some (.int .i64 (ent t x y)) ∧ 0 ≤ ent t x y ∧ ent t x y < (n : Int) := by
  subst hn
  obtain ⟨d, s, m, r, l, -⟩ := h.get hx
  rw [hT.len hx] at r
  exact ⟨d, s, m, r, fun y hy => ⟨l.ent (hT.len hx) hy, (hT.bd hx hy).1, by have := (hT.bd hx hy).2; omega⟩⟩
end Go.Proofs.YthlafeefjonkdaaGreatDoor


namespace Go.Proofs.YthlafeefjonkdaaGreatDoor
set_option linter.unusedVariables false
set_option linter.unusedSimpArgs false
open Go.RowKit

def RowsB (w : World) (v y : Value) (t u : List (List Int)) : Prop := RowsR w v t ∧ RowsR w y u
def OwnB (lo hi : Nat) (w : World) (v y : Value) (t u : List (List Int)) : Prop :=
  ∃ a b c d : Nat, lo ≤ a ∧ b ≤ hi ∧ lo ≤ c ∧ d ≤ hi ∧ (b ≤ c ∨ d ≤ a) ∧ OwnV a b w v t ∧ OwnV c d w y u
theorem OwnB.toR {lo hi : Nat} {w : World} {v y : Value} {t u : List (List Int)} (h : OwnB lo hi w v y t u) : RowsR w v t ∧ RowsR w y u := by
  obtain ⟨a, b, c, d, -, -, -, -, -, h1, h2⟩ := h
  exact ⟨h1.toR, h2.toR⟩
theorem OwnB.small {lo hi : Nat} {w : World} {v y : Value} {t u : List (List Int)} (h : OwnB lo hi w v y t u) : Small t ∧ Small u := by
  obtain ⟨a, b, c, d, -, -, -, -, -, h1, h2⟩ := h
  exact ⟨h1.1, h2.1⟩
theorem OwnB.open {lo hi : Nat} {w : World} {v y : Value} {t u : List (List Int)} (h : OwnB lo hi w v y t u) :
    (Small t ∧ ∃ a c, v = .slice a t.length c ∧ True) ∧ (Small u ∧ ∃ a c, y = .slice a u.length c ∧ True) := by
  obtain ⟨a, b, c, d, -, -, -, -, -, ⟨h1, a1, c1, rfl, -⟩, ⟨h2, a2, c2, rfl, -⟩⟩ := h
  exact ⟨⟨h1, a1, c1, rfl, trivial⟩, ⟨h2, a2, c2, rfl, trivial⟩⟩
theorem OwnB.nil (lo hi : Nat) (w : World) (h : lo ≤ hi) : OwnB lo hi w (.slice none 0 0) (.slice none 0 0) [] [] := ⟨lo, lo, lo, lo, by omega, by omega, by omega, by omega, by omega, OwnV.nil _ _ _, OwnV.nil _ _ _⟩
def RetB (t u : List (List Int)) (c : Int) (w : World) (e : Ending) (w' : World) : Prop := ∃ v y, e = .returned (.tuple #[.agg #[v, y], .int .i64 c]) ∧ RowsB w' v y t u ∧ Ext w w'
def NewBC (t u : List (List Int)) (c : Int) (w : World) (e : Ending) (w' : World) : Prop := ∃ v y, e = .returned (.tuple #[.agg #[v, y], .int .i64 c]) ∧ OwnB w.heap.size w'.heap.size w' v y t u ∧ Ext w w'

theorem cell_new2a (w : World) (v u : Value) (T : Nat) : (w.alloc (.cells #[v, u] T)).cell? ⟨w.heap.size, 0, none⟩ = some v := by simp [go_sem]
theorem cell_new2b (w : World) (v u : Value) (T : Nat) : (w.alloc (.cells #[v, u] T)).cell? ⟨w.heap.size, 1, none⟩ = some u := by simp [go_sem]
theorem ext_boxB (w : World) (v u : Value) (T : Nat) : Ext w (w.alloc (.cells #[v, u] T)) := (Ext.refl _).alloc _

theorem OwnV.set2 {lo hi : Nat} {w : World} {v : Value} {t : List (List Int)} (h : OwnV lo hi w v t) {B : Nat} (hB : B < lo) (p q : Value) :
    OwnV lo hi ((w.setCell ⟨B, 0, none⟩ p).setCell ⟨B, 1, none⟩ q) v t :=
  h.keep fun k h1 h2 => by rw [Below.heap_setCell _ _ _ _ (by simp only []; omega), Below.heap_setCell _ _ _ _ (by simp only []; omega)]
end Go.Proofs.YthlafeefjonkdaaGreatDoor


namespace Go.Proofs.YthlafeefjonkdaaGreatDoor
set_option linter.unusedVariables false
set_option linter.unusedSimpArgs false
open Go.RowKit

def RetIC (l : List Int) (c : Int) (w : World) (e : Ending) (w' : World) : Prop := ∃ v, e = .returned (.tuple #[v, .int .i64 c]) ∧ IntsR w' v l ∧ Ext w w'
def NewIC (l : List Int) (c : Int) (w : World) (e : Ending) (w' : World) : Prop := ∃ v, e = .returned (.tuple #[v, .int .i64 c]) ∧ OwnIV w.heap.size w'.heap.size w' v l ∧ Ext w w'
def NewTC (t : List (List Int)) (c : Int) (w : World) (e : Ending) (w' : World) : Prop := ∃ v, e = .returned (.tuple #[v, .int .i64 c]) ∧ OwnV w.heap.size w'.heap.size w' v t ∧ Ext w w'

end Go.Proofs.YthlafeefjonkdaaGreatDoor


namespace Go.Proofs.YthlafeefjonkdaaGreatDoor
set_option linter.unusedVariables false
set_option linter.unusedSimpArgs false
open Go.RowKit

theorem infoBool : (Tryz.prog.info? 4).map (fun i => (i.zero, i.size, i.bytes)) = some (some (.bool false), 1, 1) := by kernel_rfl

theorem IsTable1_any (l : List Int) (r : Value) (n : Int) (B : Nat) (w : World) (hr : Ints w r l) (hB : w.cell? ⟨B, 0, none⟩ = some (.int .i64 n)) (h0 : 0 ≤ n) (h1 : n ≤ 1048576) :
    Calls Tryz.prog 102 #[r, .pointer (some ⟨B, 0, none⟩)] w fun e w' => e = .returned (.bool (badRow n l)) ∧ Ext w w' := by
  have hr' := hr
  obtain ⟨hlen, b, o, c, rfl, hc⟩ := hr
  cases hn : ((l.length : Int) != n) with
  | true =>
    go_enter Tryz.func102, Tryz.ntmps102
    go_wp2
    go_ret
    exact ⟨ret_bool (by rw [badRow_def, hn]; rfl), Ext.refl _⟩
  | false =>
    go_enter Tryz.func102, Tryz.ntmps102
    go_wp2_with (go_at_call 103; refine (allWithin_any l _ _ _ _ hr').mono ?_; rintro e w' ⟨rfl, rfl⟩)
    go_ret
    exact ⟨ret_bool (by rw [badRow_def, hn]; rfl), Ext.refl _⟩

theorem callIsTable1 (args : Array Value) (w : World) : (callFunc 102 args).run Tryz.prog w = .ok (.enter 102 args) w := by
  exact callFunc_enter Tryz.func102 (by kernel_rfl) rfl args w

theorem IsTable_any (t : List (List Int)) (v : Value) (w : World) (hv : Rows w v t) :
    Calls Tryz.prog 65 #[v] w fun e w' => e = .returned (.bool (tableB t)) ∧ Ext w w' := by
  have hv' := hv
  obtain ⟨hlen, b, o, c, rfl, hc⟩ := hv
  cases hin : inR t.length 1 12 with
  | false =>
    go_enter Tryz.func65, Tryz.ntmps65
    go_wp2_with (go_at_call 100; refine (within_any _ _ _ _).mono ?_; rintro e w' ⟨rfl, rfl⟩)
    go_ret
    exact ⟨ret_bool (by rw [tableB_any, hin]; rfl), (Ext.refl _).alloc _⟩
  | true =>
    go_enter Tryz.func65, Tryz.ntmps65
    go_wp2_with (go_at_call 100; refine (within_any _ _ _ _).mono ?_; rintro e w' ⟨rfl, rfl⟩)
    have hx0 : Ext w (w.alloc (Obj.cells #[Value.int IntKind.i64 ↑t.length] 2)) := (Ext.refl _).alloc _
    have hb := inR_iff.1 hin
    refine (ContainsFunc_any t (badRow t.length) 102 #[Value.pointer (some ⟨w.heap.size, 0, none⟩)] _ _ (hv'.ext hx0) callIsTable1 (fun w1 r i hx hi hr => by rw [app1]; exact IsTable1_any _ r t.length _ _ hr (hx.cell (by simp [go_sem])) (by omega) (by omega))).mono ?_
    rintro e w1 ⟨rfl, hx1⟩
    go_wp2
    go_ret
    exact ⟨ret_bool (by rw [tableB_any, hin]; rfl), hx0.trans hx1⟩

set_option maxRecDepth 100000 in
theorem isPermuted_any (l : List Int) (v : Value) (w : World) (hv : Ints w v l) :
    Calls Tryz.prog 117 #[v] w fun e w' => e = .returned (.bool (permB l)) ∧ Ext w w' := by
  obtain ⟨hlen, b, o, c, rfl, hc⟩ := hv
  have hmk := run_make_row' (P := Tryz.prog) 79 4 (.bool false) 1 Tryz.underlying79 infoBool rfl .i64 .i64 l.length (by omega) (by omega)
  go_enter Tryz.func117, Tryz.ntmps117
  go_wp2
  clear hmk
  have hx0 : Ext w (w.alloc (.cells (madeCells #[Value.bool false] l.length) 4)) := (Ext.refl _).alloc _
  have hr0 := World.rowIs_made w (.bool false) l.length 4
  go_loopw [11] (fun i wr => ∃ k : Nat, k ≤ l.length ∧ i = .int .i64 k ∧ InTo l k ∧ DistinctTo l k ∧ wr.rowIs w.heap.size 4 l.length (fun i => .bool (seenB l k i)) ∧ Ext w wr) (fun i _ => l.length - (intOf i).toNat)
  case atStart => exact ⟨0, Nat.zero_le _, rfl, InTo.zero _, DistinctTo.zero _, hr0.congr (fun i hi => by rw [seenB_zero]), hx0⟩
  case round =>
    clear hx0 hr0
    obtain ⟨k, hk, rfl, hto, hdi, hseen, hx⟩ := hrel
    by_cases hlt : k < l.length
    · have hcell := hc.ext hx k hlt
      cases hin : inR (ix l k) 0 (l.length - 1) with
      | false =>
        go_wp2_with (go_at_call 100; refine (within_any _ _ _ _).mono ?_; rintro e w' ⟨rfl, rfl⟩)
        go_ret
        exact ⟨ret_bool (permB_no (fun h => inR_false.1 hin (h.1 k hlt))).symm, hx⟩
      | true =>
        have hb := inR_iff.1 hin
        have hs := hseen.cell (i := (ix l k).toNat) (by omega)
        have hz := hseen.frozen (ix l k).toNat
        cases hse : seenB l k (ix l k).toNat with
        | true =>
          rw [hse] at hs
          go_wp2_with (go_at_call 100; refine (within_any _ _ _ _).mono ?_; rintro e w' ⟨rfl, rfl⟩)
          go_ret
          obtain ⟨j, hj, e⟩ := seenB_iff.1 hse
          exact ⟨ret_bool (permB_no (fun h => h.2 k hlt j hj (by omega))).symm, hx⟩
        | false =>
          rw [hse] at hs
          go_wp2_with (go_at_call 100; refine (within_any _ _ _ _).mono ?_; rintro e w' ⟨rfl, rfl⟩)
          go_roundw
          case rel =>
            exact ⟨k + 1, by omega, by go_num, hto.succ hb, hdi.succ (fun j hj e => seenB_no.1 hse j hj (by omega)),
              (hseen.set (ix l k).toNat (.bool true)).congr (fun i hi => by rw [seenB_succ _ _ _ hb.1]; split <;> rfl), hx.setNew (Nat.le_refl _) _⟩
          case measure => simp [intOf]; omega
    · go_wp2
      go_ret
      exact ⟨ret_bool (permB_yes ⟨hto.mono (by omega), hdi.mono (by omega)⟩).symm, hx⟩

theorem permRows1_any (l : List Int) (r : Value) (w : World) (hr : Ints w r l) :
    Calls Tryz.prog 116 #[r] w fun e w' => e = .returned (.bool (!permB l)) ∧ Ext w w' := by
  go_enter Tryz.func116, Tryz.ntmps116
  go_wp2_with fail
  refine (isPermuted_any l _ _ hr).mono ?_
  rintro e w1 ⟨rfl, hx1⟩
  go_wp2
  go_ret
  exact ⟨ret_bool rfl, hx1⟩
theorem callPermRows1 (args : Array Value) (w : World) : (callFunc 116 args).run Tryz.prog w = .ok (.enter 116 args) w :=
  callFunc_enter Tryz.func116 (by kernel_rfl) rfl args w

theorem permutationRows_any (t : List (List Int)) (v : Value) (w : World) (hv : Rows w v t) :
    Calls Tryz.prog 89 #[v] w fun e w' => e = .returned (.bool (permRowsB t)) ∧ Ext w w' := by
  go_enter Tryz.func89, Tryz.ntmps89
  go_wp2_with fail
  refine (ContainsFunc_any t (fun l => !permB l) 116 #[] _ _ hv callPermRows1 (fun w1 r i hx hi hr => by rw [app0]; exact permRows1_any _ r _ hr)).mono ?_
  rintro e w1 ⟨rfl, hx1⟩
  go_wp2
  go_ret
  exact ⟨ret_bool (permRowsB_def t).symm, hx1⟩
end Go.Proofs.YthlafeefjonkdaaGreatDoor


namespace Go.Proofs.YthlafeefjonkdaaGreatDoor
set_option linter.unusedVariables false
set_option linter.unusedSimpArgs false
open Go.RowKit

set_option maxRecDepth 100000 in
theorem isGroupTable_any (t : List (List Int)) (v : Value) (w : World) (hv : Rows w v t) :
    Calls Tryz.prog 55 #[v] w fun e w' => e = .returned (.bool (groupB t)) ∧ Ext w w' := by
  by_cases hT : TableOk t
  case neg =>
    have hB := tableB_no hT
    go_enter Tryz.func55, Tryz.ntmps55
    go_wp2_with fail
    refine (IsTable_any t _ _ hv).mono ?_
    rintro e w1 ⟨rfl, hx1⟩
    go_wp2
    go_ret
    exact ⟨ret_bool (groupB_no (fun h => hT h.1)).symm, hx1⟩
  case pos =>
    have hB := tableB_yes hT
    cases hP : permRowsB t with
    | false =>
      go_enter Tryz.func55, Tryz.ntmps55
      go_wp2_with fail
      refine (IsTable_any t _ _ hv).mono ?_
      rintro e w1 ⟨rfl, hx1⟩
      go_wp2_with fail
      refine (permutationRows_any t _ _ (hv.ext hx1)).mono ?_
      rintro e w2 ⟨rfl, hx2⟩
      go_wp2
      go_ret
      exact ⟨ret_bool (groupB_no (fun h => absurd (permRowsB_iff.2 h.2.1) (by rw [hP]; simp))).symm, hx1.trans hx2⟩
    | true =>
    have hv' := hv
    obtain ⟨hlen, b, o, c, rfl, hc⟩ := hv
    have HT := Lib.hid hT
    have h1 := hT.1
    have h2 := hT.2.1
    clear hT
    have HP := Lib.hid (permRowsB_iff.1 hP)
    go_enter Tryz.func55, Tryz.ntmps55
    go_wp2_with fail
    refine (IsTable_any t _ _ hv').mono ?_
    rintro e w1 ⟨rfl, hx1⟩
    go_wp2_with fail
    refine (permutationRows_any t _ _ (hv'.ext hx1)).mono ?_
    rintro e w2 ⟨rfl, hx2⟩
    have hx := hx1.trans hx2
    clear hx1 hx2
    go_wp2
    clear hB hP
    go_loopw [16] (fun x wr => ∃ k : Nat, k ≤ t.length ∧ x = .int .i64 k ∧ UnitAssocTo t t.length k ∧ Ext w wr) (fun x _ => t.length - (intOf x).toNat)
    case atStart => exact ⟨0, Nat.zero_le _, rfl, UnitAssocTo.zero _ _, hx⟩
    case round =>
      clear hx
      obtain ⟨k, hk, rfl, hua, hx⟩ := hrel
      by_cases hlt : k < t.length
      case neg =>
        go_wp2
        go_ret
        exact ⟨ret_bool (groupB_yes ⟨HT.out, HP.out, hua.mono (by omega)⟩).symm, hx⟩
      case pos =>
        obtain ⟨b0, o0, c0, hr0, hc0, -⟩ := (hc.ext hx).head (by omega)
        obtain ⟨b1, o1, c1, hr, hc1, hl⟩ := (hc.ext hx).get hlt
        have hl0 := HT.out.len (x := 0) (by omega)
        have hl1 := HT.out.len hlt
        have e0 := hc0.ent hl0 hlt
        have e1 := hc1.ent0 hl1 (by omega)
        rw [hl0] at hr0
        rw [hl1] at hr
        clear hl0 hc0
        cases hu0 : (ent t 0 k != (k : Int)) with
        | true =>
          go_wp2
          go_ret
          exact ⟨ret_bool (groupB_no (fun h => absurd (h.2.2 k hlt).1.1 (by simpa using hu0))).symm, hx⟩
        | false =>
          cases hu1 : (ent t k 0 != (k : Int)) with
          | true =>
            go_wp2
            go_ret
            exact ⟨ret_bool (groupB_no (fun h => absurd (h.2.2 k hlt).1.2 (by simpa using hu1))).symm, hx⟩
          | false =>
            have hun : UnitAt t k := ⟨by simpa using hu0, by simpa using hu1⟩
            go_wp2
            clear hu0 hu1 e0 e1 hr0 hr hc1
            obtain ⟨w3, rfl⟩ : ∃ w1 : World, w1 = wr := ⟨_, rfl⟩
            go_loopw [39] (fun y wr => ∃ m : Nat, m ≤ t.length ∧ y = .int .i64 m ∧ AssocY t t.length k m ∧ Ext w wr) (fun y _ => t.length - (intOf y).toNat)
            case atStart => exact ⟨0, Nat.zero_le _, rfl, AssocY.zero _ _ _, hx⟩
            case round =>
              clear hx
              obtain ⟨m, hm, rfl, hay, hx⟩ := hrel
              by_cases hml : m < t.length
              case neg =>
                go_wp2
                go_roundw
                case rel => exact ⟨k + 1, by omega, by go_num, hua.succ hun (hay.mono (by omega)), hx⟩
                case measure => simp [intOf]; omega
              case pos =>
                go_wp2
                obtain ⟨w4, rfl⟩ : ∃ w1 : World, w1 = wr := ⟨_, rfl⟩
                go_loopw [44] (fun z wr => ∃ j : Nat, j ≤ t.length ∧ z = .int .i64 j ∧ AssocTo t k m j ∧ Ext w wr) (fun z _ => t.length - (intOf z).toNat)
                case atStart => exact ⟨0, Nat.zero_le _, rfl, AssocTo.zero _ _ _, hx⟩
                case round =>
                  clear hx
                  obtain ⟨j, hj, rfl, hato, hx⟩ := hrel
                  by_cases hjl : j < t.length
                  case neg =>
                    go_wp2
                    go_roundw
                    case rel => exact ⟨m + 1, by omega, by go_num, hay.succ (hato.mono (by omega)), hx⟩
                    case measure => simp [intOf]; omega
                  case pos =>
                    have bxy := HT.out.bd hlt hml
                    have byz := HT.out.bd hml hjl
                    have hcw := hc.ext hx
                    obtain ⟨b1, o1, c1, hr, hc1, -⟩ := hcw.get hlt
                    obtain ⟨b2, o2, c2, hrm, hc2, -⟩ := hcw.get hml
                    obtain ⟨b3, o3, c3, hrx, hc3, -⟩ := hcw.get (i := (ent t k m).toNat) (by omega)
                    have f1 := hc1.ent hl1 hml
                    have f2 := hc2.ent (HT.out.len hml) hjl
                    have f3 := hc1.ent (y := (ent t m j).toNat) hl1 (by omega)
                    have f4 := hc3.ent (HT.out.len (by omega)) hjl
                    clear hc1 hc2 hc3 hcw
                    rw [HT.out.len hml] at hrm
                    rw [HT.out.len hlt] at hr
                    rw [HT.out.len (x := (ent t k m).toNat) (by omega)] at hrx
                    cases ha : (ent t (ent t k m).toNat j != ent t k (ent t m j).toNat) with
                    | true =>
                      go_wp2
                      go_quiet (fail)
                      go_wp2
                      go_ret
                      exact ⟨ret_bool (groupB_no (fun h => absurd ((h.2.2 k hlt).2 m hml j hjl) (by simpa using ha))).symm, hx.drewN _⟩
                    | false =>
                      go_wp2
                      go_quiet (fail)
                      go_wp2
                      go_roundw
                      case rel => exact ⟨j + 1, by omega, by go_num, hato.succ (by simpa using ha), hx.drewN _⟩
                      case measure => simp [intOf]; omega

end Go.Proofs.YthlafeefjonkdaaGreatDoor


namespace Go.Proofs.YthlafeefjonkdaaGreatDoor
set_option linter.unusedVariables false
set_option linter.unusedSimpArgs false
open Go.RowKit

theorem IsGroup_impl (t : List (List Int)) (v : Value) (w : World) (hv : Rows w v t) :
    Calls Tryz.prog 31 #[.agg #[v]] w fun e w' => e = .returned (.bool (groupB t)) ∧ Ext w w' := by
  obtain ⟨hlen, b, o, c, rfl, hc⟩ := id hv
  clear hc
  have hx0 := ext_box w (.slice (some ⟨b, o, none⟩) t.length c) 42
  go_enter Tryz.func31, Tryz.ntmps31
  go_wp2_with fail
  refine (isGroupTable_any t _ _ (hv.ext hx0)).mono ?_
  rintro e w1 ⟨rfl, hx1⟩
  go_wp2
  go_ret
  exact ⟨rfl, hx0.trans hx1⟩

end Go.Proofs.YthlafeefjonkdaaGreatDoor


namespace Go.Proofs.YthlafeefjonkdaaGreatDoor
set_option linter.unusedVariables false
set_option linter.unusedSimpArgs false
open Go.RowKit

@[irreducible] def cycF (n : Nat) (x y : Nat) : Int := ((x : Int) + (y : Int)) % (n : Int)

theorem cycF_def (n x y : Nat) : cycF n x y = ((x : Int) + (y : Int)) % (n : Int) := by unfold cycF; rfl
theorem take_row (t : List (List Int)) (k : Nat) (h : k < t.length) : t.take (k + 1) = t.take k ++ [row t k] := by
  rw [List.take_succ_eq_append_getElem h, row_eq]; simp [List.getD, h]
theorem take_ix (l : List Int) (k : Nat) (h : k < l.length) : l.take (k + 1) = l.take k ++ [ix l k] := by
  rw [List.take_succ_eq_append_getElem h, ix_eq]; simp [List.getD, h]

end Go.Proofs.YthlafeefjonkdaaGreatDoor


namespace Go.Proofs.YthlafeefjonkdaaGreatDoor
set_option linter.unusedVariables false
set_option linter.unusedSimpArgs false
open Go.RowKit

theorem slicesIndex_any (l : List Int) (v : Value) (n : Int) (w : World) (hv : Ints w v l) :
    Calls Tryz.prog 73 #[v, .int .i64 n] w fun e w' => e = .returned (.int .i64 (indexOf l n)) ∧ w = w' := by
  obtain ⟨hlen, b, o, c, rfl, hc⟩ := hv
  go_enter Tryz.func73, Tryz.ntmps73
  go_wp2
  go_loop [8] (fun i => ∃ k : Nat, k ≤ l.length ∧ i = .int .i64 k ∧ indexOf l n = indexFrom n (l.drop k) k) (fun i => l.length - (intOf i).toNat)
  case atStart => exact ⟨0, Nat.zero_le _, rfl, by unfold indexOf; rfl⟩
  case round =>
    obtain ⟨k, hk, rfl, hr⟩ := hrel
    have Hr := Lib.hid hr
    clear hr
    by_cases hlt : k < l.length
    · have hcell := hc k hlt
      by_cases he : (n == ix l k) = true
      · go_wp2
        go_ret
        exact ⟨ret_int (by rw [Hr.out, indexFrom_hit l n k hlt (eq_of_beq he).symm]), rfl⟩
      · have he' : (n == ix l k) = false := by simpa using he
        have hne : ¬ ix l k = n := fun h => he (by rw [h]; exact beq_self_eq_true n)
        have HN := Lib.hid hne
        clear he hne
        go_wp2
        go_round
        case rel => exact ⟨k + 1, by omega, by go_num, by rw [Hr.out, indexFrom_miss l n k hlt HN.out]⟩
        case measure => simp [intOf]; omega
    · go_wp2
      go_ret
      exact ⟨ret_int (by rw [Hr.out, indexFrom_end l n k (by omega)]), rfl⟩

theorem indexIn_any (l : List Int) (v : Value) (n : Int) (w : World) (hv : Ints w v l) :
    Calls Tryz.prog 108 #[v, .int .i64 n] w fun e w' => e = .returned (.int .i64 (indexOf l n)) ∧ w = w' := by
  go_enter Tryz.func108, Tryz.ntmps108
  go_wp2_with (go_at_call 73; refine (slicesIndex_any l _ _ _ hv).mono ?_; rintro e w' ⟨rfl, rfl⟩)
  go_ret
  exact ⟨rfl, rfl⟩

theorem l10Back_any (t : List (List Int)) (v : Value) (x : Nat) (w : World) (hv : Rows w v t) (hx : x < t.length) :
    Calls Tryz.prog 70 #[v, .int .i64 x] w fun e w' => e = .returned (.int .i64 (backF t x)) ∧ w = w' := by
  obtain ⟨hlen, b, o, c, rfl, hc⟩ := id hv
  obtain ⟨b1, o1, c1, hr, hc1, hl1⟩ := hc.get hx
  go_enter Tryz.func70, Tryz.ntmps70
  go_wp2_with (go_at_call 107; refine (l01Index_any (row t x) _ _ _ (hc1.ints hl1 c1)).mono ?_; rintro e w' ⟨rfl, rfl⟩; rw [backF_def])
  go_ret
  exact ⟨rfl, rfl⟩

theorem groupInverses_any (t : List (List Int)) (v : Value) (w : World) (hv : Rows w v t) :
    Calls Tryz.prog 72 #[v] w fun e w' => ∃ b c, e = .returned (.slice (some ⟨b, 0, none⟩) t.length c) ∧ IntsAt w' b 0 (backs t) ∧ Ext w w' := by
  obtain ⟨hlen, b, o, c, rfl, hc⟩ := id hv
  have hmk := run_make_row' (P := Tryz.prog) 29 2 (.int .i64 0) 8 Tryz.underlying29 infoInt rfl .i64 .i64 t.length (by omega) (by omega)
  go_enter Tryz.func72, Tryz.ntmps72
  go_wp2_with fail
  clear hmk
  have hx0 : Ext w (w.alloc (.cells (madeCells #[Value.int .i64 0] t.length) 2)) := (Ext.refl _).alloc _
  have hr0 := World.rowIs_made w (.int .i64 0) t.length 2
  go_loopw [11] (fun i wr => ∃ k : Nat, k ≤ t.length ∧ i = .int .i64 k ∧ wr.rowIs w.heap.size 2 t.length (fun i => .int .i64 (copyTo (backs t) k i)) ∧ Ext w wr) (fun i _ => t.length - (intOf i).toNat)
  case atStart => exact ⟨0, Nat.zero_le _, rfl, hr0.congr (fun i hi => by rw [copyTo_zero]), hx0⟩
  case round =>
    clear hx0 hr0
    obtain ⟨k, hk, rfl, hrow, hx⟩ := hrel
    by_cases hlt : k < t.length
    · obtain ⟨b1, o1, c1, hr, hc1, hl1⟩ := (hc.ext hx).get hlt
      have e2 := hrow.cell hlt
      have e3 := hrow.frozen k
      go_wp2_with (go_at_call 108; refine (indexIn_any (row t k) _ _ _ (hc1.ints hl1 c1)).mono ?_; rintro e w' ⟨rfl, rfl⟩; rw [backF_def])
      go_roundw
      case rel => exact ⟨k + 1, by omega, by go_num, (hrow.set k (.int .i64 (backF t k))).congr (fun i hi => by rw [copyTo_succ, ix_backs _ _ hlt]; split <;> rfl), hx.setNew (Nat.le_refl _) _⟩
      case measure => simp [intOf]; omega
    · go_wp2
      go_ret
      have hkk : k = t.length := by omega
      exact ⟨w.heap.size, t.length, rfl, fun i hi => by
        rw [length_backs] at hi
        rw [Nat.zero_add, hrow.cell hi, copyTo_all _ _ _ (by omega)], hx⟩

end Go.Proofs.YthlafeefjonkdaaGreatDoor
