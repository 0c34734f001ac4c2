/-
  Contract of l03Fits: does a beginning of a map fit.
-/
import Derived.Test.YtbfhecckapgpnaaProg
import Derived.Deep.DeepCutAuto
import Derived.Deep.RegionWith
import Derived.Deep.RegionHeld3
import Derived.Deep.DrawnRows
import Derived.Test.YtbfhecckapgpnaaKx0
import Derived.Test.YtbfhecckapgpnaaKx1
import Derived.Test.YtbfhecckapgpnaaKx2
import Derived.Test.YtbfhecckapgpnaaKx8
import Derived.Test.YtbfhecckapgpnaaKx9
import Derived.Test.YtbfhecckapgpnaaKx7
import Derived.Test.YtbfhecckapgpnaaKx5
import Derived.Test.YtbfhecckapgpnaaKx6
import Derived.Test.YtbfhecckapgpnaaKx12
import Derived.Test.YtbfhecckapgpnaaKx14
namespace Go.Proofs.Ytbfhecckapgpnaa
set_option linter.unusedVariables false
set_option linter.unusedSimpArgs false
open Go.RowKit
attribute [local go_sem ↓] Go.wp_at_zero Go.wp_at_succ

/-- the value of a pair fits, or is not asked; l: the last place of f -/
def FitAt (az bz : List (List (List Int))) (f : List Int) (l k x y : Nat) : Prop :=
  (l : Int) < ent (tab az k) x y ∨ (x < l ∧ y < l ∧ ent (tab az k) x y < (l : Int)) ∨ ix f (ent (tab az k) x y).toNat = ent (tab bz k) (ix f x).toNat (ix f y).toNat
def FitY (az bz : List (List (List Int))) (f : List Int) (l k x j : Nat) : Prop := ∀ y, y < j → FitAt az bz f l k x y
def FitX (az bz : List (List (List Int))) (f : List Int) (l k j : Nat) : Prop := ∀ x, x < j → FitY az bz f l k x (l + 1)
def FitK (az bz : List (List (List Int))) (f : List Int) (l j : Nat) : Prop := ∀ k, k < j → FitX az bz f l k (l + 1)
open Classical in
@[irreducible] noncomputable def fitsB (az bz : List (List (List Int))) (f : List Int) (l : Nat) : Bool := decide (FitK az bz f l az.length)
theorem fitsB_iff {az bz : List (List (List Int))} {f : List Int} {l : Nat} : fitsB az bz f l = true ↔ FitK az bz f l az.length := by unfold fitsB; simp
theorem fitsB_no {az bz : List (List (List Int))} {f : List Int} {l k x y : Nat} (hk : k < az.length) (hx : x < l + 1) (hy : y < l + 1) (h : ¬ FitAt az bz f l k x y) : fitsB az bz f l = false := by
  rw [← Bool.not_eq_true, fitsB_iff]
  intro g
  exact h (g k hk x hx y hy)

end Go.Proofs.Ytbfhecckapgpnaa
