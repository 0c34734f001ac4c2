/-
  Contract of the iterator over isomorphisms.
-/
import Derived.Test.YtjfjpngajboidaaGreatKx37
namespace Go.Proofs.YtjfjpngajboidaaGreat
set_option linter.unusedVariables false
set_option linter.unusedSimpArgs false
open Go.RowKit
open Go.Deep
attribute [local go_sem ↓] Go.wp_at_zero Go.wp_at_succ

end Go.Proofs.YtjfjpngajboidaaGreat


namespace Go.Proofs.YtjfjpngajboidaaGreat
set_option linter.unusedVariables false
set_option linter.unusedSimpArgs false
open Go.RowKit
open Go.Deep

theorem only_putObj {O : Nat → Prop} {W : World} {l : Nat} (o : Obj) (hl : O l) : Only O W (W.putObj l o) :=
  have h := grownBy_putObj' W l o
  ⟨h.os, h.tape, h.output, h.size, fun k hk hn => h.block k hk (fun e => hn (by injection e with e; exact e ▸ hl))⟩
theorem Rnd.putObj {base : Nat} {X : Nat → Prop}  {O : Nat → Prop} {W : World} {l : Nat} (o : Obj) (hl : ¬ O l) (hb : base ≤ l) : Rnd base X O W (W.putObj l o) :=
  have h := grownBy_putObj' W l o
  ⟨h.size, fun k hk hO => h.block k hk (fun e => hl (by injection e with e; exact e ▸ hO)), fun k hk _ => by
    by_cases e : k < W.heap.size
    · exact h.block k e (fun e => by injection e with e; omega)
    · show (W.putObj l o).heap[k]? = W.heap[k]?
      exact World.putObj_heap_other (by omega)⟩
theorem Rnd.trans {base : Nat} {X : Nat → Prop}  {O : Nat → Prop} {A B C : World} (h : Rnd base X O A B) (k : Rnd base X O B C) : Rnd base X O A C :=
  ⟨Nat.le_trans h.size k.size, fun i hi hO => (k.own i (Nat.lt_of_lt_of_le hi h.size) hO).trans (h.own i hi hO), h.below.trans k.below⟩
theorem Rnd.mono {base : Nat} {X : Nat → Prop}  {O O' : Nat → Prop} {A B : World} (h : Rnd base X O A B) (hO : ∀ k, O' k → O k) : Rnd base X O' A B := ⟨h.size, fun i hi h' => h.own i hi (hO i h'), h.below⟩
def Plus (O : Nat → Prop) (B k : Nat) : Prop := O k ∨ k = B ∨ k = B + 1
theorem Stab.put {J : List (List Int) → (Nat → Prop) → World → Prop} (h : Stab J) {B : Nat} {xs : List (List Int)} {O : Nat → Prop} {W : World} (hj : J xs (Plus O B) W) (o : Obj) : J xs (Plus O B) (W.putObj (B + 1) o) :=
  h xs _ _ W _ hj (only_putObj o (.inr (.inr rfl))) fun _ e => .inl e

end Go.Proofs.YtjfjpngajboidaaGreat
