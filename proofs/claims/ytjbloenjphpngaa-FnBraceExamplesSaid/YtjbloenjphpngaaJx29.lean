/-
  Contract of extend: what a caller's rounds are told.
-/
import Derived.Test.YtjbloenjphpngaaProg
import Derived.RangeFuncNested
import Derived.RangeFuncBound
import Derived.RangeFuncCalls
import Derived.RangeFuncLeaves
import Derived.Shelf.Abstract
import Derived.Shelf.RegionOpen
import Derived.WalkKit
import Derived.OwnWalkIn
import Derived.TacticsInMore
import Derived.LoopNIn
import Derived.LoopIn
import Derived.Test.YtjbloenjphpngaaJx0
import Derived.Test.YtjbloenjphpngaaJx1
import Derived.Test.YtjbloenjphpngaaJx5
import Derived.Test.YtjbloenjphpngaaJx14
import Derived.Test.YtjbloenjphpngaaJx8
import Derived.Test.YtjbloenjphpngaaJx9
import Derived.Test.YtjbloenjphpngaaJx25
import Derived.Test.YtjbloenjphpngaaJx2
import Derived.Test.YtjbloenjphpngaaJx27
import Derived.Test.YtjbloenjphpngaaJx10
import Derived.Test.YtjbloenjphpngaaJx6
import Derived.Test.YtjbloenjphpngaaJx3
import Derived.Test.YtjbloenjphpngaaJx4
import Derived.Test.YtjbloenjphpngaaJx12
import Derived.Test.YtjbloenjphpngaaJx13
import Derived.Test.YtjbloenjphpngaaJx16
import Derived.Test.YtjbloenjphpngaaJx26
import Derived.Test.YtjbloenjphpngaaJx28
namespace Go.Proofs.Ytjbloenjphpngaa
set_option linter.unusedVariables false
set_option linter.unusedSimpArgs false
open Go.RowKit Go.Shelf
open Go.Deep
attribute [local go_sem] Oper.semAt_some

/-- what a round leaves as it was: the iterator's own blocks, and what lies below base apart from X -/
structure Rnd (base : Nat) (X : Nat → Prop)  (O : Nat → Prop) (W W' : World) : Prop where
  size : W.heap.size ≤ W'.heap.size
  own : ∀ k, k < W.heap.size → O k → W'.heap[k]? = W.heap[k]?
  below : KeepB base X W W'
/-- a state of the caller's that the iterator's own steps leave -/
def Stab (J : List (List Int) → (Nat → Prop) → World → Prop) : Prop := ∀ xs O O' W W', J xs O W → Only O W W' → (∀ k, O' k → O k ∨ W.heap.size ≤ k) → J xs O' W'
/-- what the caller's rounds do -/
def Rounds (base : Nat) (X : Nat → Prop) (n l : Nat) (az bz : List (List (List Int))) (L : List (List Int)) (J Jx : List (List Int) → (Nat → Prop) → World → Prop) : Prop :=
  ∀ m xs p O W I, J xs O W → IsoOk n az bz p → xs ++ [p] <+: L → O I → (∀ k, O k → base ≤ k ∧ k < W.heap.size) → base ≤ I → IntsAt W I 0 p →
    YieldAt Fence.wide m Try.prog l #[.slice (some ⟨I, 0, none⟩) n n] W fun e W' => Rnd base X O W W' ∧ ((e = .returned (.bool true) ∧ J (xs ++ [p]) O W') ∨ (e = .returned (.bool false) ∧ Jx (xs ++ [p]) O W'))
theorem MapSt.blocks {base : Nat} {w w' : World} {M I U : Nat} {v u : Value} {n : Nat} {f s : List Int} {sv : Value} (h : MapSt base w M I U v u n f s sv) (hs : w.heap.size ≤ w'.heap.size) (e : ∀ k, k < w.heap.size → OwnP M I U sv k → w'.heap[k]? = w.heap[k]?) : MapSt base w' M I U v u n f s sv :=
  have eM := e M h.img_lt (.inl rfl)
  have cc : ∀ {o v}, w.cell? ⟨M, o, none⟩ = some v → w'.cell? ⟨M, o, none⟩ = some v := fun {o v} hc => by
    rw [World.cell?_of_block (w := w) (a := ⟨M, o, none⟩) eM]; exact hc
  { c0 := cc h.c0
    c1 := cc h.c1
    c2 := cc h.c2
    c3 := cc h.c3
    c4 := cc h.c4
    fr := by rw [World.frozen?_of_block (w := w) (a := ⟨M, 4, none⟩) eM]; exact h.fr
    img := h.img.of_block (e I h.img.lt (.inr (.inl rfl)))
    usd := h.usd.of_block (e U h.usd.lt (.inr (.inr (.inl rfl))))
    set := by
      refine ⟨h.set.1, ?_⟩
      rcases h.set.2 with hn | ⟨g, cap, cur, rfl, hb, hg, rest⟩
      · exact .inl hn
      · exact .inr ⟨g, cap, cur, rfl, hb, (e g ((Array.getElem?_eq_some_iff.1 hg).1) (.inr (.inr (.inr rfl)))).trans hg, rest⟩
    apart := h.apart
    low := h.low }
theorem MapSt.ownLt {base : Nat} {w : World} {M I U : Nat} {v u : Value} {n : Nat} {f s : List Int} {sv : Value} (h : MapSt base w M I U v u n f s sv) : ∀ k, OwnP M I U sv k → k < w.heap.size := fun k e => by
  rcases e with rfl | rfl | rfl | e
  · exact h.img_lt
  · exact h.img.lt
  · exact h.usd.lt
  · exact (h.set.lt e).2
section
variable {base : Nat} {X : Nat → Prop} {M I U tb tq cz ub uo cu n : Nat} {az bz : List (List (List Int))} {f s : List Int} {sv : Value} {w : World}
theorem AsgSt.round (h : AsgSt base X M I U tb tq cz ub uo cu n az bz f s sv w) {w' : World} (hr : Rnd base X (OwnP M I U sv) w w') : AsgSt base X M I U tb tq cz ub uo cu n az bz f s sv w' :=
  ⟨h.st.blocks hr.size hr.own, h.ta.keep hr.below, h.tu.keep hr.below, h.part⟩
theorem AsgSt.img (h : AsgSt base X M I U tb tq cz ub uo cu n az bz f s sv w) : IntsAt w I 0 f := fun i hi => by
  have := h.st.img.cell (i := i) (by have := h.part.len; omega)
  rw [Nat.zero_add]; exact this
theorem AsgSt.undone (h : AsgSt base X M I U tb tq cz ub uo cu n az bz f s sv w) {w' : World} {f0 s0 : List Int} {sv' : Value} (ho : Only (OwnP M I U sv) w w') (hm : MapSt base w' M I U (.slice (some ⟨tb, tq, none⟩) az.length cz) (.slice (some ⟨ub, uo, none⟩) bz.length cu) n f0 s0 sv') (hp : PartOk n f0 s0) : AsgSt base X M I U tb tq cz ub uo cu n az bz f0 s0 sv' w' := h.next ho hm hp
end
def ExtPost (base : Nat) (X : Nat → Prop) (M I U tb tq cz ub uo cu n : Nat) (az bz : List (List (List Int))) (J Jx : List (List Int) → (Nat → Prop) → World → Prop) (f s : List Int) (xs : List (List Int)) (e : Ending) (w' : World) : Prop :=
  ∃ sv', AsgSt base X M I U tb tq cz ub uo cu n az bz f s sv' w' ∧ ((e = .returned (.bool true) ∧ J (xs ++ extL n az bz f) (OwnP M I U sv') w') ∨ (e = .returned (.bool false) ∧ ∃ q, q ≠ [] ∧ q <+: extL n az bz f ∧ Jx (xs ++ q) (OwnP M I U sv') w'))

end Go.Proofs.Ytjbloenjphpngaa
