/-
  Contract of extend: what a caller's rounds are told.
-/
import Derived.RangeFuncNested
import Derived.RangeFuncBound
import Derived.RangeFuncCalls
import Derived.RangeFuncLeaves
import Derived.Shelf.Abstract
import Derived.Shelf.RegionOpen
import Derived.OwnWalkIn
import Derived.TacticsInMore
import Derived.LoopNIn
import Derived.LoopIn
import Derived.Test.YtjfjpngajboidaaGreatKx36
namespace Go.Proofs.YtjfjpngajboidaaGreat
set_option linter.unusedVariables false
set_option linter.unusedSimpArgs false
open Go.RowKit Go.Shelf
open Go.Deep
attribute [local go_sem] Oper.semAt_some

structure Rnd (base : Nat) (X : Nat → Prop)  (O : Nat → Prop) (W W' : World) : Prop where
  size : W.heap.size ≤ W'.heap.size
  own : ∀ k, k < W.heap.size → O k → W'.heap[k]? = W.heap[k]?
  below : KeepB base X W W'
def Stab (J : List (List Int) → (Nat → Prop) → World → Prop) : Prop := ∀ xs O O' W W', J xs O W → Only O W W' → (∀ k, O' k → O k ∨ W.heap.size ≤ k) → J xs O' W'
theorem MapSt.blocks {base : Nat} {w w' : World} {M I U : Nat} {v u : Value} {n : Nat} {f s : List Int} {sv : Value} (h : MapSt base w M I U v u n f s sv) (hs : w.heap.size ≤ w'.heap.size) (e : ∀ k, k < w.heap.size → OwnP M I U sv k → w'.heap[k]? = w.heap[k]?) : MapSt base w' M I U v u n f s sv :=
  have eM := e M h.img_lt (.inl rfl)
  have cc : ∀ {o v}, w.cell? ⟨M, o, none⟩ = some v → w'.cell? ⟨M, o, none⟩ = some v := fun {o v} hc => by
    rw [World.cell?_of_block (w := w) (a := ⟨M, o, none⟩) eM]; exact hc
  { c0 := cc h.c0
    c1 := cc h.c1
    c2 := cc h.c2
    c3 := cc h.c3
    c4 := cc h.c4
    fr := by rw [World.frozen?_of_block (w := w) (a := ⟨M, 4, none⟩) eM]; exact h.fr
    img := h.img.of_block (e I h.img.lt (.inr (.inl rfl)))
    usd := h.usd.of_block (e U h.usd.lt (.inr (.inr (.inl rfl))))
    set := by
      refine ⟨h.set.1, ?_⟩
      rcases h.set.2 with hn | ⟨g, cap, cur, rfl, hb, hg, rest⟩
      · exact .inl hn
      · exact .inr ⟨g, cap, cur, rfl, hb, (e g ((Array.getElem?_eq_some_iff.1 hg).1) (.inr (.inr (.inr rfl)))).trans hg, rest⟩
    apart := h.apart
    low := h.low }
section
variable {base : Nat} {X : Nat → Prop} {M I U tb tq cz ub uo cu n : Nat} {az bz : List (List (List Int))} {f s : List Int} {sv : Value} {w : World}
theorem AsgSt.round (h : AsgSt base X M I U tb tq cz ub uo cu n az bz f s sv w) {w' : World} (hr : Rnd base X (OwnP M I U sv) w w') : AsgSt base X M I U tb tq cz ub uo cu n az bz f s sv w' :=
  ⟨h.st.blocks hr.size hr.own, h.ta.keep hr.below, h.tu.keep hr.below, h.part⟩
theorem AsgSt.img (h : AsgSt base X M I U tb tq cz ub uo cu n az bz f s sv w) : IntsAt w I 0 f := fun i hi => by
  have := h.st.img.cell (i := i) (by have := h.part.len; omega)
  rw [Nat.zero_add]; exact this
end
end Go.Proofs.YtjfjpngajboidaaGreat
