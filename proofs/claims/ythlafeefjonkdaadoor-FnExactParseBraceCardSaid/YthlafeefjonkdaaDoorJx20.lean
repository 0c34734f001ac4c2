/-
  GroupAutomorphisms of the program.
-/
import Derived.Test.YthlafeefjonkdaaDoorProg
import Derived.Deep.DeepCutAuto
import Derived.Deep.DrawnRows
import Derived.RangeFuncNested
import Derived.RangeFuncBound
import Derived.RangeFuncCalls
import Derived.RangeFuncLeaves
import Derived.Shelf.Abstract
import Derived.Shelf.RegionOpen
import Derived.WalkKit
import Derived.OwnWalkIn
import Derived.TacticsInMore
import Derived.LoopNIn
import Derived.LoopIn
import Derived.Maps.AppendAt
import Derived.Test.YthlafeefjonkdaaDoorJx0
import Derived.Test.YthlafeefjonkdaaDoorJx1
import Derived.Test.YthlafeefjonkdaaDoorJx3
import Derived.Test.YthlafeefjonkdaaDoorJx4
import Derived.Test.YthlafeefjonkdaaDoorJx11
import Derived.Test.YthlafeefjonkdaaDoorJx5
import Derived.Test.YthlafeefjonkdaaDoorJx8
import Derived.Test.YthlafeefjonkdaaDoorJx6
import Derived.Test.YthlafeefjonkdaaDoorJx10
import Derived.Test.YthlafeefjonkdaaDoorJx16
import Derived.Test.YthlafeefjonkdaaDoorJx17
import Derived.Test.YthlafeefjonkdaaDoorJx18
import Derived.Test.YthlafeefjonkdaaDoorJx19
import Derived.Test.YthlafeefjonkdaaDoorJx7
namespace Go.Proofs.YthlafeefjonkdaaDoor
set_option linter.unusedVariables false
set_option linter.unusedSimpArgs false
open Go.RowKit Go.Shelf
open Go.Deep

attribute [local go_sem] Oper.semAt_some

/-- a table of the caller's own that grows row by row -/
def MineT (lo : Nat) (O : Nat → Prop) (W : World) (v : Value) (xs : List (List Int)) : Prop :=
  ∃ vs : List Value, W.ownsRow lo 39 1 v xs.length vs ∧ (∀ g, v.ownBlock = some g → ¬ O g) ∧ ∃ B C : Nat → Nat,
    (∀ i, i < xs.length → vs[i]? = some (.slice (some ⟨B i, 0, none⟩) (row xs i).length (C i)) ∧ OwnI lo W.heap.size W (B i) 0 (row xs i) ∧ ¬ O (B i) ∧ v.ownBlock ≠ some (B i)) ∧ ∀ i j, i < xs.length → j < xs.length → B i = B j → i = j

theorem MineT.nil (lo : Nat) (O : Nat → Prop) (W : World) : MineT lo O W (.slice none 0 0) [] := ⟨[], World.ownsRow_nil W lo _ 1, fun g e => by simp [Value.ownBlock] at e, fun _ => 0, fun _ => 0, fun i hi => by simp at hi, fun i j hi => by simp at hi⟩

theorem ownsRow_block {lo n : Nat} {e : TypeId} {W W' : World} {v : Value} {vs : List Value} (h : W.ownsRow lo e 1 v n vs) (hb : ∀ g, v.ownBlock = some g → W'.heap[g]? = W.heap[g]?) : W'.ownsRow lo e 1 v n vs := by
  refine ⟨h.1, ?_⟩
  rcases h.2 with hn | ⟨g, cap, cur, rfl, hb2, hg, rest⟩
  · exact .inl hn
  · exact .inr ⟨g, cap, cur, rfl, hb2, (hb g rfl).trans hg, rest⟩

theorem MineT.keep {lo : Nat} {O O' : Nat → Prop} {W W' : World} {v : Value} {xs : List (List Int)} (h : MineT lo O W v xs) (hs : W.heap.size ≤ W'.heap.size) (hk : ∀ k, lo ≤ k → k < W.heap.size → ¬ O k → W'.heap[k]? = W.heap[k]?) (hO : ∀ k, O' k → O k ∨ W.heap.size ≤ k) : MineT lo O' W' v xs := by
  obtain ⟨vs, h1, h2, B, C, h3, h4⟩ := h
  have hno : ∀ k, k < W.heap.size → ¬ O k → ¬ O' k := fun k hk hn e => by
    rcases hO k e with e | e
    · exact hn e
    · omega
  refine ⟨vs, ownsRow_block h1 (fun g hg => hk g (h1.lt g hg).1 (h1.lt g hg).2 (h2 g hg)), fun g hg => hno g (h1.lt g hg).2 (h2 g hg), B, C, fun i hi => ?_, h4⟩
  obtain ⟨g1, g2, g3, g4⟩ := h3 i hi
  have e := hk (B i) g2.1 g2.2.1 g3
  exact ⟨g1, ⟨g2.1, Nat.lt_of_lt_of_le g2.2.1 hs, g2.2.2.1.block e, g2.2.2.2.block e⟩, hno _ g2.2.1 g3, g4⟩

theorem MineT.next {lo : Nat} {W W' : World} {O O' : Nat → Prop} {v : Value} {xs : List (List Int)} (h : MineT lo O W v xs) (ho : Only O W W') (hO : ∀ k, O' k → O k ∨ W.heap.size ≤ k) : MineT lo O' W' v xs := h.keep ho.size (fun k _ hk hn => ho.keep k hk hn) hO

theorem MineT.ext {lo : Nat} {O : Nat → Prop} {W W' : World} {v : Value} {xs : List (List Int)} (h : MineT lo O W v xs) (hx : Ext W W') : MineT lo O W' v xs := h.keep hx.size (fun k _ hk _ => hx.block k hk) (fun _ e => .inl e)

theorem MineT.slice {lo : Nat} {O : Nat → Prop} {W : World} {v : Value} {xs : List (List Int)} (h : MineT lo O W v xs) : ∃ a c, v = .slice a xs.length c := by
  obtain ⟨vs, h1, -⟩ := h
  rcases h1.2 with ⟨rfl, hn⟩ | ⟨g, cap, cur, rfl, _⟩
  · exact ⟨none, 0, by rw [hn]⟩
  · exact ⟨_, cap, rfl⟩

/-- a new row -/
theorem MineT.app {lo : Nat} {O : Nat → Prop} {W1 W2 W3 : World} {v v' : Value} {xs : List (List Int)} {b c : Nat} {l : List Int} (h : MineT lo O W1 v xs) (hx : Ext W1 W2) (hb : OwnI W1.heap.size W2.heap.size W2 b 0 l) (hlo : lo ≤ W1.heap.size) (hO : ∀ k, O k → k < W1.heap.size)
    (hg : W2.grownBy W3 v.ownBlock) (hat : v'.ownBlock = v.ownBlock ∨ v'.ownBlock = some W2.heap.size) (hown : ∀ vs, W2.ownsRow lo 39 1 v xs.length vs → W3.ownsRow lo 39 1 v' (xs.length + 1) (vs ++ [Value.slice (some ⟨b, 0, none⟩) l.length c])) : MineT lo O W3 v' (xs ++ [l]) := by
  obtain ⟨vs, h1, h2, B, C, h3, h4⟩ := h
  have hl : vs.length = xs.length := by simpa using h1.1
  have hz := hx.size
  have hnO : ∀ k, W1.heap.size ≤ k → ¬ O k := fun k hk e => by have := hO k e; omega
  have ho' : ∀ g, v'.ownBlock = some g → ¬ O g := fun g e => by
    rcases hat with e2 | e2
    · exact h2 g (e2 ▸ e)
    · rw [e2] at e; injection e with e; exact hnO g (by omega)
  have hne : ∀ k, k < W2.heap.size → v.ownBlock ≠ some k → v'.ownBlock ≠ some k := fun k hk hn e => by
    rcases hat with e2 | e2
    · exact hn (e2 ▸ e)
    · rw [e2] at e; injection e with e; omega
  have hbn : v.ownBlock ≠ some b := fun e => by have := (h1.lt b e).2; have := hb.1; omega
  have bk : ∀ k, k < W2.heap.size → v.ownBlock ≠ some k → W3.heap[k]? = W2.heap[k]? := fun k hk hn => hg.block k hk (fun e => hn e.symm)
  have h12 := hown vs (ownsRow_block h1 (fun g hg => hx.block g (h1.lt g hg).2))
  refine ⟨vs ++ [Value.slice (some ⟨b, 0, none⟩) l.length c], by simpa using h12, ho', fun i => if i < xs.length then B i else b, fun i => if i < xs.length then C i else c, fun i hi => ?_, fun i j hi hj e => ?_⟩
  · by_cases hi' : i < xs.length
    · obtain ⟨g1, g2, g3, g4⟩ := h3 i hi'
      have hrow : row (xs ++ [l]) i = row xs i := by rw [row_eq, row_eq]; simp [List.getD, List.getElem?_append_left hi']
      have e := (bk (B i) (Nat.lt_of_lt_of_le g2.2.1 hz) g4).trans (hx.block _ g2.2.1)
      simp only [if_pos hi', hrow]
      exact ⟨by rw [List.getElem?_append_left (by omega)]; exact g1, ⟨g2.1, by have := g2.2.1; have := hg.size; omega, g2.2.2.1.block e, g2.2.2.2.block e⟩, g3, hne _ (Nat.lt_of_lt_of_le g2.2.1 hz) g4⟩
    · have hie : i = xs.length := by simp at hi; omega
      subst hie
      have hrow : row (xs ++ [l]) xs.length = l := by rw [row_eq]; simp [List.getD]
      have e := bk b hb.2.1 hbn
      simp only [if_neg (Nat.lt_irrefl _), hrow]
      exact ⟨by rw [List.getElem?_append_right (by omega), hl]; simp, ⟨Nat.le_trans hlo hb.1, Nat.lt_of_lt_of_le hb.2.1 hg.size, hb.2.2.1.block e, hb.2.2.2.block e⟩, hnO b hb.1, hne _ hb.2.1 hbn⟩
  · have hB : ∀ i, i < xs.length → B i < W1.heap.size := fun i hi => (h3 i hi).2.1.2.1
    by_cases hi' : i < xs.length
    · by_cases hj' : j < xs.length
      · simp only [if_pos hi', if_pos hj'] at e; exact h4 i j hi' hj' e
      · simp only [if_pos hi', if_neg hj'] at e
        have := hB i hi'; have := hb.1; omega
    · by_cases hj' : j < xs.length
      · simp only [if_neg hi', if_pos hj'] at e
        have := hB j hj'; have := hb.1; omega
      · simp at hi hj; omega

theorem Rnd.grown {base : Nat} {X : Nat → Prop} {O : Nat → Prop} {W W' W2 : World} {row : Option Nat} (h : Rnd base X O W W') (hg : W'.grownBy W2 row) (hr : ∀ g, row = some g → ¬ O g ∧ base ≤ g) (hb : base ≤ W'.heap.size) : Rnd base X O W W2 :=
  ⟨Nat.le_trans h.size hg.size, fun k hk hO => (hg.block k (Nat.lt_of_lt_of_le hk h.size) (fun e => (hr k e.symm).1 hO)).trans (h.own k hk hO), fun k hk hX => (hg.block k (by omega) (fun e => by have := (hr k e.symm).2; omega)).trans (h.below k hk hX)⟩

theorem Ext.grownOwn {a w w' : World} {row : Option Nat} (h : Ext a w) (hg : w.grownBy w' row) (hr : ∀ k, row = some k → a.heap.size ≤ k) : Ext a w' := Below.grown h hg h.size hr

theorem MineT.putObj {lo : Nat} {O : Nat → Prop} {W : World} {v : Value} {xs : List (List Int)} {D : Nat} {x : Option (List Deferred)} (h : MineT lo O W v xs) (hl : ∀ i, i < xs.length → 0 < (row xs i).length) (hK : W.heap[D]? = some (.deferred x)) (o : Obj) : MineT lo O (W.putObj D o) v xs := by
  obtain ⟨vs, h1, h2, B, C, h3, h4⟩ := h
  refine ⟨vs, ownsRow_block h1 (fun g hg => World.putObj_heap_other (fun e => ?_)), h2, B, C, fun i hi => ?_, h4⟩
  · rcases h1.2 with ⟨rfl, _⟩ | ⟨g', cap, cur, rfl, hb, hgg, rest⟩
    · simp [Value.ownBlock] at hg
    · simp [Value.ownBlock] at hg
      subst hg
      subst e
      rw [hK] at hgg
      cases hgg
  · obtain ⟨g1, g2, g3, g4⟩ := h3 i hi
    exact ⟨g1, by have := g2.putObj (hl i hi) hK o; simpa [World.putObj] using this, g3, g4⟩

theorem ownsRow_same {lo n : Nat} {e : TypeId} {W : World} {v : Value} {vs us : List Value} (h : W.ownsRow lo e 1 v n vs) (k : W.ownsRow lo e 1 v n us) : vs = us := by
  have l1 := h.1
  have l2 := k.1
  rcases h.2 with ⟨rfl, hn⟩ | ⟨g, cap, cur, rfl, hb, hg, h3, h4, h5, h6⟩
  · have e1 : vs.length = 0 := by omega
    have e2 : us.length = 0 := by omega
    rw [List.length_eq_zero_iff.1 e1, List.length_eq_zero_iff.1 e2]
  · rcases k.2 with ⟨e2, _⟩ | ⟨g', cap', cur', e2, hb', hg', k3, k4, k5, k6⟩
    · simp at e2
    · simp at e2
      obtain ⟨rfl, rfl⟩ := e2
      rw [hg] at hg'
      simp at hg'
      subst hg'
      rw [← h6, ← k6]

end Go.Proofs.YthlafeefjonkdaaDoor
