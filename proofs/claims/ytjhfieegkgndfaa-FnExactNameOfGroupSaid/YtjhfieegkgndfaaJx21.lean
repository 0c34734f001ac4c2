/-
  What the program's mapping holds in memory.
-/
import Derived.Test.YtjhfieegkgndfaaJx0
import Derived.Test.YtjhfieegkgndfaaJx1
import Derived.Test.YtjhfieegkgndfaaJx3
import Derived.Test.YtjhfieegkgndfaaJx8
import Derived.Test.YtjhfieegkgndfaaJx2
import Derived.Test.YtjhfieegkgndfaaJx4
import Derived.Test.YtjhfieegkgndfaaJx5
import Derived.Test.YtjhfieegkgndfaaJx15
import Derived.Test.YtjhfieegkgndfaaJx13
namespace Go.Proofs.Ytjhfieegkgndfaa
set_option linter.unusedVariables false
set_option linter.unusedSimpArgs false
open Go.RowKit
open Go.Deep

/-- the mapping at block M: the image in block I, the used values in block U, the elements set in a slice that grows -/
structure MapSt (base : Nat) (w : World) (M I U : Nat) (v u : Value) (n : Nat) (f s : List Int) (sv : Value) : Prop where
  c0 : w.cell? ⟨M, 0, none⟩ = some v
  c1 : w.cell? ⟨M, 1, none⟩ = some u
  c2 : w.cell? ⟨M, 2, none⟩ = some (.slice (some ⟨I, 0, none⟩) n n)
  c3 : w.cell? ⟨M, 3, none⟩ = some (.slice (some ⟨U, 0, none⟩) n n)
  c4 : w.cell? ⟨M, 4, none⟩ = some sv
  fr : w.frozen? ⟨M, 4, none⟩ = false
  img : w.rowIs I 2 n (fun i => .int .i64 (ix f i))
  usd : w.rowIs U 4 n (fun i => .bool (hasB f i))
  set : GrowI 2 base w sv s
  apart : M ≠ I ∧ M ≠ U ∧ I ≠ U ∧ ∀ g, sv.ownBlock = some g → g ≠ M ∧ g ≠ I ∧ g ≠ U
  low : base ≤ M ∧ base ≤ I ∧ base ≤ U
theorem MapSt.ext {base : Nat} {w w' : World} {M I U : Nat} {v u : Value} {n : Nat} {f s : List Int} {sv : Value} (h : MapSt base w M I U v u n f s sv) (hM : M < w.heap.size) (hx : Ext w w') : MapSt base w' M I U v u n f s sv where
  c0 := hx.cell h.c0
  c1 := hx.cell h.c1
  c2 := hx.cell h.c2
  c3 := hx.cell h.c3
  c4 := hx.cell h.c4
  fr := hx.free h.fr hM
  img := h.img.of_block (Below.block hx I h.img.lt)
  usd := h.usd.of_block (Below.block hx U h.usd.lt)
  set := h.set.ext hx
  apart := h.apart
  low := h.low
/-- a store into a block of neither the set nor .. : what the set's slice holds stays -/
theorem GrowI.setOff {e base : Nat} {w : World} {v : Value} {l : List Int} (h : GrowI e base w v l) {a : Addr} (ha : ∀ g, v.ownBlock = some g → g ≠ a.block) (u : Value) : GrowI e base (w.setCell a u) v l := by
  refine ⟨h.1, ?_⟩
  rcases h.2 with hn | ⟨g, cap, cur, rfl, hb, hg, rest⟩
  · exact .inl hn
  · exact .inr ⟨g, cap, cur, rfl, hb, (blk_setCell_other _ _ _ _ (ha g rfl)).trans hg, rest⟩
/-- the set cut short -/
theorem MapSt.cut {base : Nat} {w : World} {M I U S : Nat} {v u : Value} {n c k : Nat} {f s : List Int} (h : MapSt base w M I U v u n f s (.slice (some ⟨S, 0, none⟩) s.length c)) (hk : k ≤ s.length) :
    MapSt base (w.setCell ⟨M, 4, none⟩ (.slice (some ⟨S, 0, none⟩) k c)) M I U v u n f (s.take k) (.slice (some ⟨S, 0, none⟩) k c) where
  c0 := kc_set2 (by simp) h.c0
  c1 := kc_set2 (by simp) h.c1
  c2 := kc_set2 (by simp) h.c2
  c3 := kc_set2 (by simp) h.c3
  c4 := kc_same h.c4
  fr := kf_set h.fr
  img := h.img.setOther (fun e => h.apart.1 e.symm) _
  usd := h.usd.setOther (fun e => h.apart.2.1 e.symm) _
  set := (h.set.cut hk).setOff (fun g hg => (h.apart.2.2.2 g hg).1) _
  apart := ⟨h.apart.1, h.apart.2.1, h.apart.2.2.1, fun g hg => h.apart.2.2.2 g hg⟩
  low := h.low
end Go.Proofs.Ytjhfieegkgndfaa
