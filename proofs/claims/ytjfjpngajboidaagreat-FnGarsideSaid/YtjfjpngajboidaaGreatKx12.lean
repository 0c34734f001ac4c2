/-
  Contracts of ClassesOf: reference and program.
-/
import Derived.StillTailTactics
import Derived.Deep.RegionLaw
import Derived.Test.YtjfjpngajboidaaGreatKx35
namespace Go.Proofs.YtjfjpngajboidaaGreat
set_option linter.unusedVariables false
set_option linter.unusedSimpArgs false
open Go.RowKit
attribute [local go_sem ↓] Go.wp_at_zero Go.wp_at_succ

theorem GrowI.one {e base : Nat} {w : World} {x : Int} (hb : base ≤ w.heap.size) : GrowI e base (w.alloc (.cells #[.int .i64 x] e)) (.slice (some ⟨w.heap.size, 0, none⟩) 1 1) [x] :=
  ⟨by simp, .inr ⟨w.heap.size, 1, #[.int .i64 x], rfl, hb, heap_alloc_new w _, Nat.le_refl _, by decide, by simp, by simp⟩⟩
end Go.Proofs.YtjfjpngajboidaaGreat


namespace Go.Proofs.YtjfjpngajboidaaGreat
set_option linter.unusedVariables false
set_option linter.unusedSimpArgs false
open Go.RowKit
attribute [local go_sem ↓] Go.wp_at_zero Go.wp_at_succ

open Go.Deep
structure Only (p : Nat → Prop) (w w' : World) : Prop where
  os : w'.os = w.os
  tape : w'.tape = w.tape
  output : w'.output = w.output
  size : w.heap.size ≤ w'.heap.size
  keep : ∀ k, k < w.heap.size → ¬ p k → w'.heap[k]? = w.heap[k]?
theorem Only.refl (p : Nat → Prop) (w : World) : Only p w w := ⟨rfl, rfl, rfl, Nat.le_refl _, fun _ _ _ => rfl⟩
theorem Only.trans {p : Nat → Prop} {a b c : World} (h : Only p a b) (k : Only p b c) : Only p a c := ⟨k.os.trans h.os, k.tape.trans h.tape, k.output.trans h.output, Nat.le_trans h.size k.size, fun i hi hn => (k.keep i (Nat.lt_of_lt_of_le hi h.size) hn).trans (h.keep i hi hn)⟩
theorem MapSt.img_lt {base : Nat} {w : World} {M I U : Nat} {v u : Value} {n : Nat} {f s : List Int} {sv : Value} (h : MapSt base w M I U v u n f s sv) : M < w.heap.size := World.block_lt_of_cell? _ _ h.c0
theorem MapSt.clear {base : Nat} {w : World} {M I U : Nat} {v u : Value} {n : Nat} {g s : List Int} {sv : Value} (h : MapSt base w M I U v u n g s sv) (hg : PartF n g) {x y : Nat} (hx : x < n) (hy : ix g x = (y : Int)) :
    MapSt base ((w.setCell ⟨U, y, none⟩ (.bool false)).setCell ⟨I, x, none⟩ (.int .i64 (-1))) M I U v u n (g.set x (-1)) s sv where
  c0 := kc_set (fun e => h.apart.1 e) (kc_set (fun e => h.apart.2.1 e) h.c0)
  c1 := kc_set (fun e => h.apart.1 e) (kc_set (fun e => h.apart.2.1 e) h.c1)
  c2 := kc_set (fun e => h.apart.1 e) (kc_set (fun e => h.apart.2.1 e) h.c2)
  c3 := kc_set (fun e => h.apart.1 e) (kc_set (fun e => h.apart.2.1 e) h.c3)
  c4 := kc_set (fun e => h.apart.1 e) (kc_set (fun e => h.apart.2.1 e) h.c4)
  fr := kf_set (kf_set h.fr)
  img := ((h.img.setOther (fun e => h.apart.2.2.1 e) _).set x _).congr fun i hi => by
    by_cases e : i = x
    · subst e; rw [if_pos rfl, ix_set_same _ _ _ (by rw [hg.1]; exact hx)]
    · rw [if_neg e, ix_set_other _ _ _ _ e]
  usd := ((h.usd.set y _).setOther (fun e => h.apart.2.2.1 e.symm) _).congr fun i hi => by
    have := hasB_clear hg hx (by omega) i
    rw [hy, Int.toNat_natCast] at this
    rw [this]
    by_cases e : i = y
    · rw [if_pos e, if_pos e]
    · rw [if_neg e, if_neg e]
  set := (h.set.setOff (fun g hg => (h.apart.2.2.2 g hg).2.2) _).setOff (fun g hg => (h.apart.2.2.2 g hg).2.1) _
  apart := h.apart
  low := h.low

end Go.Proofs.YtjfjpngajboidaaGreat
