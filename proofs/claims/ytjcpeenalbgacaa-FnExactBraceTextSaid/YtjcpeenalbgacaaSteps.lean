/-
  Cells, marks and lists behind single steps of the world, for backward chaining. No program in sight.
-/
import Derived.Test.YtjcpeenalbgacaaBase
import Derived.Test.YtjcpeenalbgacaaBase2
import Derived.Test.YtjcpeenalbgacaaRet
namespace Go.Proofs.Ytjcpeenalbgacaa
set_option linter.unusedVariables false
set_option linter.unusedSimpArgs false
open Go.RowKit

theorem bcell {W w1 : World} (hb : Ext W w1) : (∀ b o, b < W.heap.size → w1.cell? ⟨b, o, none⟩ = W.cell? ⟨b, o, none⟩) ∧ (∀ b o, b < W.heap.size → w1.frozen? ⟨b, o, none⟩ = W.frozen? ⟨b, o, none⟩) :=
  ⟨fun b o h => Below.cell hb (p := ⟨b, o, none⟩) h, fun b o h => Below.frozen hb (p := ⟨b, o, none⟩) h⟩
theorem kc_alloc {w : World} {a : Addr} {v : Value} {o : Obj} (h : w.cell? a = some v) : (w.alloc o).cell? a = some v := ((Ext.refl w).alloc o).cell h
theorem kc_drew {w : World} {a : Addr} {v : Value} (h : w.cell? a = some v) : w.drew.cell? a = some v := h
theorem kc_drewN {w : World} {a : Addr} {v : Value} {n : Nat} (h : w.cell? a = some v) : (w.drewN n).cell? a = some v := ((Ext.refl w).drewN n).cell h
theorem kc_set {w : World} {a p : Addr} {v u : Value} (hb : a.block ≠ p.block) (h : w.cell? a = some v) : (w.setCell p u).cell? a = some v := by
  rw [World.cell?_setCell_other _ _ _ _ (fun e => hb (by rw [e]))]; exact h
theorem kc_set2 {w : World} {a p : Addr} {v u : Value} (hb : a.off ≠ p.off) (h : w.cell? a = some v) : (w.setCell p u).cell? a = some v := by
  rw [World.cell?_setCell_other _ _ _ _ (fun e => hb (by rw [e]))]; exact h
theorem kc_same {w : World} {a : Addr} {v u : Value} (h : w.cell? a = some v) : (w.setCell a u).cell? a = some u := World.cell?_setCell_same _ _ _ h
theorem kc_new {w : World} {v : Value} {T : Nat} : (w.alloc (.cells #[v] T)).cell? ⟨w.heap.size, 0, none⟩ = some v := by simp
theorem kc_new1 {w : World} {o : Obj} {v : Value} {T : Nat} : ((w.alloc o).alloc (.cells #[v] T)).cell? ⟨w.heap.size + 1, 0, none⟩ = some v := by simp [go_sem]
theorem ki_alloc {w : World} {b o : Nat} {l : List Int} {x : Obj} (h : IntsAt w b o l) : IntsAt (w.alloc x) b o l := h.ext ((Ext.refl w).alloc x)
theorem ki_drew {w : World} {b o : Nat} {l : List Int} (h : IntsAt w b o l) : IntsAt w.drew b o l := h.ext (Ext.refl w).drew
theorem ki_set {w : World} {b o : Nat} {l : List Int} {p : Addr} {u : Value} (hb : b ≠ p.block) (h : IntsAt w b o l) : IntsAt (w.setCell p u) b o l := fun i hi => kc_set (a := ⟨b, o + i, none⟩) hb (h i hi)
theorem ki_setNil {w : World} {b o : Nat} {l : List Int} {p : Addr} {u : Value} (hp : w.cell? p = some (.slice none 0 0)) (h : IntsAt w b o l) : IntsAt (w.setCell p u) b o l := h.setNil hp u
theorem kr_alloc {w : World} {b o : Nat} {t : List (List Int)} {x : Obj} (h : RowsAt w b o t) : RowsAt (w.alloc x) b o t := h.ext ((Ext.refl w).alloc x)
theorem kc_newE {w : World} {v : Value} {T n : Nat} (h : n = w.heap.size) : (w.alloc (.cells #[v] T)).cell? ⟨n, 0, none⟩ = some v := by subst h; exact kc_new
theorem kc_newEa {w : World} {v u : Value} {T n : Nat} (h : n = w.heap.size) : (w.alloc (.cells #[v, u] T)).cell? ⟨n, 0, none⟩ = some v := by subst h; simp [go_sem]
theorem kc_newEb {w : World} {v u : Value} {T n : Nat} (h : n = w.heap.size) : (w.alloc (.cells #[v, u] T)).cell? ⟨n, 1, none⟩ = some u := by subst h; simp [go_sem]
theorem kx_set {a w : World} {p : Addr} {u : Value} (hp : a.heap.size ≤ p.block) (h : Ext a w) : Ext a (w.setCell p u) := h.setNew hp u
theorem kx_alloc {a w : World} {o : Obj} (h : Ext a w) : Ext a (w.alloc o) := h.alloc o
theorem kx_drewN {a w : World} {n : Nat} (h : Ext a w) : Ext a (w.drewN n) := h.drewN n
theorem kf_alloc {w : World} {a : Addr} {o : Obj} (hb : a.block < w.heap.size) (h : w.frozen? a = false) : (w.alloc o).frozen? a = false := ((Ext.refl w).alloc o).free h hb
theorem kf_set {w : World} {a p : Addr} {u : Value} (h : w.frozen? a = false) : (w.setCell p u).frozen? a = false := by rw [World.frozen?_setCell]; exact h
end Go.Proofs.Ytjcpeenalbgacaa
