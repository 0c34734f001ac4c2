/-
  Tables that lie apart from what is written; the mapping's steps in memory. No program in sight.
-/
import Derived.Test.YtjbloenjphpngaaJx0
import Derived.Test.YtjbloenjphpngaaJx1
import Derived.Test.YtjbloenjphpngaaJx5
import Derived.Test.YtjbloenjphpngaaJx14
import Derived.Test.YtjbloenjphpngaaJx8
import Derived.Test.YtjbloenjphpngaaJx9
import Derived.Test.YtjbloenjphpngaaJx25
import Derived.Test.YtjbloenjphpngaaJx2
import Derived.Test.YtjbloenjphpngaaJx16
import Derived.Test.YtjbloenjphpngaaJx26
import Derived.Test.YtjbloenjphpngaaJx36
import Derived.Test.YtjbloenjphpngaaJx6
import Derived.Test.YtjbloenjphpngaaJx3
import Derived.Test.YtjbloenjphpngaaJx4
import Derived.Test.YtjbloenjphpngaaJx12
import Derived.Test.YtjbloenjphpngaaJx17
import Derived.Test.YtjbloenjphpngaaJx13
import Derived.Test.YtjbloenjphpngaaJx7
namespace Go.Proofs.Ytjbloenjphpngaa
set_option linter.unusedVariables false
set_option linter.unusedSimpArgs false
open Go.RowKit
open Go.Deep

/-- the tables ts of n elements lie below base, apart from the block X -/
def TabsIn (base : Nat) (X : Nat → Prop)  (w : World) (b o n : Nat) (ts : List (List (List Int))) : Prop := b < base ∧ ¬ X b ∧ ∀ k, k < ts.length →
  ∃ b1 o1 c1, b1 < base ∧ ¬ X b1 ∧ w.cell? ⟨b, o + k, none⟩ = some (.slice (some ⟨b1, o1, none⟩) n c1) ∧ ∀ x, x < n →
    ∃ b2 o2 c2, b2 < base ∧ ¬ X b2 ∧ w.cell? ⟨b1, o1 + x, none⟩ = some (.slice (some ⟨b2, o2, none⟩) n c2) ∧ ∀ y, y < n → w.cell? ⟨b2, o2 + y, none⟩ = some (.int .i64 (ent (tab ts k) x y))
/-- what lies below base, apart from X, is as it was -/
def KeepB (base : Nat) (X : Nat → Prop)  (w w' : World) : Prop := ∀ k, k < base → ¬ X k → w'.heap[k]? = w.heap[k]?
theorem KeepB.refl (base : Nat) (X : Nat → Prop)  (w : World) : KeepB base X w w := fun _ _ _ => rfl
theorem KeepB.trans {base : Nat} {X : Nat → Prop}  {a b c : World} (h : KeepB base X a b) (k : KeepB base X b c) : KeepB base X a c := fun i h1 h2 => (k i h1 h2).trans (h i h1 h2)
theorem KeepB.cell {base : Nat} {X : Nat → Prop}  {w w' : World} (h : KeepB base X w w') {b o : Nat} {v : Value} (h1 : b < base) (h2 : ¬ X b) (hc : w.cell? ⟨b, o, none⟩ = some v) : w'.cell? ⟨b, o, none⟩ = some v := by
  rw [World.cell?_of_block (w := w) (a := ⟨b, o, none⟩) (h b h1 h2)]; exact hc
theorem TabsIn.keep {base : Nat} {X : Nat → Prop}  {w w' : World} {b o n : Nat} {ts : List (List (List Int))} (h : TabsIn base X w b o n ts) (hk : KeepB base X w w') : TabsIn base X w' b o n ts := by
  obtain ⟨h1, h2, h3⟩ := h
  refine ⟨h1, h2, fun k hkl => ?_⟩
  obtain ⟨b1, o1, c1, g1, g2, g3, g4⟩ := h3 k hkl
  refine ⟨b1, o1, c1, g1, g2, hk.cell h1 h2 g3, fun x hx => ?_⟩
  obtain ⟨b2, o2, c2, k1, k2, k3, k4⟩ := g4 x hx
  exact ⟨b2, o2, c2, k1, k2, hk.cell g1 g2 k3, fun y hy => hk.cell k1 k2 (k4 y hy)⟩

/-- the blocks that the mapping's own steps write -/
def OwnP (M I U : Nat) (sv : Value) (b : Nat) : Prop := b = M ∨ b = I ∨ b = U ∨ sv.ownBlock = some b
/-- the set lies where it lay, or in a block that is new since w -/
def OwnsAt (vo vo' : Value) (w : World) : Prop := vo'.ownBlock = vo.ownBlock ∨ ∃ g, vo'.ownBlock = some g ∧ w.heap.size ≤ g
theorem OwnsAt.refl (v : Value) (w : World) : OwnsAt v v w := .inl rfl
theorem Only.mono {p q : Nat → Prop} {w w' : World} (h : Only p w w') (hpq : ∀ k, k < w.heap.size → p k → q k) : Only q w w' := ⟨h.os, h.tape, h.output, h.size, fun k hk hn => h.keep k hk (fun e => hn (hpq k hk e))⟩
theorem OwnsAt.trans {a b c : Value} {w w' : World} (h : OwnsAt a b w) (k : OwnsAt b c w') (hs : w.heap.size ≤ w'.heap.size) : OwnsAt a c w := by
  rcases k with e | ⟨g, e, hg⟩
  · rcases h with e2 | ⟨g, e2, hg⟩
    · exact .inl (e.trans e2)
    · exact .inr ⟨g, e.trans e2, hg⟩
  · exact .inr ⟨g, e, by omega⟩
/-- a step goes on from a step -/
theorem Only.next {M I U : Nat} {sv sv1 : Value} {w w1 w2 : World} (h : Only (OwnP M I U sv) w w1) (ha : OwnsAt sv sv1 w) (k : Only (OwnP M I U sv1) w1 w2) : Only (OwnP M I U sv) w w2 :=
  ⟨k.os.trans h.os, k.tape.trans h.tape, k.output.trans h.output, Nat.le_trans h.size k.size, fun i hi hn => (k.keep i (Nat.lt_of_lt_of_le hi h.size) (fun e => by
    rcases e with e | e | e | e
    · exact hn (.inl e)
    · exact hn (.inr (.inl e))
    · exact hn (.inr (.inr (.inl e)))
    · rcases ha with e2 | ⟨g, e2, hg⟩
      · exact hn (.inr (.inr (.inr (e2 ▸ e))))
      · rw [e2] at e
        injection e with e
        omega)).trans (h.keep i hi hn)⟩
theorem Only.ext {p : Nat → Prop} {w w' : World} (h : Ext w w') : Only p w w' := ⟨h.os, h.tape, h.output, h.size, fun k hk _ => h.block k hk⟩
theorem Only.keepB {p : Nat → Prop} {base : Nat} {X : Nat → Prop}  {w w' : World} (h : Only p w w') (hp : ∀ k, p k → base ≤ k) (hb : base ≤ w.heap.size) : KeepB base X w w' := fun k h1 _ => h.keep k (by omega) (fun e => by have := hp k e; omega)
theorem MapSt.ownLow {base : Nat} {w : World} {M I U : Nat} {v u : Value} {n : Nat} {f s : List Int} {sv : Value} (h : MapSt base w M I U v u n f s sv) : ∀ k, OwnP M I U sv k → base ≤ k := fun k e => by
  obtain ⟨l1, l2, l3⟩ := h.low
  rcases e with rfl | rfl | rfl | e
  · exact l1
  · exact l2
  · exact l3
  · exact (h.set.lt e).1
theorem MapSt.size {base : Nat} {w : World} {M I U : Nat} {v u : Value} {n : Nat} {f s : List Int} {sv : Value} (h : MapSt base w M I U v u n f s sv) : base ≤ w.heap.size := by
  have := h.img_lt
  have := h.low.1
  omega
theorem MapSt.drew {base : Nat} {w : World} {M I U : Nat} {v u : Value} {n : Nat} {f s : List Int} {sv : Value} (h : MapSt base w M I U v u n f s sv) : MapSt base w.drew M I U v u n f s sv := h.ext h.img_lt (Ext.refl w).drew
theorem MapSt.drewN {base : Nat} {w : World} {M I U : Nat} {v u : Value} {n : Nat} {f s : List Int} {sv : Value} (h : MapSt base w M I U v u n f s sv) (k : Nat) : MapSt base (w.drewN k) M I U v u n f s sv := h.ext h.img_lt ((Ext.refl w).drewN k)
theorem MapSt.put {base : Nat} {w : World} {M I U : Nat} {v u : Value} {n : Nat} {g s : List Int} {sv : Value} (h : MapSt base w M I U v u n g s sv) (hl : g.length = n) {x q : Nat} (hx : x < n) (hf : ix g x < 0) :
    MapSt base ((w.setCell ⟨I, x, none⟩ (.int .i64 (q : Int))).setCell ⟨U, q, none⟩ (.bool true)) M I U v u n (g.set x (q : Int)) s sv where
  c0 := kc_set (fun e => h.apart.2.1 e) (kc_set (fun e => h.apart.1 e) h.c0)
  c1 := kc_set (fun e => h.apart.2.1 e) (kc_set (fun e => h.apart.1 e) h.c1)
  c2 := kc_set (fun e => h.apart.2.1 e) (kc_set (fun e => h.apart.1 e) h.c2)
  c3 := kc_set (fun e => h.apart.2.1 e) (kc_set (fun e => h.apart.1 e) h.c3)
  c4 := kc_set (fun e => h.apart.2.1 e) (kc_set (fun e => h.apart.1 e) h.c4)
  fr := kf_set (kf_set h.fr)
  img := ((h.img.set x _).setOther (fun e => h.apart.2.2.1 e) _).congr fun i hi => by
    by_cases e : i = x
    · subst e; rw [if_pos rfl, ix_set_same _ _ _ (by rw [hl]; exact hx)]
    · rw [if_neg e, ix_set_other _ _ _ _ e]
  usd := ((h.usd.setOther (fun e => h.apart.2.2.1 e.symm) _).set q _).congr fun i hi => by
    rw [hasB_set hl hx hf]
    by_cases e : i = q
    · rw [if_pos e, if_pos e]
    · rw [if_neg e, if_neg e]
  set := (h.set.setOff (fun g hg => (h.apart.2.2.2 g hg).2.1) _).setOff (fun g hg => (h.apart.2.2.2 g hg).2.2) _
  apart := h.apart
  low := h.low
theorem MapSt.put2 {base : Nat} {w : World} {M I U : Nat} {v u : Value} {n : Nat} {g s : List Int} {sv : Value} (h : MapSt base w M I U v u n g s sv) (hl : g.length = n) {x q : Nat} (hx : x < n) (hf : ix g x < 0) :
    MapSt base ((w.setCell ⟨U, q, none⟩ (.bool true)).setCell ⟨I, x, none⟩ (.int .i64 (q : Int))) M I U v u n (g.set x (q : Int)) s sv where
  c0 := kc_set (fun e => h.apart.1 e) (kc_set (fun e => h.apart.2.1 e) h.c0)
  c1 := kc_set (fun e => h.apart.1 e) (kc_set (fun e => h.apart.2.1 e) h.c1)
  c2 := kc_set (fun e => h.apart.1 e) (kc_set (fun e => h.apart.2.1 e) h.c2)
  c3 := kc_set (fun e => h.apart.1 e) (kc_set (fun e => h.apart.2.1 e) h.c3)
  c4 := kc_set (fun e => h.apart.1 e) (kc_set (fun e => h.apart.2.1 e) h.c4)
  fr := kf_set (kf_set h.fr)
  img := ((h.img.setOther (fun e => h.apart.2.2.1 e) _).set x _).congr fun i hi => by
    by_cases e : i = x
    · subst e; rw [if_pos rfl, ix_set_same _ _ _ (by rw [hl]; exact hx)]
    · rw [if_neg e, ix_set_other _ _ _ _ e]
  usd := ((h.usd.set q _).setOther (fun e => h.apart.2.2.1 e.symm) _).congr fun i hi => by
    rw [hasB_set hl hx hf]
    by_cases e : i = q
    · rw [if_pos e, if_pos e]
    · rw [if_neg e, if_neg e]
  set := (h.set.setOff (fun g hg => (h.apart.2.2.2 g hg).2.2) _).setOff (fun g hg => (h.apart.2.2.2 g hg).2.1) _
  apart := h.apart
  low := h.low
theorem only_put {M I U : Nat} {sv : Value} {w : World} (x q : Nat) (a b : Value) : Only (OwnP M I U sv) w ((w.setCell ⟨I, x, none⟩ a).setCell ⟨U, q, none⟩ b) := (only_set (.inr (.inl rfl)) _).trans (only_set (.inr (.inr (.inl rfl))) _)
theorem only_put2 {M I U : Nat} {sv : Value} {w : World} (x q : Nat) (a b : Value) : Only (OwnP M I U sv) w ((w.setCell ⟨U, q, none⟩ b).setCell ⟨I, x, none⟩ a) := (only_set (.inr (.inr (.inl rfl))) _).trans (only_set (.inr (.inl rfl)) _)
/-- an element is appended to the set -/
theorem MapSt.app {base : Nat} {w w' : World} {M I U : Nat} {v u : Value} {n : Nat} {f s s' : List Int} {sv sv' : Value} {o : Obj} (h : MapSt base w M I U v u n f s sv) (hg : (w.alloc o).grownBy w' sv.ownBlock) (hs : GrowI 2 base w' sv' s') (hat : sv'.ownBlock = sv.ownBlock ∨ sv'.ownBlock = some (w.heap.size + 1)) :
    MapSt base (w'.setCell ⟨M, 4, none⟩ sv') M I U v u n f s' sv' := by
  have hx := h.ext h.img_lt ((Ext.refl w).alloc o)
  have hz : (w.alloc o).heap.size = w.heap.size + 1 := by simp
  have nM : M ≠ w.heap.size + 1 := by have := hx.img_lt; omega
  have nI : I ≠ w.heap.size + 1 := by have := hx.img.lt; omega
  have nU : U ≠ w.heap.size + 1 := by have := hx.usd.lt; omega
  have kM : some M ≠ sv.ownBlock := fun e => (h.apart.2.2.2 M e.symm).1 rfl
  have kI : some I ≠ sv.ownBlock := fun e => (h.apart.2.2.2 I e.symm).2.1 rfl
  have kU : some U ≠ sv.ownBlock := fun e => (h.apart.2.2.2 U e.symm).2.2 rfl
  have ap : ∀ g, sv'.ownBlock = some g → g ≠ M ∧ g ≠ I ∧ g ≠ U := fun g e => by
    rcases hat with e2 | e2
    · rw [e2] at e; exact h.apart.2.2.2 g e
    · rw [e2] at e; injection e with e
      subst e
      exact ⟨nM.symm, nI.symm, nU.symm⟩
  exact {
    c0 := kc_set2 (by simp) (hg.cell hx.c0 kM)
    c1 := kc_set2 (by simp) (hg.cell hx.c1 kM)
    c2 := kc_set2 (by simp) (hg.cell hx.c2 kM)
    c3 := kc_set2 (by simp) (hg.cell hx.c3 kM)
    c4 := kc_same (hg.cell hx.c4 kM)
    fr := kf_set (by
      have e := hg.block M hx.img_lt kM
      rw [World.frozen?_of_block (w := w.alloc o) (a := ⟨M, 4, none⟩) e]; exact hx.fr)
    img := (hx.img.of_block (hg.block I hx.img.lt kI)).setOther (fun e => h.apart.1 e.symm) _
    usd := (hx.usd.of_block (hg.block U hx.usd.lt kU)).setOther (fun e => h.apart.2.1 e.symm) _
    set := hs.setOff (fun g hg => (ap g hg).1) _
    apart := ⟨h.apart.1, h.apart.2.1, h.apart.2.2.1, ap⟩
    low := h.low }
theorem only_app {w w' : World} {M I U : Nat} {sv : Value} {o : Obj} (hg : (w.alloc o).grownBy w' sv.ownBlock) (x : Value) : Only (OwnP M I U sv) w (w'.setCell ⟨M, 4, none⟩ x) :=
  (Only.trans ⟨hg.os.trans rfl, hg.tape.trans rfl, hg.output.trans rfl, by have := hg.size; simp at this; omega, fun k hk hn => (hg.block k (by simp; omega) (fun e => hn (.inr (.inr (.inr e.symm))))).trans (Below.heap_alloc w o k hk)⟩ (only_set (.inl rfl) _))
theorem MapSt.row {base : Nat} {w : World} {M I U : Nat} {v u : Value} {n : Nat} {f s : List Int} {sv : Value} (h : MapSt base w M I U v u n f s sv) (hs : 0 < s.length) : ∃ S c, sv = .slice (some ⟨S, 0, none⟩) s.length c ∧ IntsAt w S 0 s := by
  obtain ⟨b, c, rfl, ho⟩ := h.set.own (fun e => by
    rcases h.set.2 with ⟨-, hn⟩ | ⟨g, cap, cur, rfl, _⟩
    · omega
    · simp at e)
  exact ⟨b, c, rfl, ho.2.2.1⟩
end Go.Proofs.Ytjbloenjphpngaa

/-
  The named groups: plain.
-/
namespace Go.Proofs.Ytjbloenjphpngaa
set_option linter.unusedVariables false
set_option linter.unusedSimpArgs false

@[irreducible] def cyT (n : Nat) : List (List Int) := mkT n (cycF n)
@[irreducible] def dbT (n s : Nat) : List (List Int) := mkT (2 * n) (dblF n s)
def evenE : List (List Int) := [[1, 2, 0, 3], [0, 2, 3, 1]]
theorem cyT_eq (n : Nat) : mkT n (cycF n) = cyT n := by unfold cyT; rfl
theorem dbT_eq (n s : Nat) : mkT (2 * n) (dblF n s) = dbT n s := by unfold dbT; rfl
theorem prodT_eq (a b : List (List Int)) {N : Nat} (h : N = a.length * b.length) : mkT N (prodF a b) = prodT a b := by subst h; rw [prodT_def]
theorem length_cyT (n : Nat) : (cyT n).length = n := by rw [← cyT_eq, length_mkT]
theorem length_dbT (n s : Nat) : (dbT n s).length = 2 * n := by rw [← dbT_eq, length_mkT]
theorem small_cyT {n : Nat} (h : n ≤ 12) : Small (cyT n) := by rw [← cyT_eq]; exact small_mkT (by omega) _
theorem small_dbT {n s : Nat} (h : n ≤ 12) : Small (dbT n s) := by rw [← dbT_eq]; exact small_mkT (by omega) _
theorem cy2_ok : TableOk (cyT 2) := by decide +kernel
theorem cy3_ok : TableOk (cyT 3) := by decide +kernel
theorem cy4_ok : TableOk (cyT 4) := by decide +kernel
theorem cy6_ok : TableOk (cyT 6) := by decide +kernel
theorem four_ok : TableOk (prodT (cyT 2) (cyT 2)) := by decide +kernel
theorem even_sys : sysB ((4 : Nat) : Int) evenE = true := by decide +kernel
theorem even_len : (genA evenE 4).length = 12 := by decide +kernel
/-- the tables of the named groups of an order -/
noncomputable def namedL (n : Nat) : List (List (List Int)) :=
  match n with
  | 4 => [cyT 4, prodT (cyT 2) (cyT 2)]
  | 6 => [cyT 6, dbT 3 0]
  | 8 => [cyT 8, prodT (cyT 2) (cyT 4), prodT (cyT 2) (prodT (cyT 2) (cyT 2)), dbT 4 0, dbT 4 2]
  | 9 => [cyT 9, prodT (cyT 3) (cyT 3)]
  | 10 => [cyT 10, dbT 5 0]
  | 12 => [cyT 12, prodT (cyT 2) (cyT 6), dbT 6 0, dbT 6 3, gopV ((4 : Nat) : Int) evenE]
  | n => [cyT n]
theorem even_gop : gopV ((4 : Nat) : Int) evenE = mkT (gopS ((4 : Nat) : Int) evenE).length (gopE (gopS ((4 : Nat) : Int) evenE)) := (gop_yes even_sys (by rw [Int.toNat_natCast, even_len]; omega)).1
theorem even_S : gopS ((4 : Nat) : Int) evenE = sortS (genA evenE 4) := by unfold gopS; rw [Int.toNat_natCast]
theorem even_Sl : (gopS ((4 : Nat) : Int) evenE).length = 12 := by rw [even_S, length_sortS, even_len]
theorem length_even : (gopV ((4 : Nat) : Int) evenE).length = 12 := by rw [even_gop, length_mkT, even_Sl]
theorem small_even : Small (gopV ((4 : Nat) : Int) evenE) := by rw [even_gop]; exact small_mkT (by rw [even_Sl]; omega) _
end Go.Proofs.Ytjbloenjphpngaa

/-
  The name of a group: plain.
-/
namespace Go.Proofs.Ytjbloenjphpngaa
set_option linter.unusedVariables false
set_option linter.unusedSimpArgs false

/-- the even permutations of four, in order -/
def even12 : List (List Int) := [[0, 1, 2, 3], [0, 2, 3, 1], [0, 3, 1, 2], [1, 0, 3, 2], [1, 2, 0, 3], [1, 3, 2, 0], [2, 0, 1, 3], [2, 1, 3, 0], [2, 3, 0, 1], [3, 0, 2, 1], [3, 1, 0, 2], [3, 2, 1, 0]]
theorem even12_eq : gopS ((4 : Nat) : Int) evenE = even12 := by
  rw [even_S]
  exact (sortS_eq (by decide +kernel) (by decide +kernel) (by decide +kernel)).symm
@[irreducible] def evT : List (List Int) := mkT 12 (gopE even12)
theorem even_evT : gopV ((4 : Nat) : Int) evenE = evT := by
  rw [even_gop, even_Sl, even12_eq]
  unfold evT
  rfl
theorem evT_ok : groupB evT = true ∧ evT.length = 12 := by decide +kernel
theorem named_check : ([cyT 1, cyT 2, cyT 3, cyT 4, cyT 5, cyT 6, cyT 7, cyT 8, cyT 9, cyT 10, cyT 11, cyT 12, prodT (cyT 2) (cyT 2), dbT 3 0, prodT (cyT 2) (cyT 4), prodT (cyT 2) (prodT (cyT 2) (cyT 2)), dbT 4 0, dbT 4 2, prodT (cyT 3) (cyT 3), dbT 5 0, prodT (cyT 2) (cyT 6), dbT 6 0, dbT 6 3].all fun t => groupB t) = true := by decide +kernel
theorem named_group {t : List (List Int)} (h : t ∈ [cyT 1, cyT 2, cyT 3, cyT 4, cyT 5, cyT 6, cyT 7, cyT 8, cyT 9, cyT 10, cyT 11, cyT 12, prodT (cyT 2) (cyT 2), dbT 3 0, prodT (cyT 2) (cyT 4), prodT (cyT 2) (prodT (cyT 2) (cyT 2)), dbT 4 0, dbT 4 2, prodT (cyT 3) (cyT 3), dbT 5 0, prodT (cyT 2) (cyT 6), dbT 6 0, dbT 6 3]) : groupB t = true := List.all_eq_true.1 named_check t h
theorem namedL_mem {n : Nat} (h1 : 1 ≤ n) (h12 : n ≤ 12) {t : List (List Int)} (ht : t ∈ namedL n) : groupB t = true ∧ t.length = n := by
  have h : n = 1 ∨ n = 2 ∨ n = 3 ∨ n = 4 ∨ n = 5 ∨ n = 6 ∨ n = 7 ∨ n = 8 ∨ n = 9 ∨ n = 10 ∨ n = 11 ∨ n = 12 := by omega
  rcases h with rfl | rfl | rfl | rfl | rfl | rfl | rfl | rfl | rfl | rfl | rfl | rfl <;> simp only [namedL, List.mem_cons, List.not_mem_nil, or_false] at ht
  all_goals (first | (rcases ht with rfl | rfl | rfl | rfl | rfl) | (rcases ht with rfl | rfl) | subst ht)
  all_goals first
    | (rw [even_evT]; exact evT_ok)
    | exact ⟨named_group (by simp), by simp [length_cyT, length_dbT, length_prodT]⟩
theorem namedL_ok {n : Nat} (h1 : 1 ≤ n) (h12 : n ≤ 12) {i : Nat} (hi : i < (namedL n).length) : groupB (tab (namedL n) i) = true ∧ (tab (namedL n) i).length = n :=
  namedL_mem h1 h12 (by rw [tab_eq, List.getD_eq_getElem?_getD, List.getElem?_eq_getElem hi]; exact List.getElem_mem hi)
theorem namedL_len0 (n : Nat) : 1 ≤ (namedL n).length ∧ (namedL n).length ≤ 5 := by
  unfold namedL
  split <;> simp
/-- the first table to which t is isomorphic -/
noncomputable def nameO (t : List (List Int)) (ts : List (List (List Int))) : Option Nat := (List.range ts.length).find? fun i => decide (isoF [t] [tab ts i] ≠ [])
@[irreducible] noncomputable def nameV (t : List (List Int)) : Int := if groupB t = true then (((nameO t (namedL t.length)).getD 0 : Nat) : Int) else 0
@[irreducible] noncomputable def nameC (t : List (List Int)) : Int := if groupB t = true then (if nameO t (namedL t.length) = none then 4 else 0) else 1
theorem name_1 {t : List (List Int)} (h : groupB t = false) : nameV t = 0 ∧ nameC t = 1 := by
  unfold nameV nameC
  rw [h]
  exact ⟨rfl, rfl⟩
theorem name_no {t : List (List Int)} (h : groupB t = true) {ts : List (List (List Int))} (hts : namedL t.length = ts) (hn : ∀ j, j < ts.length → isoF [t] [tab ts j] = []) : nameV t = 0 ∧ nameC t = 4 := by
  have : nameO t ts = none := by
    unfold nameO
    rw [List.find?_eq_none]
    intro i hi
    simpa using hn i (List.mem_range.1 hi)
  unfold nameV nameC
  rw [if_pos h, if_pos h, hts, this]
  exact ⟨rfl, rfl⟩
theorem name_yes {t : List (List Int)} (h : groupB t = true) {ts : List (List (List Int))} (hts : namedL t.length = ts) {m : Nat} (hm : m < ts.length) (hy : isoF [t] [tab ts m] ≠ []) (hn : ∀ j, j < m → isoF [t] [tab ts j] = []) : nameV t = m ∧ nameC t = 0 := by
  have : nameO t ts = some m := by
    unfold nameO
    rw [List.find?_range_eq_some]
    exact ⟨by simpa using hy, List.mem_range.2 hm, fun j hj => by simpa using hn j hj⟩
  unfold nameV nameC
  rw [if_pos h, if_pos h, hts, this]
  exact ⟨rfl, rfl⟩
end Go.Proofs.Ytjbloenjphpngaa

/-
  The brace of remainders: which it is. Plain.
-/
namespace Go.Proofs.Ytjbloenjphpngaa
set_option linter.unusedVariables false
set_option linter.unusedSimpArgs false

/-- p holds below k -/
def allN : Nat → (Nat → Bool) → Bool
  | 0, _ => true
  | k + 1, p => p k && allN k p
theorem allN_iff {p : Nat → Bool} : ∀ {k : Nat}, allN k p = true ↔ ∀ x, x < k → p x = true
  | 0 => by simp [allN]
  | k + 1 => by
    unfold allN
    rw [Bool.and_eq_true, allN_iff]
    constructor
    · intro h; exact all_succ h.2 h.1
    · intro h; exact ⟨h k (by omega), fun x hx => h x (by omega)⟩
def rA (n x y : Nat) : Nat := (x + y) % n
def rC (n k x y : Nat) : Nat := (x + y + k * x * y) % n
def okP (n : Nat) (g : Nat → Nat → Nat) : Bool := allN n fun x => allN n fun y => allN y fun z => !(Nat.beq (g x z) (g x y))
def okU (n : Nat) (g : Nat → Nat → Nat) : Bool := allN n fun x => Nat.beq (g 0 x) x && Nat.beq (g x 0) x
def okA (n : Nat) (g : Nat → Nat → Nat) : Bool := allN n fun x => allN n fun y => allN n fun z => Nat.beq (g (g x y) z) (g x (g y z))
def okB (n : Nat) (g : Nat → Nat → Nat) : Bool := allN n fun x => allN n fun y => allN n fun z => Nat.beq (g x (rA n y z)) (rA n (rA n (g x y) ((n - x) % n)) (g x z))
/-- p is a prime -/
def isPr (p : Nat) : Bool := Nat.ble 2 p && allN p fun d => Nat.ble d 1 || !(Nat.beq (p % d) 0)
/-- p is a prime divisor of n and not of k -/
def badP (n k p : Nat) : Bool := isPr p && Nat.beq (n % p) 0 && !(Nat.beq (k % p) 0)
def goodR (n k : Nat) : Bool := allN (n + 1) fun p => !(badP n k p)
def ringChk (n k : Nat) : Bool := (Nat.beq (if okP n (rC n k) then 1 else 0) (if goodR n k then 1 else 0)) && okU n (rC n k) && (okA n (rC n k) && okB n (rC n k))
set_option maxRecDepth 100000 in
theorem ring_all : allN 13 (fun n => allN n fun k => ringChk n k) = true := by decide +kernel

theorem ring_one {n k : Nat} (h2 : n ≤ 12) (hk : k < n) : (okP n (rC n k) = goodR n k) ∧ okU n (rC n k) = true ∧ okA n (rC n k) = true ∧ okB n (rC n k) = true := by
  have := allN_iff.1 (allN_iff.1 ring_all n (by omega)) k hk
  unfold ringChk at this
  simp only [Bool.and_eq_true] at this
  obtain ⟨⟨h1, h2⟩, h3, h4⟩ := this
  refine ⟨?_, h2, h3, h4⟩
  have h1 := Nat.eq_of_beq_eq_true h1
  cases e : okP n (rC n k) <;> cases e' : goodR n k <;> rw [e, e'] at h1 <;> simp at h1 <;> rfl

/-- values of the brace of remainders -/
@[irreducible] def ringF (n k x y : Nat) : Int := ((x : Int) + (y : Int) + (k : Int) * (x : Int) * (y : Int)) % (n : Int)
theorem ringF_def (n k x y : Nat) : ringF n k x y = ((x : Int) + (y : Int) + (k : Int) * (x : Int) * (y : Int)) % (n : Int) := by unfold ringF; rfl
theorem ringF_nat (n k x y : Nat) : ringF n k x y = ((rC n k x y : Nat) : Int) := by rw [ringF_def]; unfold rC; simp
theorem cycF_nat (n x y : Nat) : cycF n x y = ((rA n x y : Nat) : Int) := by rw [cycF_def]; unfold rA; simp
theorem rC_lt {n k x y : Nat} (h : 0 < n) : rC n k x y < n := Nat.mod_lt _ h
theorem rA_lt {n x y : Nat} (h : 0 < n) : rA n x y < n := Nat.mod_lt _ h
theorem rA_rC (n x y : Nat) : rA n x y = rC n 0 x y := by unfold rA rC; simp

theorem table_nat {n : Nat} {f : Nat → Nat → Int} {g : Nat → Nat → Nat} (h1 : 1 ≤ n) (h2 : n ≤ 12) (hf : ∀ x y, f x y = ((g x y : Nat) : Int)) (hg : ∀ x y, g x y < n) : TableOk (mkT n f) := by
  refine ⟨by rw [length_mkT]; exact h1, by rw [length_mkT]; exact h2, fun x hx => ?_⟩
  rw [length_mkT] at hx ⊢
  refine ⟨length_row_mkT n f x hx, fun y hy => ?_⟩
  rw [ent_mkT _ _ _ _ hx hy, hf]
  have := hg x y
  omega
theorem perm_nat {n : Nat} {f : Nat → Nat → Int} {g : Nat → Nat → Nat} (hf : ∀ x y, f x y = ((g x y : Nat) : Int)) (hg : ∀ x y, g x y < n) : PermRows (mkT n f) n ↔ okP n g = true := by
  unfold okP
  rw [allN_iff]
  constructor
  · intro h x hx
    rw [allN_iff]
    intro y hy
    rw [allN_iff]
    intro z hz
    have hp := (h x hx).2
    rw [length_row_mkT n f x hx] at hp
    have := hp y hy z hz
    rw [ent_def, ent_def, ent_mkT _ _ _ _ hx hy, ent_mkT _ _ _ _ hx (by omega), hf, hf] at this
    cases e : Nat.beq (g x z) (g x y) with
    | false => rfl
    | true => exact absurd (by rw [Nat.eq_of_beq_eq_true e]) this
  · intro h x hx
    refine ⟨fun y hy => ?_, fun y hy z hz => ?_⟩
    · rw [length_row_mkT n f x hx] at hy ⊢
      rw [ent_def, ent_mkT _ _ _ _ hx hy, hf]
      have := hg x y
      omega
    · rw [length_row_mkT n f x hx] at hy
      rw [ent_def, ent_def, ent_mkT _ _ _ _ hx hy, ent_mkT _ _ _ _ hx (by omega), hf, hf]
      have := allN_iff.1 (allN_iff.1 (h x hx) y hy) z hz
      intro e
      have e : g x z = g x y := by omega
      rw [e] at this
      simp at this
theorem group_nat {n : Nat} {f : Nat → Nat → Int} {g : Nat → Nat → Nat} (h1 : 1 ≤ n) (h2 : n ≤ 12) (hf : ∀ x y, f x y = ((g x y : Nat) : Int)) (hg : ∀ x y, g x y < n) (hU : okU n g = true) (hA : okA n g = true) : GroupOk (mkT n f) ↔ okP n g = true := by
  unfold GroupOk
  rw [length_mkT, perm_nat hf hg]
  constructor
  · intro h; exact h.2.1
  · intro h
    refine ⟨table_nat h1 h2 hf hg, h, fun x hx => ⟨⟨?_, ?_⟩, fun y hy z hz => ?_⟩⟩
    · have := allN_iff.1 hU x hx
      rw [Bool.and_eq_true] at this
      rw [ent_mkT _ _ _ _ (by omega) hx, hf, Nat.eq_of_beq_eq_true this.1]
    · have := allN_iff.1 hU x hx
      rw [Bool.and_eq_true] at this
      rw [ent_mkT _ _ _ _ hx (by omega), hf, Nat.eq_of_beq_eq_true this.2]
    · have := Nat.eq_of_beq_eq_true (allN_iff.1 (allN_iff.1 (allN_iff.1 hA x hx) y hy) z hz)
      have a1 := hg x y
      have a2 := hg y z
      rw [ent_mkT _ _ _ _ hx hy, ent_mkT _ _ _ _ hy hz, hf, hf, Int.toNat_natCast, Int.toNat_natCast, ent_mkT _ _ _ _ a1 hz, ent_mkT _ _ _ _ hx a2, hf, hf, this]
theorem group_cyc {n : Nat} (h1 : 1 ≤ n) (h2 : n ≤ 12) : GroupOk (mkT n (cycF n)) := by
  obtain ⟨a, b, c, d⟩ := ring_one (n := n) (k := 0) h2 (by omega)
  have hf : ∀ x y, cycF n x y = ((rC n 0 x y : Nat) : Int) := fun x y => by rw [cycF_nat, rA_rC]
  rw [group_nat h1 h2 hf (fun x y => rC_lt (by omega)) b c, a]
  unfold goodR
  rw [allN_iff]
  intro p hp
  unfold badP
  simp
theorem back_cyc {n x : Nat} (h1 : 1 ≤ n) (h2 : n ≤ 12) (hx : x < n) : (backF (mkT n (cycF n)) x).toNat = (n - x) % n := by
  have hG := group_cyc h1 h2
  obtain ⟨b0, b1, b2⟩ := backF_ok hG (x := x) (by rw [length_mkT]; exact hx)
  rw [length_mkT] at b1
  have hb : (backF (mkT n (cycF n)) x).toNat < n := by omega
  generalize (backF (mkT n (cycF n)) x).toNat = b at *
  rw [ent_mkT _ _ _ _ hx hb, cycF_nat] at b2
  unfold rA at b2
  have b2 : (x + b) % n = 0 := by omega
  by_cases e : x = 0
  · subst e
    rw [Nat.zero_add, Nat.mod_eq_of_lt hb] at b2
    subst b2; simp
  · rw [Nat.mod_eq_of_lt (by omega)]
    have hn : n ≤ x + b := by
      apply Classical.byContradiction
      intro h
      rw [Nat.mod_eq_of_lt (by omega)] at b2
      omega
    rw [Nat.mod_eq_sub_mod hn, Nat.mod_eq_of_lt (by omega)] at b2
    omega
/-- the remainders make a brace exactly if each prime divisor of n is one of k -/
theorem brace_ring {n k : Nat} (h1 : 1 ≤ n) (h2 : n ≤ 12) (hk : k < n) : braceB (mkT n (cycF n)) (mkT n (ringF n k)) = goodR n k := by
  obtain ⟨a, b, c, d⟩ := ring_one h2 hk
  have hC := group_cyc h1 h2
  have hR := group_nat h1 h2 (ringF_nat n k) (fun x y => rC_lt (by omega)) b c
  rw [a] at hR
  cases e : goodR n k with
  | false =>
    rw [e] at hR
    exact braceB_1 (twoB_2 (groupB_no (by simpa using hR)))
  | true =>
    refine braceB_yes (twoB_yes (groupB_yes hC) (groupB_yes (hR.2 e)) (by rw [length_mkT, length_mkT])) (faultL_none ?_)
    rw [length_mkT]
    intro x hx y hy z hz
    rw [length_mkT] at hy hz
    rw [← leftF_def, ← rightF_def]
    have := Nat.eq_of_beq_eq_true (allN_iff.1 (allN_iff.1 (allN_iff.1 d x hx) y hy) z hz)
    have a1 : rC n k x y < n := rC_lt (by omega)
    have a2 : rC n k x z < n := rC_lt (by omega)
    have a3 : (n - x) % n < n := Nat.mod_lt _ (by omega)
    have a4 : rA n y z < n := rA_lt (by omega)
    have a5 : rA n (rC n k x y) ((n - x) % n) < n := rA_lt (by omega)
    rw [ent_mkT _ _ _ _ hy hz, ent_mkT n (ringF n k) _ _ hx hy, ent_mkT n (ringF n k) _ _ hx hz, cycF_nat, ringF_nat, ringF_nat, Int.toNat_natCast, Int.toNat_natCast, Int.toNat_natCast, ent_mkT _ _ _ _ hx a4, back_cyc h1 h2 hx, ent_mkT _ _ _ _ a1 a3, cycF_nat, Int.toNat_natCast, ent_mkT _ _ _ _ a5 a2, cycF_nat, ringF_nat, this]
end Go.Proofs.Ytjbloenjphpngaa

/-
  Small named groups have few automorphisms. No program in sight.
-/
namespace Go.Proofs.Ytjbloenjphpngaa
set_option linter.unusedVariables false
set_option linter.unusedSimpArgs false

theorem iso_cyc {n : Nat} {p q : List Int} (h2 : 2 ≤ n) (h12 : n ≤ 12) (hp : IsoOk n [mkT n (cycF n)] [mkT n (cycF n)] p) (hq : IsoOk n [mkT n (cycF n)] [mkT n (cycF n)] q) (h : ix p 1 = ix q 1) : p = q := by
  have hG : GroupOk (mkT n (cycF n)) := group_cyc (by omega) h12
  have hl := length_mkT n (cycF n)
  have z : ∀ r, IsoOk n [mkT n (cycF n)] [mkT n (cycF n)] r → ix r 0 = 0 := fun r hr =>
    hr.zero (by simp) (by rw [tab_one]; exact hG) (by rw [tab_one]; exact hG) (by rw [tab_one]; exact hl) (by rw [tab_one]; exact hl)
  have key : ∀ k, k < n → ix p k = ix q k := by
    intro k
    induction k with
    | zero => intro _; rw [z p hp, z q hq]
    | succ k ih =>
      intro hk
      have e : (ent (tab [mkT n (cycF n)] 0) k 1).toNat = k + 1 := by
        rw [tab_one, ent_mkT _ _ _ _ (by omega) (by omega), cycF_def]
        rw [show ((k : Int) + ((1 : Nat) : Int)) % (n : Int) = ((k + 1 : Nat) : Int) from Int.emod_eq_of_lt (by omega) (by omega)]
        exact Int.toNat_natCast _
      have h1 := hp.2.2 0 (by simp) k (by omega) 1 (by omega)
      have h2 := hq.2.2 0 (by simp) k (by omega) 1 (by omega)
      rw [e] at h1 h2
      rw [h1, h2, ih (by omega), h]
  exact ix_ext (by rw [hp.1, hq.1]) fun i hi => key i (by rw [hp.1] at hi; exact hi)

theorem auto_cyc {n : Nat} (h2 : 2 ≤ n) (h12 : n ≤ 12) : (isoL n [mkT n (cycF n)] [mkT n (cycF n)]).length ≤ n := by
  have hnd : (isoL n [mkT n (cycF n)] [mkT n (cycF n)]).Nodup := by
    have := sorted_isoL n [mkT n (cycF n)] [mkT n (cycF n)]
    refine this.imp fun h e => ?_
    obtain ⟨d, -, h2⟩ := h
    rw [e] at h2
    omega
  have := len_parts 1 1 n (isoL n [mkT n (cycF n)] [mkT n (cycF n)]) (fun p hp => by have := (mem_isoL.1 hp).bd (x := 1) (by omega); omega) (fun v _ => by
    have hn : (part (isoL n [mkT n (cycF n)] [mkT n (cycF n)]) 1 v).Nodup := by unfold part; exact nodup_filter _ hnd
    have hM : ∀ p, p ∈ part (isoL n [mkT n (cycF n)] [mkT n (cycF n)]) 1 v → IsoOk n [mkT n (cycF n)] [mkT n (cycF n)] p ∧ ix p 1 = (v : Int) := fun p hp => ⟨mem_isoL.1 (mem_part.1 hp).1, (mem_part.1 hp).2⟩
    rcases hL : part (isoL n [mkT n (cycF n)] [mkT n (cycF n)]) 1 v with _ | ⟨p, _ | ⟨q, r⟩⟩
    · simp
    · simp
    · rw [hL] at hn hM
      have hp := hM p (by simp)
      have hq := hM q (by simp)
      have := iso_cyc h2 h12 hp.1 hq.1 (by rw [hp.2, hq.2])
      subst this
      simp at hn)
  omega

/-- so few that their lists stay short -/
theorem auto_pow {n : Nat} {T : List (List Int)} (h1 : 1 ≤ n) (h7 : n ≤ 7) (hT : T ∈ namedL n) : (isoL n [T] [T]).length ^ (n - 1) ≤ 470184984576 := by
  have ok := namedL_mem h1 (by omega) hT
  have hG := groupB_iff.1 ok.1
  by_cases h : n ≤ 6
  · have hf := auto_few hG (by omega)
    rw [ok.2] at hf
    have e1 := Nat.pow_le_pow_left hf (n - 1)
    have e2 : (216 : Nat) ^ (n - 1) ≤ 216 ^ 5 := Nat.pow_le_pow_right (by omega) (by omega)
    omega
  · have h77 : n = 7 := by omega
    subst h77
    have e : T = mkT 7 (cycF 7) := by
      simp only [namedL, List.mem_cons, List.not_mem_nil, or_false] at hT
      rw [hT]; unfold cyT; rfl
    subst e
    have hf := auto_cyc (n := 7) (by omega) (by omega)
    have e1 := Nat.pow_le_pow_left hf 6
    have e2 : (7 : Nat) ^ 6 ≤ 470184984576 := by decide
    exact Nat.le_trans e1 e2
end Go.Proofs.Ytjbloenjphpngaa

/-
  The image of a table by a permutation, entry by entry: plain.
-/
namespace Go.Proofs.Ytjbloenjphpngaa
set_option linter.unusedVariables false
set_option linter.unusedSimpArgs false

/-- all entries ahead of (x, y) are where they belong -/
structure ImgTo (t : List (List Int)) (p : List Int) (x y : Nat) (T : List (List Int)) : Prop where
  len : T.length = t.length
  rows : ∀ i, i < t.length → (row T i).length = t.length
  at_ : ∀ a b, a < t.length → b < t.length → (a < x ∨ (a = x ∧ b < y)) → ent T (ix p a).toNat (ix p b).toNat = ix p (ent t a b).toNat
theorem ImgTo.start {t : List (List Int)} (h : TableOk t) (p : List Int) : ImgTo t p 0 0 t := ⟨rfl, fun i hi => h.len hi, fun a b _ _ h => by omega⟩
theorem ImgTo.step {t T : List (List Int)} {p : List Int} {x y : Nat} (h : ImgTo t p x y T) (hp : IsoOk t.length [] [] p) (hx : x < t.length) (hy : y < t.length) : ImgTo t p x (y + 1) (setE T (ix p x).toNat (ix p y).toNat (ix p (ent t x y).toNat)) := by
  have b1 := (hp.bd hx).2
  have b2 := (hp.bd hy).2
  have hT : (ix p x).toNat < T.length := by rw [h.len]; exact b1
  refine ⟨by rw [length_setE]; exact h.len, fun i hi => by rw [length_row_setE _ _ _ _ _ hT]; exact h.rows i hi, fun a b ha hb hab => ?_⟩
  by_cases e : a = x ∧ b = y
  · obtain ⟨rfl, rfl⟩ := e
    exact ent_setE_same _ _ _ _ hT (by rw [h.rows _ b1]; exact b2)
  · have c1 := hp.bd ha
    have c2 := hp.bd hb
    have d1 := hp.bd hx
    have d2 := hp.bd hy
    rw [ent_setE_other _ _ _ _ _ _ hT ?_]
    · exact h.at_ a b ha hb (by omega)
    · by_cases e1 : a = x
      · right; intro e2; exact e ⟨e1, hp.inj hb hy (by omega)⟩
      · left; intro e2; exact e1 (hp.inj ha hx (by omega))
theorem ImgTo.next {t T : List (List Int)} {p : List Int} {x : Nat} (h : ImgTo t p x t.length T) : ImgTo t p (x + 1) 0 T := ⟨h.len, h.rows, fun a b ha hb hab => h.at_ a b ha hb (by omega)⟩
theorem table_ext {n : Nat} {S T : List (List Int)} (h1 : S.length = n) (h2 : T.length = n) (h3 : ∀ i, i < n → (row S i).length = n) (h4 : ∀ i, i < n → (row T i).length = n) (h : ∀ i j, i < n → j < n → ent S i j = ent T i j) : S = T :=
  row_ext (by omega) fun i hi => ix_ext (by rw [h3 i (by omega), h4 i (by omega)]) fun j hj => by
    rw [h3 i (by omega)] at hj
    rw [ent_def, ent_def]; exact h i j (by omega) hj
theorem length_imgT (t : List (List Int)) (p : List Int) : (imgT t p).length = t.length := length_mkT _ _
theorem row_imgT (t : List (List Int)) (p : List Int) {i : Nat} (h : i < t.length) : (row (imgT t p) i).length = t.length := by unfold imgT; rw [row_mkT _ _ _ h, length_partRow]
theorem ent_imgT (t : List (List Int)) (p : List Int) {i j : Nat} (h : i < t.length) (hj : j < t.length) : ent (imgT t p) i j = imgE t p i j := ent_mkT _ _ _ _ h hj
theorem ImgTo.done {t T : List (List Int)} {p : List Int} (h : ImgTo t p t.length 0 T) (hp : IsoOk t.length [] [] p) : T = imgT t p := by
  refine table_ext h.len (length_imgT _ _) h.rows (fun i hi => row_imgT _ _ hi) fun i j hi hj => ?_
  rw [ent_imgT _ _ hi hj]
  obtain ⟨a, ha, e1⟩ := hp.surj hi
  obtain ⟨b, hb, e2⟩ := hp.surj hj
  have := h.at_ a b ha hb (by omega)
  have h2 := imgE_at hp ha hb
  rw [e1, e2, Int.toNat_natCast, Int.toNat_natCast] at this h2
  rw [this, h2]
theorem imgT_ok {t : List (List Int)} {p : List Int} (h : TableOk t) (hp : IsoOk t.length [] [] p) : TableOk (imgT t p) := by
  refine ⟨by rw [length_imgT]; exact h.1, by rw [length_imgT]; exact h.2.1, fun i hi => ?_⟩
  rw [length_imgT] at hi ⊢
  refine ⟨row_imgT _ _ hi, fun j hj => ?_⟩
  rw [ent_imgT _ _ hi hj]
  obtain ⟨a, ha, e1⟩ := hp.surj hi
  obtain ⟨b, hb, e2⟩ := hp.surj hj
  have h2 := imgE_at hp ha hb
  rw [e1, e2, Int.toNat_natCast, Int.toNat_natCast] at h2
  rw [h2]
  have := h.bd ha hb
  have := hp.bd (x := (ent t a b).toNat) (by omega)
  omega
end Go.Proofs.Ytjbloenjphpngaa

/-
  Slices of slices that grow by several rows, each at the head of its block; what growing elsewhere leaves. No program in sight.
-/
namespace Go.Proofs.Ytjbloenjphpngaa
set_option linter.unusedVariables false
set_option linter.unusedSimpArgs false
open Go.RowKit

/-- a slice at the head of its block that holds l -/
def RT (w : World) (x : Value) (l : List Int) : Prop := l.length ≤ 1048576 ∧ ∃ b c, x = .slice (some ⟨b, 0, none⟩) l.length c ∧ IntsAt w b 0 l
def XT (w : World) (xs : List Value) (s : List (List Int)) : Prop := xs.length = s.length ∧ ∀ i, i < s.length → ∃ x, xs[i]? = some x ∧ RT w x (row s i)
theorem RT.ext {w w' : World} {x : Value} {l : List Int} (h : RT w x l) (hx : Ext w w') : RT w' x l := by
  obtain ⟨h0, b, c, rfl, h1⟩ := h
  exact ⟨h0, b, c, rfl, h1.ext hx⟩
theorem RT.ints {w : World} {x : Value} {l : List Int} (h : RT w x l) : Ints w x l := by
  obtain ⟨h0, b, c, rfl, h1⟩ := h
  exact h1.ints h0 c
theorem XT.nil (w : World) : XT w [] [] := ⟨rfl, fun i hi => by simp at hi⟩
theorem XT.one {w : World} {x : Value} {l : List Int} (h : RT w x l) : XT w [x] [l] := ⟨rfl, fun i hi => by
  have : i = 0 := by simpa using hi
  subst this
  exact ⟨x, rfl, by rw [row_eq]; exact h⟩⟩
theorem XT.ext {w w' : World} {xs : List Value} {s : List (List Int)} (h : XT w xs s) (hx : Ext w w') : XT w' xs s := ⟨h.1, fun i hi => by
  obtain ⟨x, h1, h2⟩ := h.2 i hi
  exact ⟨x, h1, h2.ext hx⟩⟩
theorem XT.append {w : World} {xs ys : List Value} {s t : List (List Int)} (h : XT w xs s) (k : XT w ys t) : XT w (xs ++ ys) (s ++ t) := by
  refine ⟨by simp [h.1, k.1], fun i hi => ?_⟩
  by_cases hs : i < s.length
  · obtain ⟨x, h1, h2⟩ := h.2 i hs
    refine ⟨x, by rw [List.getElem?_append_left (by rw [h.1]; exact hs)]; exact h1, ?_⟩
    rw [row_eq]
    rw [row_eq] at h2
    simpa [List.getD, List.getElem?_append_left hs] using h2
  · have hl : i - s.length < t.length := by simp at hi; omega
    obtain ⟨x, h1, h2⟩ := k.2 (i - s.length) hl
    refine ⟨x, by rw [List.getElem?_append_right (by rw [h.1]; omega), h.1]; exact h1, ?_⟩
    rw [row_eq]
    rw [row_eq] at h2
    simpa [List.getD, List.getElem?_append_right (Nat.le_of_not_lt hs)] using h2
theorem XT.take {w : World} {xs : List Value} {s : List (List Int)} (h : XT w xs s) (k : Nat) : XT w (xs.take k) (s.take k) := by
  refine ⟨by simp [h.1], fun i hi => ?_⟩
  have hi' : i < k ∧ i < s.length := by rw [List.length_take] at hi; omega
  obtain ⟨x, h1, h2⟩ := h.2 i hi'.2
  refine ⟨x, by rw [List.getElem?_take, if_pos hi'.1]; exact h1, ?_⟩
  rw [row_eq]
  rw [row_eq] at h2
  simpa [List.getD, List.getElem?_take, hi'.1] using h2
theorem XT.drop {w : World} {xs : List Value} {s : List (List Int)} (h : XT w xs s) (k : Nat) : XT w (xs.drop k) (s.drop k) := by
  refine ⟨by simp [h.1], fun i hi => ?_⟩
  have hi' : k + i < s.length := by rw [List.length_drop] at hi; omega
  obtain ⟨x, h1, h2⟩ := h.2 (k + i) hi'
  refine ⟨x, by rw [List.getElem?_drop]; exact h1, ?_⟩
  rw [row_eq]
  rw [row_eq] at h2
  simpa [List.getD, List.getElem?_drop] using h2
theorem XT.cell {w : World} {xs : List Value} {s : List (List Int)} (h : XT w xs s) : ∀ u ∈ xs, u.oneCell' = true := by
  intro u hu
  obtain ⟨i, hi, rfl⟩ := List.mem_iff_getElem.1 hu
  obtain ⟨x, h1, _, b, c, rfl, _⟩ := h.2 i (by rw [← h.1]; exact hi)
  rw [List.getElem?_eq_getElem hi] at h1
  have h1 := Option.some.inj h1
  rw [h1]; rfl
theorem GrowT.xt {e base : Nat} {w : World} {v : Value} {t : List (List Int)} (h : GrowT e base w v t) : ∃ xs, w.ownsRow base e 1 v t.length xs ∧ XT w xs t := by
  obtain ⟨xs, h1, h2⟩ := h
  refine ⟨xs, h1, by have := h1.1; simpa using this, fun i hi => ?_⟩
  obtain ⟨g0, b, c, g1, g2⟩ := h2 i hi
  exact ⟨_, g1, g0, b, c, rfl, g2⟩
theorem GrowT.of_xt {e base : Nat} {w : World} {v : Value} {t : List (List Int)} {xs : List Value} (h : w.ownsRow base e 1 v t.length xs) (k : XT w xs t) : GrowT e base w v t :=
  ⟨xs, h, fun i hi => by
    obtain ⟨x, h1, h0, b, c, rfl, h2⟩ := k.2 i hi
    exact ⟨h0, b, c, h1, h2⟩⟩
/-- growing elsewhere: block g holds a slice at its head, so it is none of the rows' blocks -/
theorem RT.grown {w w' : World} {x : Value} {l : List Int} {g : Nat} {a : Option Addr} {n c : Nat} (h : RT w x l) (hg : w.grownBy w' (some g)) (hs : w.cell? ⟨g, 0, none⟩ = some (.slice a n c)) (hl : 0 < l.length) : RT w' x l := by
  obtain ⟨h0, b, c, rfl, h1⟩ := h
  refine ⟨h0, b, c, rfl, intsAt_grown h1 hg (fun _ e => ?_)⟩
  injection e with e
  have := h1 0 hl
  rw [Nat.zero_add, e, hs] at this
  cases this
theorem XT.grown {w w' : World} {xs : List Value} {s : List (List Int)} {g : Nat} {a : Option Addr} {n c : Nat} (h : XT w xs s) (hg : w.grownBy w' (some g)) (hs : w.cell? ⟨g, 0, none⟩ = some (.slice a n c)) (hr : ∀ i, i < s.length → 0 < (row s i).length) : XT w' xs s := ⟨h.1, fun i hi => by
  obtain ⟨x, h1, h2⟩ := h.2 i hi
  exact ⟨x, h1, h2.grown hg hs (hr i hi)⟩⟩
theorem GrowT.grown {e base : Nat} {w w' : World} {v : Value} {t : List (List Int)} {g : Nat} {a : Option Addr} {n c : Nat} (h : GrowT e base w v t) (hg : w.grownBy w' (some g)) (hs : w.cell? ⟨g, 0, none⟩ = some (.slice a n c)) (hr : ∀ i, i < t.length → 0 < (row t i).length) (hne : v.ownBlock ≠ some g) : GrowT e base w' v t := by
  obtain ⟨xs, h1, h2⟩ := h.xt
  exact GrowT.of_xt (World.ownsRow.kept h1 hg (.inr hne)) (h2.grown hg hs hr)
theorem GrowT.head {e base : Nat} {w : World} {v : Value} {t : List (List Int)} (h : GrowT e base w v t) (h0 : 0 < t.length) : ∃ g c b n d, v = .slice (some ⟨g, 0, none⟩) t.length c ∧ w.cell? ⟨g, 0, none⟩ = some (.slice (some ⟨b, 0, none⟩) n d) ∧ t.length ≤ c := by
  obtain ⟨xs, h1, h2⟩ := h
  rcases id h1.2 with ⟨rfl, hn⟩ | ⟨g, cap, cur, rfl, hb, hg, hnc, _, hcs, htake⟩
  · omega
  · obtain ⟨g0, b, c, g1, g2⟩ := h2 0 h0
    have := World.ownsRow.cells h1 (g := g) rfl 0 _ g1
    rw [Addr.add_lit] at this
    exact ⟨g, cap, b, _, c, rfl, this, hnc⟩
/-- row i: where it lies -/
theorem GrowT.get {e base : Nat} {w : World} {v : Value} {t : List (List Int)} (h : GrowT e base w v t) {i : Nat} (hi : i < t.length) : ∃ g c b d, v = .slice (some ⟨g, 0, none⟩) t.length c ∧ w.cell? ⟨g, i, none⟩ = some (.slice (some ⟨b, 0, none⟩) (row t i).length d) ∧ IntsAt w b 0 (row t i) ∧ (row t i).length ≤ 1048576 := by
  obtain ⟨xs, h1, h2⟩ := h
  rcases id h1.2 with ⟨rfl, hn⟩ | ⟨g, cap, cur, rfl, hb, hg, hnc, _, hcs, htake⟩
  · omega
  · obtain ⟨g0, b, c, g1, g2⟩ := h2 i hi
    have := World.ownsRow.cells h1 (g := g) rfl i _ g1
    rw [Addr.add_lit, Nat.zero_add] at this
    exact ⟨g, cap, b, c, rfl, this, g2, g0⟩
/-- a literal of one row -/
theorem GrowT.one {e : Nat} {w : World} {b c : Nat} {l : List Int} {base : Nat} (hb : base ≤ w.heap.size) (hl : l.length ≤ 1048576) (h : IntsAt w b 0 l) : GrowT e base (w.alloc (.cells #[.slice (some ⟨b, 0, none⟩) l.length c] e)) (.slice (some ⟨w.heap.size, 0, none⟩) 1 1) [l] :=
  GrowT.of_xt (t := [l]) (ownsRow_one hb) (XT.one ⟨hl, b, c, rfl, h.ext ((Ext.refl w).alloc _)⟩)
end Go.Proofs.Ytjbloenjphpngaa

/-
  Tables made of tables are tables: turned, product, of a ring. No program in sight.
-/
namespace Go.Proofs.Ytjbloenjphpngaa
set_option linter.unusedVariables false
set_option linter.unusedSimpArgs false

theorem table_mk {n : Nat} {f : Nat → Nat → Int} (h1 : 1 ≤ n) (h2 : n ≤ 12) (h : ∀ x, x < n → ∀ y, y < n → 0 ≤ f x y ∧ f x y < n) : TableOk (mkT n f) := by
  refine ⟨by rw [length_mkT]; exact h1, by rw [length_mkT]; exact h2, fun x hx => ?_⟩
  rw [length_mkT] at hx ⊢
  refine ⟨length_row_mkT n f x hx, fun y hy => ?_⟩
  rw [ent_mkT _ _ _ _ hx hy]
  have := h x hx y hy
  omega

theorem turn_ok {t : List (List Int)} (h : TableOk t) : TableOk (turnT t) := by
  rw [turnT_def]
  refine table_mk h.1 h.2.1 fun x hx y hy => ?_
  have := h.bd hy hx
  rw [turnF_def]
  omega

theorem ring_table {n : Nat} (h1 : 1 ≤ n) (h2 : n ≤ 12) (m : Nat) : TableOk (mkT n (ringF n m)) :=
  table_nat h1 h2 (fun x y => ringF_nat n m x y) (fun x y => rC_lt h1)

theorem prod_ok {N : Nat} {t u : List (List Int)} (hN : N = t.length * u.length) (h12 : N ≤ 12) (hT : TableOk t) (hU : TableOk u) : TableOk (mkT N (prodF t u)) := by
  have ht := hT.1
  have hu := hU.1
  refine table_mk (by rw [hN]; exact Nat.mul_pos ht hu) h12 fun x hx y hy => ?_
  have dv : ∀ z, z < N → z / u.length < t.length := fun z hz => by rw [Nat.div_lt_iff_lt_mul hu, ← hN]; exact hz
  have a := hT.bd (dv x hx) (dv y hy)
  have b := hU.bd (Nat.mod_lt x hu) (Nat.mod_lt y hu)
  rw [← prodF_def]
  obtain ⟨p, hp⟩ := Int.eq_ofNat_of_zero_le (a := ent t (x / u.length) (y / u.length)) (by omega)
  obtain ⟨q, hq⟩ := Int.eq_ofNat_of_zero_le (a := ent u (x % u.length) (y % u.length)) (by omega)
  rw [hp] at a
  rw [hq] at b
  rw [hp, hq]
  have e : (p + 1) * u.length ≤ t.length * u.length := Nat.mul_le_mul_right _ (by omega)
  rw [Nat.succ_mul, ← hN] at e
  rw [← Int.natCast_mul]
  omega
end Go.Proofs.Ytjbloenjphpngaa

/-
  The named groups of an order are not isomorphic; each is isomorphic to itself: plain.
-/
namespace Go.Proofs.Ytjbloenjphpngaa
set_option linter.unusedVariables false
set_option linter.unusedSimpArgs false

/-- what an isomorphism carries is as often there as here -/
theorem count_iso {n : Nat} {P : Nat → Nat} {f g : Nat → Bool} (hb : ∀ x, x < n → P x < n) (hi : ∀ x, x < n → ∀ y, y < n → P x = P y → x = y) (hs : ∀ y, y < n → ∃ x, x < n ∧ P x = y) (h : ∀ x, x < n → f x = g (P x)) :
    ((List.range n).filter f).length = ((List.range n).filter g).length := by
  have e : ∀ x, x ∈ (List.range n).filter f → x < n := fun x hx => List.mem_range.1 (List.mem_filter.1 hx).1
  have h1 := nodup_le (((List.range n).filter f).map P) ((List.range n).filter g) (nodup_map_on (List.nodup_range.filter _) fun x hx y hy => hi x (e x hx) y (e y hy)) fun y hy => by
    obtain ⟨x, hx, rfl⟩ := List.mem_map.1 hy
    have hxn := e x hx
    rw [List.mem_filter, List.mem_range]
    exact ⟨hb x hxn, by rw [← h x hxn]; exact (List.mem_filter.1 hx).2⟩
  have h2 := nodup_le ((List.range n).filter g) (((List.range n).filter f).map P) (List.nodup_range.filter _) fun y hy => by
    obtain ⟨hy1, hy2⟩ := List.mem_filter.1 hy
    obtain ⟨x, hx, rfl⟩ := hs y (List.mem_range.1 hy1)
    exact List.mem_map.2 ⟨x, List.mem_filter.2 ⟨List.mem_range.2 hx, by rw [h x hx]; exact hy2⟩, rfl⟩
  rw [List.length_map] at h1 h2
  omega
/-- how many elements have a square (a cube) 0, and which commute with all -/
def cnt2 (t : List (List Int)) : Nat := ((List.range t.length).filter fun x => ent t x x == 0).length
def cnt3 (t : List (List Int)) : Nat := ((List.range t.length).filter fun x => ent t (ent t x x).toNat x == 0).length
def cntC (t : List (List Int)) : Nat := ((List.range t.length).filter fun x => (List.range t.length).all fun y => ent t x y == ent t y x).length
theorem inv_iso {t u : List (List Int)} (hT : GroupOk t) (hU : GroupOk u) (hl : u.length = t.length) {p : List Int} (hp : IsoOk t.length [t] [u] p) : cnt2 t = cnt2 u ∧ cnt3 t = cnt3 u ∧ cntC t = cntC u := by
  have h0 : ix p 0 = 0 := hp.zero (by simp) (by rw [tab_one]; exact hT) (by rw [tab_one]; exact hU) (by rw [tab_one]) (by rw [tab_one]; exact hl)
  have hpm : ∀ x, x < t.length → ∀ y, y < t.length → ix p (ent t x y).toNat = ent u (ix p x).toNat (ix p y).toNat := fun x hx y hy => by
    have := hp.2.2 0 (by simp) x hx y hy
    rwa [tab_one, tab_one] at this
  have bT : ∀ x, x < t.length → ∀ y, y < t.length → 0 ≤ ent t x y ∧ (ent t x y).toNat < t.length := fun x hx y hy => by
    have := hT.1.bd (x := x) (y := y) hx hy
    omega
  have bU : ∀ x, x < t.length → ∀ y, y < t.length → 0 ≤ ent u x y ∧ (ent u x y).toNat < t.length := fun x hx y hy => by
    have := hU.1.bd (x := x) (y := y) (by omega) (by omega)
    omega
  have hb : ∀ x, x < t.length → (ix p x).toNat < t.length := fun x hx => (hp.bd hx).2
  have hi : ∀ x, x < t.length → ∀ y, y < t.length → (ix p x).toNat = (ix p y).toNat → x = y := fun x hx y hy e => hp.inj hx hy (by have := hp.bd hx; have := hp.bd hy; omega)
  have hs : ∀ y, y < t.length → ∃ x, x < t.length ∧ (ix p x).toNat = y := fun y hy => by
    obtain ⟨x, hx, e⟩ := hp.surj hy
    exact ⟨x, hx, by omega⟩
  have hz : ∀ a : Int, 0 ≤ a → a.toNat < t.length → (a = 0 ↔ ix p a.toNat = 0) := fun a ha hat => by
    constructor
    · rintro rfl; exact h0
    · intro e
      have := hp.inj (x := a.toNat) (y := 0) hat (by omega) (by rw [e, h0])
      omega
  refine ⟨?_, ?_, ?_⟩
  · unfold cnt2
    rw [hl]
    refine count_iso hb hi hs fun x hx => ?_
    obtain ⟨a1, a2⟩ := bT x hx x hx
    have := hz _ a1 a2
    rw [hpm x hx x hx] at this
    rw [Bool.eq_iff_iff, beq_iff_eq, beq_iff_eq]
    exact this
  · unfold cnt3
    rw [hl]
    refine count_iso hb hi hs fun x hx => ?_
    obtain ⟨a1, a2⟩ := bT x hx x hx
    obtain ⟨c1, c2⟩ := bT _ a2 x hx
    have := hz _ c1 c2
    rw [hpm _ a2 x hx, hpm x hx x hx] at this
    rw [Bool.eq_iff_iff, beq_iff_eq, beq_iff_eq]
    exact this
  · unfold cntC
    rw [hl]
    refine count_iso hb hi hs fun x hx => ?_
    rw [Bool.eq_iff_iff, List.all_eq_true, List.all_eq_true]
    constructor
    · intro h y hy
      obtain ⟨z, hz1, rfl⟩ := hs y (List.mem_range.1 hy)
      have := h z (List.mem_range.2 hz1)
      rw [beq_iff_eq] at this ⊢
      rw [← hpm x hx z hz1, ← hpm z hz1 x hx, this]
    · intro h y hy
      have hy := List.mem_range.1 hy
      have := h _ (List.mem_range.2 (hb y hy))
      rw [beq_iff_eq] at this ⊢
      rw [← hpm x hx y hy, ← hpm y hy x hx] at this
      have q1 := bT x hx y hy
      have q2 := bT y hy x hx
      have := hp.inj q1.2 q2.2 this
      omega
theorem idL_isoT {t : List (List Int)} (hT : GroupOk t) : IsoOk t.length [t] [t] (idL t.length) := by
  have h := idL_perm t.length
  refine ⟨h.1, h.2.1, fun k hk x hx y hy => ?_⟩
  have : k = 0 := by simpa using hk
  subst this
  rw [tab_one]
  have := hT.1.bd (x := x) (y := y) hx hy
  rw [ix_idL _ _ hx, ix_idL _ _ hy, ix_idL _ _ (by omega), Int.toNat_natCast, Int.toNat_natCast]
  omega
/-- there is a first isomorphism exactly if there is one -/
theorem isoF_has {t u : List (List Int)} (hl : u.length = t.length) (h1 : 1 ≤ t.length) : isoF [t] [u] ≠ [] ↔ ∃ p, IsoOk t.length [t] [u] p := by
  constructor
  · intro h
    cases hL : isoL t.length [t] [u] with
    | nil => exact absurd (isoF_nil (by rw [tab_one]) hL) h
    | cons p r => exact ⟨p, mem_isoL.1 (by rw [hL]; simp)⟩
  · rintro ⟨p, hp⟩
    have hm := mem_isoL.2 hp
    cases hL : isoL t.length [t] [u] with
    | nil => rw [hL] at hm; cases hm
    | cons q r =>
      rw [isoF_cons (n := t.length) (by rw [tab_one]) (by rw [tab_one]; exact hl) hL]
      exact ne_nil_of_lt (isoF_ne h1 hL).2
theorem isoF_ok {t u : List (List Int)} (hl : u.length = t.length) (h1 : 1 ≤ t.length) (h : isoF [t] [u] ≠ []) : IsoOk t.length [t] [u] (isoF [t] [u]) := by
  cases hL : isoL t.length [t] [u] with
  | nil => exact absurd (isoF_nil (by rw [tab_one]) hL) h
  | cons p r =>
    rw [isoF_cons (n := t.length) (by rw [tab_one]) (by rw [tab_one]; exact hl) hL]
    exact mem_isoL.1 (by rw [hL]; simp)
/-- the invariants tell the named groups of an order apart -/
def invsOf (t : List (List Int)) : Nat × Nat × Nat := (cnt2 t, cnt3 t, cntC t)
theorem apart_check : (decide ([invsOf (cyT 4), invsOf (prodT (cyT 2) (cyT 2))].Nodup) && decide ([invsOf (cyT 6), invsOf (dbT 3 0)].Nodup) && decide ([invsOf (cyT 8), invsOf (prodT (cyT 2) (cyT 4)), invsOf (prodT (cyT 2) (prodT (cyT 2) (cyT 2))), invsOf (dbT 4 0), invsOf (dbT 4 2)].Nodup)
    && decide ([invsOf (cyT 9), invsOf (prodT (cyT 3) (cyT 3))].Nodup) && decide ([invsOf (cyT 10), invsOf (dbT 5 0)].Nodup) && decide ([invsOf (cyT 12), invsOf (prodT (cyT 2) (cyT 6)), invsOf (dbT 6 0), invsOf (dbT 6 3), invsOf evT].Nodup)) = true := by decide +kernel
theorem namedL_apart {n : Nat} (h1 : 1 ≤ n) (h12 : n ≤ 12) : ((namedL n).map invsOf).Nodup := by
  have hc := apart_check
  simp only [Bool.and_eq_true, decide_eq_true_eq] at hc
  obtain ⟨⟨⟨⟨⟨c4, c6⟩, c8⟩, c9⟩, c10⟩, c12⟩ := hc
  have h : n = 1 ∨ n = 2 ∨ n = 3 ∨ n = 4 ∨ n = 5 ∨ n = 6 ∨ n = 7 ∨ n = 8 ∨ n = 9 ∨ n = 10 ∨ n = 11 ∨ n = 12 := by omega
  rcases h with rfl | rfl | rfl | rfl | rfl | rfl | rfl | rfl | rfl | rfl | rfl | rfl
  · simp [namedL]
  · simp [namedL]
  · simp [namedL]
  · exact c4
  · simp [namedL]
  · exact c6
  · simp [namedL]
  · exact c8
  · exact c9
  · exact c10
  · simp [namedL]
  · show ([cyT 12, prodT (cyT 2) (cyT 6), dbT 6 0, dbT 6 3, gopV ((4 : Nat) : Int) evenE].map invsOf).Nodup
    rw [even_evT]
    exact c12
theorem tab_get {ts : List (List (List Int))} {i : Nat} (hi : i < ts.length) : tab ts i = ts[i] := by
  rw [tab_eq, List.getD_eq_getElem?_getD, List.getElem?_eq_getElem hi]; rfl
/-- the name of a named group -/
theorem named_self {n : Nat} (h1 : 1 ≤ n) (h12 : n ≤ 12) {i : Nat} (hi : i < (namedL n).length) : nameV (tab (namedL n) i) = i ∧ nameC (tab (namedL n) i) = 0 := by
  obtain ⟨g1, g2⟩ := namedL_ok h1 h12 hi
  have hG := groupB_iff.1 g1
  refine name_yes g1 (ts := namedL n) (by rw [g2]) hi ?_ fun j hj => ?_
  · exact (isoF_has rfl hG.1.1).2 ⟨_, idL_isoT hG⟩
  · apply Classical.byContradiction
    intro hne
    obtain ⟨k1, k2⟩ := namedL_ok h1 h12 (i := j) (by omega)
    have hl : (tab (namedL n) j).length = (tab (namedL n) i).length := by rw [g2, k2]
    obtain ⟨p, hp⟩ := (isoF_has hl hG.1.1).1 hne
    obtain ⟨e1, e2, e3⟩ := inv_iso hG (groupB_iff.1 k1) hl hp
    have hnd := namedL_apart h1 h12
    rw [List.Nodup, List.pairwise_iff_getElem] at hnd
    have := hnd j i (by simp; omega) (by simpa using hi) hj
    rw [List.getElem_map, List.getElem_map, ← tab_get, ← tab_get] at this
    exact this (by unfold invsOf; rw [e1, e2, e3])
end Go.Proofs.Ytjbloenjphpngaa

/-
  What FnGroupTables says of a group: plain.
-/
namespace Go.Proofs.Ytjbloenjphpngaa
set_option linter.unusedVariables false
set_option linter.unusedSimpArgs false

section
variable {t : List (List Int)} (hG : GroupOk t)
include hG
theorem pw_in {S : List Nat} (hb : ∀ x, x ∈ S → x < t.length) (hm : ∀ x, x ∈ S → ∀ y, y ∈ S → mulN t x y ∈ S) {x : Nat} (hx : x ∈ S) : ∀ k, (pw t x k).toNat ∈ S
  | 0 => by simpa [pw] using hx
  | k + 1 => by
    have h1 := pw_in hb hm hx k
    have h2 := hm _ h1 x hx
    have := pw_mul hG (hb x hx) k 0
    have e : (pw t x 0).toNat = x := by simp [pw]
    rw [e, Nat.add_zero] at this
    unfold mulN at h2
    rw [this] at h2
    exact h2
theorem inv_pw {x : Nat} (hx : x < t.length) : (x = 0 ∧ (backF t x).toNat = 0) ∨ ∃ d, (backF t x).toNat = (pw t x d).toNat := by
  have hg := grp_of hG
  obtain ⟨d, hd, hz⟩ := pw_zero hG hx
  cases d with
  | zero =>
    have hx0 : x = 0 := by simp only [pw] at hz; omega
    subst hx0
    exact .inl ⟨rfl, (hg.v_uniq hx hx (hg.ul 0 hx)).symm⟩
  | succ d =>
    have h1 := pw_mul hG hx 0 d
    have h2 : mulN t x (pw t x d).toNat = 0 := by
      unfold mulN
      rw [Nat.zero_add] at h1
      have : (pw t x 0).toNat = x := by simp [pw]
      rw [this, hz] at h1
      rw [h1]; rfl
    exact .inr ⟨d, (hg.v_uniq hx (pw_lt hG.1 hx d) h2).symm⟩
theorem sub_of_closed {S : List Nat} (hn : S.Nodup) (hb : ∀ x, x ∈ S → x < t.length) (hm : ∀ x, x ∈ S → ∀ y, y ∈ S → mulN t x y ∈ S) : Sub t.length (mulN t) (fun x => (backF t x).toNat) S :=
  ⟨hn, hb, hm, fun x hx => by
    show (backF t x).toNat ∈ S
    rcases inv_pw hG (hb x hx) with ⟨rfl, e⟩ | ⟨d, e⟩
    · rw [e]; exact hx
    · rw [e]; exact pw_in hG hb hm hx d⟩
/-- the order of an element is a divisor -/
theorem ord_div {x : Nat} (hx : x < t.length) : 0 < ordOf t x ∧ (t.length : Int) % ordOf t x = 0 := by
  obtain ⟨d, hd, e, hz, hmin⟩ := ordOf_spec hG hx
  have hlow : ∀ k, (pw t x k).toNat ∈ (List.range (d + 1)).map fun k => (pw t x k).toNat := fun k => by
    induction k using Nat.strongRecOn with
    | _ k ih =>
      by_cases hk : k ≤ d
      · exact List.mem_map.2 ⟨k, List.mem_range.2 (by omega), rfl⟩
      · have h1 := pw_mul hG hx d (k - d - 1)
        rw [hz, show d + (k - d - 1) + 1 = k by omega] at h1
        have h2 : ent t 0 (pw t x (k - d - 1)).toNat = ((pw t x (k - d - 1)).toNat : Int) := grp_unit_l hG (pw_lt hG.1 hx _)
        have h3 : (pw t x k).toNat = (pw t x (k - d - 1)).toNat := by
          rw [← h1]
          show (ent t 0 _).toNat = _
          rw [h2, Int.toNat_natCast]
        rw [h3]
        exact ih _ (by omega)
  have hbd := pw_bd hG.1 hx
  have hS : Sub t.length (mulN t) (fun x => (backF t x).toNat) ((List.range (d + 1)).map fun k => (pw t x k).toNat) := by
    refine sub_of_closed hG (nodup_map_on List.nodup_range fun i hi j hj eij => ?_) (fun y hy => ?_) (fun y hy z hz' => ?_)
    · have hi := List.mem_range.1 hi
      have hj := List.mem_range.1 hj
      have heq : pw t x i = pw t x j := by have := hbd i; have := hbd j; omega
      have key : ∀ i j, i < j → j ≤ d → pw t x i ≠ pw t x j := fun i j hij hjd heq => by
        have h1 := pw_mul hG hx i (j - i - 1)
        rw [show i + (j - i - 1) + 1 = j by omega, ← heq] at h1
        have h2 : ent t (pw t x i).toNat 0 = ((pw t x i).toNat : Int) := grp_unit_r hG (pw_lt hG.1 hx i)
        have h3 : ent t (pw t x i).toNat (pw t x (j - i - 1)).toNat = ent t (pw t x i).toNat 0 := by rw [h1, h2]; have := hbd i; omega
        have := grp_inj hG (pw_lt hG.1 hx i) (pw_lt hG.1 hx _) hG.1.1 h3
        exact hmin (j - i - 1) (by omega) (by have := hbd (j - i - 1); omega)
      rcases Nat.lt_trichotomy i j with g | g | g
      · exact absurd heq (key i j g (by omega))
      · exact g
      · exact absurd heq.symm (key j i g (by omega))
    · obtain ⟨k, -, rfl⟩ := List.mem_map.1 hy
      exact pw_lt hG.1 hx k
    · obtain ⟨i, -, rfl⟩ := List.mem_map.1 hy
      obtain ⟨j, -, rfl⟩ := List.mem_map.1 hz'
      unfold mulN
      rw [pw_mul hG hx i j]
      exact hlow _
  have := sub_divides (grp_of hG) hS (List.ne_nil_of_mem (hlow 0))
  rw [List.length_map, List.length_range] at this
  rw [e]
  refine ⟨by omega, ?_⟩
  obtain ⟨q, hq⟩ := this
  rw [hq]
  have : (((d + 1) * q : Nat) : Int) = ((d : Int) + 1) * (q : Int) := by simp
  rw [this]
  exact Int.mul_emod_right _ _
/-- how many elements a subgroup has -/
theorem elems_card {mask : Nat} (hm : mask < 2 ^ t.length) : (elemsL mask).length = ((List.range t.length).filter fun x => bitB mask x).length := by
  have h12 := hG.1.2.1
  rw [elemsL_eq hm (by omega)]
  unfold elemsTo
  rw [List.length_map]
theorem sub_div {mask : Nat} (hm : mask < 2 ^ t.length) (hs : subB t mask = true) : 0 < (elemsL mask).length ∧ (t.length : Int) % ((elemsL mask).length : Int) = 0 := by
  obtain ⟨h0, hmul, hinv⟩ := sub_inv hG hm hs
  rw [elems_card hG hm]
  have hS : Sub t.length (mulN t) (fun x => (backF t x).toNat) ((List.range t.length).filter fun x => bitB mask x) := by
    refine ⟨List.nodup_range.filter _, fun x hx => List.mem_range.1 (List.mem_filter.1 hx).1, fun x hx y hy => ?_, fun x hx => ?_⟩
    · obtain ⟨x1, x2⟩ := List.mem_filter.1 hx
      obtain ⟨y1, y2⟩ := List.mem_filter.1 hy
      have x1 := List.mem_range.1 x1
      have y1 := List.mem_range.1 y1
      exact List.mem_filter.2 ⟨List.mem_range.2 ((grp_of hG).bd x x1 y y1), hmul x x1 y y1 x2 y2⟩
    · obtain ⟨x1, x2⟩ := List.mem_filter.1 hx
      have x1 := List.mem_range.1 x1
      exact List.mem_filter.2 ⟨List.mem_range.2 ((grp_of hG).vb x x1), hinv x x1 x2⟩
  have hmem : 0 ∈ ((List.range t.length).filter fun x => bitB mask x) := List.mem_filter.2 ⟨List.mem_range.2 hG.1.1, h0⟩
  have := sub_divides (grp_of hG) hS (List.ne_nil_of_mem hmem)
  refine ⟨List.length_pos_of_mem hmem, ?_⟩
  obtain ⟨q, hq⟩ := this
  generalize ((List.range t.length).filter fun x => bitB mask x).length = k at hq ⊢
  rw [hq]
  have : ((k * q : Nat) : Int) = (k : Int) * (q : Int) := by simp
  rw [this]
  exact Int.mul_emod_right _ _
end
/-- the center as a number -/
def cenM (t : List (List Int)) : Nat := natSet (fun x => comB t x t.length) t.length
theorem cen_lt {t : List (List Int)} (hG : GroupOk t) : cenM t < 2 ^ t.length := natSet_lt _ _
section
variable {t : List (List Int)} (hG : GroupOk t)
include hG
theorem center_nat : centerI t = (cenM t : Int) := by
  rw [centerI_def]
  exact setOf_nat _ _ (by have := hG.1.2.1; omega)
theorem cen_bit {x : Nat} (hx : x < t.length) : bitB (cenM t) x = true ↔ ∀ y, y < t.length → mulN t x y = mulN t y x := by
  have h12 := hG.1.2.1
  rw [bitB_test (lt62 h12 (cen_lt hG))]
  unfold cenM
  rw [natSet_bit, decide_eq_true hx, Bool.true_and, comB_iff]
  constructor
  · intro h y hy
    unfold mulN
    rw [h y hy]
  · intro h y hy
    have := h y hy
    have h1 := hG.1.bd (x := x) (y := y) hx hy
    have h2 := hG.1.bd (x := y) (y := x) hy hx
    unfold mulN at this
    omega
theorem cen_sub : subB t (cenM t) = true := by
  have hg := grp_of hG
  have h0 : 0 < t.length := hG.1.1
  rw [subB_1 ((cen_bit hG h0).2 fun y hy => by rw [hg.ul y hy, hg.ur y hy])]
  refine closedB_yes fun x hx y hy bx bY => ?_
  have cx := (cen_bit hG hx).1 bx
  have cy := (cen_bit hG hy).1 bY
  refine (cen_bit hG (hg.bd x hx y hy)).2 fun z hz => ?_
  rw [hg.assoc x hx y hy z hz, cy z hz, ← hg.assoc x hx z hz y hy, cx z hz, hg.assoc z hz x hx y hy]
theorem cen_norm : normB t (cenM t) = true := by
  have hg := grp_of hG
  refine normB_yes fun x hx y hy bY => ?_
  have cy := (cen_bit hG hy).1 bY
  have : (conjF t x y).toNat = y := by
    rw [← conjF_def]
    show mulN t (mulN t x y) (backF t x).toNat = y
    rw [← cy x hx, hg.assoc y hy x hx _ (hg.vb x hx), hg.vr x hx, hg.ur y hy]
  rw [this]
  exact bY
theorem cen_code : subC t (cenM t) = 0 := by
  refine subC_0 (groupB_iff.2 hG) (inR_iff.2 ⟨by omega, ?_⟩) (cen_sub hG)
  have := cen_lt hG
  omega
theorem cen_in : (cenM t : Int) ∈ subsL t := by
  rw [subsL_def, subsTo_mem]
  exact ⟨cenM t, cen_lt hG, cen_sub hG, rfl⟩
/-- the opposite group -/
theorem opp_group : GroupOk (turnT t) := by
  have hg := grp_of hG
  rw [turnT_def]
  refine group_made (g := fun x y => mulN t y x) hG.1.1 hG.1.2.1 (fun x hx y hy => ?_) (fun x hx y hy => hg.bd y hy x hx) (fun x hx y hy z hz => ?_) (fun x hx => hg.ur x hx) (fun x hx => hg.ul x hx) (fun x hx y hy z hz e => hg.inj_r hx hy hz e)
  · rw [turnF_def]
    have := hG.1.bd (x := y) (y := x) hy hx
    unfold mulN; omega
  · exact (hg.assoc z hz y hy x hx).symm
theorem opp_iso : gisoC t (turnT t) = 0 := by
  have hg := grp_of hG
  have hU := opp_group hG
  have hl : (turnT t).length = t.length := length_turnT t
  have hiso : IsoOk t.length [t] [turnT t] (backs t) := by
    have hb : ∀ x, x < t.length → ix (backs t) x = ((backF t x).toNat : Int) := fun x hx => by
      rw [ix_backs t x hx]
      have := backF_ok hG hx
      omega
    refine ⟨length_backs t, ⟨fun i hi => ?_, fun i hi j hj e => ?_⟩, fun k hk x hx y hy => ?_⟩
    · rw [length_backs] at hi ⊢
      rw [hb i hi]
      have := hg.vb i hi
      have : (backF t i).toNat < t.length := this
      omega
    · rw [length_backs] at hi
      rw [hb i hi, hb j (by omega)] at e
      have e1 : (backF t j).toNat = (backF t i).toNat := by omega
      have h1 := hg.v_v (x := i) hi
      have h2 := hg.v_v (x := j) (by omega)
      have e1' : (fun x => (backF t x).toNat) j = (fun x => (backF t x).toNat) i := e1
      have : i = j := by rw [← h1, ← h2]; simp only [e1]
      omega
    · have : k = 0 := by simpa using hk
      subst this
      rw [tab_one, tab_one]
      have h1 := hG.1.bd (x := x) (y := y) hx hy
      have v1 : (backF t x).toNat < t.length := hg.vb x hx
      have v2 : (backF t y).toNat < t.length := hg.vb y hy
      rw [hb x hx, hb y hy, hb _ (by omega), Int.toNat_natCast, Int.toNat_natCast, ent_turnT t _ _ v1 v2]
      have h2 := hG.1.bd (x := (backF t y).toNat) (y := (backF t x).toNat) v2 v1
      have h3 := hg.v_mul hx hy
      have h3 : (backF t (ent t x y).toNat).toNat = (ent t (backF t y).toNat (backF t x).toNat).toNat := h3
      omega
  exact (giso_3 ⟨groupB_iff.2 hG, groupB_iff.2 hU⟩ ((isoF_has hl hG.1.1).2 ⟨_, hiso⟩)).2
/-- conjugation by an element is an automorphism -/
theorem conj_iso {y : Nat} (hy : y < t.length) : row (mkT t.length (conjF t)) y ∈ isoL t.length [t] [t] := by
  have hg := grp_of hG
  have hv := hg.vb y hy
  have hlen : (row (mkT t.length (conjF t)) y).length = t.length := by rw [row_mkT _ _ _ hy]; exact length_partRow _ _ _ _
  have hc : ∀ x, x < t.length → ix (row (mkT t.length (conjF t)) y) x = ((mulN t (mulN t y x) (backF t y).toNat : Nat) : Int) := fun x hx => by
    have : ix (row (mkT t.length (conjF t)) y) x = ent (mkT t.length (conjF t)) y x := by unfold ent; rfl
    rw [this, ent_mkT _ _ _ _ hy hx]
    have := conjF_bd hG hy hx
    rw [← conjF_def] at this ⊢
    show ent t (mulN t y x) _ = _
    have e : (ent t (mulN t y x) (backF t y).toNat).toNat = mulN t (mulN t y x) (backF t y).toNat := rfl
    rw [← e]
    have : 0 ≤ ent t (mulN t y x) (backF t y).toNat := this.1
    omega
  have hb : ∀ x, x < t.length → mulN t (mulN t y x) (backF t y).toNat < t.length := fun x hx => hg.bd _ (hg.bd y hy x hx) _ hv
  rw [mem_isoL]
  refine ⟨hlen, ⟨fun i hi => ?_, fun i hi j hj e => ?_⟩, fun k hk x hx z hz => ?_⟩
  · rw [hlen] at hi ⊢
    rw [hc i hi]
    have := hb i hi
    omega
  · rw [hlen] at hi
    rw [hc i hi, hc j (by omega)] at e
    have e1 : mulN t (mulN t y j) (backF t y).toNat = mulN t (mulN t y i) (backF t y).toNat := by omega
    have e2 := hg.inj_r hv (hg.bd y hy j (by omega)) (hg.bd y hy i hi) e1
    have := hg.inj_l hy (by omega) hi e2
    omega
  · have : k = 0 := by simpa using hk
    subst this
    rw [tab_one]
    have h1 := hG.1.bd (x := x) (y := z) hx hz
    rw [hc x hx, hc z hz, hc _ (by omega), Int.toNat_natCast, Int.toNat_natCast]
    have e : mulN t (mulN t y (mulN t x z)) (backF t y).toNat = mulN t (mulN t (mulN t y x) (backF t y).toNat) (mulN t (mulN t y z) (backF t y).toNat) := by
      have b1 := hg.bd y hy x hx
      have b2 := hg.bd y hy z hz
      rw [hg.assoc _ b1 _ hv _ (hg.bd _ b2 _ hv), ← hg.assoc _ hv _ b2 _ hv, ← hg.assoc _ hv y hy z hz, hg.vl y hy, hg.ul z hz, ← hg.assoc _ b1 z hz _ hv, hg.assoc y hy x hx z hz]
    have h2 := hG.1.bd (x := mulN t (mulN t y x) (backF t y).toNat) (y := mulN t (mulN t y z) (backF t y).toNat) (hb x hx) (hb z hz)
    have e' : mulN t (mulN t y (ent t x z).toNat) (backF t y).toNat = (ent t (mulN t (mulN t y x) (backF t y).toNat) (mulN t (mulN t y z) (backF t y).toNat)).toNat := e
    omega
/-- rows of the conjugation are equal exactly for elements of one coset of the center -/
theorem conj_rows {x y : Nat} (hx : x < t.length) (hy : y < t.length) : row (mkT t.length (conjF t)) x = row (mkT t.length (conjF t)) y ↔ ix (coL t (cenM t)) x = ix (coL t (cenM t)) y := by
  have hg := grp_of hG
  have hlen : ∀ y, y < t.length → (row (mkT t.length (conjF t)) y).length = t.length := fun y hy => by rw [row_mkT _ _ _ hy]; exact length_partRow _ _ _ _
  have hc : ∀ y, y < t.length → ∀ x, x < t.length → ix (row (mkT t.length (conjF t)) y) x = ((mulN t (mulN t y x) (backF t y).toNat : Nat) : Int) := fun y hy x hx => by
    have : ix (row (mkT t.length (conjF t)) y) x = ent (mkT t.length (conjF t)) y x := by unfold ent; rfl
    rw [this, ent_mkT _ _ _ _ hy hx]
    have := conjF_bd hG hy hx
    rw [← conjF_def] at this ⊢
    show ent t (mulN t y x) _ = _
    have e : (ent t (mulN t y x) (backF t y).toNat).toNat = mulN t (mulN t y x) (backF t y).toNat := rfl
    rw [← e]
    have : 0 ≤ ent t (mulN t y x) (backF t y).toNat := this.1
    omega
  rw [ix_coL _ _ _ hx, ix_coL _ _ _ hy, cosF_eq hG (cen_lt hG) (cen_sub hG) hx hy]
  constructor
  · intro h
    refine ⟨mulN t (backF t x).toNat y, hg.bd _ (hg.vb x hx) y hy, ?_, ?_⟩
    · refine (cen_bit hG (hg.bd _ (hg.vb x hx) y hy)).2 fun z hz => ?_
      have e : ix (row (mkT t.length (conjF t)) x) z = ix (row (mkT t.length (conjF t)) y) z := by rw [h]
      rw [hc x hx z hz, hc y hy z hz] at e
      have e : mulN t (mulN t x z) (backF t x).toNat = mulN t (mulN t y z) (backF t y).toNat := by omega
      -- x^-1 y z = z x^-1 y
      have vx : (backF t x).toNat < t.length := hg.vb x hx
      have vy : (backF t y).toNat < t.length := hg.vb y hy
      have e2 : mulN t (mulN t y z) (backF t y).toNat = mulN t (mulN t x z) (backF t x).toNat := e.symm
      have e3 := congrArg (fun a => mulN t (mulN t (backF t x).toNat a) y) e2
      have byz := hg.bd y hy z hz
      have bxz := hg.bd x hx z hz
      rw [hg.assoc _ vx _ (hg.bd _ byz _ vy) y hy, hg.assoc _ byz _ vy y hy, hg.vl y hy, hg.ur _ byz, ← hg.assoc _ vx y hy z hz] at e3
      rw [← hg.assoc _ vx _ bxz _ vx, ← hg.assoc _ vx x hx z hz, hg.vl x hx, hg.ul z hz, hg.assoc z hz _ vx y hy] at e3
      exact e3
    · rw [← hg.assoc x hx _ (hg.vb x hx) y hy, hg.vr x hx, hg.ul y hy]
  · rintro ⟨s, s1, s2, rfl⟩
    have cs := (cen_bit hG s1).1 s2
    refine ix_ext (by rw [hlen x hx, hlen _ hy]) fun z hz => ?_
    rw [hlen x hx] at hz
    rw [hc x hx z hz, hc _ hy z hz]
    have vx : (backF t x).toNat < t.length := hg.vb x hx
    have vs : (backF t s).toNat < t.length := hg.vb s s1
    have ev : (backF t (mulN t x s)).toNat = mulN t (backF t s).toNat (backF t x).toNat := hg.v_mul hx s1
    have e : mulN t (mulN t x z) (backF t x).toNat = mulN t (mulN t (mulN t x s) z) (backF t (mulN t x s)).toNat := by
      rw [ev, hg.assoc x hx s s1 z hz, cs z hz, ← hg.assoc x hx z hz s s1, hg.assoc _ (hg.bd x hx z hz) s s1 _ (hg.bd _ vs _ vx), ← hg.assoc s s1 _ vs _ vx, hg.vr s s1, hg.ul _ vx]
    rw [e]
end
/-- the rows that are not known before, in their order -/
def rowsNew (t : List (List Int)) : Nat → List (List Int)
  | 0 => []
  | k + 1 => if row t k ∈ rowsNew t k then rowsNew t k else rowsNew t k ++ [row t k]
theorem rowsNew_mem (t : List (List Int)) (r : List Int) : ∀ k, r ∈ rowsNew t k ↔ ∃ j, j < k ∧ row t j = r
  | 0 => by simp [rowsNew]
  | k + 1 => by
    have ih := rowsNew_mem t r k
    simp only [rowsNew]
    split
    · rename_i h
      rw [ih]
      constructor
      · rintro ⟨j, hj, e⟩; exact ⟨j, by omega, e⟩
      · rintro ⟨j, hj, e⟩
        by_cases hjk : j = k
        · subst hjk
          rw [e] at h
          exact ih.1 h
        · exact ⟨j, by omega, e⟩
    · rw [List.mem_append, List.mem_singleton, ih]
      constructor
      · rintro (⟨j, hj, e⟩ | e)
        · exact ⟨j, by omega, e⟩
        · exact ⟨k, by omega, e.symm⟩
      · rintro ⟨j, hj, e⟩
        by_cases hjk : j = k
        · subst hjk; exact .inr e.symm
        · exact .inl ⟨j, by omega, e⟩
theorem seenTo_mem (l : List Int) (z : Int) : ∀ k, z ∈ seenTo l k ↔ ∃ j, j < k ∧ ix l j = z
  | 0 => by simp [seenTo]
  | k + 1 => by
    have ih := seenTo_mem l z k
    cases hb : hasB (seenTo l k) (ix l k) with
    | true =>
      rw [seenTo_old hb, ih]
      constructor
      · rintro ⟨j, hj, e⟩; exact ⟨j, by omega, e⟩
      · rintro ⟨j, hj, e⟩
        by_cases hjk : j = k
        · subst hjk
          have := hasB_mem.1 hb
          rw [e] at this
          exact ih.1 this
        · exact ⟨j, by omega, e⟩
    | false =>
      rw [seenTo_new hb, List.mem_append, List.mem_singleton, ih]
      constructor
      · rintro (⟨j, hj, e⟩ | e)
        · exact ⟨j, by omega, e⟩
        · exact ⟨k, by omega, e.symm⟩
      · rintro ⟨j, hj, e⟩
        by_cases hjk : j = k
        · subst hjk; exact .inr e.symm
        · exact .inl ⟨j, by omega, e⟩
theorem rows_seen {t : List (List Int)} {l : List Int} {n : Nat} (h : ∀ i, i < n → ∀ j, j < n → (row t i = row t j ↔ ix l i = ix l j)) : ∀ k, k ≤ n → (rowsNew t k).length = (seenTo l k).length
  | 0, _ => rfl
  | k + 1, hk => by
    have ih := rows_seen h k (by omega)
    have e : row t k ∈ rowsNew t k ↔ ix l k ∈ seenTo l k := by
      rw [rowsNew_mem, seenTo_mem]
      constructor
      · rintro ⟨j, hj, e⟩; exact ⟨j, hj, (h j (by omega) k (by omega)).1 e⟩
      · rintro ⟨j, hj, e⟩; exact ⟨j, hj, (h j (by omega) k (by omega)).2 e⟩
    simp only [rowsNew]
    cases hb : hasB (seenTo l k) (ix l k) with
    | true => rw [seenTo_old hb, if_pos (e.2 (hasB_mem.1 hb)), ih]
    | false =>
      rw [seenTo_new hb, if_neg (fun hm => by rw [hasB_mem.2 (e.1 hm)] at hb; cases hb)]
      simp [ih]
/-- as many inner automorphisms as cosets of the center -/
theorem inner_count {t : List (List Int)} (hG : GroupOk t) : (rowsNew (mkT t.length (conjF t)) t.length).length = quoN t (cosL t (cenM t)) := by
  rw [rows_seen (l := coL t (cenM t)) (n := t.length) (fun i hi j hj => conj_rows hG hi hj) _ (Nat.le_refl _), ← quoN_def, ← cosL_def, firTo_num _ _ (by rw [length_coL]; exact Nat.le_refl _)]
end Go.Proofs.Ytjbloenjphpngaa

/-
  Skew braces as two groups on the numbers below n: plain.
-/
namespace Go.Proofs.Ytjbloenjphpngaa
set_option linter.unusedVariables false
set_option linter.unusedSimpArgs false

/-- x o (y + z) = x o y - x + x o z -/
structure Skew (n : Nat) (m : Nat → Nat → Nat) (v : Nat → Nat) (c : Nat → Nat → Nat) (d : Nat → Nat) : Prop where
  add : Grp n m v
  cir : Grp n c d
  law : ∀ x, x < n → ∀ y, y < n → ∀ z, z < n → c x (m y z) = m (m (c x y) (v x)) (c x z)
/-- lambda -/
def lamN (m : Nat → Nat → Nat) (v : Nat → Nat) (c : Nat → Nat → Nat) (x y : Nat) : Nat := m (v x) (c x y)
section
variable {n : Nat} {m : Nat → Nat → Nat} {v : Nat → Nat} {c : Nat → Nat → Nat} {d : Nat → Nat} (h : Skew n m v c d)
include h
theorem Skew.lb {x y : Nat} (hx : x < n) (hy : y < n) : lamN m v c x y < n := h.add.bd _ (h.add.vb x hx) _ (h.cir.bd x hx y hy)
theorem Skew.add_lam {x y : Nat} (hx : x < n) (hy : y < n) : m x (lamN m v c x y) = c x y := by
  unfold lamN
  rw [← h.add.assoc x hx _ (h.add.vb x hx) _ (h.cir.bd x hx y hy), h.add.vr x hx, h.add.ul _ (h.cir.bd x hx y hy)]
theorem Skew.lam_add {x y z : Nat} (hx : x < n) (hy : y < n) (hz : z < n) : lamN m v c x (m y z) = m (lamN m v c x y) (lamN m v c x z) := by
  unfold lamN
  have b1 := h.cir.bd x hx y hy
  have b2 := h.cir.bd x hx z hz
  have b3 := h.add.vb x hx
  rw [h.law x hx y hy z hz, ← h.add.assoc _ b3 _ (h.add.bd _ b1 _ b3) _ b2, ← h.add.assoc _ b3 _ b1 _ b3, h.add.assoc _ (h.add.bd _ b3 _ b1) _ b3 _ b2]
theorem Skew.lam_inj {x y z : Nat} (hx : x < n) (hy : y < n) (hz : z < n) (e : lamN m v c x y = lamN m v c x z) : y = z :=
  h.cir.inj_l hx hy hz (h.add.inj_l (h.add.vb x hx) (h.cir.bd x hx y hy) (h.cir.bd x hx z hz) e)
theorem Skew.lam_cir {x y z : Nat} (hx : x < n) (hy : y < n) (hz : z < n) : lamN m v c (c x y) z = lamN m v c x (lamN m v c y z) := by
  have b1 := h.cir.bd x hx y hy
  have b2 := h.lb hy hz
  have b3 := h.add.vb x hx
  have e : c (c x y) z = m (m (c x y) (v x)) (c x (lamN m v c y z)) := by
    rw [h.cir.assoc x hx y hy z hz, ← h.add_lam hy hz, h.law x hx y hy _ b2]
  have b4 := h.cir.bd x hx _ b2
  have b5 := h.add.vb _ b1
  show m (v (c x y)) (c (c x y) z) = m (v x) (c x (lamN m v c y z))
  rw [e, ← h.add.assoc _ b5 _ (h.add.bd _ b1 _ b3) _ b4, ← h.add.assoc _ b5 _ b1 _ b3, h.add.vl _ b1, h.add.ul _ b3]
/-- lambda of 0 is the identity; lambda leaves 0 -/
theorem Skew.lam_zero {y : Nat} (h0 : 0 < n) (hy : y < n) : lamN m v c 0 y = y := by
  have e := h.add_lam h0 hy
  rw [h.add.ul _ (h.lb h0 hy), h.cir.ul y hy] at e
  exact e
theorem Skew.lam_at_zero {x : Nat} (h0 : 0 < n) (hx : x < n) : lamN m v c x 0 = 0 := by
  have e := h.add_lam hx h0
  rw [h.cir.ur x hx] at e
  exact h.add.inj_l hx (h.lb hx h0) h0 (by rw [e, h.add.ur x hx])
end
theorem least_not {P : Nat → Prop} : ∀ (n : Nat), (¬ ∀ x, x < n → P x) → ∃ x, x < n ∧ ¬ P x ∧ ∀ y, y < x → P y
  | 0, h => absurd (fun x hx => by omega) h
  | n + 1, h => by
    by_cases h1 : ∀ x, x < n → P x
    · refine ⟨n, by omega, fun hp => h fun x hx => ?_, h1⟩
      by_cases e : x < n
      · exact h1 x e
      · have : x = n := by omega
        subst this; exact hp
    · obtain ⟨x, h2, h3, h4⟩ := least_not n h1
      exact ⟨x, by omega, h3, h4⟩
theorem noX_of_fault {t u : List (List Int)} (hf : faultL t u = []) : NoX t u t.length := by
  apply Classical.byContradiction
  intro hno
  obtain ⟨x, hx, h1, h2⟩ := least_not t.length hno
  obtain ⟨y, hy, h3, h4⟩ := least_not t.length h1
  obtain ⟨z, hz, h5, h6⟩ := least_not t.length h3
  rw [faultL_at hx hy hz h5 h2 h4 h6] at hf
  cases hf
theorem skew_of {t u : List (List Int)} (hb : braceB t u = true) : Skew t.length (mulN t) (fun x => (backF t x).toNat) (mulN u) (fun x => (backF u x).toNat) := by
  obtain ⟨hG, hU, hl⟩ := braceB_ok hb
  have hg := grp_of hG
  have hu := grp_of hU
  rw [← hl] at hu
  refine ⟨hg, hu, fun x hx y hy z hz => ?_⟩
  have hf := braceB_fault hb
  have hno := noX_of_fault hf
  have e := hno x hx y hy z hz
  rw [← leftF_def, ← rightF_def] at e
  unfold mulN
  rw [e]
end Go.Proofs.Ytjbloenjphpngaa
