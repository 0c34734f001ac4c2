/-
  Tables that lie apart from what is written; the mapping's steps in memory. No program in sight.
-/
import Derived.Test.YtbfhecckapgpnaaKx0
import Derived.Test.YtbfhecckapgpnaaKx1
import Derived.Test.YtbfhecckapgpnaaKx2
import Derived.Test.YtbfhecckapgpnaaKx8
import Derived.Test.YtbfhecckapgpnaaKx9
import Derived.Test.YtbfhecckapgpnaaKx20
import Derived.Test.YtbfhecckapgpnaaKx7
import Derived.Test.YtbfhecckapgpnaaKx14
import Derived.Test.YtbfhecckapgpnaaKx21
import Derived.Test.YtbfhecckapgpnaaKx10
import Derived.Test.YtbfhecckapgpnaaKx6
import Derived.Test.YtbfhecckapgpnaaKx31
import Derived.Test.YtbfhecckapgpnaaKx5
import Derived.Test.YtbfhecckapgpnaaKx12
import Derived.Test.YtbfhecckapgpnaaKx3
namespace Go.Proofs.Ytbfhecckapgpnaa
set_option linter.unusedVariables false
set_option linter.unusedSimpArgs false
open Go.RowKit
open Go.Deep

/-- the tables ts of n elements lie below base, apart from the block X -/
def TabsIn (base : Nat) (X : Nat → Prop)  (w : World) (b o n : Nat) (ts : List (List (List Int))) : Prop := b < base ∧ ¬ X b ∧ ∀ k, k < ts.length →
  ∃ b1 o1 c1, b1 < base ∧ ¬ X b1 ∧ w.cell? ⟨b, o + k, none⟩ = some (.slice (some ⟨b1, o1, none⟩) n c1) ∧ ∀ x, x < n →
    ∃ b2 o2 c2, b2 < base ∧ ¬ X b2 ∧ w.cell? ⟨b1, o1 + x, none⟩ = some (.slice (some ⟨b2, o2, none⟩) n c2) ∧ ∀ y, y < n → w.cell? ⟨b2, o2 + y, none⟩ = some (.int .i64 (ent (tab ts k) x y))
/-- what lies below base, apart from X, is as it was -/
def KeepB (base : Nat) (X : Nat → Prop)  (w w' : World) : Prop := ∀ k, k < base → ¬ X k → w'.heap[k]? = w.heap[k]?
theorem KeepB.refl (base : Nat) (X : Nat → Prop)  (w : World) : KeepB base X w w := fun _ _ _ => rfl
theorem KeepB.trans {base : Nat} {X : Nat → Prop}  {a b c : World} (h : KeepB base X a b) (k : KeepB base X b c) : KeepB base X a c := fun i h1 h2 => (k i h1 h2).trans (h i h1 h2)
theorem KeepB.cell {base : Nat} {X : Nat → Prop}  {w w' : World} (h : KeepB base X w w') {b o : Nat} {v : Value} (h1 : b < base) (h2 : ¬ X b) (hc : w.cell? ⟨b, o, none⟩ = some v) : w'.cell? ⟨b, o, none⟩ = some v := by
  rw [World.cell?_of_block (w := w) (a := ⟨b, o, none⟩) (h b h1 h2)]; exact hc
theorem TabsIn.keep {base : Nat} {X : Nat → Prop}  {w w' : World} {b o n : Nat} {ts : List (List (List Int))} (h : TabsIn base X w b o n ts) (hk : KeepB base X w w') : TabsIn base X w' b o n ts := by
  obtain ⟨h1, h2, h3⟩ := h
  refine ⟨h1, h2, fun k hkl => ?_⟩
  obtain ⟨b1, o1, c1, g1, g2, g3, g4⟩ := h3 k hkl
  refine ⟨b1, o1, c1, g1, g2, hk.cell h1 h2 g3, fun x hx => ?_⟩
  obtain ⟨b2, o2, c2, k1, k2, k3, k4⟩ := g4 x hx
  exact ⟨b2, o2, c2, k1, k2, hk.cell g1 g2 k3, fun y hy => hk.cell k1 k2 (k4 y hy)⟩

/-- the blocks that the mapping's own steps write -/
def OwnP (M I U : Nat) (sv : Value) (b : Nat) : Prop := b = M ∨ b = I ∨ b = U ∨ sv.ownBlock = some b
/-- the set lies where it lay, or in a block that is new since w -/
def OwnsAt (vo vo' : Value) (w : World) : Prop := vo'.ownBlock = vo.ownBlock ∨ ∃ g, vo'.ownBlock = some g ∧ w.heap.size ≤ g
theorem OwnsAt.refl (v : Value) (w : World) : OwnsAt v v w := .inl rfl
theorem Only.mono {p q : Nat → Prop} {w w' : World} (h : Only p w w') (hpq : ∀ k, k < w.heap.size → p k → q k) : Only q w w' := ⟨h.os, h.tape, h.output, h.size, fun k hk hn => h.keep k hk (fun e => hn (hpq k hk e))⟩
theorem OwnsAt.trans {a b c : Value} {w w' : World} (h : OwnsAt a b w) (k : OwnsAt b c w') (hs : w.heap.size ≤ w'.heap.size) : OwnsAt a c w := by
  rcases k with e | ⟨g, e, hg⟩
  · rcases h with e2 | ⟨g, e2, hg⟩
    · exact .inl (e.trans e2)
    · exact .inr ⟨g, e.trans e2, hg⟩
  · exact .inr ⟨g, e, by omega⟩
/-- a step goes on from a step -/
theorem Only.next {M I U : Nat} {sv sv1 : Value} {w w1 w2 : World} (h : Only (OwnP M I U sv) w w1) (ha : OwnsAt sv sv1 w) (k : Only (OwnP M I U sv1) w1 w2) : Only (OwnP M I U sv) w w2 :=
  ⟨k.os.trans h.os, k.tape.trans h.tape, k.output.trans h.output, Nat.le_trans h.size k.size, fun i hi hn => (k.keep i (Nat.lt_of_lt_of_le hi h.size) (fun e => by
    rcases e with e | e | e | e
    · exact hn (.inl e)
    · exact hn (.inr (.inl e))
    · exact hn (.inr (.inr (.inl e)))
    · rcases ha with e2 | ⟨g, e2, hg⟩
      · exact hn (.inr (.inr (.inr (e2 ▸ e))))
      · rw [e2] at e
        injection e with e
        omega)).trans (h.keep i hi hn)⟩
theorem Only.ext {p : Nat → Prop} {w w' : World} (h : Ext w w') : Only p w w' := ⟨h.os, h.tape, h.output, h.size, fun k hk _ => h.block k hk⟩
theorem Only.keepB {p : Nat → Prop} {base : Nat} {X : Nat → Prop}  {w w' : World} (h : Only p w w') (hp : ∀ k, p k → base ≤ k) (hb : base ≤ w.heap.size) : KeepB base X w w' := fun k h1 _ => h.keep k (by omega) (fun e => by have := hp k e; omega)
theorem MapSt.ownLow {base : Nat} {w : World} {M I U : Nat} {v u : Value} {n : Nat} {f s : List Int} {sv : Value} (h : MapSt base w M I U v u n f s sv) : ∀ k, OwnP M I U sv k → base ≤ k := fun k e => by
  obtain ⟨l1, l2, l3⟩ := h.low
  rcases e with rfl | rfl | rfl | e
  · exact l1
  · exact l2
  · exact l3
  · exact (h.set.lt e).1
theorem MapSt.size {base : Nat} {w : World} {M I U : Nat} {v u : Value} {n : Nat} {f s : List Int} {sv : Value} (h : MapSt base w M I U v u n f s sv) : base ≤ w.heap.size := by
  have := h.img_lt
  have := h.low.1
  omega
theorem MapSt.drew {base : Nat} {w : World} {M I U : Nat} {v u : Value} {n : Nat} {f s : List Int} {sv : Value} (h : MapSt base w M I U v u n f s sv) : MapSt base w.drew M I U v u n f s sv := h.ext h.img_lt (Ext.refl w).drew
theorem MapSt.drewN {base : Nat} {w : World} {M I U : Nat} {v u : Value} {n : Nat} {f s : List Int} {sv : Value} (h : MapSt base w M I U v u n f s sv) (k : Nat) : MapSt base (w.drewN k) M I U v u n f s sv := h.ext h.img_lt ((Ext.refl w).drewN k)
theorem MapSt.put {base : Nat} {w : World} {M I U : Nat} {v u : Value} {n : Nat} {g s : List Int} {sv : Value} (h : MapSt base w M I U v u n g s sv) (hl : g.length = n) {x q : Nat} (hx : x < n) (hf : ix g x < 0) :
    MapSt base ((w.setCell ⟨I, x, none⟩ (.int .i64 (q : Int))).setCell ⟨U, q, none⟩ (.bool true)) M I U v u n (g.set x (q : Int)) s sv where
  c0 := kc_set (fun e => h.apart.2.1 e) (kc_set (fun e => h.apart.1 e) h.c0)
  c1 := kc_set (fun e => h.apart.2.1 e) (kc_set (fun e => h.apart.1 e) h.c1)
  c2 := kc_set (fun e => h.apart.2.1 e) (kc_set (fun e => h.apart.1 e) h.c2)
  c3 := kc_set (fun e => h.apart.2.1 e) (kc_set (fun e => h.apart.1 e) h.c3)
  c4 := kc_set (fun e => h.apart.2.1 e) (kc_set (fun e => h.apart.1 e) h.c4)
  fr := kf_set (kf_set h.fr)
  img := ((h.img.set x _).setOther (fun e => h.apart.2.2.1 e) _).congr fun i hi => by
    by_cases e : i = x
    · subst e; rw [if_pos rfl, ix_set_same _ _ _ (by rw [hl]; exact hx)]
    · rw [if_neg e, ix_set_other _ _ _ _ e]
  usd := ((h.usd.setOther (fun e => h.apart.2.2.1 e.symm) _).set q _).congr fun i hi => by
    rw [hasB_set hl hx hf]
    by_cases e : i = q
    · rw [if_pos e, if_pos e]
    · rw [if_neg e, if_neg e]
  set := (h.set.setOff (fun g hg => (h.apart.2.2.2 g hg).2.1) _).setOff (fun g hg => (h.apart.2.2.2 g hg).2.2) _
  apart := h.apart
  low := h.low
theorem MapSt.put2 {base : Nat} {w : World} {M I U : Nat} {v u : Value} {n : Nat} {g s : List Int} {sv : Value} (h : MapSt base w M I U v u n g s sv) (hl : g.length = n) {x q : Nat} (hx : x < n) (hf : ix g x < 0) :
    MapSt base ((w.setCell ⟨U, q, none⟩ (.bool true)).setCell ⟨I, x, none⟩ (.int .i64 (q : Int))) M I U v u n (g.set x (q : Int)) s sv where
  c0 := kc_set (fun e => h.apart.1 e) (kc_set (fun e => h.apart.2.1 e) h.c0)
  c1 := kc_set (fun e => h.apart.1 e) (kc_set (fun e => h.apart.2.1 e) h.c1)
  c2 := kc_set (fun e => h.apart.1 e) (kc_set (fun e => h.apart.2.1 e) h.c2)
  c3 := kc_set (fun e => h.apart.1 e) (kc_set (fun e => h.apart.2.1 e) h.c3)
  c4 := kc_set (fun e => h.apart.1 e) (kc_set (fun e => h.apart.2.1 e) h.c4)
  fr := kf_set (kf_set h.fr)
  img := ((h.img.setOther (fun e => h.apart.2.2.1 e) _).set x _).congr fun i hi => by
    by_cases e : i = x
    · subst e; rw [if_pos rfl, ix_set_same _ _ _ (by rw [hl]; exact hx)]
    · rw [if_neg e, ix_set_other _ _ _ _ e]
  usd := ((h.usd.set q _).setOther (fun e => h.apart.2.2.1 e.symm) _).congr fun i hi => by
    rw [hasB_set hl hx hf]
    by_cases e : i = q
    · rw [if_pos e, if_pos e]
    · rw [if_neg e, if_neg e]
  set := (h.set.setOff (fun g hg => (h.apart.2.2.2 g hg).2.2) _).setOff (fun g hg => (h.apart.2.2.2 g hg).2.1) _
  apart := h.apart
  low := h.low
theorem only_put {M I U : Nat} {sv : Value} {w : World} (x q : Nat) (a b : Value) : Only (OwnP M I U sv) w ((w.setCell ⟨I, x, none⟩ a).setCell ⟨U, q, none⟩ b) := (only_set (.inr (.inl rfl)) _).trans (only_set (.inr (.inr (.inl rfl))) _)
theorem only_put2 {M I U : Nat} {sv : Value} {w : World} (x q : Nat) (a b : Value) : Only (OwnP M I U sv) w ((w.setCell ⟨U, q, none⟩ b).setCell ⟨I, x, none⟩ a) := (only_set (.inr (.inr (.inl rfl))) _).trans (only_set (.inr (.inl rfl)) _)
/-- an element is appended to the set -/
theorem MapSt.app {base : Nat} {w w' : World} {M I U : Nat} {v u : Value} {n : Nat} {f s s' : List Int} {sv sv' : Value} {o : Obj} (h : MapSt base w M I U v u n f s sv) (hg : (w.alloc o).grownBy w' sv.ownBlock) (hs : GrowI 2 base w' sv' s') (hat : sv'.ownBlock = sv.ownBlock ∨ sv'.ownBlock = some (w.heap.size + 1)) :
    MapSt base (w'.setCell ⟨M, 4, none⟩ sv') M I U v u n f s' sv' := by
  have hx := h.ext h.img_lt ((Ext.refl w).alloc o)
  have hz : (w.alloc o).heap.size = w.heap.size + 1 := by simp
  have nM : M ≠ w.heap.size + 1 := by have := hx.img_lt; omega
  have nI : I ≠ w.heap.size + 1 := by have := hx.img.lt; omega
  have nU : U ≠ w.heap.size + 1 := by have := hx.usd.lt; omega
  have kM : some M ≠ sv.ownBlock := fun e => (h.apart.2.2.2 M e.symm).1 rfl
  have kI : some I ≠ sv.ownBlock := fun e => (h.apart.2.2.2 I e.symm).2.1 rfl
  have kU : some U ≠ sv.ownBlock := fun e => (h.apart.2.2.2 U e.symm).2.2 rfl
  have ap : ∀ g, sv'.ownBlock = some g → g ≠ M ∧ g ≠ I ∧ g ≠ U := fun g e => by
    rcases hat with e2 | e2
    · rw [e2] at e; exact h.apart.2.2.2 g e
    · rw [e2] at e; injection e with e
      subst e
      exact ⟨nM.symm, nI.symm, nU.symm⟩
  exact {
    c0 := kc_set2 (by simp) (hg.cell hx.c0 kM)
    c1 := kc_set2 (by simp) (hg.cell hx.c1 kM)
    c2 := kc_set2 (by simp) (hg.cell hx.c2 kM)
    c3 := kc_set2 (by simp) (hg.cell hx.c3 kM)
    c4 := kc_same (hg.cell hx.c4 kM)
    fr := kf_set (by
      have e := hg.block M hx.img_lt kM
      rw [World.frozen?_of_block (w := w.alloc o) (a := ⟨M, 4, none⟩) e]; exact hx.fr)
    img := (hx.img.of_block (hg.block I hx.img.lt kI)).setOther (fun e => h.apart.1 e.symm) _
    usd := (hx.usd.of_block (hg.block U hx.usd.lt kU)).setOther (fun e => h.apart.2.1 e.symm) _
    set := hs.setOff (fun g hg => (ap g hg).1) _
    apart := ⟨h.apart.1, h.apart.2.1, h.apart.2.2.1, ap⟩
    low := h.low }
theorem only_app {w w' : World} {M I U : Nat} {sv : Value} {o : Obj} (hg : (w.alloc o).grownBy w' sv.ownBlock) (x : Value) : Only (OwnP M I U sv) w (w'.setCell ⟨M, 4, none⟩ x) :=
  (Only.trans ⟨hg.os.trans rfl, hg.tape.trans rfl, hg.output.trans rfl, by have := hg.size; simp at this; omega, fun k hk hn => (hg.block k (by simp; omega) (fun e => hn (.inr (.inr (.inr e.symm))))).trans (Below.heap_alloc w o k hk)⟩ (only_set (.inl rfl) _))
theorem MapSt.row {base : Nat} {w : World} {M I U : Nat} {v u : Value} {n : Nat} {f s : List Int} {sv : Value} (h : MapSt base w M I U v u n f s sv) (hs : 0 < s.length) : ∃ S c, sv = .slice (some ⟨S, 0, none⟩) s.length c ∧ IntsAt w S 0 s := by
  obtain ⟨b, c, rfl, ho⟩ := h.set.own (fun e => by
    rcases h.set.2 with ⟨-, hn⟩ | ⟨g, cap, cur, rfl, _⟩
    · omega
    · simp at e)
  exact ⟨b, c, rfl, ho.2.2.1⟩
end Go.Proofs.Ytbfhecckapgpnaa

/-
  The group that some permutations generate, element by element as it is found; lists of lists in order: plain.
-/
namespace Go.Proofs.Ytbfhecckapgpnaa
set_option linter.unusedVariables false
set_option linter.unusedSimpArgs false

/-- p, then q -/
@[irreducible] def thenL (p q : List Int) : List Int := mkL p.length (fun i => ix q (ix p i).toNat)
theorem length_thenL (p q : List Int) : (thenL p q).length = p.length := by unfold thenL; exact length_mkL _ _
theorem ix_thenL (p q : List Int) {i : Nat} (h : i < p.length) : ix (thenL p q) i = ix q (ix p i).toNat := by unfold thenL; exact ix_mkL _ _ _ h
theorem thenL_perm {n : Nat} {p q : List Int} (hp : IsoOk n [] [] p) (hq : IsoOk n [] [] q) : IsoOk n [] [] (thenL p q) := by
  have hl := hp.1
  refine isoOk_plain.2 ⟨by rw [length_thenL, hl], ⟨fun i hi => ?_, fun i hi j hj e => ?_⟩⟩
  · rw [length_thenL] at hi ⊢
    rw [ix_thenL _ _ hi]
    have := hp.bd (x := i) (by omega)
    have := hq.bd this.2
    omega
  · rw [length_thenL] at hi
    rw [ix_thenL _ _ hi, ix_thenL _ _ (by omega)] at e
    have b1 := hp.bd (x := i) (by omega)
    have b2 := hp.bd (x := j) (by omega)
    have := hq.inj b2.2 b1.2 e
    have := hp.inj (x := j) (y := i) (by omega) (by omega) (by omega)
    omega

theorem idL_perm (n : Nat) : IsoOk n [] [] (idL n) := by
  refine isoOk_plain.2 ⟨length_idL n, ⟨fun i hi => ?_, fun i hi j hj e => ?_⟩⟩
  · rw [length_idL] at hi ⊢
    rw [ix_idL _ _ hi]; omega
  · rw [length_idL] at hi
    rw [ix_idL _ _ hi, ix_idL _ _ (by omega)] at e
    omega
/-- what is found is taken, unless it is known or there are too many -/
@[irreducible] def addL (out : List (List Int)) (p : List Int) : List (List Int) := if out.length ≤ 12 ∧ p ∉ out then out ++ [p] else out
theorem addL_old {out : List (List Int)} {p : List Int} (h : p ∈ out) : addL out p = out := by unfold addL; rw [if_neg (fun e => e.2 h)]
theorem addL_new {out : List (List Int)} {p : List Int} (h : p ∉ out) (hl : out.length ≤ 12) : addL out p = out ++ [p] := by unfold addL; rw [if_pos ⟨hl, h⟩]
theorem addL_full {out : List (List Int)} {p : List Int} (hl : 12 < out.length) : addL out p = out := by unfold addL; rw [if_neg (fun e => by omega)]
/-- the products of x and the generators from number k on -/
@[irreducible] def rowFrom (gens : List (List Int)) (x : List Int) (k : Nat) (out : List (List Int)) : List (List Int) := (gens.drop k).foldl (fun o p => addL o (thenL x p)) out
theorem rowFrom_end {gens : List (List Int)} {x : List Int} {k : Nat} {out : List (List Int)} (h : gens.length ≤ k) : rowFrom gens x k out = out := by unfold rowFrom; rw [List.drop_of_length_le h]; rfl
theorem rowFrom_at {gens : List (List Int)} {x : List Int} {k : Nat} {out : List (List Int)} (h : k < gens.length) : rowFrom gens x k out = rowFrom gens x (k + 1) (addL out (thenL x (row gens k))) := by
  unfold rowFrom
  rw [List.drop_eq_getElem_cons h, List.foldl_cons]
  have : row gens k = gens[k] := by rw [row_eq]; simp [List.getD, h]
  rw [this]
theorem rowFrom_full {gens : List (List Int)} {x : List Int} {out : List (List Int)} (h : 12 < out.length) : ∀ (d k : Nat), gens.length ≤ k + d → rowFrom gens x k out = out
  | 0, k, hk => rowFrom_end (by omega)
  | d + 1, k, hk => by
    by_cases hg : k < gens.length
    · rw [rowFrom_at hg, addL_full h, rowFrom_full h d (k + 1) (by omega)]
    · exact rowFrom_end (by omega)
/-- one element after the other -/
def genF (gens : List (List Int)) : Nat → List (List Int) → Nat → List (List Int)
  | 0, out, _ => out
  | d + 1, out, i => if i < out.length ∧ out.length ≤ 12 then genF gens d (rowFrom gens (row out i) 0 out) (i + 1) else out
theorem genF_stop {gens : List (List Int)} {d i : Nat} {out : List (List Int)} (h : ¬ (i < out.length ∧ out.length ≤ 12)) : genF gens d out i = out := by
  cases d with
  | zero => rfl
  | succ d => unfold genF; rw [if_neg h]
theorem genF_go {gens : List (List Int)} {d i : Nat} {out : List (List Int)} (h1 : i < out.length) (h2 : out.length ≤ 12) : genF gens (d + 1) out i = genF gens d (rowFrom gens (row out i) 0 out) (i + 1) := by
  rw [show genF gens (d + 1) out i = if i < out.length ∧ out.length ≤ 12 then genF gens d (rowFrom gens (row out i) 0 out) (i + 1) else out from rfl, if_pos ⟨h1, h2⟩]
/-- the elements in the order in which they are found; 13 if there are more than 12 -/
@[irreducible] def genA (gens : List (List Int)) (n : Nat) : List (List Int) := genF gens 13 [idL n] 0
theorem genA_def (gens : List (List Int)) (n : Nat) : genA gens n = genF gens (13 - 0) [idL n] 0 := by unfold genA; rfl
/-- more than 12 are found -/
theorem genF_over {gens : List (List Int)} {d i : Nat} {x : List Int} {out : List (List Int)} {p : List Int} {k : Nat} (hl : out.length = 12) : genF gens d (rowFrom gens x k (out ++ [p])) i = out ++ [p] := by
  rw [rowFrom_full (out := out ++ [p]) (by simp; omega) gens.length k (by omega)]
  exact genF_stop (by simp; omega)
theorem row_app (out : List (List Int)) (p : List Int) {i : Nat} (h : i < out.length) : row (out ++ [p]) i = row out i := by rw [row_eq, row_eq]; simp [List.getD, List.getElem?_append_left h]

/-- as far as they are found: different permutations, 13 at most -/
structure GoodG (n : Nat) (out : List (List Int)) : Prop where
  nodup : out.Nodup
  perm : ∀ p, p ∈ out → IsoOk n [] [] p
  one : 1 ≤ out.length
  few : out.length ≤ 13
theorem GoodG.add {n : Nat} {out : List (List Int)} {p : List Int} (h : GoodG n out) (hp : IsoOk n [] [] p) : GoodG n (addL out p) := by
  unfold addL
  split
  · rename_i hc
    refine ⟨?_, fun q hq => ?_, by simp, by simp; omega⟩
    · rw [List.nodup_append]
      refine ⟨h.nodup, by simp, fun a ha b hb e => ?_⟩
      have : b = p := by simpa using hb
      exact hc.2 (by rw [← this, ← e]; exact ha)
    · rcases List.mem_append.1 hq with hq | hq
      · exact h.perm q hq
      · have : q = p := by simpa using hq
        rw [this]; exact hp
  · exact h
theorem GoodG.row {n : Nat} {out : List (List Int)} (h : GoodG n out) {i : Nat} (hi : i < out.length) : IsoOk n [] [] (row out i) := h.perm _ (by rw [row_eq]; simp [List.getD, hi])
theorem GoodG.rowFrom {n : Nat} {gens : List (List Int)} (hg : ∀ k, k < gens.length → IsoOk n [] [] (Go.Proofs.Ytbfhecckapgpnaa.row gens k)) {x : List Int} (hx : IsoOk n [] [] x) : ∀ (d k : Nat) (out : List (List Int)), gens.length ≤ k + d → GoodG n out → GoodG n (rowFrom gens x k out)
  | 0, k, out, hd, h => by rw [rowFrom_end (by omega)]; exact h
  | d + 1, k, out, hd, h => by
    by_cases hk : k < gens.length
    · rw [rowFrom_at hk]
      exact GoodG.rowFrom hg hx d (k + 1) _ (by omega) (h.add (thenL_perm hx (hg k hk)))
    · rw [rowFrom_end (by omega)]; exact h
theorem GoodG.genF {n : Nat} {gens : List (List Int)} (hg : ∀ k, k < gens.length → IsoOk n [] [] (Go.Proofs.Ytbfhecckapgpnaa.row gens k)) : ∀ (d : Nat) (out : List (List Int)) (i : Nat), GoodG n out → GoodG n (genF gens d out i)
  | 0, out, i, h => h
  | d + 1, out, i, h => by
    by_cases hc : i < out.length ∧ out.length ≤ 12
    · rw [genF_go hc.1 hc.2]
      exact GoodG.genF hg d _ _ (GoodG.rowFrom hg (h.row hc.1) gens.length 0 out (by omega) h)
    · rw [genF_stop hc]; exact h
theorem goodG_unit {n : Nat} (hi : IsoOk n [] [] (idL n)) : GoodG n [idL n] := ⟨by simp, fun p hp => by
  have : p = idL n := by simpa using hp
  rw [this]; exact hi, by simp, by simp⟩
theorem genA_good {n : Nat} {gens : List (List Int)} (hg : ∀ k, k < gens.length → IsoOk n [] [] (row gens k)) (hi : IsoOk n [] [] (idL n)) : GoodG n (genA gens n) := by
  unfold genA
  exact GoodG.genF hg 13 _ 0 (goodG_unit hi)
theorem GoodG.pos {n : Nat} {out : List (List Int)} (h : GoodG n out) (h1 : 1 ≤ n) : ∀ i, i < out.length → 0 < (Go.Proofs.Ytbfhecckapgpnaa.row out i).length := fun i hi => by rw [(h.row hi).1]; omega

/-! ### in order -/
theorem sortedS_unique : ∀ {l m : List (List Int)}, l.Pairwise (· < ·) → m.Pairwise (· < ·) → l.Perm m → l = m
  | [], m, _, _, h => (List.Perm.nil_eq h)
  | x :: r, [], _, _, h => by have := h.length_eq; simp at this
  | x :: r, y :: s, h1, h2, h => by
    rw [List.pairwise_cons] at h1 h2
    have hx : x ∈ y :: s := (h.mem_iff).1 (by simp)
    have hy : y ∈ x :: r := (h.mem_iff).2 (by simp)
    have e : x = y := by
      rcases List.mem_cons.1 hx with e | e
      · exact e
      · rcases List.mem_cons.1 hy with e2 | e2
        · exact e2.symm
        · exact absurd (less_trans (h1.1 y e2) (h2.1 x e)) (less_irrefl x)
    subst e
    rw [sortedS_unique h1.2 h2.2 ((List.perm_cons x).1 h)]
theorem rowG_mem {S : List (List Int)} {i : Nat} (h : i < S.length) : row S i ∈ S := by rw [row_eq]; simp [List.getD, h]
theorem mem_row {S : List (List Int)} {p : List Int} (h : p ∈ S) : ∃ i, i < S.length ∧ row S i = p := by
  obtain ⟨i, hi, e⟩ := List.getElem_of_mem h
  exact ⟨i, hi, by rw [row_eq]; simp [List.getD, hi, e]⟩
theorem sorted_row {S : List (List Int)} (h : S.Pairwise (· < ·)) {i j : Nat} (hij : i < j) (hj : j < S.length) : row S i < row S j := by
  have := (List.pairwise_iff_getElem.1 h) i j (by omega) hj hij
  rw [row_eq, row_eq]; simpa [List.getD, hj, show i < S.length by omega] using this
/-- a list is put at its place -/
theorem put_sorted {S : List (List Int)} {p : List Int} {k : Nat} (h : S.Pairwise (· < ·)) (hk : k ≤ S.length) (h1 : ∀ i, i < k → row S i < p) (h2 : ∀ i, k ≤ i → i < S.length → ¬ row S i < p) (hp : p ∉ S) : (S.take k ++ ([p] ++ S.drop k)).Pairwise (· < ·) := by
  rw [List.pairwise_append]
  refine ⟨h.take, ?_, fun a ha b hb => ?_⟩
  · rw [List.singleton_append, List.pairwise_cons]
    refine ⟨fun b hb => ?_, h.drop⟩
    obtain ⟨i, hi, e⟩ := List.getElem_of_mem hb
    rw [List.length_drop] at hi
    have e2 : row S (k + i) = b := by rw [row_eq]; rw [List.getElem_drop] at e; simp [List.getD, show k + i < S.length by omega, e]
    have hn := h2 (k + i) (by omega) (by omega)
    rw [e2] at hn
    rcases less_tri p b with g | g | g
    · exact g
    · exact absurd (by rw [g, ← e2]; exact rowG_mem (by omega)) hp
    · exact absurd g hn
  · obtain ⟨i, hi, e⟩ := List.getElem_of_mem ha
    rw [List.length_take] at hi
    have e2 : row S i = a := by rw [row_eq]; rw [List.getElem_take] at e; simp [List.getD, show i < S.length by omega, e]
    have hap := h1 i (by omega)
    rw [e2] at hap
    rw [List.singleton_append] at hb
    rcases List.mem_cons.1 hb with rfl | hb
    · exact hap
    · obtain ⟨j, hj, e3⟩ := List.getElem_of_mem hb
      rw [List.length_drop] at hj
      have e4 : row S (k + j) = b := by rw [row_eq]; rw [List.getElem_drop] at e3; simp [List.getD, show k + j < S.length by omega, e3]
      rw [← e2, ← e4]
      exact sorted_row h (by omega) (by omega)
theorem put_perm {S : List (List Int)} {p : List Int} {k : Nat} : (S.take k ++ ([p] ++ S.drop k)).Perm (p :: S) := by
  have h1 : (S.take k ++ ([p] ++ S.drop k)).Perm ([p] ++ (S.take k ++ S.drop k)) := by
    rw [← List.append_assoc, ← List.append_assoc]
    exact (List.perm_append_comm).append_right _
  rw [List.take_append_drop] at h1
  exact h1
/-- found at its place exactly if it is there -/
theorem put_known {S : List (List Int)} {p : List Int} {k : Nat} (h : S.Pairwise (· < ·)) (h1 : ∀ i, i < k → row S i < p) (h2 : ∀ i, k ≤ i → i < S.length → ¬ row S i < p) : (k < S.length ∧ row S k = p) ↔ p ∈ S := by
  constructor
  · rintro ⟨hk, e⟩; rw [← e]; exact rowG_mem hk
  · intro hp
    obtain ⟨j, hj, e⟩ := mem_row hp
    have hkj : k ≤ j := by
      apply Classical.byContradiction
      intro hn
      have := h1 j (by omega)
      rw [e] at this
      exact less_irrefl p this
    have hjk : ¬ k < j := fun hlt => by
      have := sorted_row h hlt hj
      rw [e] at this
      exact h2 k (Nat.le_refl _) (by omega) this
    have : k = j := by omega
    subst this
    exact ⟨hj, e⟩
/-- the elements in order -/
@[irreducible] noncomputable def sortS (R : List (List Int)) : List (List Int) := R.mergeSort (fun a b => !decide (b < a))
theorem sortS_eq {R S : List (List Int)} (hn : R.Nodup) (hp : S.Perm R) (hs : S.Pairwise (· < ·)) : S = sortS R := by
  refine sortedS_unique hs ?_ (hp.trans (by unfold sortS; exact (List.mergeSort_perm R _).symm))
  unfold sortS
  have h1 := List.pairwise_mergeSort (le := fun (a b : List Int) => !decide (b < a)) (fun a b c h1 h2 => by
    simp at *
    intro hca
    rcases less_tri a b with g | g | g
    · exact h2 (less_trans hca g)
    · subst g; exact h2 hca
    · exact h1 g) (fun a b => by
    simp
    rcases less_tri a b with g | g | g
    · exact .inl (fun e => less_irrefl a (less_trans g e))
    · subst g; exact .inl (less_irrefl a)
    · exact .inr (fun e => less_irrefl a (less_trans e g))) R
  have hnd : (R.mergeSort (fun a b => !decide (b < a))).Nodup := (List.mergeSort_perm R _).nodup_iff.2 hn
  have h2 := List.pairwise_and_iff.2 ⟨h1, hnd⟩
  refine h2.imp fun {a b} ⟨h, hne⟩ => ?_
  simp at h
  rcases less_tri a b with g | g | g
  · exact g
  · exact absurd g hne
  · exact absurd g h
theorem sortS_perm (R : List (List Int)) : (sortS R).Perm R := by unfold sortS; exact List.mergeSort_perm R _
theorem length_sortS (R : List (List Int)) : (sortS R).length = R.length := (sortS_perm R).length_eq
/-- the index of a list in lists, or -1 -/
def findL (S : List (List Int)) (p : List Int) : Int := findIx (fun r => eqIB r p) S
theorem findL_eq (S : List (List Int)) (p : List Int) : findIx (fun r => eqIB r p) S = findL S p := rfl
theorem anyB_mem (S : List (List Int)) (p : List Int) : anyB (fun r => eqIB r p) S = decide (p ∈ S) := by
  unfold anyB
  rw [Bool.eq_iff_iff, List.any_eq_true, decide_eq_true_iff]
  constructor
  · rintro ⟨x, h1, h2⟩; rw [← eqIB_iff.1 h2]; exact h1
  · intro h; exact ⟨p, h, eqIB_yes rfl⟩
/-- no permutation of n elements -/
@[irreducible] def sysBad (n : Int) (p : List Int) : Bool := decide ((p.length : Int) ≠ n) || !permB p
theorem sysBad_no {n : Int} {p : List Int} : sysBad n p = false ↔ (p.length : Int) = n ∧ permB p = true := by unfold sysBad; simp
@[irreducible] def sysB (n : Int) (gens : List (List Int)) : Bool := inR n 1 12 && decide (gens.length ≤ 16) && !anyB (sysBad n) gens
theorem sysB_no1 {n : Int} {gens : List (List Int)} (h : inR n 1 12 = false) : sysB n gens = false := by unfold sysB; rw [h]; rfl
theorem sysB_no2 {n : Int} {gens : List (List Int)} (h : ¬ gens.length ≤ 16) : sysB n gens = false := by unfold sysB; simp [h]
theorem sysB_any {n : Int} {gens : List (List Int)} (h : inR n 1 12 = true) (h2 : gens.length ≤ 16) : sysB n gens = !anyB (sysBad n) gens := by unfold sysB; simp [h, h2]
theorem sysB_no3 {n : Int} {gens : List (List Int)} {k : Nat} (hk : k < gens.length) (hb : sysBad n (row gens k) = true) : sysB n gens = false := by
  have : anyB (sysBad n) gens = true := by
    unfold anyB; rw [List.any_eq_true]; exact ⟨_, rowG_mem hk, hb⟩
  unfold sysB; rw [this]; simp
theorem sysB_yes {n : Int} {gens : List (List Int)} (h : inR n 1 12 = true) (h2 : gens.length ≤ 16) (h3 : ∀ k, k < gens.length → sysBad n (row gens k) = false) : sysB n gens = true := by
  rw [sysB_any h h2]
  have : anyB (sysBad n) gens = false := by
    unfold anyB; rw [List.any_eq_false]
    intro x hx
    obtain ⟨k, hk, e⟩ := mem_row hx
    rw [← e, h3 k hk]; simp
  rw [this]; rfl
theorem sysB_ok {n : Int} {gens : List (List Int)} (h : sysB n gens = true) : (1 ≤ n ∧ n ≤ 12) ∧ gens.length ≤ 16 ∧ ∀ k, k < gens.length → IsoOk n.toNat [] [] (row gens k) := by
  unfold sysB at h
  simp only [Bool.and_eq_true, decide_eq_true_eq, Bool.not_eq_true'] at h
  obtain ⟨⟨h1, h2⟩, h3⟩ := h
  refine ⟨inR_iff.1 h1, h2, fun k hk => ?_⟩
  have h4 : sysBad n (row gens k) = false := by
    unfold anyB at h3
    rw [List.any_eq_false] at h3
    have := h3 _ (rowG_mem hk)
    simpa using this
  obtain ⟨h5, h6⟩ := sysBad_no.1 h4
  exact isoOk_plain.2 ⟨by omega, permB_iff.1 h6⟩
/-- the table of the group, if it has at most 12 elements -/
noncomputable def gopS (n : Int) (gens : List (List Int)) : List (List Int) := sortS (genA gens n.toNat)
def gopE (S : List (List Int)) (x y : Nat) : Int := findL S (thenL (row S x) (row S y))
@[irreducible] noncomputable def gopV (n : Int) (gens : List (List Int)) : List (List Int) := if sysB n gens = true ∧ (genA gens n.toNat).length ≤ 12 then mkT (gopS n gens).length (gopE (gopS n gens)) else []
@[irreducible] noncomputable def gopC (n : Int) (gens : List (List Int)) : Int := if sysB n gens = true then (if (genA gens n.toNat).length ≤ 12 then 0 else 3) else 1
theorem gop_no {n : Int} {gens : List (List Int)} (h : sysB n gens = false) : gopV n gens = [] ∧ gopC n gens = 1 := by unfold gopV gopC; simp [h]
theorem gop_big {n : Int} {gens : List (List Int)} (h : sysB n gens = true) (h2 : ¬ (genA gens n.toNat).length ≤ 12) : gopV n gens = [] ∧ gopC n gens = 3 := by unfold gopV gopC; simp [h, h2]
theorem gop_yes {n : Int} {gens : List (List Int)} (h : sysB n gens = true) (h2 : (genA gens n.toNat).length ≤ 12) : gopV n gens = mkT (gopS n gens).length (gopE (gopS n gens)) ∧ gopC n gens = 0 := by unfold gopV gopC; simp [h, h2]
end Go.Proofs.Ytbfhecckapgpnaa

/-
  The least form of a brace: plain.
-/
namespace Go.Proofs.Ytbfhecckapgpnaa
set_option linter.unusedVariables false
set_option linter.unusedSimpArgs false

theorem cmpL_cons (a b : Int) (l m : List Int) : cmpL (a :: l) (b :: m) = if cmpI a b = 0 then cmpL l m else cmpI a b := by unfold cmpL; rfl
theorem cmpL_neg : ∀ (l m : List Int), cmpL l m < 0 ↔ l < m
  | [], [] => by unfold cmpL cmpBy; simp
  | [], b :: m => by unfold cmpL cmpBy; simp
  | a :: l, [] => by unfold cmpL cmpBy; simp
  | a :: l, b :: m => by
    have ih := cmpL_neg l m
    rw [List.cons_lt_cons_iff, ← ih, cmpL_cons]
    by_cases h1 : a < b
    · have : cmpI a b = -1 := by unfold cmpI; rw [if_pos h1]
      simp [this, h1]
    · by_cases h2 : b < a
      · have : cmpI a b = 1 := by unfold cmpI; rw [if_neg h1, if_pos h2]
        simp [this, h1, show ¬ a = b by omega]
      · have e : a = b := by omega
        subst e
        have : cmpI a a = 0 := cmpI_zero.2 rfl
        simp [this]
theorem lessB_cmp {l m : List Int} : lessB l m = decide (cmpL l m < 0) := by
  unfold lessB
  by_cases h : l < m
  · rw [decide_eq_true h, decide_eq_true ((cmpL_neg l m).2 h)]
  · rw [decide_eq_false h, decide_eq_false (fun e => h ((cmpL_neg l m).1 e))]
/-- the image of a table by a permutation -/
def imgE (t : List (List Int)) (p : List Int) (i j : Nat) : Int := ix p (ent t (indexOf p i).toNat (indexOf p j).toNat).toNat
def imgT (t : List (List Int)) (p : List Int) : List (List Int) := mkT t.length (imgE t p)
theorem indexOf_at {n : Nat} {p : List Int} (hp : IsoOk n [] [] p) {x : Nat} (hx : x < n) : indexOf p (ix p x) = (x : Int) := by
  rcases indexOf_spec p (ix p x) with ⟨_, h⟩ | ⟨i, hi, e, e2, _⟩
  · exact absurd rfl (h x (by have := hp.1; omega))
  · rw [e]
    have := hp.inj (x := i) (y := x) (by have := hp.1; omega) hx e2
    omega
theorem imgE_at {t : List (List Int)} {p : List Int} (hp : IsoOk t.length [] [] p) {x y : Nat} (hx : x < t.length) (hy : y < t.length) : imgE t p (ix p x).toNat (ix p y).toNat = ix p (ent t x y).toNat := by
  unfold imgE
  rw [Int.toNat_of_nonneg (hp.bd hx).1, Int.toNat_of_nonneg (hp.bd hy).1, indexOf_at hp hx, indexOf_at hp hy, Int.toNat_natCast, Int.toNat_natCast]
/-- one pair of tables stands ahead of another -/
def lessP (a b : List (List Int) × List (List Int)) : Bool := if cmpT a.1 b.1 = 0 then decide (cmpT a.2 b.2 < 0) else decide (cmpT a.1 b.1 < 0)
def stepP (t u : List (List Int)) (best : List (List Int) × List (List Int)) (p : List Int) : List (List Int) × List (List Int) := if lessP (imgT t p, imgT u p) best then (imgT t p, imgT u p) else best
/-- the least form -/
@[irreducible] noncomputable def leastP (t u : List (List Int)) : List (List Int) × List (List Int) := ((isoL t.length [] []).filter fun p => decide (ix p 0 = 0)).foldl (stepP t u) (t, u)
/-- those that lead 0 to 0 stand first -/
theorem zero_first {L : List (List Int)} (hs : L.Pairwise LexLt) (h0 : ∀ p, p ∈ L → 0 ≤ ix p 0) : ∀ (pre : List (List Int)) (p : List Int) (rest : List (List Int)), L = pre ++ p :: rest → (∀ q, q ∈ pre → ix q 0 = 0) → ix p 0 ≠ 0 → (L.filter fun p => decide (ix p 0 = 0)) = pre := by
  intro pre p rest hL hp hne
  subst hL
  rw [List.filter_append]
  have h1 : (pre.filter fun p => decide (ix p 0 = 0)) = pre := List.filter_eq_self.2 fun q hq => by simpa using hp q hq
  have h2 : ((p :: rest).filter fun p => decide (ix p 0 = 0)) = [] := by
    rw [List.filter_eq_nil_iff]
    intro q hq
    have hp0 := h0 p (by simp)
    rcases List.mem_cons.1 hq with rfl | hq
    · simpa using hne
    · have hlt := (List.pairwise_cons.1 (List.pairwise_append.1 hs).2.1).1 q hq
      obtain ⟨d, k1, k2⟩ := hlt
      have : ix p 0 ≤ ix q 0 := by
        by_cases e : d = 0
        · subst e; omega
        · have := k1 0 (by omega); omega
      simp; omega
  rw [h1, h2, List.append_nil]
end Go.Proofs.Ytbfhecckapgpnaa

/-
  The image of a table by a permutation, entry by entry: plain.
-/
namespace Go.Proofs.Ytbfhecckapgpnaa
set_option linter.unusedVariables false
set_option linter.unusedSimpArgs false

/-- all entries ahead of (x, y) are where they belong -/
structure ImgTo (t : List (List Int)) (p : List Int) (x y : Nat) (T : List (List Int)) : Prop where
  len : T.length = t.length
  rows : ∀ i, i < t.length → (row T i).length = t.length
  at_ : ∀ a b, a < t.length → b < t.length → (a < x ∨ (a = x ∧ b < y)) → ent T (ix p a).toNat (ix p b).toNat = ix p (ent t a b).toNat
theorem ImgTo.start {t : List (List Int)} (h : TableOk t) (p : List Int) : ImgTo t p 0 0 t := ⟨rfl, fun i hi => h.len hi, fun a b _ _ h => by omega⟩
theorem ImgTo.step {t T : List (List Int)} {p : List Int} {x y : Nat} (h : ImgTo t p x y T) (hp : IsoOk t.length [] [] p) (hx : x < t.length) (hy : y < t.length) : ImgTo t p x (y + 1) (setE T (ix p x).toNat (ix p y).toNat (ix p (ent t x y).toNat)) := by
  have b1 := (hp.bd hx).2
  have b2 := (hp.bd hy).2
  have hT : (ix p x).toNat < T.length := by rw [h.len]; exact b1
  refine ⟨by rw [length_setE]; exact h.len, fun i hi => by rw [length_row_setE _ _ _ _ _ hT]; exact h.rows i hi, fun a b ha hb hab => ?_⟩
  by_cases e : a = x ∧ b = y
  · obtain ⟨rfl, rfl⟩ := e
    exact ent_setE_same _ _ _ _ hT (by rw [h.rows _ b1]; exact b2)
  · have c1 := hp.bd ha
    have c2 := hp.bd hb
    have d1 := hp.bd hx
    have d2 := hp.bd hy
    rw [ent_setE_other _ _ _ _ _ _ hT ?_]
    · exact h.at_ a b ha hb (by omega)
    · by_cases e1 : a = x
      · right; intro e2; exact e ⟨e1, hp.inj hb hy (by omega)⟩
      · left; intro e2; exact e1 (hp.inj ha hx (by omega))
theorem ImgTo.next {t T : List (List Int)} {p : List Int} {x : Nat} (h : ImgTo t p x t.length T) : ImgTo t p (x + 1) 0 T := ⟨h.len, h.rows, fun a b ha hb hab => h.at_ a b ha hb (by omega)⟩
theorem table_ext {n : Nat} {S T : List (List Int)} (h1 : S.length = n) (h2 : T.length = n) (h3 : ∀ i, i < n → (row S i).length = n) (h4 : ∀ i, i < n → (row T i).length = n) (h : ∀ i j, i < n → j < n → ent S i j = ent T i j) : S = T :=
  row_ext (by omega) fun i hi => ix_ext (by rw [h3 i (by omega), h4 i (by omega)]) fun j hj => by
    rw [h3 i (by omega)] at hj
    rw [ent_def, ent_def]; exact h i j (by omega) hj
theorem length_imgT (t : List (List Int)) (p : List Int) : (imgT t p).length = t.length := length_mkT _ _
theorem row_imgT (t : List (List Int)) (p : List Int) {i : Nat} (h : i < t.length) : (row (imgT t p) i).length = t.length := by unfold imgT; rw [row_mkT _ _ _ h, length_partRow]
theorem ent_imgT (t : List (List Int)) (p : List Int) {i j : Nat} (h : i < t.length) (hj : j < t.length) : ent (imgT t p) i j = imgE t p i j := ent_mkT _ _ _ _ h hj
theorem ImgTo.done {t T : List (List Int)} {p : List Int} (h : ImgTo t p t.length 0 T) (hp : IsoOk t.length [] [] p) : T = imgT t p := by
  refine table_ext h.len (length_imgT _ _) h.rows (fun i hi => row_imgT _ _ hi) fun i j hi hj => ?_
  rw [ent_imgT _ _ hi hj]
  obtain ⟨a, ha, e1⟩ := hp.surj hi
  obtain ⟨b, hb, e2⟩ := hp.surj hj
  have := h.at_ a b ha hb (by omega)
  have h2 := imgE_at hp ha hb
  rw [e1, e2, Int.toNat_natCast, Int.toNat_natCast] at this h2
  rw [this, h2]
theorem imgT_ok {t : List (List Int)} {p : List Int} (h : TableOk t) (hp : IsoOk t.length [] [] p) : TableOk (imgT t p) := by
  refine ⟨by rw [length_imgT]; exact h.1, by rw [length_imgT]; exact h.2.1, fun i hi => ?_⟩
  rw [length_imgT] at hi ⊢
  refine ⟨row_imgT _ _ hi, fun j hj => ?_⟩
  rw [ent_imgT _ _ hi hj]
  obtain ⟨a, ha, e1⟩ := hp.surj hi
  obtain ⟨b, hb, e2⟩ := hp.surj hj
  have h2 := imgE_at hp ha hb
  rw [e1, e2, Int.toNat_natCast, Int.toNat_natCast] at h2
  rw [h2]
  have := h.bd ha hb
  have := hp.bd (x := (ent t a b).toNat) (by omega)
  omega
end Go.Proofs.Ytbfhecckapgpnaa

/-
  The named groups: plain.
-/
namespace Go.Proofs.Ytbfhecckapgpnaa
set_option linter.unusedVariables false
set_option linter.unusedSimpArgs false

@[irreducible] def cyT (n : Nat) : List (List Int) := mkT n (cycF n)
@[irreducible] def dbT (n s : Nat) : List (List Int) := mkT (2 * n) (dblF n s)
def evenE : List (List Int) := [[1, 2, 0, 3], [0, 2, 3, 1]]
theorem cyT_eq (n : Nat) : mkT n (cycF n) = cyT n := by unfold cyT; rfl
theorem dbT_eq (n s : Nat) : mkT (2 * n) (dblF n s) = dbT n s := by unfold dbT; rfl
theorem prodT_eq (a b : List (List Int)) {N : Nat} (h : N = a.length * b.length) : mkT N (prodF a b) = prodT a b := by subst h; rw [prodT_def]
theorem length_cyT (n : Nat) : (cyT n).length = n := by rw [← cyT_eq, length_mkT]
theorem length_dbT (n s : Nat) : (dbT n s).length = 2 * n := by rw [← dbT_eq, length_mkT]
theorem small_cyT {n : Nat} (h : n ≤ 12) : Small (cyT n) := by rw [← cyT_eq]; exact small_mkT (by omega) _
theorem small_dbT {n s : Nat} (h : n ≤ 12) : Small (dbT n s) := by rw [← dbT_eq]; exact small_mkT (by omega) _
theorem cy2_ok : TableOk (cyT 2) := by decide +kernel
theorem cy3_ok : TableOk (cyT 3) := by decide +kernel
theorem cy4_ok : TableOk (cyT 4) := by decide +kernel
theorem cy6_ok : TableOk (cyT 6) := by decide +kernel
theorem four_ok : TableOk (prodT (cyT 2) (cyT 2)) := by decide +kernel
theorem even_sys : sysB ((4 : Nat) : Int) evenE = true := by decide +kernel
theorem even_len : (genA evenE 4).length = 12 := by decide +kernel
/-- the tables of the named groups of an order -/
noncomputable def namedL (n : Nat) : List (List (List Int)) :=
  match n with
  | 4 => [cyT 4, prodT (cyT 2) (cyT 2)]
  | 6 => [cyT 6, dbT 3 0]
  | 8 => [cyT 8, prodT (cyT 2) (cyT 4), prodT (cyT 2) (prodT (cyT 2) (cyT 2)), dbT 4 0, dbT 4 2]
  | 9 => [cyT 9, prodT (cyT 3) (cyT 3)]
  | 10 => [cyT 10, dbT 5 0]
  | 12 => [cyT 12, prodT (cyT 2) (cyT 6), dbT 6 0, dbT 6 3, gopV ((4 : Nat) : Int) evenE]
  | n => [cyT n]
theorem even_gop : gopV ((4 : Nat) : Int) evenE = mkT (gopS ((4 : Nat) : Int) evenE).length (gopE (gopS ((4 : Nat) : Int) evenE)) := (gop_yes even_sys (by rw [Int.toNat_natCast, even_len]; omega)).1
theorem even_S : gopS ((4 : Nat) : Int) evenE = sortS (genA evenE 4) := by unfold gopS; rw [Int.toNat_natCast]
theorem even_Sl : (gopS ((4 : Nat) : Int) evenE).length = 12 := by rw [even_S, length_sortS, even_len]
theorem length_even : (gopV ((4 : Nat) : Int) evenE).length = 12 := by rw [even_gop, length_mkT, even_Sl]
theorem small_even : Small (gopV ((4 : Nat) : Int) evenE) := by rw [even_gop]; exact small_mkT (by rw [even_Sl]; omega) _
end Go.Proofs.Ytbfhecckapgpnaa

/-
  The name of a group: plain.
-/
namespace Go.Proofs.Ytbfhecckapgpnaa
set_option linter.unusedVariables false
set_option linter.unusedSimpArgs false

/-- the even permutations of four, in order -/
def even12 : List (List Int) := [[0, 1, 2, 3], [0, 2, 3, 1], [0, 3, 1, 2], [1, 0, 3, 2], [1, 2, 0, 3], [1, 3, 2, 0], [2, 0, 1, 3], [2, 1, 3, 0], [2, 3, 0, 1], [3, 0, 2, 1], [3, 1, 0, 2], [3, 2, 1, 0]]
theorem even12_eq : gopS ((4 : Nat) : Int) evenE = even12 := by
  rw [even_S]
  exact (sortS_eq (by decide +kernel) (by decide +kernel) (by decide +kernel)).symm
@[irreducible] def evT : List (List Int) := mkT 12 (gopE even12)
theorem even_evT : gopV ((4 : Nat) : Int) evenE = evT := by
  rw [even_gop, even_Sl, even12_eq]
  unfold evT
  rfl
theorem evT_ok : groupB evT = true ∧ evT.length = 12 := by decide +kernel
theorem named_check : ([cyT 1, cyT 2, cyT 3, cyT 4, cyT 5, cyT 6, cyT 7, cyT 8, cyT 9, cyT 10, cyT 11, cyT 12, prodT (cyT 2) (cyT 2), dbT 3 0, prodT (cyT 2) (cyT 4), prodT (cyT 2) (prodT (cyT 2) (cyT 2)), dbT 4 0, dbT 4 2, prodT (cyT 3) (cyT 3), dbT 5 0, prodT (cyT 2) (cyT 6), dbT 6 0, dbT 6 3].all fun t => groupB t) = true := by decide +kernel
theorem named_group {t : List (List Int)} (h : t ∈ [cyT 1, cyT 2, cyT 3, cyT 4, cyT 5, cyT 6, cyT 7, cyT 8, cyT 9, cyT 10, cyT 11, cyT 12, prodT (cyT 2) (cyT 2), dbT 3 0, prodT (cyT 2) (cyT 4), prodT (cyT 2) (prodT (cyT 2) (cyT 2)), dbT 4 0, dbT 4 2, prodT (cyT 3) (cyT 3), dbT 5 0, prodT (cyT 2) (cyT 6), dbT 6 0, dbT 6 3]) : groupB t = true := List.all_eq_true.1 named_check t h
theorem namedL_mem {n : Nat} (h1 : 1 ≤ n) (h12 : n ≤ 12) {t : List (List Int)} (ht : t ∈ namedL n) : groupB t = true ∧ t.length = n := by
  have h : n = 1 ∨ n = 2 ∨ n = 3 ∨ n = 4 ∨ n = 5 ∨ n = 6 ∨ n = 7 ∨ n = 8 ∨ n = 9 ∨ n = 10 ∨ n = 11 ∨ n = 12 := by omega
  rcases h with rfl | rfl | rfl | rfl | rfl | rfl | rfl | rfl | rfl | rfl | rfl | rfl <;> simp only [namedL, List.mem_cons, List.not_mem_nil, or_false] at ht
  all_goals (first | (rcases ht with rfl | rfl | rfl | rfl | rfl) | (rcases ht with rfl | rfl) | subst ht)
  all_goals first
    | (rw [even_evT]; exact evT_ok)
    | exact ⟨named_group (by simp), by simp [length_cyT, length_dbT, length_prodT]⟩
theorem namedL_ok {n : Nat} (h1 : 1 ≤ n) (h12 : n ≤ 12) {i : Nat} (hi : i < (namedL n).length) : groupB (tab (namedL n) i) = true ∧ (tab (namedL n) i).length = n :=
  namedL_mem h1 h12 (by rw [tab_eq, List.getD_eq_getElem?_getD, List.getElem?_eq_getElem hi]; exact List.getElem_mem hi)
theorem namedL_len0 (n : Nat) : 1 ≤ (namedL n).length ∧ (namedL n).length ≤ 5 := by
  unfold namedL
  split <;> simp
/-- the first table to which t is isomorphic -/
noncomputable def nameO (t : List (List Int)) (ts : List (List (List Int))) : Option Nat := (List.range ts.length).find? fun i => decide (isoF [t] [tab ts i] ≠ [])
@[irreducible] noncomputable def nameV (t : List (List Int)) : Int := if groupB t = true then (((nameO t (namedL t.length)).getD 0 : Nat) : Int) else 0
@[irreducible] noncomputable def nameC (t : List (List Int)) : Int := if groupB t = true then (if nameO t (namedL t.length) = none then 4 else 0) else 1
theorem name_1 {t : List (List Int)} (h : groupB t = false) : nameV t = 0 ∧ nameC t = 1 := by
  unfold nameV nameC
  rw [h]
  exact ⟨rfl, rfl⟩
theorem name_no {t : List (List Int)} (h : groupB t = true) {ts : List (List (List Int))} (hts : namedL t.length = ts) (hn : ∀ j, j < ts.length → isoF [t] [tab ts j] = []) : nameV t = 0 ∧ nameC t = 4 := by
  have : nameO t ts = none := by
    unfold nameO
    rw [List.find?_eq_none]
    intro i hi
    simpa using hn i (List.mem_range.1 hi)
  unfold nameV nameC
  rw [if_pos h, if_pos h, hts, this]
  exact ⟨rfl, rfl⟩
theorem name_yes {t : List (List Int)} (h : groupB t = true) {ts : List (List (List Int))} (hts : namedL t.length = ts) {m : Nat} (hm : m < ts.length) (hy : isoF [t] [tab ts m] ≠ []) (hn : ∀ j, j < m → isoF [t] [tab ts j] = []) : nameV t = m ∧ nameC t = 0 := by
  have : nameO t ts = some m := by
    unfold nameO
    rw [List.find?_range_eq_some]
    exact ⟨by simpa using hy, List.mem_range.2 hm, fun j hj => by simpa using hn j hj⟩
  unfold nameV nameC
  rw [if_pos h, if_pos h, hts, this]
  exact ⟨rfl, rfl⟩
end Go.Proofs.Ytbfhecckapgpnaa

/-
  Slices of slices that grow by several rows, each at the head of its block; what growing elsewhere leaves. No program in sight.
-/
namespace Go.Proofs.Ytbfhecckapgpnaa
set_option linter.unusedVariables false
set_option linter.unusedSimpArgs false
open Go.RowKit

/-- a slice at the head of its block that holds l -/
def RT (w : World) (x : Value) (l : List Int) : Prop := l.length ≤ 1048576 ∧ ∃ b c, x = .slice (some ⟨b, 0, none⟩) l.length c ∧ IntsAt w b 0 l
def XT (w : World) (xs : List Value) (s : List (List Int)) : Prop := xs.length = s.length ∧ ∀ i, i < s.length → ∃ x, xs[i]? = some x ∧ RT w x (row s i)
theorem RT.ext {w w' : World} {x : Value} {l : List Int} (h : RT w x l) (hx : Ext w w') : RT w' x l := by
  obtain ⟨h0, b, c, rfl, h1⟩ := h
  exact ⟨h0, b, c, rfl, h1.ext hx⟩
theorem RT.ints {w : World} {x : Value} {l : List Int} (h : RT w x l) : Ints w x l := by
  obtain ⟨h0, b, c, rfl, h1⟩ := h
  exact h1.ints h0 c
theorem XT.nil (w : World) : XT w [] [] := ⟨rfl, fun i hi => by simp at hi⟩
theorem XT.one {w : World} {x : Value} {l : List Int} (h : RT w x l) : XT w [x] [l] := ⟨rfl, fun i hi => by
  have : i = 0 := by simpa using hi
  subst this
  exact ⟨x, rfl, by rw [row_eq]; exact h⟩⟩
theorem XT.ext {w w' : World} {xs : List Value} {s : List (List Int)} (h : XT w xs s) (hx : Ext w w') : XT w' xs s := ⟨h.1, fun i hi => by
  obtain ⟨x, h1, h2⟩ := h.2 i hi
  exact ⟨x, h1, h2.ext hx⟩⟩
theorem XT.append {w : World} {xs ys : List Value} {s t : List (List Int)} (h : XT w xs s) (k : XT w ys t) : XT w (xs ++ ys) (s ++ t) := by
  refine ⟨by simp [h.1, k.1], fun i hi => ?_⟩
  by_cases hs : i < s.length
  · obtain ⟨x, h1, h2⟩ := h.2 i hs
    refine ⟨x, by rw [List.getElem?_append_left (by rw [h.1]; exact hs)]; exact h1, ?_⟩
    rw [row_eq]
    rw [row_eq] at h2
    simpa [List.getD, List.getElem?_append_left hs] using h2
  · have hl : i - s.length < t.length := by simp at hi; omega
    obtain ⟨x, h1, h2⟩ := k.2 (i - s.length) hl
    refine ⟨x, by rw [List.getElem?_append_right (by rw [h.1]; omega), h.1]; exact h1, ?_⟩
    rw [row_eq]
    rw [row_eq] at h2
    simpa [List.getD, List.getElem?_append_right (Nat.le_of_not_lt hs)] using h2
theorem XT.take {w : World} {xs : List Value} {s : List (List Int)} (h : XT w xs s) (k : Nat) : XT w (xs.take k) (s.take k) := by
  refine ⟨by simp [h.1], fun i hi => ?_⟩
  have hi' : i < k ∧ i < s.length := by rw [List.length_take] at hi; omega
  obtain ⟨x, h1, h2⟩ := h.2 i hi'.2
  refine ⟨x, by rw [List.getElem?_take, if_pos hi'.1]; exact h1, ?_⟩
  rw [row_eq]
  rw [row_eq] at h2
  simpa [List.getD, List.getElem?_take, hi'.1] using h2
theorem XT.drop {w : World} {xs : List Value} {s : List (List Int)} (h : XT w xs s) (k : Nat) : XT w (xs.drop k) (s.drop k) := by
  refine ⟨by simp [h.1], fun i hi => ?_⟩
  have hi' : k + i < s.length := by rw [List.length_drop] at hi; omega
  obtain ⟨x, h1, h2⟩ := h.2 (k + i) hi'
  refine ⟨x, by rw [List.getElem?_drop]; exact h1, ?_⟩
  rw [row_eq]
  rw [row_eq] at h2
  simpa [List.getD, List.getElem?_drop] using h2
theorem XT.cell {w : World} {xs : List Value} {s : List (List Int)} (h : XT w xs s) : ∀ u ∈ xs, u.oneCell' = true := by
  intro u hu
  obtain ⟨i, hi, rfl⟩ := List.mem_iff_getElem.1 hu
  obtain ⟨x, h1, _, b, c, rfl, _⟩ := h.2 i (by rw [← h.1]; exact hi)
  rw [List.getElem?_eq_getElem hi] at h1
  have h1 := Option.some.inj h1
  rw [h1]; rfl
theorem GrowT.xt {e base : Nat} {w : World} {v : Value} {t : List (List Int)} (h : GrowT e base w v t) : ∃ xs, w.ownsRow base e 1 v t.length xs ∧ XT w xs t := by
  obtain ⟨xs, h1, h2⟩ := h
  refine ⟨xs, h1, by have := h1.1; simpa using this, fun i hi => ?_⟩
  obtain ⟨g0, b, c, g1, g2⟩ := h2 i hi
  exact ⟨_, g1, g0, b, c, rfl, g2⟩
theorem GrowT.of_xt {e base : Nat} {w : World} {v : Value} {t : List (List Int)} {xs : List Value} (h : w.ownsRow base e 1 v t.length xs) (k : XT w xs t) : GrowT e base w v t :=
  ⟨xs, h, fun i hi => by
    obtain ⟨x, h1, h0, b, c, rfl, h2⟩ := k.2 i hi
    exact ⟨h0, b, c, h1, h2⟩⟩
/-- growing elsewhere: block g holds a slice at its head, so it is none of the rows' blocks -/
theorem RT.grown {w w' : World} {x : Value} {l : List Int} {g : Nat} {a : Option Addr} {n c : Nat} (h : RT w x l) (hg : w.grownBy w' (some g)) (hs : w.cell? ⟨g, 0, none⟩ = some (.slice a n c)) (hl : 0 < l.length) : RT w' x l := by
  obtain ⟨h0, b, c, rfl, h1⟩ := h
  refine ⟨h0, b, c, rfl, intsAt_grown h1 hg (fun _ e => ?_)⟩
  injection e with e
  have := h1 0 hl
  rw [Nat.zero_add, e, hs] at this
  cases this
theorem XT.grown {w w' : World} {xs : List Value} {s : List (List Int)} {g : Nat} {a : Option Addr} {n c : Nat} (h : XT w xs s) (hg : w.grownBy w' (some g)) (hs : w.cell? ⟨g, 0, none⟩ = some (.slice a n c)) (hr : ∀ i, i < s.length → 0 < (row s i).length) : XT w' xs s := ⟨h.1, fun i hi => by
  obtain ⟨x, h1, h2⟩ := h.2 i hi
  exact ⟨x, h1, h2.grown hg hs (hr i hi)⟩⟩
theorem GrowT.grown {e base : Nat} {w w' : World} {v : Value} {t : List (List Int)} {g : Nat} {a : Option Addr} {n c : Nat} (h : GrowT e base w v t) (hg : w.grownBy w' (some g)) (hs : w.cell? ⟨g, 0, none⟩ = some (.slice a n c)) (hr : ∀ i, i < t.length → 0 < (row t i).length) (hne : v.ownBlock ≠ some g) : GrowT e base w' v t := by
  obtain ⟨xs, h1, h2⟩ := h.xt
  exact GrowT.of_xt (World.ownsRow.kept h1 hg (.inr hne)) (h2.grown hg hs hr)
theorem GrowT.head {e base : Nat} {w : World} {v : Value} {t : List (List Int)} (h : GrowT e base w v t) (h0 : 0 < t.length) : ∃ g c b n d, v = .slice (some ⟨g, 0, none⟩) t.length c ∧ w.cell? ⟨g, 0, none⟩ = some (.slice (some ⟨b, 0, none⟩) n d) ∧ t.length ≤ c := by
  obtain ⟨xs, h1, h2⟩ := h
  rcases id h1.2 with ⟨rfl, hn⟩ | ⟨g, cap, cur, rfl, hb, hg, hnc, _, hcs, htake⟩
  · omega
  · obtain ⟨g0, b, c, g1, g2⟩ := h2 0 h0
    have := World.ownsRow.cells h1 (g := g) rfl 0 _ g1
    rw [Addr.add_lit] at this
    exact ⟨g, cap, b, _, c, rfl, this, hnc⟩
/-- row i: where it lies -/
theorem GrowT.get {e base : Nat} {w : World} {v : Value} {t : List (List Int)} (h : GrowT e base w v t) {i : Nat} (hi : i < t.length) : ∃ g c b d, v = .slice (some ⟨g, 0, none⟩) t.length c ∧ w.cell? ⟨g, i, none⟩ = some (.slice (some ⟨b, 0, none⟩) (row t i).length d) ∧ IntsAt w b 0 (row t i) ∧ (row t i).length ≤ 1048576 := by
  obtain ⟨xs, h1, h2⟩ := h
  rcases id h1.2 with ⟨rfl, hn⟩ | ⟨g, cap, cur, rfl, hb, hg, hnc, _, hcs, htake⟩
  · omega
  · obtain ⟨g0, b, c, g1, g2⟩ := h2 i hi
    have := World.ownsRow.cells h1 (g := g) rfl i _ g1
    rw [Addr.add_lit, Nat.zero_add] at this
    exact ⟨g, cap, b, c, rfl, this, g2, g0⟩
/-- a literal of one row -/
theorem GrowT.one {e : Nat} {w : World} {b c : Nat} {l : List Int} {base : Nat} (hb : base ≤ w.heap.size) (hl : l.length ≤ 1048576) (h : IntsAt w b 0 l) : GrowT e base (w.alloc (.cells #[.slice (some ⟨b, 0, none⟩) l.length c] e)) (.slice (some ⟨w.heap.size, 0, none⟩) 1 1) [l] :=
  GrowT.of_xt (t := [l]) (ownsRow_one hb) (XT.one ⟨hl, b, c, rfl, h.ext ((Ext.refl w).alloc _)⟩)
end Go.Proofs.Ytbfhecckapgpnaa

/-
  Sets as natural numbers; the socle: plain.
-/
namespace Go.Proofs.Ytbfhecckapgpnaa
set_option linter.unusedVariables false
set_option linter.unusedSimpArgs false
open Go.RowKit

/-- the set of the x below k with p x -/
def natTo (p : Nat → Bool) : Nat → Nat
  | 0 => 0
  | k + 1 => if p k = true then natTo p k ||| 2 ^ k else natTo p k
@[irreducible] def natSet (p : Nat → Bool) (k : Nat) : Nat := natTo p k
theorem natSet_zero (p) : natSet p 0 = 0 := by unfold natSet; rfl
theorem natSet_yes {p : Nat → Bool} {k : Nat} (h : p k = true) : natSet p (k + 1) = natSet p k ||| 2 ^ k := by unfold natSet; simp only [natTo]; rw [if_pos h]
theorem natSet_no {p : Nat → Bool} {k : Nat} (h : p k = false) : natSet p (k + 1) = natSet p k := by unfold natSet; simp only [natTo]; rw [if_neg (by rw [h]; simp)]
theorem natSet_bit (p : Nat → Bool) : ∀ (k i : Nat), (natSet p k).testBit i = (decide (i < k) && p i)
  | 0, i => by rw [natSet_zero]; simp
  | k + 1, i => by
    have ih := natSet_bit p k i
    cases h : p k with
    | true =>
      rw [natSet_yes h, Nat.testBit_or, ih, Nat.testBit_two_pow]
      by_cases e : k = i
      · subst e; simp [h]
      · have h1 : decide (i < k + 1) = decide (i < k) := by rw [Bool.eq_iff_iff]; simp; omega
        rw [h1]; simp [e]
    | false =>
      rw [natSet_no h, ih]
      by_cases e : k = i
      · subst e; simp [h]
      · have h1 : decide (i < k + 1) = decide (i < k) := by rw [Bool.eq_iff_iff]; simp; omega
        rw [h1]
theorem natSet_lt (p : Nat → Bool) (k : Nat) : natSet p k < 2 ^ k := by
  apply Nat.lt_pow_two_of_testBit
  intro i hi
  rw [natSet_bit]
  have : decide (i < k) = false := by simp; omega
  rw [this]; rfl
theorem natSet_ext {p q : Nat → Bool} {k : Nat} (h : ∀ i, i < k → p i = q i) : natSet p k = natSet q k := by
  apply Nat.eq_of_testBit_eq
  intro i
  rw [natSet_bit, natSet_bit]
  by_cases hi : i < k
  · rw [h i hi]
  · have : decide (i < k) = false := by simp; omega
    rw [this]; rfl
theorem bits_or_nat {a b : Nat} (ha : a < 2 ^ 62) (hb : b < 2 ^ 62) : bits .or .i64 (a : Int) (b : Int) = ((a ||| b : Nat) : Int) :=
  (bits_nat .i64 62 (by decide) (fun n h0 h1 => by rw [IntKind.wrap_i64]; omega) a b ha hb).2
theorem bits_and_nat {a b : Nat} (ha : a < 2 ^ 62) (hb : b < 2 ^ 62) : bits .and .i64 (a : Int) (b : Int) = ((a &&& b : Nat) : Int) :=
  (bits_nat .i64 62 (by decide) (fun n h0 h1 => by rw [IntKind.wrap_i64]; omega) a b ha hb).1
theorem wrap_pow {x : Nat} (h : x < 62) : wrap64 (2 ^ x) = ((2 ^ x : Nat) : Int) := by
  have h1 : 2 ^ x < 2 ^ 62 := Nat.pow_lt_pow_right (by decide) h
  have hc : ((2 : Int) ^ x) = ((2 ^ x : Nat) : Int) := by simp
  rw [hc]
  clear hc
  generalize 2 ^ x = P at h1
  exact IntWalk.wrap64_in _ (by omega)
theorem or_pow {a x : Nat} (ha : a < 2 ^ 62) (h : x < 62) : bits .or .i64 (a : Int) (wrap64 (2 ^ x)) = ((a ||| 2 ^ x : Nat) : Int) := by
  rw [wrap_pow h, bits_or_nat ha (Nat.pow_lt_pow_right (by decide) h)]
theorem setOf_nat (p : Nat → Bool) : ∀ k, k ≤ 62 → setOf p k = ((natSet p k : Nat) : Int)
  | 0, _ => by rw [setOf_zero, natSet_zero]; rfl
  | k + 1, h => by
    have ih := setOf_nat p k (by omega)
    have hl : natSet p k < 2 ^ 62 := Nat.lt_of_lt_of_le (natSet_lt p k) (Nat.pow_le_pow_right (by decide) (by omega))
    cases hp : p k with
    | true => rw [setOf_yes hp, natSet_yes hp, ih, or_pow hl (by omega)]
    | false => rw [setOf_no hp, natSet_no hp, ih]
theorem natSet_and (p q : Nat → Bool) (k : Nat) : natSet p k &&& natSet q k = natSet (fun x => p x && q x) k := by
  apply Nat.eq_of_testBit_eq
  intro i
  rw [Nat.testBit_and, natSet_bit, natSet_bit, natSet_bit]
  cases decide (i < k) <;> cases p i <;> cases q i <;> rfl
theorem natSet_62 (p : Nat → Bool) {k : Nat} (h : k ≤ 62) : natSet p k < 2 ^ 62 := Nat.lt_of_lt_of_le (natSet_lt p k) (Nat.pow_le_pow_right (by decide) h)

/-! ### the socle -/
def SocTo (t u : List (List Int)) (x k : Nat) : Prop := ∀ y, y < k → ent u x y = ent t x y ∧ ent t x y = ent t y x
instance (t u x k) : Decidable (SocTo t u x k) := by unfold SocTo; infer_instance
@[irreducible] def socB (t u : List (List Int)) (x k : Nat) : Bool := decide (SocTo t u x k)
theorem socB_iff {t u x k} : socB t u x k = true ↔ SocTo t u x k := by unfold socB; simp
theorem socB_zero (t u x) : socB t u x 0 = true := socB_iff.2 (fun y hy => by omega)
theorem socB_succ (t u : List (List Int)) (x k : Nat) : socB t u x (k + 1) = ((socB t u x k && (ent u x k == ent t x k)) && (ent t x k == ent t k x)) := by
  rw [Bool.eq_iff_iff, Bool.and_eq_true, Bool.and_eq_true, socB_iff, socB_iff, beq_iff_eq, beq_iff_eq]
  constructor
  · intro h; exact ⟨⟨fun y hy => h y (by omega), (h k (by omega)).1⟩, (h k (by omega)).2⟩
  · rintro ⟨⟨h1, h2⟩, h3⟩ y hy
    by_cases e : y = k
    · subst e; exact ⟨h2, h3⟩
    · exact h1 y (by omega)
theorem row_eq_ent {t u : List (List Int)} (h : TableOk t) (h2 : TableOk u) (hl : t.length = u.length) {x : Nat} (hx : x < t.length) : row t x = row u x ↔ ∀ y, y < t.length → ent u x y = ent t x y := by
  constructor
  · intro e y hy
    rw [← ent_def, ← ent_def, e]
  · intro hc
    refine ix_ext (by rw [h.len hx, h2.len (by omega), hl]) fun i hi => ?_
    rw [h.len hx] at hi
    rw [ent_def, ent_def]
    exact (hc i hi).symm
theorem socB_row {t u : List (List Int)} (h : TableOk t) (h2 : TableOk u) (hl : t.length = u.length) {x : Nat} (hx : x < t.length) : (eqIB (row t x) (row u x) && eqIB (row t x) (row (turnT t) x)) = socB t u x t.length := by
  rw [Bool.eq_iff_iff, Bool.and_eq_true, eqIB_iff, eqIB_iff, socB_iff, row_eq_ent h h2 hl hx, row_eq_turn h hx]
  constructor
  · rintro ⟨a, b⟩ y hy; exact ⟨a y hy, b y hy⟩
  · intro a; exact ⟨fun y hy => (a y hy).1, fun y hy => (a y hy).2⟩
@[irreducible] def socI (t u : List (List Int)) : Int := setOf (fun x => socB t u x t.length) t.length
theorem socI_def (t u : List (List Int)) : socI t u = setOf (fun x => socB t u x t.length) t.length := by unfold socI; rfl
/-- the socle as a number -/
@[irreducible] def socN (t u : List (List Int)) : Nat := natSet (fun x => socB t u x t.length) t.length
theorem socN_def (t u : List (List Int)) : socN t u = natSet (fun x => socB t u x t.length) t.length := by unfold socN; rfl
theorem socI_nat {t u : List (List Int)} (h : t.length ≤ 12) : socI t u = ((socN t u : Nat) : Int) := by rw [socI_def, socN_def, setOf_nat _ _ (by omega)]
/-- the annihilator -/
@[irreducible] def annN (t u : List (List Int)) : Nat := natSet (fun x => socB t u x t.length && comB u x t.length) t.length
theorem annN_def (t u : List (List Int)) : annN t u = natSet (fun x => socB t u x t.length && comB u x t.length) t.length := by unfold annN; rfl
theorem ann_spec {t u : List (List Int)} (h : t.length ≤ 12) (hl : t.length = u.length) : bits .and .i64 (socI t u) (centerI u) = ((annN t u : Nat) : Int) := by
  rw [socI_def, centerI_def, ← hl, setOf_nat _ _ (by omega), setOf_nat _ _ (by omega), bits_and_nat (natSet_62 _ (by omega)) (natSet_62 _ (by omega)), natSet_and, annN_def]
/-- the program's way: S holds what of the first i elements of the list is central -/
def AnnTo (t u : List (List Int)) (i S : Nat) : Prop := S < 2 ^ t.length ∧ ∀ x : Nat, S.testBit x = true ↔ (∃ j, j < i ∧ ix (elemsL (socN t u)) j = (x : Int)) ∧ comB u x t.length = true
theorem AnnTo.zero (t u) : AnnTo t u 0 0 := ⟨Nat.two_pow_pos _, fun x => by simp⟩
theorem AnnTo.no {t u i S} (h : AnnTo t u i S) {x : Nat} (hx : ix (elemsL (socN t u)) i = (x : Int)) (hc : comB u x t.length = false) : AnnTo t u (i + 1) S := ⟨h.1, fun y => by
  rw [h.2]
  constructor
  · rintro ⟨⟨j, hj, e⟩, hy⟩; exact ⟨⟨j, by omega, e⟩, hy⟩
  · rintro ⟨⟨j, hj, e⟩, hy⟩
    refine ⟨⟨j, ?_, e⟩, hy⟩
    apply Classical.byContradiction
    intro hji
    have : j = i := by omega
    subst this
    rw [hx] at e
    have : x = y := by omega
    subst this
    rw [hc] at hy; cases hy⟩
theorem AnnTo.yes {t u i S} (h : AnnTo t u i S) {x : Nat} (hl : x < t.length) (hx : ix (elemsL (socN t u)) i = (x : Int)) (hc : comB u x t.length = true) : AnnTo t u (i + 1) (S ||| 2 ^ x) := by
  refine ⟨Nat.or_lt_two_pow h.1 (Nat.pow_lt_pow_right (by decide) hl), fun y => ?_⟩
  rw [Nat.testBit_or, Nat.testBit_two_pow, Bool.or_eq_true, h.2, decide_eq_true_iff]
  constructor
  · rintro (⟨⟨j, hj, e⟩, hy⟩ | rfl)
    · exact ⟨⟨j, by omega, e⟩, hy⟩
    · exact ⟨⟨i, by omega, hx⟩, hc⟩
  · rintro ⟨⟨j, hj, e⟩, hy⟩
    by_cases hji : j = i
    · subst hji
      rw [hx] at e
      right; omega
    · left; exact ⟨⟨j, by omega, e⟩, hy⟩
theorem AnnTo.done {t u S} (hn : t.length ≤ 12) (h : AnnTo t u (elemsL (socN t u)).length S) : S = annN t u := by
  have hsl : socN t u < 2 ^ t.length := by rw [socN_def]; exact natSet_lt _ _
  have hs62 := lt62 hn hsl
  apply Nat.eq_of_testBit_eq
  intro x
  rw [Bool.eq_iff_iff, h.2, annN_def, natSet_bit, Bool.and_eq_true, Bool.and_eq_true, decide_eq_true_iff]
  constructor
  · rintro ⟨⟨j, hj, e⟩, hy⟩
    obtain ⟨z, hz, bz, ez⟩ := elemsL_get hsl (by omega) hj
    rw [e] at ez
    have : x = z := by omega
    subst this
    rw [bitB_test hs62, socN_def, natSet_bit, Bool.and_eq_true] at bz
    exact ⟨hz, bz.2, hy⟩
  · rintro ⟨hx, hs, hy⟩
    have hb : bitB (socN t u) x = true := by rw [bitB_test hs62, socN_def, natSet_bit, hs]; simp [hx]
    obtain ⟨j, hj, e⟩ := elemsL_has hsl (by omega) hb
    exact ⟨⟨j, hj, e⟩, hy⟩
end Go.Proofs.Ytbfhecckapgpnaa

/-
  A finite group on the numbers below n; subgroups' sizes are divisors: plain.
-/
namespace Go.Proofs.Ytbfhecckapgpnaa
set_option linter.unusedVariables false
set_option linter.unusedSimpArgs false

/-- m is the multiplication of a group on the numbers below n, v its inverse, 0 its unit -/
structure Grp (n : Nat) (m : Nat → Nat → Nat) (v : Nat → Nat) : Prop where
  bd : ∀ x, x < n → ∀ y, y < n → m x y < n
  vb : ∀ x, x < n → v x < n
  assoc : ∀ x, x < n → ∀ y, y < n → ∀ z, z < n → m (m x y) z = m x (m y z)
  ul : ∀ x, x < n → m 0 x = x
  ur : ∀ x, x < n → m x 0 = x
  vl : ∀ x, x < n → m (v x) x = 0
  vr : ∀ x, x < n → m x (v x) = 0
section
variable {n : Nat} {m : Nat → Nat → Nat} {v : Nat → Nat} (h : Grp n m v)
include h
theorem Grp.inj_l {x y z : Nat} (hx : x < n) (hy : y < n) (hz : z < n) (e : m x y = m x z) : y = z := by
  have h1 := congrArg (m (v x)) e
  rw [← h.assoc _ (h.vb x hx) x hx y hy, ← h.assoc _ (h.vb x hx) x hx z hz, h.vl x hx, h.ul y hy, h.ul z hz] at h1
  exact h1
theorem Grp.inj_r {x y z : Nat} (hx : x < n) (hy : y < n) (hz : z < n) (e : m y x = m z x) : y = z := by
  have h1 := congrArg (fun a => m a (v x)) e
  rw [h.assoc y hy x hx _ (h.vb x hx), h.assoc z hz x hx _ (h.vb x hx), h.vr x hx, h.ur y hy, h.ur z hz] at h1
  exact h1
theorem Grp.v_uniq {x y : Nat} (hx : x < n) (hy : y < n) (e : m x y = 0) : y = v x := h.inj_l hx hy (h.vb x hx) (by rw [e, h.vr x hx])
theorem Grp.v_v {x : Nat} (hx : x < n) : v (v x) = x := (h.v_uniq (h.vb x hx) hx (h.vl x hx)).symm
theorem Grp.v_mul {x y : Nat} (hx : x < n) (hy : y < n) : v (m x y) = m (v y) (v x) := by
  refine (h.v_uniq (h.bd x hx y hy) (h.bd _ (h.vb y hy) _ (h.vb x hx)) ?_).symm
  rw [h.assoc x hx y hy _ (h.bd _ (h.vb y hy) _ (h.vb x hx)), ← h.assoc y hy _ (h.vb y hy) _ (h.vb x hx), h.vr y hy, h.ul _ (h.vb x hx), h.vr x hx]
end
/-- S lists a subgroup -/
structure Sub (n : Nat) (m : Nat → Nat → Nat) (v : Nat → Nat) (S : List Nat) : Prop where
  nodup : S.Nodup
  bd : ∀ x, x ∈ S → x < n
  mul : ∀ x, x ∈ S → ∀ y, y ∈ S → m x y ∈ S
  inv : ∀ x, x ∈ S → v x ∈ S
theorem nodup_map_on {α β : Type} {f : α → β} : ∀ {l : List α}, l.Nodup → (∀ x, x ∈ l → ∀ y, y ∈ l → f x = f y → x = y) → (l.map f).Nodup
  | [], _, _ => List.nodup_nil
  | a :: l, hn, hi => by
    rw [List.nodup_cons] at hn
    rw [List.map_cons, List.nodup_cons]
    refine ⟨fun hm => ?_, nodup_map_on hn.2 (fun x hx y hy => hi x (by simp [hx]) y (by simp [hy]))⟩
    obtain ⟨b, hb, e⟩ := List.mem_map.1 hm
    have := hi b (by simp [hb]) a (by simp) e
    subst this
    exact hn.1 hb
/-- what is left when a part is taken away -/
theorem len_without {α : Type} [DecidableEq α] : ∀ (C L : List α), C.Nodup → L.Nodup → (∀ x, x ∈ C → x ∈ L) → (L.filter fun x => decide (x ∉ C)).length + C.length = L.length
  | [], L, _, _, _ => by simp
  | c :: C, L, hC, hL, hs => by
    rw [List.nodup_cons] at hC
    have ih := len_without C (L.erase c) hC.2 (hL.erase c) (fun x hx => by
      have hne : x ≠ c := fun e => by subst e; exact hC.1 hx
      exact (List.mem_erase_of_ne hne).2 (hs x (by simp [hx])))
    have hc : c ∈ L := hs c (by simp)
    have hl : (L.erase c).length + 1 = L.length := by
      have := List.length_erase_of_mem hc
      have : 0 < L.length := List.length_pos_of_mem hc
      omega
    have hf : (L.filter fun x => decide (x ∉ c :: C)) = ((L.erase c).filter fun x => decide (x ∉ C)) := by
      rw [hL.erase_eq_filter, List.filter_filter]
      refine List.filter_congr fun x _ => ?_
      by_cases e : x = c
      · subst e; simp
      · simp [e]
    rw [hf, List.length_cons]
    omega
/-- Lagrange -/
theorem lagrange {n : Nat} {m : Nat → Nat → Nat} {v : Nat → Nat} (h : Grp n m v) {S : List Nat} (hS : Sub n m v S) : ∀ (k : Nat) (L : List Nat), L.length ≤ k → L.Nodup → (∀ x, x ∈ L → x < n) → (∀ x, x ∈ L → ∀ s, s ∈ S → m x s ∈ L) → S ≠ [] → S.length ∣ L.length
  | 0, L, hk, _, _, _, _ => by
    have : L.length = 0 := by omega
    rw [this]; exact Nat.dvd_zero _
  | k + 1, L, hk, hn, hb, hc, hne => by
    cases L with
    | nil => exact Nat.dvd_zero _
    | cons x L' =>
      have hx : x < n := hb x (by simp)
      have hCn : (S.map (m x)).Nodup := nodup_map_on hS.nodup fun a ha b hb' e => h.inj_l hx (hS.bd a ha) (hS.bd b hb') e
      have hsub : ∀ y, y ∈ S.map (m x) → y ∈ x :: L' := fun y hy => by
        obtain ⟨s, hs, rfl⟩ := List.mem_map.1 hy
        exact hc x (by simp) s hs
      have hlen := len_without (S.map (m x)) (x :: L') hCn hn hsub
      rw [List.length_map] at hlen
      have hpos : 0 < S.length := List.length_pos_iff.2 hne
      have ih := lagrange h hS k ((x :: L').filter fun y => decide (y ∉ S.map (m x))) (by omega) (hn.filter _) (fun y hy => hb y (List.mem_filter.1 hy).1) (fun y hy s hs => by
        obtain ⟨h1, h2⟩ := List.mem_filter.1 hy
        rw [List.mem_filter]
        refine ⟨hc y h1 s hs, ?_⟩
        have h2 : y ∉ S.map (m x) := by simpa using h2
        have hyn := hb y h1
        have hsn := hS.bd s hs
        have : m y s ∉ S.map (m x) := fun hm => by
          obtain ⟨r, hr, e⟩ := List.mem_map.1 hm
          have hrn := hS.bd r hr
          refine h2 (List.mem_map.2 ⟨m r (v s), hS.mul r hr _ (hS.inv s hs), ?_⟩)
          rw [← h.assoc x hx r hrn _ (h.vb s hsn), e, h.assoc y hyn s hsn _ (h.vb s hsn), h.vr s hsn, h.ur y hyn]
        simpa using this) hne
      have e : (x :: L').length = ((x :: L').filter fun y => decide (y ∉ S.map (m x))).length + S.length := by omega
      rw [e]
      exact (Nat.dvd_add_right ih).2 (Nat.dvd_refl _)
theorem sub_divides {n : Nat} {m : Nat → Nat → Nat} {v : Nat → Nat} (h : Grp n m v) {S : List Nat} (hS : Sub n m v S) (hne : S ≠ []) : S.length ∣ n := by
  have := lagrange h hS n (List.range n) (by simp) List.nodup_range (fun x hx => List.mem_range.1 hx) (fun x hx s hs => List.mem_range.2 (h.bd x (List.mem_range.1 hx) s (hS.bd s hs))) hne
  simpa using this
/-- a group's table -/
def mulN (t : List (List Int)) (x y : Nat) : Nat := (ent t x y).toNat
theorem grp_of {t : List (List Int)} (hG : GroupOk t) : Grp t.length (mulN t) (fun x => (backF t x).toNat) := by
  have bd : ∀ x, x < t.length → ∀ y, y < t.length → 0 ≤ ent t x y ∧ (ent t x y).toNat < t.length := fun x hx y hy => by
    have := hG.1.bd (x := x) (y := y) hx hy
    omega
  have hn : 0 < t.length := hG.1.1
  have assoc : ∀ x, x < t.length → ∀ y, y < t.length → ∀ z, z < t.length → mulN t (mulN t x y) z = mulN t x (mulN t y z) := fun x hx y hy z hz => by
    unfold mulN; rw [grp_assoc hG hx hy hz]
  have ul : ∀ x, x < t.length → mulN t 0 x = x := fun x hx => by unfold mulN; rw [grp_unit_l hG hx]; rfl
  have ur : ∀ x, x < t.length → mulN t x 0 = x := fun x hx => by unfold mulN; rw [grp_unit_r hG hx]; rfl
  have vb : ∀ x, x < t.length → (backF t x).toNat < t.length := fun x hx => by have := backF_ok hG hx; omega
  have vr : ∀ x, x < t.length → mulN t x (backF t x).toNat = 0 := fun x hx => by unfold mulN; rw [(backF_ok hG hx).2.2]; rfl
  have bm : ∀ x, x < t.length → ∀ y, y < t.length → mulN t x y < t.length := fun x hx y hy => (bd x hx y hy).2
  refine ⟨bm, vb, assoc, ul, ur, fun x hx => ?_, vr⟩
  have h1 := vb x hx
  have h2 := vb _ h1
  have e := assoc _ h1 x hx _ h1
  rw [vr x hx, ur _ h1] at e
  have e2 := congrArg (fun a => mulN t a (backF t (backF t x).toNat).toNat) e
  rw [assoc _ (bm _ h1 x hx) _ h1 _ h2, vr _ h1, ur _ (bm _ h1 x hx)] at e2
  exact e2
end Go.Proofs.Ytbfhecckapgpnaa

/-
  The named groups of an order are not isomorphic; each is isomorphic to itself: plain.
-/
namespace Go.Proofs.Ytbfhecckapgpnaa
set_option linter.unusedVariables false
set_option linter.unusedSimpArgs false

/-- what an isomorphism carries is as often there as here -/
theorem count_iso {n : Nat} {P : Nat → Nat} {f g : Nat → Bool} (hb : ∀ x, x < n → P x < n) (hi : ∀ x, x < n → ∀ y, y < n → P x = P y → x = y) (hs : ∀ y, y < n → ∃ x, x < n ∧ P x = y) (h : ∀ x, x < n → f x = g (P x)) :
    ((List.range n).filter f).length = ((List.range n).filter g).length := by
  have e : ∀ x, x ∈ (List.range n).filter f → x < n := fun x hx => List.mem_range.1 (List.mem_filter.1 hx).1
  have h1 := nodup_le (((List.range n).filter f).map P) ((List.range n).filter g) (nodup_map_on (List.nodup_range.filter _) fun x hx y hy => hi x (e x hx) y (e y hy)) fun y hy => by
    obtain ⟨x, hx, rfl⟩ := List.mem_map.1 hy
    have hxn := e x hx
    rw [List.mem_filter, List.mem_range]
    exact ⟨hb x hxn, by rw [← h x hxn]; exact (List.mem_filter.1 hx).2⟩
  have h2 := nodup_le ((List.range n).filter g) (((List.range n).filter f).map P) (List.nodup_range.filter _) fun y hy => by
    obtain ⟨hy1, hy2⟩ := List.mem_filter.1 hy
    obtain ⟨x, hx, rfl⟩ := hs y (List.mem_range.1 hy1)
    exact List.mem_map.2 ⟨x, List.mem_filter.2 ⟨List.mem_range.2 hx, by rw [h x hx]; exact hy2⟩, rfl⟩
  rw [List.length_map] at h1 h2
  omega
/-- how many elements have a square (a cube) 0, and which commute with all -/
def cnt2 (t : List (List Int)) : Nat := ((List.range t.length).filter fun x => ent t x x == 0).length
def cnt3 (t : List (List Int)) : Nat := ((List.range t.length).filter fun x => ent t (ent t x x).toNat x == 0).length
def cntC (t : List (List Int)) : Nat := ((List.range t.length).filter fun x => (List.range t.length).all fun y => ent t x y == ent t y x).length
theorem inv_iso {t u : List (List Int)} (hT : GroupOk t) (hU : GroupOk u) (hl : u.length = t.length) {p : List Int} (hp : IsoOk t.length [t] [u] p) : cnt2 t = cnt2 u ∧ cnt3 t = cnt3 u ∧ cntC t = cntC u := by
  have h0 : ix p 0 = 0 := hp.zero (by simp) (by rw [tab_one]; exact hT) (by rw [tab_one]; exact hU) (by rw [tab_one]) (by rw [tab_one]; exact hl)
  have hpm : ∀ x, x < t.length → ∀ y, y < t.length → ix p (ent t x y).toNat = ent u (ix p x).toNat (ix p y).toNat := fun x hx y hy => by
    have := hp.2.2 0 (by simp) x hx y hy
    rwa [tab_one, tab_one] at this
  have bT : ∀ x, x < t.length → ∀ y, y < t.length → 0 ≤ ent t x y ∧ (ent t x y).toNat < t.length := fun x hx y hy => by
    have := hT.1.bd (x := x) (y := y) hx hy
    omega
  have bU : ∀ x, x < t.length → ∀ y, y < t.length → 0 ≤ ent u x y ∧ (ent u x y).toNat < t.length := fun x hx y hy => by
    have := hU.1.bd (x := x) (y := y) (by omega) (by omega)
    omega
  have hb : ∀ x, x < t.length → (ix p x).toNat < t.length := fun x hx => (hp.bd hx).2
  have hi : ∀ x, x < t.length → ∀ y, y < t.length → (ix p x).toNat = (ix p y).toNat → x = y := fun x hx y hy e => hp.inj hx hy (by have := hp.bd hx; have := hp.bd hy; omega)
  have hs : ∀ y, y < t.length → ∃ x, x < t.length ∧ (ix p x).toNat = y := fun y hy => by
    obtain ⟨x, hx, e⟩ := hp.surj hy
    exact ⟨x, hx, by omega⟩
  have hz : ∀ a : Int, 0 ≤ a → a.toNat < t.length → (a = 0 ↔ ix p a.toNat = 0) := fun a ha hat => by
    constructor
    · rintro rfl; exact h0
    · intro e
      have := hp.inj (x := a.toNat) (y := 0) hat (by omega) (by rw [e, h0])
      omega
  refine ⟨?_, ?_, ?_⟩
  · unfold cnt2
    rw [hl]
    refine count_iso hb hi hs fun x hx => ?_
    obtain ⟨a1, a2⟩ := bT x hx x hx
    have := hz _ a1 a2
    rw [hpm x hx x hx] at this
    rw [Bool.eq_iff_iff, beq_iff_eq, beq_iff_eq]
    exact this
  · unfold cnt3
    rw [hl]
    refine count_iso hb hi hs fun x hx => ?_
    obtain ⟨a1, a2⟩ := bT x hx x hx
    obtain ⟨c1, c2⟩ := bT _ a2 x hx
    have := hz _ c1 c2
    rw [hpm _ a2 x hx, hpm x hx x hx] at this
    rw [Bool.eq_iff_iff, beq_iff_eq, beq_iff_eq]
    exact this
  · unfold cntC
    rw [hl]
    refine count_iso hb hi hs fun x hx => ?_
    rw [Bool.eq_iff_iff, List.all_eq_true, List.all_eq_true]
    constructor
    · intro h y hy
      obtain ⟨z, hz1, rfl⟩ := hs y (List.mem_range.1 hy)
      have := h z (List.mem_range.2 hz1)
      rw [beq_iff_eq] at this ⊢
      rw [← hpm x hx z hz1, ← hpm z hz1 x hx, this]
    · intro h y hy
      have hy := List.mem_range.1 hy
      have := h _ (List.mem_range.2 (hb y hy))
      rw [beq_iff_eq] at this ⊢
      rw [← hpm x hx y hy, ← hpm y hy x hx] at this
      have q1 := bT x hx y hy
      have q2 := bT y hy x hx
      have := hp.inj q1.2 q2.2 this
      omega
theorem idL_isoT {t : List (List Int)} (hT : GroupOk t) : IsoOk t.length [t] [t] (idL t.length) := by
  have h := idL_perm t.length
  refine ⟨h.1, h.2.1, fun k hk x hx y hy => ?_⟩
  have : k = 0 := by simpa using hk
  subst this
  rw [tab_one]
  have := hT.1.bd (x := x) (y := y) hx hy
  rw [ix_idL _ _ hx, ix_idL _ _ hy, ix_idL _ _ (by omega), Int.toNat_natCast, Int.toNat_natCast]
  omega
/-- there is a first isomorphism exactly if there is one -/
theorem isoF_has {t u : List (List Int)} (hl : u.length = t.length) (h1 : 1 ≤ t.length) : isoF [t] [u] ≠ [] ↔ ∃ p, IsoOk t.length [t] [u] p := by
  constructor
  · intro h
    cases hL : isoL t.length [t] [u] with
    | nil => exact absurd (isoF_nil (by rw [tab_one]) hL) h
    | cons p r => exact ⟨p, mem_isoL.1 (by rw [hL]; simp)⟩
  · rintro ⟨p, hp⟩
    have hm := mem_isoL.2 hp
    cases hL : isoL t.length [t] [u] with
    | nil => rw [hL] at hm; cases hm
    | cons q r =>
      rw [isoF_cons (n := t.length) (by rw [tab_one]) (by rw [tab_one]; exact hl) hL]
      exact ne_nil_of_lt (isoF_ne h1 hL).2
theorem isoF_ok {t u : List (List Int)} (hl : u.length = t.length) (h1 : 1 ≤ t.length) (h : isoF [t] [u] ≠ []) : IsoOk t.length [t] [u] (isoF [t] [u]) := by
  cases hL : isoL t.length [t] [u] with
  | nil => exact absurd (isoF_nil (by rw [tab_one]) hL) h
  | cons p r =>
    rw [isoF_cons (n := t.length) (by rw [tab_one]) (by rw [tab_one]; exact hl) hL]
    exact mem_isoL.1 (by rw [hL]; simp)
/-- the invariants tell the named groups of an order apart -/
def invsOf (t : List (List Int)) : Nat × Nat × Nat := (cnt2 t, cnt3 t, cntC t)
theorem apart_check : (decide ([invsOf (cyT 4), invsOf (prodT (cyT 2) (cyT 2))].Nodup) && decide ([invsOf (cyT 6), invsOf (dbT 3 0)].Nodup) && decide ([invsOf (cyT 8), invsOf (prodT (cyT 2) (cyT 4)), invsOf (prodT (cyT 2) (prodT (cyT 2) (cyT 2))), invsOf (dbT 4 0), invsOf (dbT 4 2)].Nodup)
    && decide ([invsOf (cyT 9), invsOf (prodT (cyT 3) (cyT 3))].Nodup) && decide ([invsOf (cyT 10), invsOf (dbT 5 0)].Nodup) && decide ([invsOf (cyT 12), invsOf (prodT (cyT 2) (cyT 6)), invsOf (dbT 6 0), invsOf (dbT 6 3), invsOf evT].Nodup)) = true := by decide +kernel
theorem namedL_apart {n : Nat} (h1 : 1 ≤ n) (h12 : n ≤ 12) : ((namedL n).map invsOf).Nodup := by
  have hc := apart_check
  simp only [Bool.and_eq_true, decide_eq_true_eq] at hc
  obtain ⟨⟨⟨⟨⟨c4, c6⟩, c8⟩, c9⟩, c10⟩, c12⟩ := hc
  have h : n = 1 ∨ n = 2 ∨ n = 3 ∨ n = 4 ∨ n = 5 ∨ n = 6 ∨ n = 7 ∨ n = 8 ∨ n = 9 ∨ n = 10 ∨ n = 11 ∨ n = 12 := by omega
  rcases h with rfl | rfl | rfl | rfl | rfl | rfl | rfl | rfl | rfl | rfl | rfl | rfl
  · simp [namedL]
  · simp [namedL]
  · simp [namedL]
  · exact c4
  · simp [namedL]
  · exact c6
  · simp [namedL]
  · exact c8
  · exact c9
  · exact c10
  · simp [namedL]
  · show ([cyT 12, prodT (cyT 2) (cyT 6), dbT 6 0, dbT 6 3, gopV ((4 : Nat) : Int) evenE].map invsOf).Nodup
    rw [even_evT]
    exact c12
theorem tab_get {ts : List (List (List Int))} {i : Nat} (hi : i < ts.length) : tab ts i = ts[i] := by
  rw [tab_eq, List.getD_eq_getElem?_getD, List.getElem?_eq_getElem hi]; rfl
/-- the name of a named group -/
theorem named_self {n : Nat} (h1 : 1 ≤ n) (h12 : n ≤ 12) {i : Nat} (hi : i < (namedL n).length) : nameV (tab (namedL n) i) = i ∧ nameC (tab (namedL n) i) = 0 := by
  obtain ⟨g1, g2⟩ := namedL_ok h1 h12 hi
  have hG := groupB_iff.1 g1
  refine name_yes g1 (ts := namedL n) (by rw [g2]) hi ?_ fun j hj => ?_
  · exact (isoF_has rfl hG.1.1).2 ⟨_, idL_isoT hG⟩
  · apply Classical.byContradiction
    intro hne
    obtain ⟨k1, k2⟩ := namedL_ok h1 h12 (i := j) (by omega)
    have hl : (tab (namedL n) j).length = (tab (namedL n) i).length := by rw [g2, k2]
    obtain ⟨p, hp⟩ := (isoF_has hl hG.1.1).1 hne
    obtain ⟨e1, e2, e3⟩ := inv_iso hG (groupB_iff.1 k1) hl hp
    have hnd := namedL_apart h1 h12
    rw [List.Nodup, List.pairwise_iff_getElem] at hnd
    have := hnd j i (by simp; omega) (by simpa using hi) hj
    rw [List.getElem_map, List.getElem_map, ← tab_get, ← tab_get] at this
    exact this (by unfold invsOf; rw [e1, e2, e3])
end Go.Proofs.Ytbfhecckapgpnaa

/-
  Cosets, first elements of classes, the quotient's table: plain.
-/
namespace Go.Proofs.Ytbfhecckapgpnaa
set_option linter.unusedVariables false
set_option linter.unusedSimpArgs false

/-- the places, among the first i, where a label stands that is as large as what is found so far -/
def firTo (c : List Int) : Nat → List Int
  | 0 => []
  | i + 1 => if (ix c i == ((firTo c i).length : Int)) = true then firTo c i ++ [(i : Int)] else firTo c i
theorem firTo_zero (c : List Int) : firTo c 0 = [] := rfl
theorem firTo_yes {c : List Int} {i : Nat} (h : (ix c i == ((firTo c i).length : Int)) = true) : firTo c (i + 1) = firTo c i ++ [(i : Int)] := by simp only [firTo]; rw [if_pos h]
theorem firTo_no {c : List Int} {i : Nat} (h : (ix c i == ((firTo c i).length : Int)) = false) : firTo c (i + 1) = firTo c i := by simp only [firTo]; rw [if_neg (by rw [h]; simp)]
theorem firTo_len (c : List Int) : ∀ i, (firTo c i).length ≤ i
  | 0 => by simp [firTo]
  | i + 1 => by
    have := firTo_len c i
    cases h : (ix c i == ((firTo c i).length : Int)) with
    | true => rw [firTo_yes h]; simp; omega
    | false => rw [firTo_no h]; omega
theorem firTo_get (c : List Int) {k : Nat} (h : (ix c k == ((firTo c k).length : Int)) = true) : ∀ d, ix (firTo c (k + 1 + d)) (firTo c k).length = (k : Int) ∧ (firTo c k).length < (firTo c (k + 1 + d)).length
  | 0 => by rw [Nat.add_zero, firTo_yes h]; exact ⟨ix_append_one _ _, by simp⟩
  | d + 1 => by
    have ⟨h1, h2⟩ := firTo_get c h d
    rw [← Nat.add_assoc]
    cases hb : (ix c (k + 1 + d) == ((firTo c (k + 1 + d)).length : Int)) with
    | true => rw [firTo_yes hb, ix_append_left h2]; exact ⟨h1, by simp; omega⟩
    | false => rw [firTo_no hb]; exact ⟨h1, h2⟩
theorem firTo_at {c : List Int} {k n : Nat} (h : (ix c k == ((firTo c k).length : Int)) = true) (hk : k < n) : ix (firTo c n) (firTo c k).length = (k : Int) ∧ (firTo c k).length < (firTo c n).length := by
  have := firTo_get c h (n - (k + 1))
  rwa [show k + 1 + (n - (k + 1)) = n from by omega] at this
theorem firTo_mono (c : List Int) {k n : Nat} (h : k ≤ n) : (firTo c k).length ≤ (firTo c n).length := by
  induction n with
  | zero => have : k = 0 := by omega
            subst this; exact Nat.le_refl _
  | succ n ih =>
    rcases Nat.lt_or_ge n k with g | g
    · have : k = n + 1 := by omega
      subst this; exact Nat.le_refl _
    · have := ih g
      cases hb : (ix c n == ((firTo c n).length : Int)) with
      | true => rw [firTo_yes hb]; simp; omega
      | false => rw [firTo_no hb]; omega
theorem firTo_mem (c : List Int) : ∀ i j, j < (firTo c i).length → ∃ x : Nat, x < i ∧ ix (firTo c i) j = (x : Int)
  | 0, j, h => by simp [firTo] at h
  | i + 1, j, h => by
    cases hb : (ix c i == ((firTo c i).length : Int)) with
    | false =>
      rw [firTo_no hb] at h ⊢
      obtain ⟨x, h1, h2⟩ := firTo_mem c i j h
      exact ⟨x, by omega, h2⟩
    | true =>
      rw [firTo_yes hb] at h ⊢
      rcases Nat.lt_or_ge j (firTo c i).length with g | g
      · obtain ⟨x, h1, h2⟩ := firTo_mem c i j g
        exact ⟨x, by omega, by rw [ix_append_left g]; exact h2⟩
      · have : j = (firTo c i).length := by simp at h; omega
        subst this
        exact ⟨i, by omega, ix_append_one _ _⟩
theorem firTo_num (l : List Int) : ∀ i, i ≤ l.length → (firTo (numL l) i).length = (seenTo l i).length
  | 0, _ => rfl
  | i + 1, h => by
    have ih := firTo_num l i (by omega)
    have hi := ix_numL l i (by omega)
    cases hb : hasB (seenTo l i) (ix l i) with
    | true =>
      have h1 : numF l i < ((seenTo l i).length : Int) := by
        rw [numF_old hb]
        rcases indexOf_spec (seenTo l i) (ix l i) with ⟨h1, _⟩ | ⟨j, h1, h2, _⟩
        · rw [h1]; omega
        · rw [h2]; omega
      have h2 : (ix (numL l) i == ((firTo (numL l) i).length : Int)) = false := by
        rw [hi, ih]; simp; omega
      rw [firTo_no h2, seenTo_old hb, ih]
    | false =>
      have h2 : (ix (numL l) i == ((firTo (numL l) i).length : Int)) = true := by
        rw [hi, ih, numF_new hb]; simp
      rw [firTo_yes h2, seenTo_new hb]; simp [ih]
theorem num_le (l : List Int) {i : Nat} (h : i < l.length) : ix (numL l) i ≤ ((firTo (numL l) i).length : Int) := by
  rw [ix_numL l i h, firTo_num l i (by omega)]
  cases hb : hasB (seenTo l i) (ix l i) with
  | true =>
    rw [numF_old hb]
    rcases indexOf_spec (seenTo l i) (ix l i) with ⟨h1, _⟩ | ⟨j, h1, h2, _⟩
    · rw [h1]; omega
    · rw [h2]; omega
  | false => rw [numF_new hb]; exact Int.le_refl _

/-- the table of a quotient by classes -/
@[irreducible] def quoN (t : List (List Int)) (c : List Int) : Nat := (firTo c t.length).length
@[irreducible] def quoF (t : List (List Int)) (c : List Int) (i j : Nat) : Int := ix c (ent t (ix (firTo c t.length) i).toNat (ix (firTo c t.length) j).toNat).toNat
theorem quoN_def (t c) : (firTo c t.length).length = quoN t c := by unfold quoN; rfl
theorem quoF_def (t : List (List Int)) (c : List Int) (i j x y : Nat) (h1 : ix (firTo c t.length) i = (x : Int)) (h2 : ix (firTo c t.length) j = (y : Int)) : quoF t c i j = ix c (ent t x y).toNat := by unfold quoF; rw [h1, h2, Int.toNat_natCast, Int.toNat_natCast]
@[irreducible] def quoT (t : List (List Int)) (c : List Int) : List (List Int) := mkT (quoN t c) (quoF t c)
theorem quoT_def (t c) : mkT (quoN t c) (quoF t c) = quoT t c := by unfold quoT; rfl
theorem quoN_le (t c) : quoN t c ≤ t.length := by rw [← quoN_def]; exact firTo_len _ _
theorem quoN_at {t : List (List Int)} {c : List Int} {k : Nat} (hk : k < t.length) (h : (ix c k == ((firTo c k).length : Int)) = true) : (firTo c k).length < quoN t c := by
  rw [← quoN_def]; exact (firTo_at h hk).2
theorem quoN_mono {t : List (List Int)} {c : List Int} {k : Nat} (hk : k ≤ t.length) : (firTo c k).length ≤ quoN t c := by rw [← quoN_def]; exact firTo_mono c hk
theorem quoF_at {t : List (List Int)} {c : List Int} {k j : Nat} (hk : k < t.length) (hj : j < t.length) (h : (ix c k == ((firTo c k).length : Int)) = true) (g : (ix c j == ((firTo c j).length : Int)) = true) : quoF t c (firTo c k).length (firTo c j).length = ix c (ent t k j).toNat :=
  quoF_def _ _ _ _ _ _ (firTo_at h hk).1 (firTo_at g hj).1

/-- the least product of x with members -/
@[irreducible] def cosG (t : List (List Int)) (x : Nat) (e : List Int) : Int := e.foldl (fun a y => min a (ent t x y.toNat)) (x : Int)
theorem cosG_nil (t x) : cosG t x [] = (x : Int) := by unfold cosG; rfl
theorem cosG_add (t : List (List Int)) (x : Nat) (e : List Int) (y : Int) : cosG t x (e ++ [y]) = min (cosG t x e) (ent t x y.toNat) := by unfold cosG; simp
@[irreducible] def cosF (t : List (List Int)) (m x : Nat) : Int := cosG t x (elemsL m)
theorem cosF_def (t m x) : cosG t x (elemsL m) = cosF t m x := by unfold cosF; rfl
@[irreducible] def coL (t : List (List Int)) (m : Nat) : List Int := mkL t.length (cosF t m)
theorem length_coL (t m) : (coL t m).length = t.length := by unfold coL; exact length_mkL _ _
theorem ix_coL (t : List (List Int)) (m i : Nat) (h : i < t.length) : ix (coL t m) i = cosF t m i := by unfold coL; exact ix_mkL _ _ _ h
@[irreducible] def cosL (t : List (List Int)) (m : Nat) : List Int := numL (coL t m)
theorem cosL_def (t m) : numL (coL t m) = cosL t m := by unfold cosL; rfl
theorem length_cosL (t m) : (cosL t m).length = t.length := by rw [← cosL_def, length_numL, length_coL]
theorem cosL_le (t : List (List Int)) (m : Nat) {i : Nat} (h : i < t.length) : ix (cosL t m) i ≤ ((firTo (cosL t m) i).length : Int) := by
  rw [← cosL_def]; exact num_le _ (by rw [length_coL]; exact h)

/-- the code of QuotientGroup; its table -/
@[irreducible] def quoC (t : List (List Int)) (a : Int) : Int := if subC t a = 0 then (if normV t a = true then 0 else 5) else subC t a
@[irreducible] def quoV (t : List (List Int)) (a : Int) : List (List Int) := if quoC t a = 0 then quoT t (cosL t a.toNat) else []
theorem quo_bad {t a} (h : subC t a ≠ 0) : quoC t a = subC t a ∧ quoV t a = [] := by
  have h1 : quoC t a = subC t a := by unfold quoC; rw [if_neg h]
  exact ⟨h1, by unfold quoV; rw [if_neg (by rw [h1]; exact h)]⟩
theorem quo_no {t} {m : Nat} (h : subC t m = 0) (h2 : normB t m = false) : quoC t m = 5 ∧ quoV t m = [] := by
  have h1 : quoC t m = 5 := by unfold quoC; rw [if_pos h, if_neg (by rw [normV_good h, h2]; simp)]
  exact ⟨h1, by unfold quoV; rw [if_neg (by rw [h1]; decide)]⟩
theorem quo_yes {t} {m : Nat} (h : subC t m = 0) (h2 : normB t m = true) : quoC t m = 0 ∧ quoV t m = quoT t (cosL t m) := by
  have h1 : quoC t m = 0 := by unfold quoC; rw [if_pos h, if_pos (by rw [normV_good h, h2])]
  exact ⟨h1, by unfold quoV; rw [if_pos h1, Int.toNat_natCast]⟩
end Go.Proofs.Ytbfhecckapgpnaa

/-
  The quotient of a group by a normal subgroup is a group, with as many elements as the index: plain.
-/
namespace Go.Proofs.Ytbfhecckapgpnaa
set_option linter.unusedVariables false
set_option linter.unusedSimpArgs false

/-- the table of a multiplication on the numbers below n -/
theorem group_made {n : Nat} {f : Nat → Nat → Int} {g : Nat → Nat → Nat} (h1 : 1 ≤ n) (h2 : n ≤ 12) (hf : ∀ x, x < n → ∀ y, y < n → f x y = ((g x y : Nat) : Int)) (hb : ∀ x, x < n → ∀ y, y < n → g x y < n)
    (ha : ∀ x, x < n → ∀ y, y < n → ∀ z, z < n → g (g x y) z = g x (g y z)) (hl : ∀ x, x < n → g 0 x = x) (hr : ∀ x, x < n → g x 0 = x) (hi : ∀ x, x < n → ∀ y, y < n → ∀ z, z < n → g x y = g x z → y = z) : GroupOk (mkT n f) := by
  have e : ∀ x, x < n → ∀ y, y < n → ent (mkT n f) x y = ((g x y : Nat) : Int) := fun x hx y hy => by rw [ent_mkT _ _ _ _ hx hy, hf x hx y hy]
  have rl : ∀ x, x < n → (row (mkT n f) x).length = n := fun x hx => by rw [row_mkT _ _ _ hx]; exact length_partRow _ _ _ _
  have er : ∀ x y, ent (mkT n f) x y = ix (row (mkT n f) x) y := fun x y => by unfold ent; rfl
  unfold GroupOk TableOk
  rw [length_mkT]
  refine ⟨⟨h1, h2, fun x hx => ⟨rl x hx, fun y hy => ?_⟩⟩, fun x hx => ⟨?_, ?_⟩, fun x hx => ⟨⟨?_, ?_⟩, fun y hy z hz => ?_⟩⟩
  · rw [e x hx y hy]
    have := hb x hx y hy
    omega
  · rw [rl x hx]
    intro y hy
    rw [rl x hx, ← er, e x hx y hy]
    have := hb x hx y hy
    omega
  · rw [rl x hx]
    intro y hy z hz h
    rw [← er, ← er, e x hx y hy, e x hx z (by omega)] at h
    have := hi x hx y hy z (by omega) (by omega)
    omega
  · rw [e 0 (by omega) x hx, hl x hx]
  · rw [e x hx 0 (by omega), hr x hx]
  · rw [e x hx y hy, e y hy z hz, Int.toNat_natCast, Int.toNat_natCast, e _ (hb x hx y hy) z hz, e x hx _ (hb y hy z hz), ha x hx y hy z hz]
/-- a closed set that has 0 has the inverses -/
theorem sub_inv {t : List (List Int)} {mask : Nat} (hG : GroupOk t) (hm : mask < 2 ^ t.length) (hs : subB t mask = true) : bitB mask 0 = true ∧ (∀ x, x < t.length → ∀ y, y < t.length → bitB mask x = true → bitB mask y = true → bitB mask (mulN t x y) = true) ∧ ∀ x, x < t.length → bitB mask x = true → bitB mask (backF t x).toNat = true := by
  have h12 := hG.1.2.1
  rw [subB_def, Bool.and_eq_true] at hs
  obtain ⟨h0, hc⟩ := hs
  have hc := closedB_iff.1 hc
  have hmul : ∀ x, x < t.length → ∀ y, y < t.length → bitB mask x = true → bitB mask y = true → bitB mask (mulN t x y) = true := fun x hx y hy bx bY => hc x hx y hy bx bY
  refine ⟨h0, hmul, fun x hx bx => ?_⟩
  have hg := grp_of hG
  have hpw : ∀ k, bitB mask (pw t x k).toNat = true := fun k => by
    induction k with
    | zero => simpa [pw] using bx
    | succ k ih =>
      have h1 := pw_lt hG.1 hx k
      have := pw_mul hG hx k 0
      have h2 := hmul _ h1 _ (pw_lt hG.1 hx 0) ih (by simpa [pw] using bx)
      unfold mulN at h2
      rw [this] at h2
      exact h2
  obtain ⟨d, hd, hz⟩ := pw_zero hG hx
  cases d with
  | zero =>
    have hx0 : x = 0 := by simp only [pw] at hz; omega
    subst hx0
    have : (backF t 0).toNat = 0 := ((hg.v_uniq hx hx (hg.ul 0 hx))).symm
    rw [this]
    exact h0
  | succ d =>
    have h1 := pw_mul hG hx 0 d
    have h2 : mulN t x (pw t x d).toNat = 0 := by
      unfold mulN
      rw [Nat.zero_add] at h1
      have : (pw t x 0).toNat = x := by simp [pw]
      rw [this, hz] at h1
      rw [h1]; rfl
    rw [← hg.v_uniq hx (pw_lt hG.1 hx d) h2]
    exact hpw d
/-- the least of a list of numbers -/
theorem foldl_min (f : Int → Int) : ∀ (l : List Int) (a : Int), (l.foldl (fun a y => min a (f y)) a ≤ a ∧ ∀ y, y ∈ l → l.foldl (fun a y => min a (f y)) a ≤ f y) ∧ (l.foldl (fun a y => min a (f y)) a = a ∨ ∃ y, y ∈ l ∧ l.foldl (fun a y => min a (f y)) a = f y)
  | [], a => ⟨⟨Int.le_refl _, fun y hy => by simp at hy⟩, .inl rfl⟩
  | z :: l, a => by
    obtain ⟨⟨h1, h2⟩, h3⟩ := foldl_min f l (min a (f z))
    simp only [List.foldl_cons]
    refine ⟨⟨by omega, fun y hy => ?_⟩, ?_⟩
    · rcases List.mem_cons.1 hy with rfl | hy
      · omega
      · exact h2 y hy
    · rcases h3 with e | ⟨y, hy, e⟩
      · rw [e]
        rcases Int.min_def a (f z) ▸ (by omega : (min a (f z) = a ∨ min a (f z) = f z)) with e2 | e2
        · exact .inl e2
        · exact .inr ⟨z, by simp, e2⟩
      · exact .inr ⟨y, by simp [hy], e⟩
section
variable {t : List (List Int)} {mask : Nat} (hG : GroupOk t) (hm : mask < 2 ^ t.length) (hs : subB t mask = true)
include hG hm hs
/-- the label of a coset -/
theorem cosF_spec {x : Nat} (hx : x < t.length) : (∃ y, y < t.length ∧ bitB mask y = true ∧ cosF t mask x = ((mulN t x y : Nat) : Int)) ∧ ∀ y, y < t.length → bitB mask y = true → cosF t mask x ≤ ((mulN t x y : Nat) : Int) := by
  have h12 := hG.1.2.1
  have hg := grp_of hG
  obtain ⟨h0, -, -⟩ := sub_inv hG hm hs
  have hc : ∀ y : Nat, y < t.length → ent t x y = ((mulN t x y : Nat) : Int) := fun y hy => by
    have := hG.1.bd (x := x) (y := y) hx hy
    unfold mulN; omega
  obtain ⟨⟨h1, h2⟩, h3⟩ := foldl_min (fun y => ent t x y.toNat) (elemsL mask) (x : Int)
  have hco : cosF t mask x = (elemsL mask).foldl (fun a y => min a (ent t x y.toNat)) (x : Int) := by rw [← cosF_def]; unfold cosG; rfl
  rw [← hco] at h1 h2 h3
  refine ⟨?_, fun y hy hb => ?_⟩
  · rcases h3 with e | ⟨y, hy, e⟩
    · exact ⟨0, by omega, h0, by rw [e, hg.ur x hx]⟩
    · obtain ⟨i, hi, rfl⟩ := mem_ix hy
      obtain ⟨z, hz, hb, ez⟩ := elemsL_get hm (by omega) hi
      rw [ez, Int.toNat_natCast] at e
      exact ⟨z, hz, hb, by rw [e, hc z hz]⟩
  · obtain ⟨i, hi, e⟩ := elemsL_has hm (by omega) hb
    have := h2 _ (ix_mem _ _ hi)
    rw [e, Int.toNat_natCast, hc y hy] at this
    exact this
/-- labels are equal exactly for elements of one coset -/
theorem cosF_eq {x y : Nat} (hx : x < t.length) (hy : y < t.length) : cosF t mask x = cosF t mask y ↔ ∃ s, s < t.length ∧ bitB mask s = true ∧ y = mulN t x s := by
  have hg := grp_of hG
  obtain ⟨h0, hmul, hinv⟩ := sub_inv hG hm hs
  constructor
  · intro e
    obtain ⟨a, ha, ba, ea⟩ := (cosF_spec hG hm hs hx).1
    obtain ⟨b, hb, bb, eb⟩ := (cosF_spec hG hm hs hy).1
    have hvb := hg.vb b hb
    refine ⟨mulN t a (backF t b).toNat, hg.bd a ha _ hvb, hmul a ha _ hvb ba (hinv b hb bb), ?_⟩
    have e2 : mulN t x a = mulN t y b := by rw [ea, eb] at e; omega
    rw [← hg.assoc x hx a ha _ hvb, e2, hg.assoc y hy b hb _ hvb, hg.vr b hb, hg.ur y hy]
  · rintro ⟨s, hs1, bs, rfl⟩
    have key : ∀ x, x < t.length → ∀ s, s < t.length → bitB mask s = true → cosF t mask x ≤ cosF t mask (mulN t x s) := fun x hx s hs1 bs => by
      obtain ⟨b, hb, bb, eb⟩ := (cosF_spec hG hm hs (hg.bd x hx s hs1)).1
      rw [eb, hg.assoc x hx s hs1 b hb]
      exact (cosF_spec hG hm hs hx).2 _ (hg.bd s hs1 b hb) (hmul s hs1 b hb bs bb)
    have h1 := key x hx s hs1 bs
    have h2 := key _ hy _ (hg.vb s hs1) (hinv s hs1 bs)
    rw [hg.assoc x hx s hs1 _ (hg.vb s hs1), hg.vr s hs1, hg.ur x hx] at h2
    omega
end
/-- the number of a coset -/
def clsN (t : List (List Int)) (mask x : Nat) : Nat := (ix (cosL t mask) x).toNat
theorem firTo_lab (c : List Int) : ∀ i j, j < (firTo c i).length → ∃ x : Nat, x < i ∧ ix (firTo c i) j = (x : Int) ∧ ix c x = (j : Int)
  | 0, j, h => by simp [firTo] at h
  | i + 1, j, h => by
    cases hb : (ix c i == ((firTo c i).length : Int)) with
    | false =>
      rw [firTo_no hb] at h ⊢
      obtain ⟨x, h1, h2, h3⟩ := firTo_lab c i j h
      exact ⟨x, by omega, h2, h3⟩
    | true =>
      rw [firTo_yes hb] at h ⊢
      rcases Nat.lt_or_ge j (firTo c i).length with g | g
      · obtain ⟨x, h1, h2, h3⟩ := firTo_lab c i j g
        exact ⟨x, by omega, by rw [ix_append_left g]; exact h2, h3⟩
      · have : j = (firTo c i).length := by simp at h; omega
        subst this
        exact ⟨i, by omega, ix_append_one _ _, eq_of_beq hb⟩
/-- the first element with a number -/
def repN (t : List (List Int)) (mask i : Nat) : Nat := (ix (firTo (cosL t mask) t.length) i).toNat
theorem rep_ok {t : List (List Int)} {mask i : Nat} (hi : i < quoN t (cosL t mask)) : repN t mask i < t.length ∧ ix (firTo (cosL t mask) t.length) i = (repN t mask i : Int) ∧ clsN t mask (repN t mask i) = i := by
  rw [← quoN_def] at hi
  obtain ⟨x, h1, h2, h3⟩ := firTo_lab _ _ _ hi
  have : repN t mask i = x := by unfold repN; rw [h2, Int.toNat_natCast]
  rw [this]
  exact ⟨h1, h2, by unfold clsN; rw [h3, Int.toNat_natCast]⟩
theorem cls_bd {t : List (List Int)} {mask x : Nat} (hx : x < t.length) : clsN t mask x < quoN t (cosL t mask) ∧ ix (cosL t mask) x = (clsN t mask x : Int) := by
  have hl : x < (coL t mask).length := by rw [length_coL]; exact hx
  have hb := numF_bd (coL t mask) x
  have e : ix (cosL t mask) x = numF (coL t mask) x := by rw [← cosL_def, ix_numL _ _ hl]
  have hq : quoN t (cosL t mask) = (seenTo (coL t mask) t.length).length := by
    rw [← quoN_def, ← cosL_def, firTo_num _ _ (by rw [length_coL]; exact Nat.le_refl _)]
  have hn := numF_end (coL t mask) hx
  unfold clsN
  rw [e, hq]
  rcases indexOf_spec (seenTo (coL t mask) t.length) (ix (coL t mask) x) with ⟨h1, _⟩ | ⟨j, h1, h2, _⟩
  · rw [hn] at h1; omega
  · rw [hn] at h2; rw [h2]; simpa using h1
theorem cls_eq {t : List (List Int)} {mask x y : Nat} (hx : x < t.length) (hy : y < t.length) : clsN t mask x = clsN t mask y ↔ cosF t mask x = cosF t mask y := by
  have hlx : x < (coL t mask).length := by rw [length_coL]; exact hx
  have hly : y < (coL t mask).length := by rw [length_coL]; exact hy
  have ex : ix (cosL t mask) x = numF (coL t mask) x := by rw [← cosL_def, ix_numL _ _ hlx]
  have ey : ix (cosL t mask) y = numF (coL t mask) y := by rw [← cosL_def, ix_numL _ _ hly]
  have nx := numF_end (coL t mask) hx
  have ny := numF_end (coL t mask) hy
  rw [← ix_coL t mask x hx, ← ix_coL t mask y hy]
  constructor
  · intro h
    have h1 := (cls_bd (mask := mask) hx).2
    have h2 := (cls_bd (mask := mask) hy).2
    rw [h, ← h2, ex, ey, ← nx, ← ny] at h1
    have bx := numF_bd (coL t mask) x
    rcases indexOf_spec (seenTo (coL t mask) t.length) (ix (coL t mask) x) with ⟨g1, _⟩ | ⟨j, g1, g2, g3, _⟩
    · rw [nx] at g1; omega
    · rcases indexOf_spec (seenTo (coL t mask) t.length) (ix (coL t mask) y) with ⟨k1, _⟩ | ⟨k, k1, k2, k3, _⟩
      · rw [h1] at g2; rw [g2] at k1; omega
      · rw [h1, k2] at g2
        have : k = j := by omega
        subst this
        rw [← g3, ← k3]
  · intro h
    unfold clsN
    rw [ex, ey, ← nx, ← ny, h]
theorem cls_zero {t : List (List Int)} {mask : Nat} (hG : GroupOk t) (hm : mask < 2 ^ t.length) (hs : subB t mask = true) : clsN t mask 0 = 0 := by
  have h0 : 0 < t.length := hG.1.1
  have hl : 0 < (coL t mask).length := by rw [length_coL]; exact h0
  have := numF_bd (coL t mask) 0
  unfold clsN
  rw [← cosL_def, ix_numL _ _ hl]
  omega
theorem quo_pos {t : List (List Int)} {mask : Nat} (hG : GroupOk t) (hm : mask < 2 ^ t.length) (hs : subB t mask = true) : 1 ≤ quoN t (cosL t mask) := by
  have := (cls_bd (t := t) (mask := mask) (x := 0) hG.1.1).1
  omega
section
variable {t : List (List Int)} {mask : Nat} (hG : GroupOk t) (hm : mask < 2 ^ t.length) (hs : subB t mask = true)
include hG hm hs
theorem cls_rel {x y : Nat} (hx : x < t.length) (hy : y < t.length) : clsN t mask x = clsN t mask y ↔ ∃ s, s < t.length ∧ bitB mask s = true ∧ y = mulN t x s := by
  rw [cls_eq hx hy, cosF_eq hG hm hs hx hy]
/-- as many elements as cosets times as many as are in the subgroup -/
theorem quo_count : quoN t (cosL t mask) * ((List.range t.length).filter fun x => bitB mask x).length = t.length := by
  have hg := grp_of hG
  have hS : ∀ x, x ∈ ((List.range t.length).filter fun x => bitB mask x) → x < t.length ∧ bitB mask x = true := fun x hx => by
    obtain ⟨h1, h2⟩ := List.mem_filter.1 hx
    exact ⟨List.mem_range.1 h1, h2⟩
  have hSn : ((List.range t.length).filter fun x => bitB mask x).Nodup := List.nodup_range.filter _
  obtain ⟨S, hSe⟩ : ∃ S, S = (List.range t.length).filter fun x => bitB mask x := ⟨_, rfl⟩
  rw [← hSe] at hS hSn ⊢
  have hSm : ∀ x, x < t.length → bitB mask x = true → x ∈ S := fun x hx hb => by rw [hSe, List.mem_filter, List.mem_range]; exact ⟨hx, hb⟩
  clear hSe
  have hlen : ∀ k, k ≤ quoN t (cosL t mask) → ((List.range k).flatMap fun i => S.map (mulN t (repN t mask i))).length = k * S.length := fun k => by
    induction k with
    | zero => intro _; simp
    | succ k ih =>
      intro hk
      rw [List.range_succ, List.flatMap_append, List.length_append, ih (by omega)]
      simp [Nat.succ_mul]
  have hcls : ∀ i, i < quoN t (cosL t mask) → ∀ s, s ∈ S → clsN t mask (mulN t (repN t mask i) s) = i := fun i hi s hs' => by
    obtain ⟨r1, -, r3⟩ := rep_ok hi
    obtain ⟨s1, s2⟩ := hS s hs'
    have := (cls_rel hG hm hs r1 (hg.bd _ r1 s s1)).2 ⟨s, s1, s2, rfl⟩
    rw [← this, r3]
  have hnd : ∀ k, k ≤ quoN t (cosL t mask) → ((List.range k).flatMap fun i => S.map (mulN t (repN t mask i))).Nodup := fun k => by
    induction k with
    | zero => intro _; simp
    | succ k ih =>
      intro hk
      rw [List.range_succ, List.flatMap_append]
      refine List.nodup_append.2 ⟨ih (by omega), ?_, fun a ha b hb e => ?_⟩
      · simp only [List.flatMap_cons, List.flatMap_nil, List.append_nil]
        obtain ⟨r1, -, -⟩ := rep_ok (t := t) (mask := mask) (i := k) (by omega)
        exact nodup_map_on hSn fun x hx y hy e => hg.inj_l r1 (hS x hx).1 (hS y hy).1 e
      · subst e
        simp only [List.flatMap_cons, List.flatMap_nil, List.append_nil] at hb
        obtain ⟨i, hi, ha⟩ := List.mem_flatMap.1 ha
        have hi := List.mem_range.1 hi
        obtain ⟨s, hs1, rfl⟩ := List.mem_map.1 ha
        obtain ⟨s', hs2, e⟩ := List.mem_map.1 hb
        have e1 := hcls i (by omega) s hs1
        have e2 := hcls k (by omega) s' hs2
        rw [e, e1] at e2
        omega
  have h1 := hlen _ (Nat.le_refl _)
  have h2 := nodup_le ((List.range (quoN t (cosL t mask))).flatMap fun i => S.map (mulN t (repN t mask i))) (List.range t.length) (hnd _ (Nat.le_refl _)) fun x hx => by
    obtain ⟨i, hi, hx⟩ := List.mem_flatMap.1 hx
    obtain ⟨s, hs1, rfl⟩ := List.mem_map.1 hx
    exact List.mem_range.2 (hg.bd _ (rep_ok (List.mem_range.1 hi)).1 s (hS s hs1).1)
  have h3 := nodup_le (List.range t.length) ((List.range (quoN t (cosL t mask))).flatMap fun i => S.map (mulN t (repN t mask i))) List.nodup_range fun x hx => by
    have hx := List.mem_range.1 hx
    have hc := (cls_bd (mask := mask) hx).1
    obtain ⟨r1, -, r3⟩ := rep_ok hc
    obtain ⟨s, s1, s2, s3⟩ := (cls_rel hG hm hs r1 hx).1 r3
    exact List.mem_flatMap.2 ⟨_, List.mem_range.2 hc, List.mem_map.2 ⟨s, hSm s s1 s2, s3.symm⟩⟩
  rw [List.length_range] at h2 h3
  rw [h1] at h2 h3
  omega
/-- the quotient by a normal subgroup -/
theorem quo_group (hn : normB t mask = true) : GroupOk (quoT t (cosL t mask)) ∧ (quoT t (cosL t mask)).length = quoN t (cosL t mask) := by
  have hg := grp_of hG
  obtain ⟨h0, hmul, hinv⟩ := sub_inv hG hm hs
  have hnorm : ∀ x, x < t.length → ∀ y, y < t.length → bitB mask y = true → bitB mask (mulN t (mulN t x y) (backF t x).toNat) = true := fun x hx y hy hb => by
    have := normB_iff.1 hn x hx y hy hb
    rw [← conjF_def] at this
    exact this
  have hq12 : quoN t (cosL t mask) ≤ 12 := Nat.le_trans (quoN_le _ _) hG.1.2.1
  have hR : ∀ i, i < quoN t (cosL t mask) → repN t mask i < t.length := fun i hi => (rep_ok hi).1
  have hC : ∀ i, i < quoN t (cosL t mask) → clsN t mask (repN t mask i) = i := fun i hi => (rep_ok hi).2.2
  -- the number of a product follows from the numbers
  have hom : ∀ x, x < t.length → ∀ y, y < t.length → clsN t mask (mulN t (repN t mask (clsN t mask x)) (repN t mask (clsN t mask y))) = clsN t mask (mulN t x y) := fun x hx y hy => by
    obtain ⟨cx, -⟩ := cls_bd (mask := mask) hx
    obtain ⟨cy, -⟩ := cls_bd (mask := mask) hy
    have rx := hR _ cx
    have ry := hR _ cy
    obtain ⟨a, a1, a2, a3⟩ := (cls_rel hG hm hs rx hx).1 (hC _ cx)
    obtain ⟨b, b1, b2, b3⟩ := (cls_rel hG hm hs ry hy).1 (hC _ cy)
    obtain ⟨X, hX⟩ : ∃ X, X = repN t mask (clsN t mask x) := ⟨_, rfl⟩
    obtain ⟨Y, hY⟩ : ∃ Y, Y = repN t mask (clsN t mask y) := ⟨_, rfl⟩
    rw [← hX] at rx a3 ⊢
    rw [← hY] at ry b3 ⊢
    -- x y = X a Y b = X Y (v Y a Y) b
    have vY := hg.vb Y ry
    have nb := hnorm _ vY a a1 a2
    have hvv : (backF t (backF t Y).toNat).toNat = Y := hg.v_v ry
    rw [hvv] at nb
    have ca := hg.bd _ (hg.bd _ vY a a1) Y ry
    refine (cls_rel hG hm hs (hg.bd X rx Y ry) (hg.bd x hx y hy)).2 ⟨mulN t (mulN t (mulN t (backF t Y).toNat a) Y) b, hg.bd _ ca b b1, hmul _ ca b b1 nb b2, ?_⟩
    rw [a3, b3]
    rw [hg.assoc X rx Y ry _ (hg.bd _ ca b b1), ← hg.assoc Y ry _ ca b b1, ← hg.assoc Y ry _ (hg.bd _ vY a a1) Y ry, ← hg.assoc Y ry _ vY a a1, hg.vr Y ry, hg.ul a a1, hg.assoc X rx a a1 _ (hg.bd Y ry b b1), hg.assoc a a1 Y ry b b1]
  have hl : (quoT t (cosL t mask)).length = quoN t (cosL t mask) := by rw [← quoT_def, length_mkT]
  refine ⟨?_, hl⟩
  rw [← quoT_def]
  refine group_made (g := fun i j => clsN t mask (mulN t (repN t mask i) (repN t mask j))) (quo_pos hG hm hs) hq12 (fun i hi j hj => ?_) (fun i hi j hj => ?_) (fun i hi j hj k hk => ?_) (fun i hi => ?_) (fun i hi => ?_) (fun i hi j hj k hk e => ?_)
  · rw [quoF_def _ _ _ _ _ _ (rep_ok hi).2.1 (rep_ok hj).2.1]
    exact (cls_bd (mask := mask) (hg.bd _ (hR i hi) _ (hR j hj))).2
  · exact (cls_bd (hg.bd _ (hR i hi) _ (hR j hj))).1
  · have e1 := hom _ (hg.bd _ (hR i hi) _ (hR j hj)) _ (hR k hk)
    have e2 := hom _ (hR i hi) _ (hg.bd _ (hR j hj) _ (hR k hk))
    rw [hC k hk] at e1
    rw [hC i hi] at e2
    show clsN t mask (mulN t (repN t mask (clsN t mask (mulN t (repN t mask i) (repN t mask j)))) (repN t mask k)) = clsN t mask (mulN t (repN t mask i) (repN t mask (clsN t mask (mulN t (repN t mask j) (repN t mask k)))))
    rw [e1, e2, hg.assoc _ (hR i hi) _ (hR j hj) _ (hR k hk)]
  · have e1 := hom 0 hG.1.1 _ (hR i hi)
    rw [cls_zero hG hm hs, hC i hi, hg.ul _ (hR i hi), hC i hi] at e1
    exact e1
  · have e1 := hom _ (hR i hi) 0 hG.1.1
    rw [cls_zero hG hm hs, hC i hi, hg.ur _ (hR i hi), hC i hi] at e1
    exact e1
  · have e : clsN t mask (mulN t (repN t mask i) (repN t mask j)) = clsN t mask (mulN t (repN t mask i) (repN t mask k)) := e
    obtain ⟨s, s1, s2, s3⟩ := (cls_rel hG hm hs (hg.bd _ (hR i hi) _ (hR j hj)) (hg.bd _ (hR i hi) _ (hR k hk))).1 e
    rw [hg.assoc _ (hR i hi) _ (hR j hj) s s1] at s3
    have s4 := hg.inj_l (hR i hi) (hR k hk) (hg.bd _ (hR j hj) s s1) s3
    have := (cls_rel hG hm hs (hR j hj) (hR k hk)).2 ⟨s, s1, s2, s4⟩
    rw [hC j hj, hC k hk] at this
    exact this
end
end Go.Proofs.Ytbfhecckapgpnaa

/-
  What FnGroupTables says of a group: plain.
-/
namespace Go.Proofs.Ytbfhecckapgpnaa
set_option linter.unusedVariables false
set_option linter.unusedSimpArgs false

section
variable {t : List (List Int)} (hG : GroupOk t)
include hG
theorem pw_in {S : List Nat} (hb : ∀ x, x ∈ S → x < t.length) (hm : ∀ x, x ∈ S → ∀ y, y ∈ S → mulN t x y ∈ S) {x : Nat} (hx : x ∈ S) : ∀ k, (pw t x k).toNat ∈ S
  | 0 => by simpa [pw] using hx
  | k + 1 => by
    have h1 := pw_in hb hm hx k
    have h2 := hm _ h1 x hx
    have := pw_mul hG (hb x hx) k 0
    have e : (pw t x 0).toNat = x := by simp [pw]
    rw [e, Nat.add_zero] at this
    unfold mulN at h2
    rw [this] at h2
    exact h2
theorem inv_pw {x : Nat} (hx : x < t.length) : (x = 0 ∧ (backF t x).toNat = 0) ∨ ∃ d, (backF t x).toNat = (pw t x d).toNat := by
  have hg := grp_of hG
  obtain ⟨d, hd, hz⟩ := pw_zero hG hx
  cases d with
  | zero =>
    have hx0 : x = 0 := by simp only [pw] at hz; omega
    subst hx0
    exact .inl ⟨rfl, (hg.v_uniq hx hx (hg.ul 0 hx)).symm⟩
  | succ d =>
    have h1 := pw_mul hG hx 0 d
    have h2 : mulN t x (pw t x d).toNat = 0 := by
      unfold mulN
      rw [Nat.zero_add] at h1
      have : (pw t x 0).toNat = x := by simp [pw]
      rw [this, hz] at h1
      rw [h1]; rfl
    exact .inr ⟨d, (hg.v_uniq hx (pw_lt hG.1 hx d) h2).symm⟩
theorem sub_of_closed {S : List Nat} (hn : S.Nodup) (hb : ∀ x, x ∈ S → x < t.length) (hm : ∀ x, x ∈ S → ∀ y, y ∈ S → mulN t x y ∈ S) : Sub t.length (mulN t) (fun x => (backF t x).toNat) S :=
  ⟨hn, hb, hm, fun x hx => by
    show (backF t x).toNat ∈ S
    rcases inv_pw hG (hb x hx) with ⟨rfl, e⟩ | ⟨d, e⟩
    · rw [e]; exact hx
    · rw [e]; exact pw_in hG hb hm hx d⟩
/-- the order of an element is a divisor -/
theorem ord_div {x : Nat} (hx : x < t.length) : 0 < ordOf t x ∧ (t.length : Int) % ordOf t x = 0 := by
  obtain ⟨d, hd, e, hz, hmin⟩ := ordOf_spec hG hx
  have hlow : ∀ k, (pw t x k).toNat ∈ (List.range (d + 1)).map fun k => (pw t x k).toNat := fun k => by
    induction k using Nat.strongRecOn with
    | _ k ih =>
      by_cases hk : k ≤ d
      · exact List.mem_map.2 ⟨k, List.mem_range.2 (by omega), rfl⟩
      · have h1 := pw_mul hG hx d (k - d - 1)
        rw [hz, show d + (k - d - 1) + 1 = k by omega] at h1
        have h2 : ent t 0 (pw t x (k - d - 1)).toNat = ((pw t x (k - d - 1)).toNat : Int) := grp_unit_l hG (pw_lt hG.1 hx _)
        have h3 : (pw t x k).toNat = (pw t x (k - d - 1)).toNat := by
          rw [← h1]
          show (ent t 0 _).toNat = _
          rw [h2, Int.toNat_natCast]
        rw [h3]
        exact ih _ (by omega)
  have hbd := pw_bd hG.1 hx
  have hS : Sub t.length (mulN t) (fun x => (backF t x).toNat) ((List.range (d + 1)).map fun k => (pw t x k).toNat) := by
    refine sub_of_closed hG (nodup_map_on List.nodup_range fun i hi j hj eij => ?_) (fun y hy => ?_) (fun y hy z hz' => ?_)
    · have hi := List.mem_range.1 hi
      have hj := List.mem_range.1 hj
      have heq : pw t x i = pw t x j := by have := hbd i; have := hbd j; omega
      have key : ∀ i j, i < j → j ≤ d → pw t x i ≠ pw t x j := fun i j hij hjd heq => by
        have h1 := pw_mul hG hx i (j - i - 1)
        rw [show i + (j - i - 1) + 1 = j by omega, ← heq] at h1
        have h2 : ent t (pw t x i).toNat 0 = ((pw t x i).toNat : Int) := grp_unit_r hG (pw_lt hG.1 hx i)
        have h3 : ent t (pw t x i).toNat (pw t x (j - i - 1)).toNat = ent t (pw t x i).toNat 0 := by rw [h1, h2]; have := hbd i; omega
        have := grp_inj hG (pw_lt hG.1 hx i) (pw_lt hG.1 hx _) hG.1.1 h3
        exact hmin (j - i - 1) (by omega) (by have := hbd (j - i - 1); omega)
      rcases Nat.lt_trichotomy i j with g | g | g
      · exact absurd heq (key i j g (by omega))
      · exact g
      · exact absurd heq.symm (key j i g (by omega))
    · obtain ⟨k, -, rfl⟩ := List.mem_map.1 hy
      exact pw_lt hG.1 hx k
    · obtain ⟨i, -, rfl⟩ := List.mem_map.1 hy
      obtain ⟨j, -, rfl⟩ := List.mem_map.1 hz'
      unfold mulN
      rw [pw_mul hG hx i j]
      exact hlow _
  have := sub_divides (grp_of hG) hS (List.ne_nil_of_mem (hlow 0))
  rw [List.length_map, List.length_range] at this
  rw [e]
  refine ⟨by omega, ?_⟩
  obtain ⟨q, hq⟩ := this
  rw [hq]
  have : (((d + 1) * q : Nat) : Int) = ((d : Int) + 1) * (q : Int) := by simp
  rw [this]
  exact Int.mul_emod_right _ _
/-- how many elements a subgroup has -/
theorem elems_card {mask : Nat} (hm : mask < 2 ^ t.length) : (elemsL mask).length = ((List.range t.length).filter fun x => bitB mask x).length := by
  have h12 := hG.1.2.1
  rw [elemsL_eq hm (by omega)]
  unfold elemsTo
  rw [List.length_map]
theorem sub_div {mask : Nat} (hm : mask < 2 ^ t.length) (hs : subB t mask = true) : 0 < (elemsL mask).length ∧ (t.length : Int) % ((elemsL mask).length : Int) = 0 := by
  obtain ⟨h0, hmul, hinv⟩ := sub_inv hG hm hs
  rw [elems_card hG hm]
  have hS : Sub t.length (mulN t) (fun x => (backF t x).toNat) ((List.range t.length).filter fun x => bitB mask x) := by
    refine ⟨List.nodup_range.filter _, fun x hx => List.mem_range.1 (List.mem_filter.1 hx).1, fun x hx y hy => ?_, fun x hx => ?_⟩
    · obtain ⟨x1, x2⟩ := List.mem_filter.1 hx
      obtain ⟨y1, y2⟩ := List.mem_filter.1 hy
      have x1 := List.mem_range.1 x1
      have y1 := List.mem_range.1 y1
      exact List.mem_filter.2 ⟨List.mem_range.2 ((grp_of hG).bd x x1 y y1), hmul x x1 y y1 x2 y2⟩
    · obtain ⟨x1, x2⟩ := List.mem_filter.1 hx
      have x1 := List.mem_range.1 x1
      exact List.mem_filter.2 ⟨List.mem_range.2 ((grp_of hG).vb x x1), hinv x x1 x2⟩
  have hmem : 0 ∈ ((List.range t.length).filter fun x => bitB mask x) := List.mem_filter.2 ⟨List.mem_range.2 hG.1.1, h0⟩
  have := sub_divides (grp_of hG) hS (List.ne_nil_of_mem hmem)
  refine ⟨List.length_pos_of_mem hmem, ?_⟩
  obtain ⟨q, hq⟩ := this
  generalize ((List.range t.length).filter fun x => bitB mask x).length = k at hq ⊢
  rw [hq]
  have : ((k * q : Nat) : Int) = (k : Int) * (q : Int) := by simp
  rw [this]
  exact Int.mul_emod_right _ _
end
/-- the center as a number -/
def cenM (t : List (List Int)) : Nat := natSet (fun x => comB t x t.length) t.length
theorem cen_lt {t : List (List Int)} (hG : GroupOk t) : cenM t < 2 ^ t.length := natSet_lt _ _
section
variable {t : List (List Int)} (hG : GroupOk t)
include hG
theorem center_nat : centerI t = (cenM t : Int) := by
  rw [centerI_def]
  exact setOf_nat _ _ (by have := hG.1.2.1; omega)
theorem cen_bit {x : Nat} (hx : x < t.length) : bitB (cenM t) x = true ↔ ∀ y, y < t.length → mulN t x y = mulN t y x := by
  have h12 := hG.1.2.1
  rw [bitB_test (lt62 h12 (cen_lt hG))]
  unfold cenM
  rw [natSet_bit, decide_eq_true hx, Bool.true_and, comB_iff]
  constructor
  · intro h y hy
    unfold mulN
    rw [h y hy]
  · intro h y hy
    have := h y hy
    have h1 := hG.1.bd (x := x) (y := y) hx hy
    have h2 := hG.1.bd (x := y) (y := x) hy hx
    unfold mulN at this
    omega
theorem cen_sub : subB t (cenM t) = true := by
  have hg := grp_of hG
  have h0 : 0 < t.length := hG.1.1
  rw [subB_1 ((cen_bit hG h0).2 fun y hy => by rw [hg.ul y hy, hg.ur y hy])]
  refine closedB_yes fun x hx y hy bx bY => ?_
  have cx := (cen_bit hG hx).1 bx
  have cy := (cen_bit hG hy).1 bY
  refine (cen_bit hG (hg.bd x hx y hy)).2 fun z hz => ?_
  rw [hg.assoc x hx y hy z hz, cy z hz, ← hg.assoc x hx z hz y hy, cx z hz, hg.assoc z hz x hx y hy]
theorem cen_norm : normB t (cenM t) = true := by
  have hg := grp_of hG
  refine normB_yes fun x hx y hy bY => ?_
  have cy := (cen_bit hG hy).1 bY
  have : (conjF t x y).toNat = y := by
    rw [← conjF_def]
    show mulN t (mulN t x y) (backF t x).toNat = y
    rw [← cy x hx, hg.assoc y hy x hx _ (hg.vb x hx), hg.vr x hx, hg.ur y hy]
  rw [this]
  exact bY
theorem cen_code : subC t (cenM t) = 0 := by
  refine subC_0 (groupB_iff.2 hG) (inR_iff.2 ⟨by omega, ?_⟩) (cen_sub hG)
  have := cen_lt hG
  omega
theorem cen_in : (cenM t : Int) ∈ subsL t := by
  rw [subsL_def, subsTo_mem]
  exact ⟨cenM t, cen_lt hG, cen_sub hG, rfl⟩
/-- the opposite group -/
theorem opp_group : GroupOk (turnT t) := by
  have hg := grp_of hG
  rw [turnT_def]
  refine group_made (g := fun x y => mulN t y x) hG.1.1 hG.1.2.1 (fun x hx y hy => ?_) (fun x hx y hy => hg.bd y hy x hx) (fun x hx y hy z hz => ?_) (fun x hx => hg.ur x hx) (fun x hx => hg.ul x hx) (fun x hx y hy z hz e => hg.inj_r hx hy hz e)
  · rw [turnF_def]
    have := hG.1.bd (x := y) (y := x) hy hx
    unfold mulN; omega
  · exact (hg.assoc z hz y hy x hx).symm
theorem opp_iso : gisoC t (turnT t) = 0 := by
  have hg := grp_of hG
  have hU := opp_group hG
  have hl : (turnT t).length = t.length := length_turnT t
  have hiso : IsoOk t.length [t] [turnT t] (backs t) := by
    have hb : ∀ x, x < t.length → ix (backs t) x = ((backF t x).toNat : Int) := fun x hx => by
      rw [ix_backs t x hx]
      have := backF_ok hG hx
      omega
    refine ⟨length_backs t, ⟨fun i hi => ?_, fun i hi j hj e => ?_⟩, fun k hk x hx y hy => ?_⟩
    · rw [length_backs] at hi ⊢
      rw [hb i hi]
      have := hg.vb i hi
      have : (backF t i).toNat < t.length := this
      omega
    · rw [length_backs] at hi
      rw [hb i hi, hb j (by omega)] at e
      have e1 : (backF t j).toNat = (backF t i).toNat := by omega
      have h1 := hg.v_v (x := i) hi
      have h2 := hg.v_v (x := j) (by omega)
      have e1' : (fun x => (backF t x).toNat) j = (fun x => (backF t x).toNat) i := e1
      have : i = j := by rw [← h1, ← h2]; simp only [e1]
      omega
    · have : k = 0 := by simpa using hk
      subst this
      rw [tab_one, tab_one]
      have h1 := hG.1.bd (x := x) (y := y) hx hy
      have v1 : (backF t x).toNat < t.length := hg.vb x hx
      have v2 : (backF t y).toNat < t.length := hg.vb y hy
      rw [hb x hx, hb y hy, hb _ (by omega), Int.toNat_natCast, Int.toNat_natCast, ent_turnT t _ _ v1 v2]
      have h2 := hG.1.bd (x := (backF t y).toNat) (y := (backF t x).toNat) v2 v1
      have h3 := hg.v_mul hx hy
      have h3 : (backF t (ent t x y).toNat).toNat = (ent t (backF t y).toNat (backF t x).toNat).toNat := h3
      omega
  exact (giso_3 ⟨groupB_iff.2 hG, groupB_iff.2 hU⟩ ((isoF_has hl hG.1.1).2 ⟨_, hiso⟩)).2
/-- conjugation by an element is an automorphism -/
theorem conj_iso {y : Nat} (hy : y < t.length) : row (mkT t.length (conjF t)) y ∈ isoL t.length [t] [t] := by
  have hg := grp_of hG
  have hv := hg.vb y hy
  have hlen : (row (mkT t.length (conjF t)) y).length = t.length := by rw [row_mkT _ _ _ hy]; exact length_partRow _ _ _ _
  have hc : ∀ x, x < t.length → ix (row (mkT t.length (conjF t)) y) x = ((mulN t (mulN t y x) (backF t y).toNat : Nat) : Int) := fun x hx => by
    have : ix (row (mkT t.length (conjF t)) y) x = ent (mkT t.length (conjF t)) y x := by unfold ent; rfl
    rw [this, ent_mkT _ _ _ _ hy hx]
    have := conjF_bd hG hy hx
    rw [← conjF_def] at this ⊢
    show ent t (mulN t y x) _ = _
    have e : (ent t (mulN t y x) (backF t y).toNat).toNat = mulN t (mulN t y x) (backF t y).toNat := rfl
    rw [← e]
    have : 0 ≤ ent t (mulN t y x) (backF t y).toNat := this.1
    omega
  have hb : ∀ x, x < t.length → mulN t (mulN t y x) (backF t y).toNat < t.length := fun x hx => hg.bd _ (hg.bd y hy x hx) _ hv
  rw [mem_isoL]
  refine ⟨hlen, ⟨fun i hi => ?_, fun i hi j hj e => ?_⟩, fun k hk x hx z hz => ?_⟩
  · rw [hlen] at hi ⊢
    rw [hc i hi]
    have := hb i hi
    omega
  · rw [hlen] at hi
    rw [hc i hi, hc j (by omega)] at e
    have e1 : mulN t (mulN t y j) (backF t y).toNat = mulN t (mulN t y i) (backF t y).toNat := by omega
    have e2 := hg.inj_r hv (hg.bd y hy j (by omega)) (hg.bd y hy i hi) e1
    have := hg.inj_l hy (by omega) hi e2
    omega
  · have : k = 0 := by simpa using hk
    subst this
    rw [tab_one]
    have h1 := hG.1.bd (x := x) (y := z) hx hz
    rw [hc x hx, hc z hz, hc _ (by omega), Int.toNat_natCast, Int.toNat_natCast]
    have e : mulN t (mulN t y (mulN t x z)) (backF t y).toNat = mulN t (mulN t (mulN t y x) (backF t y).toNat) (mulN t (mulN t y z) (backF t y).toNat) := by
      have b1 := hg.bd y hy x hx
      have b2 := hg.bd y hy z hz
      rw [hg.assoc _ b1 _ hv _ (hg.bd _ b2 _ hv), ← hg.assoc _ hv _ b2 _ hv, ← hg.assoc _ hv y hy z hz, hg.vl y hy, hg.ul z hz, ← hg.assoc _ b1 z hz _ hv, hg.assoc y hy x hx z hz]
    have h2 := hG.1.bd (x := mulN t (mulN t y x) (backF t y).toNat) (y := mulN t (mulN t y z) (backF t y).toNat) (hb x hx) (hb z hz)
    have e' : mulN t (mulN t y (ent t x z).toNat) (backF t y).toNat = (ent t (mulN t (mulN t y x) (backF t y).toNat) (mulN t (mulN t y z) (backF t y).toNat)).toNat := e
    omega
/-- rows of the conjugation are equal exactly for elements of one coset of the center -/
theorem conj_rows {x y : Nat} (hx : x < t.length) (hy : y < t.length) : row (mkT t.length (conjF t)) x = row (mkT t.length (conjF t)) y ↔ ix (coL t (cenM t)) x = ix (coL t (cenM t)) y := by
  have hg := grp_of hG
  have hlen : ∀ y, y < t.length → (row (mkT t.length (conjF t)) y).length = t.length := fun y hy => by rw [row_mkT _ _ _ hy]; exact length_partRow _ _ _ _
  have hc : ∀ y, y < t.length → ∀ x, x < t.length → ix (row (mkT t.length (conjF t)) y) x = ((mulN t (mulN t y x) (backF t y).toNat : Nat) : Int) := fun y hy x hx => by
    have : ix (row (mkT t.length (conjF t)) y) x = ent (mkT t.length (conjF t)) y x := by unfold ent; rfl
    rw [this, ent_mkT _ _ _ _ hy hx]
    have := conjF_bd hG hy hx
    rw [← conjF_def] at this ⊢
    show ent t (mulN t y x) _ = _
    have e : (ent t (mulN t y x) (backF t y).toNat).toNat = mulN t (mulN t y x) (backF t y).toNat := rfl
    rw [← e]
    have : 0 ≤ ent t (mulN t y x) (backF t y).toNat := this.1
    omega
  rw [ix_coL _ _ _ hx, ix_coL _ _ _ hy, cosF_eq hG (cen_lt hG) (cen_sub hG) hx hy]
  constructor
  · intro h
    refine ⟨mulN t (backF t x).toNat y, hg.bd _ (hg.vb x hx) y hy, ?_, ?_⟩
    · refine (cen_bit hG (hg.bd _ (hg.vb x hx) y hy)).2 fun z hz => ?_
      have e : ix (row (mkT t.length (conjF t)) x) z = ix (row (mkT t.length (conjF t)) y) z := by rw [h]
      rw [hc x hx z hz, hc y hy z hz] at e
      have e : mulN t (mulN t x z) (backF t x).toNat = mulN t (mulN t y z) (backF t y).toNat := by omega
      -- x^-1 y z = z x^-1 y
      have vx : (backF t x).toNat < t.length := hg.vb x hx
      have vy : (backF t y).toNat < t.length := hg.vb y hy
      have e2 : mulN t (mulN t y z) (backF t y).toNat = mulN t (mulN t x z) (backF t x).toNat := e.symm
      have e3 := congrArg (fun a => mulN t (mulN t (backF t x).toNat a) y) e2
      have byz := hg.bd y hy z hz
      have bxz := hg.bd x hx z hz
      rw [hg.assoc _ vx _ (hg.bd _ byz _ vy) y hy, hg.assoc _ byz _ vy y hy, hg.vl y hy, hg.ur _ byz, ← hg.assoc _ vx y hy z hz] at e3
      rw [← hg.assoc _ vx _ bxz _ vx, ← hg.assoc _ vx x hx z hz, hg.vl x hx, hg.ul z hz, hg.assoc z hz _ vx y hy] at e3
      exact e3
    · rw [← hg.assoc x hx _ (hg.vb x hx) y hy, hg.vr x hx, hg.ul y hy]
  · rintro ⟨s, s1, s2, rfl⟩
    have cs := (cen_bit hG s1).1 s2
    refine ix_ext (by rw [hlen x hx, hlen _ hy]) fun z hz => ?_
    rw [hlen x hx] at hz
    rw [hc x hx z hz, hc _ hy z hz]
    have vx : (backF t x).toNat < t.length := hg.vb x hx
    have vs : (backF t s).toNat < t.length := hg.vb s s1
    have ev : (backF t (mulN t x s)).toNat = mulN t (backF t s).toNat (backF t x).toNat := hg.v_mul hx s1
    have e : mulN t (mulN t x z) (backF t x).toNat = mulN t (mulN t (mulN t x s) z) (backF t (mulN t x s)).toNat := by
      rw [ev, hg.assoc x hx s s1 z hz, cs z hz, ← hg.assoc x hx z hz s s1, hg.assoc _ (hg.bd x hx z hz) s s1 _ (hg.bd _ vs _ vx), ← hg.assoc s s1 _ vs _ vx, hg.vr s s1, hg.ul _ vx]
    rw [e]
end
/-- the rows that are not known before, in their order -/
def rowsNew (t : List (List Int)) : Nat → List (List Int)
  | 0 => []
  | k + 1 => if row t k ∈ rowsNew t k then rowsNew t k else rowsNew t k ++ [row t k]
theorem rowsNew_mem (t : List (List Int)) (r : List Int) : ∀ k, r ∈ rowsNew t k ↔ ∃ j, j < k ∧ row t j = r
  | 0 => by simp [rowsNew]
  | k + 1 => by
    have ih := rowsNew_mem t r k
    simp only [rowsNew]
    split
    · rename_i h
      rw [ih]
      constructor
      · rintro ⟨j, hj, e⟩; exact ⟨j, by omega, e⟩
      · rintro ⟨j, hj, e⟩
        by_cases hjk : j = k
        · subst hjk
          rw [e] at h
          exact ih.1 h
        · exact ⟨j, by omega, e⟩
    · rw [List.mem_append, List.mem_singleton, ih]
      constructor
      · rintro (⟨j, hj, e⟩ | e)
        · exact ⟨j, by omega, e⟩
        · exact ⟨k, by omega, e.symm⟩
      · rintro ⟨j, hj, e⟩
        by_cases hjk : j = k
        · subst hjk; exact .inr e.symm
        · exact .inl ⟨j, by omega, e⟩
theorem seenTo_mem (l : List Int) (z : Int) : ∀ k, z ∈ seenTo l k ↔ ∃ j, j < k ∧ ix l j = z
  | 0 => by simp [seenTo]
  | k + 1 => by
    have ih := seenTo_mem l z k
    cases hb : hasB (seenTo l k) (ix l k) with
    | true =>
      rw [seenTo_old hb, ih]
      constructor
      · rintro ⟨j, hj, e⟩; exact ⟨j, by omega, e⟩
      · rintro ⟨j, hj, e⟩
        by_cases hjk : j = k
        · subst hjk
          have := hasB_mem.1 hb
          rw [e] at this
          exact ih.1 this
        · exact ⟨j, by omega, e⟩
    | false =>
      rw [seenTo_new hb, List.mem_append, List.mem_singleton, ih]
      constructor
      · rintro (⟨j, hj, e⟩ | e)
        · exact ⟨j, by omega, e⟩
        · exact ⟨k, by omega, e.symm⟩
      · rintro ⟨j, hj, e⟩
        by_cases hjk : j = k
        · subst hjk; exact .inr e.symm
        · exact .inl ⟨j, by omega, e⟩
theorem rows_seen {t : List (List Int)} {l : List Int} {n : Nat} (h : ∀ i, i < n → ∀ j, j < n → (row t i = row t j ↔ ix l i = ix l j)) : ∀ k, k ≤ n → (rowsNew t k).length = (seenTo l k).length
  | 0, _ => rfl
  | k + 1, hk => by
    have ih := rows_seen h k (by omega)
    have e : row t k ∈ rowsNew t k ↔ ix l k ∈ seenTo l k := by
      rw [rowsNew_mem, seenTo_mem]
      constructor
      · rintro ⟨j, hj, e⟩; exact ⟨j, hj, (h j (by omega) k (by omega)).1 e⟩
      · rintro ⟨j, hj, e⟩; exact ⟨j, hj, (h j (by omega) k (by omega)).2 e⟩
    simp only [rowsNew]
    cases hb : hasB (seenTo l k) (ix l k) with
    | true => rw [seenTo_old hb, if_pos (e.2 (hasB_mem.1 hb)), ih]
    | false =>
      rw [seenTo_new hb, if_neg (fun hm => by rw [hasB_mem.2 (e.1 hm)] at hb; cases hb)]
      simp [ih]
/-- as many inner automorphisms as cosets of the center -/
theorem inner_count {t : List (List Int)} (hG : GroupOk t) : (rowsNew (mkT t.length (conjF t)) t.length).length = quoN t (cosL t (cenM t)) := by
  rw [rows_seen (l := coL t (cenM t)) (n := t.length) (fun i hi j hj => conj_rows hG hi hj) _ (Nat.le_refl _), ← quoN_def, ← cosL_def, firTo_num _ _ (by rw [length_coL]; exact Nat.le_refl _)]
end Go.Proofs.Ytbfhecckapgpnaa
