/-
  Tables that lie apart from what is written; the mapping's steps in memory. No program in sight.
-/
import Derived.Test.YtbfhecckapgpnaaJx0
import Derived.Test.YtbfhecckapgpnaaJx1
import Derived.Test.YtbfhecckapgpnaaJx2
import Derived.Test.YtbfhecckapgpnaaJx8
import Derived.Test.YtbfhecckapgpnaaJx9
import Derived.Test.YtbfhecckapgpnaaJx20
import Derived.Test.YtbfhecckapgpnaaJx7
import Derived.Test.YtbfhecckapgpnaaJx14
import Derived.Test.YtbfhecckapgpnaaJx21
import Derived.Test.YtbfhecckapgpnaaJx10
import Derived.Test.YtbfhecckapgpnaaJx6
import Derived.Test.YtbfhecckapgpnaaJx31
import Derived.Test.YtbfhecckapgpnaaJx5
import Derived.Test.YtbfhecckapgpnaaJx12
import Derived.Test.YtbfhecckapgpnaaJx3
namespace Go.Proofs.Ytbfhecckapgpnaa
set_option linter.unusedVariables false
set_option linter.unusedSimpArgs false
open Go.RowKit
open Go.Deep

/-- the tables ts of n elements lie below base, apart from the block X -/
def TabsIn (base : Nat) (X : Nat → Prop)  (w : World) (b o n : Nat) (ts : List (List (List Int))) : Prop := b < base ∧ ¬ X b ∧ ∀ k, k < ts.length →
  ∃ b1 o1 c1, b1 < base ∧ ¬ X b1 ∧ w.cell? ⟨b, o + k, none⟩ = some (.slice (some ⟨b1, o1, none⟩) n c1) ∧ ∀ x, x < n →
    ∃ b2 o2 c2, b2 < base ∧ ¬ X b2 ∧ w.cell? ⟨b1, o1 + x, none⟩ = some (.slice (some ⟨b2, o2, none⟩) n c2) ∧ ∀ y, y < n → w.cell? ⟨b2, o2 + y, none⟩ = some (.int .i64 (ent (tab ts k) x y))
/-- what lies below base, apart from X, is as it was -/
def KeepB (base : Nat) (X : Nat → Prop)  (w w' : World) : Prop := ∀ k, k < base → ¬ X k → w'.heap[k]? = w.heap[k]?
theorem KeepB.refl (base : Nat) (X : Nat → Prop)  (w : World) : KeepB base X w w := fun _ _ _ => rfl
theorem KeepB.trans {base : Nat} {X : Nat → Prop}  {a b c : World} (h : KeepB base X a b) (k : KeepB base X b c) : KeepB base X a c := fun i h1 h2 => (k i h1 h2).trans (h i h1 h2)
theorem KeepB.cell {base : Nat} {X : Nat → Prop}  {w w' : World} (h : KeepB base X w w') {b o : Nat} {v : Value} (h1 : b < base) (h2 : ¬ X b) (hc : w.cell? ⟨b, o, none⟩ = some v) : w'.cell? ⟨b, o, none⟩ = some v := by
  rw [World.cell?_of_block (w := w) (a := ⟨b, o, none⟩) (h b h1 h2)]; exact hc
theorem TabsIn.keep {base : Nat} {X : Nat → Prop}  {w w' : World} {b o n : Nat} {ts : List (List (List Int))} (h : TabsIn base X w b o n ts) (hk : KeepB base X w w') : TabsIn base X w' b o n ts := by
  obtain ⟨h1, h2, h3⟩ := h
  refine ⟨h1, h2, fun k hkl => ?_⟩
  obtain ⟨b1, o1, c1, g1, g2, g3, g4⟩ := h3 k hkl
  refine ⟨b1, o1, c1, g1, g2, hk.cell h1 h2 g3, fun x hx => ?_⟩
  obtain ⟨b2, o2, c2, k1, k2, k3, k4⟩ := g4 x hx
  exact ⟨b2, o2, c2, k1, k2, hk.cell g1 g2 k3, fun y hy => hk.cell k1 k2 (k4 y hy)⟩

/-- the blocks that the mapping's own steps write -/
def OwnP (M I U : Nat) (sv : Value) (b : Nat) : Prop := b = M ∨ b = I ∨ b = U ∨ sv.ownBlock = some b
/-- the set lies where it lay, or in a block that is new since w -/
def OwnsAt (vo vo' : Value) (w : World) : Prop := vo'.ownBlock = vo.ownBlock ∨ ∃ g, vo'.ownBlock = some g ∧ w.heap.size ≤ g
theorem OwnsAt.refl (v : Value) (w : World) : OwnsAt v v w := .inl rfl
theorem Only.mono {p q : Nat → Prop} {w w' : World} (h : Only p w w') (hpq : ∀ k, k < w.heap.size → p k → q k) : Only q w w' := ⟨h.os, h.tape, h.output, h.size, fun k hk hn => h.keep k hk (fun e => hn (hpq k hk e))⟩
theorem OwnsAt.trans {a b c : Value} {w w' : World} (h : OwnsAt a b w) (k : OwnsAt b c w') (hs : w.heap.size ≤ w'.heap.size) : OwnsAt a c w := by
  rcases k with e | ⟨g, e, hg⟩
  · rcases h with e2 | ⟨g, e2, hg⟩
    · exact .inl (e.trans e2)
    · exact .inr ⟨g, e.trans e2, hg⟩
  · exact .inr ⟨g, e, by omega⟩
/-- a step goes on from a step -/
theorem Only.next {M I U : Nat} {sv sv1 : Value} {w w1 w2 : World} (h : Only (OwnP M I U sv) w w1) (ha : OwnsAt sv sv1 w) (k : Only (OwnP M I U sv1) w1 w2) : Only (OwnP M I U sv) w w2 :=
  ⟨k.os.trans h.os, k.tape.trans h.tape, k.output.trans h.output, Nat.le_trans h.size k.size, fun i hi hn => (k.keep i (Nat.lt_of_lt_of_le hi h.size) (fun e => by
    rcases e with e | e | e | e
    · exact hn (.inl e)
    · exact hn (.inr (.inl e))
    · exact hn (.inr (.inr (.inl e)))
    · rcases ha with e2 | ⟨g, e2, hg⟩
      · exact hn (.inr (.inr (.inr (e2 ▸ e))))
      · rw [e2] at e
        injection e with e
        omega)).trans (h.keep i hi hn)⟩
theorem Only.ext {p : Nat → Prop} {w w' : World} (h : Ext w w') : Only p w w' := ⟨h.os, h.tape, h.output, h.size, fun k hk _ => h.block k hk⟩
theorem Only.keepB {p : Nat → Prop} {base : Nat} {X : Nat → Prop}  {w w' : World} (h : Only p w w') (hp : ∀ k, p k → base ≤ k) (hb : base ≤ w.heap.size) : KeepB base X w w' := fun k h1 _ => h.keep k (by omega) (fun e => by have := hp k e; omega)
theorem MapSt.ownLow {base : Nat} {w : World} {M I U : Nat} {v u : Value} {n : Nat} {f s : List Int} {sv : Value} (h : MapSt base w M I U v u n f s sv) : ∀ k, OwnP M I U sv k → base ≤ k := fun k e => by
  obtain ⟨l1, l2, l3⟩ := h.low
  rcases e with rfl | rfl | rfl | e
  · exact l1
  · exact l2
  · exact l3
  · exact (h.set.lt e).1
theorem MapSt.size {base : Nat} {w : World} {M I U : Nat} {v u : Value} {n : Nat} {f s : List Int} {sv : Value} (h : MapSt base w M I U v u n f s sv) : base ≤ w.heap.size := by
  have := h.img_lt
  have := h.low.1
  omega
theorem MapSt.drew {base : Nat} {w : World} {M I U : Nat} {v u : Value} {n : Nat} {f s : List Int} {sv : Value} (h : MapSt base w M I U v u n f s sv) : MapSt base w.drew M I U v u n f s sv := h.ext h.img_lt (Ext.refl w).drew
theorem MapSt.drewN {base : Nat} {w : World} {M I U : Nat} {v u : Value} {n : Nat} {f s : List Int} {sv : Value} (h : MapSt base w M I U v u n f s sv) (k : Nat) : MapSt base (w.drewN k) M I U v u n f s sv := h.ext h.img_lt ((Ext.refl w).drewN k)
theorem MapSt.put {base : Nat} {w : World} {M I U : Nat} {v u : Value} {n : Nat} {g s : List Int} {sv : Value} (h : MapSt base w M I U v u n g s sv) (hl : g.length = n) {x q : Nat} (hx : x < n) (hf : ix g x < 0) :
    MapSt base ((w.setCell ⟨I, x, none⟩ (.int .i64 (q : Int))).setCell ⟨U, q, none⟩ (.bool true)) M I U v u n (g.set x (q : Int)) s sv where
  c0 := kc_set (fun e => h.apart.2.1 e) (kc_set (fun e => h.apart.1 e) h.c0)
  c1 := kc_set (fun e => h.apart.2.1 e) (kc_set (fun e => h.apart.1 e) h.c1)
  c2 := kc_set (fun e => h.apart.2.1 e) (kc_set (fun e => h.apart.1 e) h.c2)
  c3 := kc_set (fun e => h.apart.2.1 e) (kc_set (fun e => h.apart.1 e) h.c3)
  c4 := kc_set (fun e => h.apart.2.1 e) (kc_set (fun e => h.apart.1 e) h.c4)
  fr := kf_set (kf_set h.fr)
  img := ((h.img.set x _).setOther (fun e => h.apart.2.2.1 e) _).congr fun i hi => by
    by_cases e : i = x
    · subst e; rw [if_pos rfl, ix_set_same _ _ _ (by rw [hl]; exact hx)]
    · rw [if_neg e, ix_set_other _ _ _ _ e]
  usd := ((h.usd.setOther (fun e => h.apart.2.2.1 e.symm) _).set q _).congr fun i hi => by
    rw [hasB_set hl hx hf]
    by_cases e : i = q
    · rw [if_pos e, if_pos e]
    · rw [if_neg e, if_neg e]
  set := (h.set.setOff (fun g hg => (h.apart.2.2.2 g hg).2.1) _).setOff (fun g hg => (h.apart.2.2.2 g hg).2.2) _
  apart := h.apart
  low := h.low
theorem MapSt.put2 {base : Nat} {w : World} {M I U : Nat} {v u : Value} {n : Nat} {g s : List Int} {sv : Value} (h : MapSt base w M I U v u n g s sv) (hl : g.length = n) {x q : Nat} (hx : x < n) (hf : ix g x < 0) :
    MapSt base ((w.setCell ⟨U, q, none⟩ (.bool true)).setCell ⟨I, x, none⟩ (.int .i64 (q : Int))) M I U v u n (g.set x (q : Int)) s sv where
  c0 := kc_set (fun e => h.apart.1 e) (kc_set (fun e => h.apart.2.1 e) h.c0)
  c1 := kc_set (fun e => h.apart.1 e) (kc_set (fun e => h.apart.2.1 e) h.c1)
  c2 := kc_set (fun e => h.apart.1 e) (kc_set (fun e => h.apart.2.1 e) h.c2)
  c3 := kc_set (fun e => h.apart.1 e) (kc_set (fun e => h.apart.2.1 e) h.c3)
  c4 := kc_set (fun e => h.apart.1 e) (kc_set (fun e => h.apart.2.1 e) h.c4)
  fr := kf_set (kf_set h.fr)
  img := ((h.img.setOther (fun e => h.apart.2.2.1 e) _).set x _).congr fun i hi => by
    by_cases e : i = x
    · subst e; rw [if_pos rfl, ix_set_same _ _ _ (by rw [hl]; exact hx)]
    · rw [if_neg e, ix_set_other _ _ _ _ e]
  usd := ((h.usd.set q _).setOther (fun e => h.apart.2.2.1 e.symm) _).congr fun i hi => by
    rw [hasB_set hl hx hf]
    by_cases e : i = q
    · rw [if_pos e, if_pos e]
    · rw [if_neg e, if_neg e]
  set := (h.set.setOff (fun g hg => (h.apart.2.2.2 g hg).2.2) _).setOff (fun g hg => (h.apart.2.2.2 g hg).2.1) _
  apart := h.apart
  low := h.low
theorem only_put {M I U : Nat} {sv : Value} {w : World} (x q : Nat) (a b : Value) : Only (OwnP M I U sv) w ((w.setCell ⟨I, x, none⟩ a).setCell ⟨U, q, none⟩ b) := (only_set (.inr (.inl rfl)) _).trans (only_set (.inr (.inr (.inl rfl))) _)
theorem only_put2 {M I U : Nat} {sv : Value} {w : World} (x q : Nat) (a b : Value) : Only (OwnP M I U sv) w ((w.setCell ⟨U, q, none⟩ b).setCell ⟨I, x, none⟩ a) := (only_set (.inr (.inr (.inl rfl))) _).trans (only_set (.inr (.inl rfl)) _)
/-- an element is appended to the set -/
theorem MapSt.app {base : Nat} {w w' : World} {M I U : Nat} {v u : Value} {n : Nat} {f s s' : List Int} {sv sv' : Value} {o : Obj} (h : MapSt base w M I U v u n f s sv) (hg : (w.alloc o).grownBy w' sv.ownBlock) (hs : GrowI 2 base w' sv' s') (hat : sv'.ownBlock = sv.ownBlock ∨ sv'.ownBlock = some (w.heap.size + 1)) :
    MapSt base (w'.setCell ⟨M, 4, none⟩ sv') M I U v u n f s' sv' := by
  have hx := h.ext h.img_lt ((Ext.refl w).alloc o)
  have hz : (w.alloc o).heap.size = w.heap.size + 1 := by simp
  have nM : M ≠ w.heap.size + 1 := by have := hx.img_lt; omega
  have nI : I ≠ w.heap.size + 1 := by have := hx.img.lt; omega
  have nU : U ≠ w.heap.size + 1 := by have := hx.usd.lt; omega
  have kM : some M ≠ sv.ownBlock := fun e => (h.apart.2.2.2 M e.symm).1 rfl
  have kI : some I ≠ sv.ownBlock := fun e => (h.apart.2.2.2 I e.symm).2.1 rfl
  have kU : some U ≠ sv.ownBlock := fun e => (h.apart.2.2.2 U e.symm).2.2 rfl
  have ap : ∀ g, sv'.ownBlock = some g → g ≠ M ∧ g ≠ I ∧ g ≠ U := fun g e => by
    rcases hat with e2 | e2
    · rw [e2] at e; exact h.apart.2.2.2 g e
    · rw [e2] at e; injection e with e
      subst e
      exact ⟨nM.symm, nI.symm, nU.symm⟩
  exact {
    c0 := kc_set2 (by simp) (hg.cell hx.c0 kM)
    c1 := kc_set2 (by simp) (hg.cell hx.c1 kM)
    c2 := kc_set2 (by simp) (hg.cell hx.c2 kM)
    c3 := kc_set2 (by simp) (hg.cell hx.c3 kM)
    c4 := kc_same (hg.cell hx.c4 kM)
    fr := kf_set (by
      have e := hg.block M hx.img_lt kM
      rw [World.frozen?_of_block (w := w.alloc o) (a := ⟨M, 4, none⟩) e]; exact hx.fr)
    img := (hx.img.of_block (hg.block I hx.img.lt kI)).setOther (fun e => h.apart.1 e.symm) _
    usd := (hx.usd.of_block (hg.block U hx.usd.lt kU)).setOther (fun e => h.apart.2.1 e.symm) _
    set := hs.setOff (fun g hg => (ap g hg).1) _
    apart := ⟨h.apart.1, h.apart.2.1, h.apart.2.2.1, ap⟩
    low := h.low }
theorem only_app {w w' : World} {M I U : Nat} {sv : Value} {o : Obj} (hg : (w.alloc o).grownBy w' sv.ownBlock) (x : Value) : Only (OwnP M I U sv) w (w'.setCell ⟨M, 4, none⟩ x) :=
  (Only.trans ⟨hg.os.trans rfl, hg.tape.trans rfl, hg.output.trans rfl, by have := hg.size; simp at this; omega, fun k hk hn => (hg.block k (by simp; omega) (fun e => hn (.inr (.inr (.inr e.symm))))).trans (Below.heap_alloc w o k hk)⟩ (only_set (.inl rfl) _))
theorem MapSt.row {base : Nat} {w : World} {M I U : Nat} {v u : Value} {n : Nat} {f s : List Int} {sv : Value} (h : MapSt base w M I U v u n f s sv) (hs : 0 < s.length) : ∃ S c, sv = .slice (some ⟨S, 0, none⟩) s.length c ∧ IntsAt w S 0 s := by
  obtain ⟨b, c, rfl, ho⟩ := h.set.own (fun e => by
    rcases h.set.2 with ⟨-, hn⟩ | ⟨g, cap, cur, rfl, _⟩
    · omega
    · simp at e)
  exact ⟨b, c, rfl, ho.2.2.1⟩
end Go.Proofs.Ytbfhecckapgpnaa

/-
  The group that some permutations generate, element by element as it is found; lists of lists in order: plain.
-/
namespace Go.Proofs.Ytbfhecckapgpnaa
set_option linter.unusedVariables false
set_option linter.unusedSimpArgs false

/-- p, then q -/
@[irreducible] def thenL (p q : List Int) : List Int := mkL p.length (fun i => ix q (ix p i).toNat)
theorem length_thenL (p q : List Int) : (thenL p q).length = p.length := by unfold thenL; exact length_mkL _ _
theorem ix_thenL (p q : List Int) {i : Nat} (h : i < p.length) : ix (thenL p q) i = ix q (ix p i).toNat := by unfold thenL; exact ix_mkL _ _ _ h
theorem thenL_perm {n : Nat} {p q : List Int} (hp : IsoOk n [] [] p) (hq : IsoOk n [] [] q) : IsoOk n [] [] (thenL p q) := by
  have hl := hp.1
  refine isoOk_plain.2 ⟨by rw [length_thenL, hl], ⟨fun i hi => ?_, fun i hi j hj e => ?_⟩⟩
  · rw [length_thenL] at hi ⊢
    rw [ix_thenL _ _ hi]
    have := hp.bd (x := i) (by omega)
    have := hq.bd this.2
    omega
  · rw [length_thenL] at hi
    rw [ix_thenL _ _ hi, ix_thenL _ _ (by omega)] at e
    have b1 := hp.bd (x := i) (by omega)
    have b2 := hp.bd (x := j) (by omega)
    have := hq.inj b2.2 b1.2 e
    have := hp.inj (x := j) (y := i) (by omega) (by omega) (by omega)
    omega

theorem idL_perm (n : Nat) : IsoOk n [] [] (idL n) := by
  refine isoOk_plain.2 ⟨length_idL n, ⟨fun i hi => ?_, fun i hi j hj e => ?_⟩⟩
  · rw [length_idL] at hi ⊢
    rw [ix_idL _ _ hi]; omega
  · rw [length_idL] at hi
    rw [ix_idL _ _ hi, ix_idL _ _ (by omega)] at e
    omega
/-- what is found is taken, unless it is known or there are too many -/
@[irreducible] def addL (out : List (List Int)) (p : List Int) : List (List Int) := if out.length ≤ 12 ∧ p ∉ out then out ++ [p] else out
theorem addL_old {out : List (List Int)} {p : List Int} (h : p ∈ out) : addL out p = out := by unfold addL; rw [if_neg (fun e => e.2 h)]
theorem addL_new {out : List (List Int)} {p : List Int} (h : p ∉ out) (hl : out.length ≤ 12) : addL out p = out ++ [p] := by unfold addL; rw [if_pos ⟨hl, h⟩]
theorem addL_full {out : List (List Int)} {p : List Int} (hl : 12 < out.length) : addL out p = out := by unfold addL; rw [if_neg (fun e => by omega)]
/-- the products of x and the generators from number k on -/
@[irreducible] def rowFrom (gens : List (List Int)) (x : List Int) (k : Nat) (out : List (List Int)) : List (List Int) := (gens.drop k).foldl (fun o p => addL o (thenL x p)) out
theorem rowFrom_end {gens : List (List Int)} {x : List Int} {k : Nat} {out : List (List Int)} (h : gens.length ≤ k) : rowFrom gens x k out = out := by unfold rowFrom; rw [List.drop_of_length_le h]; rfl
theorem rowFrom_at {gens : List (List Int)} {x : List Int} {k : Nat} {out : List (List Int)} (h : k < gens.length) : rowFrom gens x k out = rowFrom gens x (k + 1) (addL out (thenL x (row gens k))) := by
  unfold rowFrom
  rw [List.drop_eq_getElem_cons h, List.foldl_cons]
  have : row gens k = gens[k] := by rw [row_eq]; simp [List.getD, h]
  rw [this]
theorem rowFrom_full {gens : List (List Int)} {x : List Int} {out : List (List Int)} (h : 12 < out.length) : ∀ (d k : Nat), gens.length ≤ k + d → rowFrom gens x k out = out
  | 0, k, hk => rowFrom_end (by omega)
  | d + 1, k, hk => by
    by_cases hg : k < gens.length
    · rw [rowFrom_at hg, addL_full h, rowFrom_full h d (k + 1) (by omega)]
    · exact rowFrom_end (by omega)
/-- one element after the other -/
def genF (gens : List (List Int)) : Nat → List (List Int) → Nat → List (List Int)
  | 0, out, _ => out
  | d + 1, out, i => if i < out.length ∧ out.length ≤ 12 then genF gens d (rowFrom gens (row out i) 0 out) (i + 1) else out
theorem genF_stop {gens : List (List Int)} {d i : Nat} {out : List (List Int)} (h : ¬ (i < out.length ∧ out.length ≤ 12)) : genF gens d out i = out := by
  cases d with
  | zero => rfl
  | succ d => unfold genF; rw [if_neg h]
theorem genF_go {gens : List (List Int)} {d i : Nat} {out : List (List Int)} (h1 : i < out.length) (h2 : out.length ≤ 12) : genF gens (d + 1) out i = genF gens d (rowFrom gens (row out i) 0 out) (i + 1) := by
  rw [show genF gens (d + 1) out i = if i < out.length ∧ out.length ≤ 12 then genF gens d (rowFrom gens (row out i) 0 out) (i + 1) else out from rfl, if_pos ⟨h1, h2⟩]
/-- the elements in the order in which they are found; 13 if there are more than 12 -/
@[irreducible] def genA (gens : List (List Int)) (n : Nat) : List (List Int) := genF gens 13 [idL n] 0
theorem genA_def (gens : List (List Int)) (n : Nat) : genA gens n = genF gens (13 - 0) [idL n] 0 := by unfold genA; rfl
/-- more than 12 are found -/
theorem genF_over {gens : List (List Int)} {d i : Nat} {x : List Int} {out : List (List Int)} {p : List Int} {k : Nat} (hl : out.length = 12) : genF gens d (rowFrom gens x k (out ++ [p])) i = out ++ [p] := by
  rw [rowFrom_full (out := out ++ [p]) (by simp; omega) gens.length k (by omega)]
  exact genF_stop (by simp; omega)
theorem row_app (out : List (List Int)) (p : List Int) {i : Nat} (h : i < out.length) : row (out ++ [p]) i = row out i := by rw [row_eq, row_eq]; simp [List.getD, List.getElem?_append_left h]

/-- as far as they are found: different permutations, 13 at most -/
structure GoodG (n : Nat) (out : List (List Int)) : Prop where
  nodup : out.Nodup
  perm : ∀ p, p ∈ out → IsoOk n [] [] p
  one : 1 ≤ out.length
  few : out.length ≤ 13
theorem GoodG.add {n : Nat} {out : List (List Int)} {p : List Int} (h : GoodG n out) (hp : IsoOk n [] [] p) : GoodG n (addL out p) := by
  unfold addL
  split
  · rename_i hc
    refine ⟨?_, fun q hq => ?_, by simp, by simp; omega⟩
    · rw [List.nodup_append]
      refine ⟨h.nodup, by simp, fun a ha b hb e => ?_⟩
      have : b = p := by simpa using hb
      exact hc.2 (by rw [← this, ← e]; exact ha)
    · rcases List.mem_append.1 hq with hq | hq
      · exact h.perm q hq
      · have : q = p := by simpa using hq
        rw [this]; exact hp
  · exact h
theorem GoodG.row {n : Nat} {out : List (List Int)} (h : GoodG n out) {i : Nat} (hi : i < out.length) : IsoOk n [] [] (row out i) := h.perm _ (by rw [row_eq]; simp [List.getD, hi])
theorem GoodG.rowFrom {n : Nat} {gens : List (List Int)} (hg : ∀ k, k < gens.length → IsoOk n [] [] (Go.Proofs.Ytbfhecckapgpnaa.row gens k)) {x : List Int} (hx : IsoOk n [] [] x) : ∀ (d k : Nat) (out : List (List Int)), gens.length ≤ k + d → GoodG n out → GoodG n (rowFrom gens x k out)
  | 0, k, out, hd, h => by rw [rowFrom_end (by omega)]; exact h
  | d + 1, k, out, hd, h => by
    by_cases hk : k < gens.length
    · rw [rowFrom_at hk]
      exact GoodG.rowFrom hg hx d (k + 1) _ (by omega) (h.add (thenL_perm hx (hg k hk)))
    · rw [rowFrom_end (by omega)]; exact h
theorem GoodG.genF {n : Nat} {gens : List (List Int)} (hg : ∀ k, k < gens.length → IsoOk n [] [] (Go.Proofs.Ytbfhecckapgpnaa.row gens k)) : ∀ (d : Nat) (out : List (List Int)) (i : Nat), GoodG n out → GoodG n (genF gens d out i)
  | 0, out, i, h => h
  | d + 1, out, i, h => by
    by_cases hc : i < out.length ∧ out.length ≤ 12
    · rw [genF_go hc.1 hc.2]
      exact GoodG.genF hg d _ _ (GoodG.rowFrom hg (h.row hc.1) gens.length 0 out (by omega) h)
    · rw [genF_stop hc]; exact h
theorem goodG_unit {n : Nat} (hi : IsoOk n [] [] (idL n)) : GoodG n [idL n] := ⟨by simp, fun p hp => by
  have : p = idL n := by simpa using hp
  rw [this]; exact hi, by simp, by simp⟩
theorem genA_good {n : Nat} {gens : List (List Int)} (hg : ∀ k, k < gens.length → IsoOk n [] [] (row gens k)) (hi : IsoOk n [] [] (idL n)) : GoodG n (genA gens n) := by
  unfold genA
  exact GoodG.genF hg 13 _ 0 (goodG_unit hi)
theorem GoodG.pos {n : Nat} {out : List (List Int)} (h : GoodG n out) (h1 : 1 ≤ n) : ∀ i, i < out.length → 0 < (Go.Proofs.Ytbfhecckapgpnaa.row out i).length := fun i hi => by rw [(h.row hi).1]; omega

/-! ### in order -/
theorem sortedS_unique : ∀ {l m : List (List Int)}, l.Pairwise (· < ·) → m.Pairwise (· < ·) → l.Perm m → l = m
  | [], m, _, _, h => (List.Perm.nil_eq h)
  | x :: r, [], _, _, h => by have := h.length_eq; simp at this
  | x :: r, y :: s, h1, h2, h => by
    rw [List.pairwise_cons] at h1 h2
    have hx : x ∈ y :: s := (h.mem_iff).1 (by simp)
    have hy : y ∈ x :: r := (h.mem_iff).2 (by simp)
    have e : x = y := by
      rcases List.mem_cons.1 hx with e | e
      · exact e
      · rcases List.mem_cons.1 hy with e2 | e2
        · exact e2.symm
        · exact absurd (less_trans (h1.1 y e2) (h2.1 x e)) (less_irrefl x)
    subst e
    rw [sortedS_unique h1.2 h2.2 ((List.perm_cons x).1 h)]
theorem rowG_mem {S : List (List Int)} {i : Nat} (h : i < S.length) : row S i ∈ S := by rw [row_eq]; simp [List.getD, h]
theorem mem_row {S : List (List Int)} {p : List Int} (h : p ∈ S) : ∃ i, i < S.length ∧ row S i = p := by
  obtain ⟨i, hi, e⟩ := List.getElem_of_mem h
  exact ⟨i, hi, by rw [row_eq]; simp [List.getD, hi, e]⟩
theorem sorted_row {S : List (List Int)} (h : S.Pairwise (· < ·)) {i j : Nat} (hij : i < j) (hj : j < S.length) : row S i < row S j := by
  have := (List.pairwise_iff_getElem.1 h) i j (by omega) hj hij
  rw [row_eq, row_eq]; simpa [List.getD, hj, show i < S.length by omega] using this
/-- a list is put at its place -/
theorem put_sorted {S : List (List Int)} {p : List Int} {k : Nat} (h : S.Pairwise (· < ·)) (hk : k ≤ S.length) (h1 : ∀ i, i < k → row S i < p) (h2 : ∀ i, k ≤ i → i < S.length → ¬ row S i < p) (hp : p ∉ S) : (S.take k ++ ([p] ++ S.drop k)).Pairwise (· < ·) := by
  rw [List.pairwise_append]
  refine ⟨h.take, ?_, fun a ha b hb => ?_⟩
  · rw [List.singleton_append, List.pairwise_cons]
    refine ⟨fun b hb => ?_, h.drop⟩
    obtain ⟨i, hi, e⟩ := List.getElem_of_mem hb
    rw [List.length_drop] at hi
    have e2 : row S (k + i) = b := by rw [row_eq]; rw [List.getElem_drop] at e; simp [List.getD, show k + i < S.length by omega, e]
    have hn := h2 (k + i) (by omega) (by omega)
    rw [e2] at hn
    rcases less_tri p b with g | g | g
    · exact g
    · exact absurd (by rw [g, ← e2]; exact rowG_mem (by omega)) hp
    · exact absurd g hn
  · obtain ⟨i, hi, e⟩ := List.getElem_of_mem ha
    rw [List.length_take] at hi
    have e2 : row S i = a := by rw [row_eq]; rw [List.getElem_take] at e; simp [List.getD, show i < S.length by omega, e]
    have hap := h1 i (by omega)
    rw [e2] at hap
    rw [List.singleton_append] at hb
    rcases List.mem_cons.1 hb with rfl | hb
    · exact hap
    · obtain ⟨j, hj, e3⟩ := List.getElem_of_mem hb
      rw [List.length_drop] at hj
      have e4 : row S (k + j) = b := by rw [row_eq]; rw [List.getElem_drop] at e3; simp [List.getD, show k + j < S.length by omega, e3]
      rw [← e2, ← e4]
      exact sorted_row h (by omega) (by omega)
theorem put_perm {S : List (List Int)} {p : List Int} {k : Nat} : (S.take k ++ ([p] ++ S.drop k)).Perm (p :: S) := by
  have h1 : (S.take k ++ ([p] ++ S.drop k)).Perm ([p] ++ (S.take k ++ S.drop k)) := by
    rw [← List.append_assoc, ← List.append_assoc]
    exact (List.perm_append_comm).append_right _
  rw [List.take_append_drop] at h1
  exact h1
/-- found at its place exactly if it is there -/
theorem put_known {S : List (List Int)} {p : List Int} {k : Nat} (h : S.Pairwise (· < ·)) (h1 : ∀ i, i < k → row S i < p) (h2 : ∀ i, k ≤ i → i < S.length → ¬ row S i < p) : (k < S.length ∧ row S k = p) ↔ p ∈ S := by
  constructor
  · rintro ⟨hk, e⟩; rw [← e]; exact rowG_mem hk
  · intro hp
    obtain ⟨j, hj, e⟩ := mem_row hp
    have hkj : k ≤ j := by
      apply Classical.byContradiction
      intro hn
      have := h1 j (by omega)
      rw [e] at this
      exact less_irrefl p this
    have hjk : ¬ k < j := fun hlt => by
      have := sorted_row h hlt hj
      rw [e] at this
      exact h2 k (Nat.le_refl _) (by omega) this
    have : k = j := by omega
    subst this
    exact ⟨hj, e⟩
/-- the elements in order -/
@[irreducible] noncomputable def sortS (R : List (List Int)) : List (List Int) := R.mergeSort (fun a b => !decide (b < a))
theorem sortS_eq {R S : List (List Int)} (hn : R.Nodup) (hp : S.Perm R) (hs : S.Pairwise (· < ·)) : S = sortS R := by
  refine sortedS_unique hs ?_ (hp.trans (by unfold sortS; exact (List.mergeSort_perm R _).symm))
  unfold sortS
  have h1 := List.pairwise_mergeSort (le := fun (a b : List Int) => !decide (b < a)) (fun a b c h1 h2 => by
    simp at *
    intro hca
    rcases less_tri a b with g | g | g
    · exact h2 (less_trans hca g)
    · subst g; exact h2 hca
    · exact h1 g) (fun a b => by
    simp
    rcases less_tri a b with g | g | g
    · exact .inl (fun e => less_irrefl a (less_trans g e))
    · subst g; exact .inl (less_irrefl a)
    · exact .inr (fun e => less_irrefl a (less_trans e g))) R
  have hnd : (R.mergeSort (fun a b => !decide (b < a))).Nodup := (List.mergeSort_perm R _).nodup_iff.2 hn
  have h2 := List.pairwise_and_iff.2 ⟨h1, hnd⟩
  refine h2.imp fun {a b} ⟨h, hne⟩ => ?_
  simp at h
  rcases less_tri a b with g | g | g
  · exact g
  · exact absurd g hne
  · exact absurd g h
theorem sortS_perm (R : List (List Int)) : (sortS R).Perm R := by unfold sortS; exact List.mergeSort_perm R _
theorem length_sortS (R : List (List Int)) : (sortS R).length = R.length := (sortS_perm R).length_eq
/-- the index of a list in lists, or -1 -/
def findL (S : List (List Int)) (p : List Int) : Int := findIx (fun r => eqIB r p) S
theorem findL_eq (S : List (List Int)) (p : List Int) : findIx (fun r => eqIB r p) S = findL S p := rfl
theorem anyB_mem (S : List (List Int)) (p : List Int) : anyB (fun r => eqIB r p) S = decide (p ∈ S) := by
  unfold anyB
  rw [Bool.eq_iff_iff, List.any_eq_true, decide_eq_true_iff]
  constructor
  · rintro ⟨x, h1, h2⟩; rw [← eqIB_iff.1 h2]; exact h1
  · intro h; exact ⟨p, h, eqIB_yes rfl⟩
/-- no permutation of n elements -/
@[irreducible] def sysBad (n : Int) (p : List Int) : Bool := decide ((p.length : Int) ≠ n) || !permB p
theorem sysBad_no {n : Int} {p : List Int} : sysBad n p = false ↔ (p.length : Int) = n ∧ permB p = true := by unfold sysBad; simp
@[irreducible] def sysB (n : Int) (gens : List (List Int)) : Bool := inR n 1 12 && decide (gens.length ≤ 16) && !anyB (sysBad n) gens
theorem sysB_no1 {n : Int} {gens : List (List Int)} (h : inR n 1 12 = false) : sysB n gens = false := by unfold sysB; rw [h]; rfl
theorem sysB_no2 {n : Int} {gens : List (List Int)} (h : ¬ gens.length ≤ 16) : sysB n gens = false := by unfold sysB; simp [h]
theorem sysB_any {n : Int} {gens : List (List Int)} (h : inR n 1 12 = true) (h2 : gens.length ≤ 16) : sysB n gens = !anyB (sysBad n) gens := by unfold sysB; simp [h, h2]
theorem sysB_no3 {n : Int} {gens : List (List Int)} {k : Nat} (hk : k < gens.length) (hb : sysBad n (row gens k) = true) : sysB n gens = false := by
  have : anyB (sysBad n) gens = true := by
    unfold anyB; rw [List.any_eq_true]; exact ⟨_, rowG_mem hk, hb⟩
  unfold sysB; rw [this]; simp
theorem sysB_yes {n : Int} {gens : List (List Int)} (h : inR n 1 12 = true) (h2 : gens.length ≤ 16) (h3 : ∀ k, k < gens.length → sysBad n (row gens k) = false) : sysB n gens = true := by
  rw [sysB_any h h2]
  have : anyB (sysBad n) gens = false := by
    unfold anyB; rw [List.any_eq_false]
    intro x hx
    obtain ⟨k, hk, e⟩ := mem_row hx
    rw [← e, h3 k hk]; simp
  rw [this]; rfl
theorem sysB_ok {n : Int} {gens : List (List Int)} (h : sysB n gens = true) : (1 ≤ n ∧ n ≤ 12) ∧ gens.length ≤ 16 ∧ ∀ k, k < gens.length → IsoOk n.toNat [] [] (row gens k) := by
  unfold sysB at h
  simp only [Bool.and_eq_true, decide_eq_true_eq, Bool.not_eq_true'] at h
  obtain ⟨⟨h1, h2⟩, h3⟩ := h
  refine ⟨inR_iff.1 h1, h2, fun k hk => ?_⟩
  have h4 : sysBad n (row gens k) = false := by
    unfold anyB at h3
    rw [List.any_eq_false] at h3
    have := h3 _ (rowG_mem hk)
    simpa using this
  obtain ⟨h5, h6⟩ := sysBad_no.1 h4
  exact isoOk_plain.2 ⟨by omega, permB_iff.1 h6⟩
/-- the table of the group, if it has at most 12 elements -/
noncomputable def gopS (n : Int) (gens : List (List Int)) : List (List Int) := sortS (genA gens n.toNat)
def gopE (S : List (List Int)) (x y : Nat) : Int := findL S (thenL (row S x) (row S y))
@[irreducible] noncomputable def gopV (n : Int) (gens : List (List Int)) : List (List Int) := if sysB n gens = true ∧ (genA gens n.toNat).length ≤ 12 then mkT (gopS n gens).length (gopE (gopS n gens)) else []
@[irreducible] noncomputable def gopC (n : Int) (gens : List (List Int)) : Int := if sysB n gens = true then (if (genA gens n.toNat).length ≤ 12 then 0 else 3) else 1
theorem gop_no {n : Int} {gens : List (List Int)} (h : sysB n gens = false) : gopV n gens = [] ∧ gopC n gens = 1 := by unfold gopV gopC; simp [h]
theorem gop_big {n : Int} {gens : List (List Int)} (h : sysB n gens = true) (h2 : ¬ (genA gens n.toNat).length ≤ 12) : gopV n gens = [] ∧ gopC n gens = 3 := by unfold gopV gopC; simp [h, h2]
theorem gop_yes {n : Int} {gens : List (List Int)} (h : sysB n gens = true) (h2 : (genA gens n.toNat).length ≤ 12) : gopV n gens = mkT (gopS n gens).length (gopE (gopS n gens)) ∧ gopC n gens = 0 := by unfold gopV gopC; simp [h, h2]
end Go.Proofs.Ytbfhecckapgpnaa

/-
  The least form of a brace: plain.
-/
namespace Go.Proofs.Ytbfhecckapgpnaa
set_option linter.unusedVariables false
set_option linter.unusedSimpArgs false

theorem cmpL_cons (a b : Int) (l m : List Int) : cmpL (a :: l) (b :: m) = if cmpI a b = 0 then cmpL l m else cmpI a b := by unfold cmpL; rfl
theorem cmpL_neg : ∀ (l m : List Int), cmpL l m < 0 ↔ l < m
  | [], [] => by unfold cmpL cmpBy; simp
  | [], b :: m => by unfold cmpL cmpBy; simp
  | a :: l, [] => by unfold cmpL cmpBy; simp
  | a :: l, b :: m => by
    have ih := cmpL_neg l m
    rw [List.cons_lt_cons_iff, ← ih, cmpL_cons]
    by_cases h1 : a < b
    · have : cmpI a b = -1 := by unfold cmpI; rw [if_pos h1]
      simp [this, h1]
    · by_cases h2 : b < a
      · have : cmpI a b = 1 := by unfold cmpI; rw [if_neg h1, if_pos h2]
        simp [this, h1, show ¬ a = b by omega]
      · have e : a = b := by omega
        subst e
        have : cmpI a a = 0 := cmpI_zero.2 rfl
        simp [this]
theorem lessB_cmp {l m : List Int} : lessB l m = decide (cmpL l m < 0) := by
  unfold lessB
  by_cases h : l < m
  · rw [decide_eq_true h, decide_eq_true ((cmpL_neg l m).2 h)]
  · rw [decide_eq_false h, decide_eq_false (fun e => h ((cmpL_neg l m).1 e))]
/-- the image of a table by a permutation -/
def imgE (t : List (List Int)) (p : List Int) (i j : Nat) : Int := ix p (ent t (indexOf p i).toNat (indexOf p j).toNat).toNat
def imgT (t : List (List Int)) (p : List Int) : List (List Int) := mkT t.length (imgE t p)
theorem indexOf_at {n : Nat} {p : List Int} (hp : IsoOk n [] [] p) {x : Nat} (hx : x < n) : indexOf p (ix p x) = (x : Int) := by
  rcases indexOf_spec p (ix p x) with ⟨_, h⟩ | ⟨i, hi, e, e2, _⟩
  · exact absurd rfl (h x (by have := hp.1; omega))
  · rw [e]
    have := hp.inj (x := i) (y := x) (by have := hp.1; omega) hx e2
    omega
theorem imgE_at {t : List (List Int)} {p : List Int} (hp : IsoOk t.length [] [] p) {x y : Nat} (hx : x < t.length) (hy : y < t.length) : imgE t p (ix p x).toNat (ix p y).toNat = ix p (ent t x y).toNat := by
  unfold imgE
  rw [Int.toNat_of_nonneg (hp.bd hx).1, Int.toNat_of_nonneg (hp.bd hy).1, indexOf_at hp hx, indexOf_at hp hy, Int.toNat_natCast, Int.toNat_natCast]
/-- one pair of tables stands ahead of another -/
def lessP (a b : List (List Int) × List (List Int)) : Bool := if cmpT a.1 b.1 = 0 then decide (cmpT a.2 b.2 < 0) else decide (cmpT a.1 b.1 < 0)
def stepP (t u : List (List Int)) (best : List (List Int) × List (List Int)) (p : List Int) : List (List Int) × List (List Int) := if lessP (imgT t p, imgT u p) best then (imgT t p, imgT u p) else best
/-- the least form -/
@[irreducible] noncomputable def leastP (t u : List (List Int)) : List (List Int) × List (List Int) := ((isoL t.length [] []).filter fun p => decide (ix p 0 = 0)).foldl (stepP t u) (t, u)
/-- those that lead 0 to 0 stand first -/
theorem zero_first {L : List (List Int)} (hs : L.Pairwise LexLt) (h0 : ∀ p, p ∈ L → 0 ≤ ix p 0) : ∀ (pre : List (List Int)) (p : List Int) (rest : List (List Int)), L = pre ++ p :: rest → (∀ q, q ∈ pre → ix q 0 = 0) → ix p 0 ≠ 0 → (L.filter fun p => decide (ix p 0 = 0)) = pre := by
  intro pre p rest hL hp hne
  subst hL
  rw [List.filter_append]
  have h1 : (pre.filter fun p => decide (ix p 0 = 0)) = pre := List.filter_eq_self.2 fun q hq => by simpa using hp q hq
  have h2 : ((p :: rest).filter fun p => decide (ix p 0 = 0)) = [] := by
    rw [List.filter_eq_nil_iff]
    intro q hq
    have hp0 := h0 p (by simp)
    rcases List.mem_cons.1 hq with rfl | hq
    · simpa using hne
    · have hlt := (List.pairwise_cons.1 (List.pairwise_append.1 hs).2.1).1 q hq
      obtain ⟨d, k1, k2⟩ := hlt
      have : ix p 0 ≤ ix q 0 := by
        by_cases e : d = 0
        · subst e; omega
        · have := k1 0 (by omega); omega
      simp; omega
  rw [h1, h2, List.append_nil]
end Go.Proofs.Ytbfhecckapgpnaa

/-
  The image of a table by a permutation, entry by entry: plain.
-/
namespace Go.Proofs.Ytbfhecckapgpnaa
set_option linter.unusedVariables false
set_option linter.unusedSimpArgs false

/-- all entries ahead of (x, y) are where they belong -/
structure ImgTo (t : List (List Int)) (p : List Int) (x y : Nat) (T : List (List Int)) : Prop where
  len : T.length = t.length
  rows : ∀ i, i < t.length → (row T i).length = t.length
  at_ : ∀ a b, a < t.length → b < t.length → (a < x ∨ (a = x ∧ b < y)) → ent T (ix p a).toNat (ix p b).toNat = ix p (ent t a b).toNat
theorem ImgTo.start {t : List (List Int)} (h : TableOk t) (p : List Int) : ImgTo t p 0 0 t := ⟨rfl, fun i hi => h.len hi, fun a b _ _ h => by omega⟩
theorem ImgTo.step {t T : List (List Int)} {p : List Int} {x y : Nat} (h : ImgTo t p x y T) (hp : IsoOk t.length [] [] p) (hx : x < t.length) (hy : y < t.length) : ImgTo t p x (y + 1) (setE T (ix p x).toNat (ix p y).toNat (ix p (ent t x y).toNat)) := by
  have b1 := (hp.bd hx).2
  have b2 := (hp.bd hy).2
  have hT : (ix p x).toNat < T.length := by rw [h.len]; exact b1
  refine ⟨by rw [length_setE]; exact h.len, fun i hi => by rw [length_row_setE _ _ _ _ _ hT]; exact h.rows i hi, fun a b ha hb hab => ?_⟩
  by_cases e : a = x ∧ b = y
  · obtain ⟨rfl, rfl⟩ := e
    exact ent_setE_same _ _ _ _ hT (by rw [h.rows _ b1]; exact b2)
  · have c1 := hp.bd ha
    have c2 := hp.bd hb
    have d1 := hp.bd hx
    have d2 := hp.bd hy
    rw [ent_setE_other _ _ _ _ _ _ hT ?_]
    · exact h.at_ a b ha hb (by omega)
    · by_cases e1 : a = x
      · right; intro e2; exact e ⟨e1, hp.inj hb hy (by omega)⟩
      · left; intro e2; exact e1 (hp.inj ha hx (by omega))
theorem ImgTo.next {t T : List (List Int)} {p : List Int} {x : Nat} (h : ImgTo t p x t.length T) : ImgTo t p (x + 1) 0 T := ⟨h.len, h.rows, fun a b ha hb hab => h.at_ a b ha hb (by omega)⟩
theorem table_ext {n : Nat} {S T : List (List Int)} (h1 : S.length = n) (h2 : T.length = n) (h3 : ∀ i, i < n → (row S i).length = n) (h4 : ∀ i, i < n → (row T i).length = n) (h : ∀ i j, i < n → j < n → ent S i j = ent T i j) : S = T :=
  row_ext (by omega) fun i hi => ix_ext (by rw [h3 i (by omega), h4 i (by omega)]) fun j hj => by
    rw [h3 i (by omega)] at hj
    rw [ent_def, ent_def]; exact h i j (by omega) hj
theorem length_imgT (t : List (List Int)) (p : List Int) : (imgT t p).length = t.length := length_mkT _ _
theorem row_imgT (t : List (List Int)) (p : List Int) {i : Nat} (h : i < t.length) : (row (imgT t p) i).length = t.length := by unfold imgT; rw [row_mkT _ _ _ h, length_partRow]
theorem ent_imgT (t : List (List Int)) (p : List Int) {i j : Nat} (h : i < t.length) (hj : j < t.length) : ent (imgT t p) i j = imgE t p i j := ent_mkT _ _ _ _ h hj
theorem ImgTo.done {t T : List (List Int)} {p : List Int} (h : ImgTo t p t.length 0 T) (hp : IsoOk t.length [] [] p) : T = imgT t p := by
  refine table_ext h.len (length_imgT _ _) h.rows (fun i hi => row_imgT _ _ hi) fun i j hi hj => ?_
  rw [ent_imgT _ _ hi hj]
  obtain ⟨a, ha, e1⟩ := hp.surj hi
  obtain ⟨b, hb, e2⟩ := hp.surj hj
  have := h.at_ a b ha hb (by omega)
  have h2 := imgE_at hp ha hb
  rw [e1, e2, Int.toNat_natCast, Int.toNat_natCast] at this h2
  rw [this, h2]
theorem imgT_ok {t : List (List Int)} {p : List Int} (h : TableOk t) (hp : IsoOk t.length [] [] p) : TableOk (imgT t p) := by
  refine ⟨by rw [length_imgT]; exact h.1, by rw [length_imgT]; exact h.2.1, fun i hi => ?_⟩
  rw [length_imgT] at hi ⊢
  refine ⟨row_imgT _ _ hi, fun j hj => ?_⟩
  rw [ent_imgT _ _ hi hj]
  obtain ⟨a, ha, e1⟩ := hp.surj hi
  obtain ⟨b, hb, e2⟩ := hp.surj hj
  have h2 := imgE_at hp ha hb
  rw [e1, e2, Int.toNat_natCast, Int.toNat_natCast] at h2
  rw [h2]
  have := h.bd ha hb
  have := hp.bd (x := (ent t a b).toNat) (by omega)
  omega
end Go.Proofs.Ytbfhecckapgpnaa

/-
  The named groups: plain.
-/
namespace Go.Proofs.Ytbfhecckapgpnaa
set_option linter.unusedVariables false
set_option linter.unusedSimpArgs false

@[irreducible] def cyT (n : Nat) : List (List Int) := mkT n (cycF n)
@[irreducible] def dbT (n s : Nat) : List (List Int) := mkT (2 * n) (dblF n s)
def evenE : List (List Int) := [[1, 2, 0, 3], [0, 2, 3, 1]]
theorem cyT_eq (n : Nat) : mkT n (cycF n) = cyT n := by unfold cyT; rfl
theorem dbT_eq (n s : Nat) : mkT (2 * n) (dblF n s) = dbT n s := by unfold dbT; rfl
theorem prodT_eq (a b : List (List Int)) {N : Nat} (h : N = a.length * b.length) : mkT N (prodF a b) = prodT a b := by subst h; rw [prodT_def]
theorem length_cyT (n : Nat) : (cyT n).length = n := by rw [← cyT_eq, length_mkT]
theorem length_dbT (n s : Nat) : (dbT n s).length = 2 * n := by rw [← dbT_eq, length_mkT]
theorem small_cyT {n : Nat} (h : n ≤ 12) : Small (cyT n) := by rw [← cyT_eq]; exact small_mkT (by omega) _
theorem small_dbT {n s : Nat} (h : n ≤ 12) : Small (dbT n s) := by rw [← dbT_eq]; exact small_mkT (by omega) _
theorem cy2_ok : TableOk (cyT 2) := by decide +kernel
theorem cy3_ok : TableOk (cyT 3) := by decide +kernel
theorem cy4_ok : TableOk (cyT 4) := by decide +kernel
theorem cy6_ok : TableOk (cyT 6) := by decide +kernel
theorem four_ok : TableOk (prodT (cyT 2) (cyT 2)) := by decide +kernel
theorem even_sys : sysB ((4 : Nat) : Int) evenE = true := by decide +kernel
theorem even_len : (genA evenE 4).length = 12 := by decide +kernel
/-- the tables of the named groups of an order -/
noncomputable def namedL (n : Nat) : List (List (List Int)) :=
  match n with
  | 4 => [cyT 4, prodT (cyT 2) (cyT 2)]
  | 6 => [cyT 6, dbT 3 0]
  | 8 => [cyT 8, prodT (cyT 2) (cyT 4), prodT (cyT 2) (prodT (cyT 2) (cyT 2)), dbT 4 0, dbT 4 2]
  | 9 => [cyT 9, prodT (cyT 3) (cyT 3)]
  | 10 => [cyT 10, dbT 5 0]
  | 12 => [cyT 12, prodT (cyT 2) (cyT 6), dbT 6 0, dbT 6 3, gopV ((4 : Nat) : Int) evenE]
  | n => [cyT n]
theorem even_gop : gopV ((4 : Nat) : Int) evenE = mkT (gopS ((4 : Nat) : Int) evenE).length (gopE (gopS ((4 : Nat) : Int) evenE)) := (gop_yes even_sys (by rw [Int.toNat_natCast, even_len]; omega)).1
theorem even_S : gopS ((4 : Nat) : Int) evenE = sortS (genA evenE 4) := by unfold gopS; rw [Int.toNat_natCast]
theorem even_Sl : (gopS ((4 : Nat) : Int) evenE).length = 12 := by rw [even_S, length_sortS, even_len]
theorem length_even : (gopV ((4 : Nat) : Int) evenE).length = 12 := by rw [even_gop, length_mkT, even_Sl]
theorem small_even : Small (gopV ((4 : Nat) : Int) evenE) := by rw [even_gop]; exact small_mkT (by rw [even_Sl]; omega) _
end Go.Proofs.Ytbfhecckapgpnaa

/-
  The name of a group: plain.
-/
namespace Go.Proofs.Ytbfhecckapgpnaa
set_option linter.unusedVariables false
set_option linter.unusedSimpArgs false

/-- the even permutations of four, in order -/
def even12 : List (List Int) := [[0, 1, 2, 3], [0, 2, 3, 1], [0, 3, 1, 2], [1, 0, 3, 2], [1, 2, 0, 3], [1, 3, 2, 0], [2, 0, 1, 3], [2, 1, 3, 0], [2, 3, 0, 1], [3, 0, 2, 1], [3, 1, 0, 2], [3, 2, 1, 0]]
theorem even12_eq : gopS ((4 : Nat) : Int) evenE = even12 := by
  rw [even_S]
  exact (sortS_eq (by decide +kernel) (by decide +kernel) (by decide +kernel)).symm
@[irreducible] def evT : List (List Int) := mkT 12 (gopE even12)
theorem even_evT : gopV ((4 : Nat) : Int) evenE = evT := by
  rw [even_gop, even_Sl, even12_eq]
  unfold evT
  rfl
theorem evT_ok : groupB evT = true ∧ evT.length = 12 := by decide +kernel
theorem named_check : ([cyT 1, cyT 2, cyT 3, cyT 4, cyT 5, cyT 6, cyT 7, cyT 8, cyT 9, cyT 10, cyT 11, cyT 12, prodT (cyT 2) (cyT 2), dbT 3 0, prodT (cyT 2) (cyT 4), prodT (cyT 2) (prodT (cyT 2) (cyT 2)), dbT 4 0, dbT 4 2, prodT (cyT 3) (cyT 3), dbT 5 0, prodT (cyT 2) (cyT 6), dbT 6 0, dbT 6 3].all fun t => groupB t) = true := by decide +kernel
theorem named_group {t : List (List Int)} (h : t ∈ [cyT 1, cyT 2, cyT 3, cyT 4, cyT 5, cyT 6, cyT 7, cyT 8, cyT 9, cyT 10, cyT 11, cyT 12, prodT (cyT 2) (cyT 2), dbT 3 0, prodT (cyT 2) (cyT 4), prodT (cyT 2) (prodT (cyT 2) (cyT 2)), dbT 4 0, dbT 4 2, prodT (cyT 3) (cyT 3), dbT 5 0, prodT (cyT 2) (cyT 6), dbT 6 0, dbT 6 3]) : groupB t = true := List.all_eq_true.1 named_check t h
theorem namedL_mem {n : Nat} (h1 : 1 ≤ n) (h12 : n ≤ 12) {t : List (List Int)} (ht : t ∈ namedL n) : groupB t = true ∧ t.length = n := by
  have h : n = 1 ∨ n = 2 ∨ n = 3 ∨ n = 4 ∨ n = 5 ∨ n = 6 ∨ n = 7 ∨ n = 8 ∨ n = 9 ∨ n = 10 ∨ n = 11 ∨ n = 12 := by omega
  rcases h with rfl | rfl | rfl | rfl | rfl | rfl | rfl | rfl | rfl | rfl | rfl | rfl <;> simp only [namedL, List.mem_cons, List.not_mem_nil, or_false] at ht
  all_goals (first | (rcases ht with rfl | rfl | rfl | rfl | rfl) | (rcases ht with rfl | rfl) | subst ht)
  all_goals first
    | (rw [even_evT]; exact evT_ok)
    | exact ⟨named_group (by simp), by simp [length_cyT, length_dbT, length_prodT]⟩
theorem namedL_ok {n : Nat} (h1 : 1 ≤ n) (h12 : n ≤ 12) {i : Nat} (hi : i < (namedL n).length) : groupB (tab (namedL n) i) = true ∧ (tab (namedL n) i).length = n :=
  namedL_mem h1 h12 (by rw [tab_eq, List.getD_eq_getElem?_getD, List.getElem?_eq_getElem hi]; exact List.getElem_mem hi)
theorem namedL_len0 (n : Nat) : 1 ≤ (namedL n).length ∧ (namedL n).length ≤ 5 := by
  unfold namedL
  split <;> simp
/-- the first table to which t is isomorphic -/
noncomputable def nameO (t : List (List Int)) (ts : List (List (List Int))) : Option Nat := (List.range ts.length).find? fun i => decide (isoF [t] [tab ts i] ≠ [])
@[irreducible] noncomputable def nameV (t : List (List Int)) : Int := if groupB t = true then (((nameO t (namedL t.length)).getD 0 : Nat) : Int) else 0
@[irreducible] noncomputable def nameC (t : List (List Int)) : Int := if groupB t = true then (if nameO t (namedL t.length) = none then 4 else 0) else 1
theorem name_1 {t : List (List Int)} (h : groupB t = false) : nameV t = 0 ∧ nameC t = 1 := by
  unfold nameV nameC
  rw [h]
  exact ⟨rfl, rfl⟩
theorem name_no {t : List (List Int)} (h : groupB t = true) {ts : List (List (List Int))} (hts : namedL t.length = ts) (hn : ∀ j, j < ts.length → isoF [t] [tab ts j] = []) : nameV t = 0 ∧ nameC t = 4 := by
  have : nameO t ts = none := by
    unfold nameO
    rw [List.find?_eq_none]
    intro i hi
    simpa using hn i (List.mem_range.1 hi)
  unfold nameV nameC
  rw [if_pos h, if_pos h, hts, this]
  exact ⟨rfl, rfl⟩
theorem name_yes {t : List (List Int)} (h : groupB t = true) {ts : List (List (List Int))} (hts : namedL t.length = ts) {m : Nat} (hm : m < ts.length) (hy : isoF [t] [tab ts m] ≠ []) (hn : ∀ j, j < m → isoF [t] [tab ts j] = []) : nameV t = m ∧ nameC t = 0 := by
  have : nameO t ts = some m := by
    unfold nameO
    rw [List.find?_range_eq_some]
    exact ⟨by simpa using hy, List.mem_range.2 hm, fun j hj => by simpa using hn j hj⟩
  unfold nameV nameC
  rw [if_pos h, if_pos h, hts, this]
  exact ⟨rfl, rfl⟩
end Go.Proofs.Ytbfhecckapgpnaa

/-
  Slices of slices that grow by several rows, each at the head of its block; what growing elsewhere leaves. No program in sight.
-/
namespace Go.Proofs.Ytbfhecckapgpnaa
set_option linter.unusedVariables false
set_option linter.unusedSimpArgs false
open Go.RowKit

/-- a slice at the head of its block that holds l -/
def RT (w : World) (x : Value) (l : List Int) : Prop := l.length ≤ 1048576 ∧ ∃ b c, x = .slice (some ⟨b, 0, none⟩) l.length c ∧ IntsAt w b 0 l
def XT (w : World) (xs : List Value) (s : List (List Int)) : Prop := xs.length = s.length ∧ ∀ i, i < s.length → ∃ x, xs[i]? = some x ∧ RT w x (row s i)
theorem RT.ext {w w' : World} {x : Value} {l : List Int} (h : RT w x l) (hx : Ext w w') : RT w' x l := by
  obtain ⟨h0, b, c, rfl, h1⟩ := h
  exact ⟨h0, b, c, rfl, h1.ext hx⟩
theorem RT.ints {w : World} {x : Value} {l : List Int} (h : RT w x l) : Ints w x l := by
  obtain ⟨h0, b, c, rfl, h1⟩ := h
  exact h1.ints h0 c
theorem XT.nil (w : World) : XT w [] [] := ⟨rfl, fun i hi => by simp at hi⟩
theorem XT.one {w : World} {x : Value} {l : List Int} (h : RT w x l) : XT w [x] [l] := ⟨rfl, fun i hi => by
  have : i = 0 := by simpa using hi
  subst this
  exact ⟨x, rfl, by rw [row_eq]; exact h⟩⟩
theorem XT.ext {w w' : World} {xs : List Value} {s : List (List Int)} (h : XT w xs s) (hx : Ext w w') : XT w' xs s := ⟨h.1, fun i hi => by
  obtain ⟨x, h1, h2⟩ := h.2 i hi
  exact ⟨x, h1, h2.ext hx⟩⟩
theorem XT.append {w : World} {xs ys : List Value} {s t : List (List Int)} (h : XT w xs s) (k : XT w ys t) : XT w (xs ++ ys) (s ++ t) := by
  refine ⟨by simp [h.1, k.1], fun i hi => ?_⟩
  by_cases hs : i < s.length
  · obtain ⟨x, h1, h2⟩ := h.2 i hs
    refine ⟨x, by rw [List.getElem?_append_left (by rw [h.1]; exact hs)]; exact h1, ?_⟩
    rw [row_eq]
    rw [row_eq] at h2
    simpa [List.getD, List.getElem?_append_left hs] using h2
  · have hl : i - s.length < t.length := by simp at hi; omega
    obtain ⟨x, h1, h2⟩ := k.2 (i - s.length) hl
    refine ⟨x, by rw [List.getElem?_append_right (by rw [h.1]; omega), h.1]; exact h1, ?_⟩
    rw [row_eq]
    rw [row_eq] at h2
    simpa [List.getD, List.getElem?_append_right (Nat.le_of_not_lt hs)] using h2
theorem XT.take {w : World} {xs : List Value} {s : List (List Int)} (h : XT w xs s) (k : Nat) : XT w (xs.take k) (s.take k) := by
  refine ⟨by simp [h.1], fun i hi => ?_⟩
  have hi' : i < k ∧ i < s.length := by rw [List.length_take] at hi; omega
  obtain ⟨x, h1, h2⟩ := h.2 i hi'.2
  refine ⟨x, by rw [List.getElem?_take, if_pos hi'.1]; exact h1, ?_⟩
  rw [row_eq]
  rw [row_eq] at h2
  simpa [List.getD, List.getElem?_take, hi'.1] using h2
theorem XT.drop {w : World} {xs : List Value} {s : List (List Int)} (h : XT w xs s) (k : Nat) : XT w (xs.drop k) (s.drop k) := by
  refine ⟨by simp [h.1], fun i hi => ?_⟩
  have hi' : k + i < s.length := by rw [List.length_drop] at hi; omega
  obtain ⟨x, h1, h2⟩ := h.2 (k + i) hi'
  refine ⟨x, by rw [List.getElem?_drop]; exact h1, ?_⟩
  rw [row_eq]
  rw [row_eq] at h2
  simpa [List.getD, List.getElem?_drop] using h2
theorem XT.cell {w : World} {xs : List Value} {s : List (List Int)} (h : XT w xs s) : ∀ u ∈ xs, u.oneCell' = true := by
  intro u hu
  obtain ⟨i, hi, rfl⟩ := List.mem_iff_getElem.1 hu
  obtain ⟨x, h1, _, b, c, rfl, _⟩ := h.2 i (by rw [← h.1]; exact hi)
  rw [List.getElem?_eq_getElem hi] at h1
  have h1 := Option.some.inj h1
  rw [h1]; rfl
theorem GrowT.xt {e base : Nat} {w : World} {v : Value} {t : List (List Int)} (h : GrowT e base w v t) : ∃ xs, w.ownsRow base e 1 v t.length xs ∧ XT w xs t := by
  obtain ⟨xs, h1, h2⟩ := h
  refine ⟨xs, h1, by have := h1.1; simpa using this, fun i hi => ?_⟩
  obtain ⟨g0, b, c, g1, g2⟩ := h2 i hi
  exact ⟨_, g1, g0, b, c, rfl, g2⟩
theorem GrowT.of_xt {e base : Nat} {w : World} {v : Value} {t : List (List Int)} {xs : List Value} (h : w.ownsRow base e 1 v t.length xs) (k : XT w xs t) : GrowT e base w v t :=
  ⟨xs, h, fun i hi => by
    obtain ⟨x, h1, h0, b, c, rfl, h2⟩ := k.2 i hi
    exact ⟨h0, b, c, h1, h2⟩⟩
/-- growing elsewhere: block g holds a slice at its head, so it is none of the rows' blocks -/
theorem RT.grown {w w' : World} {x : Value} {l : List Int} {g : Nat} {a : Option Addr} {n c : Nat} (h : RT w x l) (hg : w.grownBy w' (some g)) (hs : w.cell? ⟨g, 0, none⟩ = some (.slice a n c)) (hl : 0 < l.length) : RT w' x l := by
  obtain ⟨h0, b, c, rfl, h1⟩ := h
  refine ⟨h0, b, c, rfl, intsAt_grown h1 hg (fun _ e => ?_)⟩
  injection e with e
  have := h1 0 hl
  rw [Nat.zero_add, e, hs] at this
  cases this
theorem XT.grown {w w' : World} {xs : List Value} {s : List (List Int)} {g : Nat} {a : Option Addr} {n c : Nat} (h : XT w xs s) (hg : w.grownBy w' (some g)) (hs : w.cell? ⟨g, 0, none⟩ = some (.slice a n c)) (hr : ∀ i, i < s.length → 0 < (row s i).length) : XT w' xs s := ⟨h.1, fun i hi => by
  obtain ⟨x, h1, h2⟩ := h.2 i hi
  exact ⟨x, h1, h2.grown hg hs (hr i hi)⟩⟩
theorem GrowT.grown {e base : Nat} {w w' : World} {v : Value} {t : List (List Int)} {g : Nat} {a : Option Addr} {n c : Nat} (h : GrowT e base w v t) (hg : w.grownBy w' (some g)) (hs : w.cell? ⟨g, 0, none⟩ = some (.slice a n c)) (hr : ∀ i, i < t.length → 0 < (row t i).length) (hne : v.ownBlock ≠ some g) : GrowT e base w' v t := by
  obtain ⟨xs, h1, h2⟩ := h.xt
  exact GrowT.of_xt (World.ownsRow.kept h1 hg (.inr hne)) (h2.grown hg hs hr)
theorem GrowT.head {e base : Nat} {w : World} {v : Value} {t : List (List Int)} (h : GrowT e base w v t) (h0 : 0 < t.length) : ∃ g c b n d, v = .slice (some ⟨g, 0, none⟩) t.length c ∧ w.cell? ⟨g, 0, none⟩ = some (.slice (some ⟨b, 0, none⟩) n d) ∧ t.length ≤ c := by
  obtain ⟨xs, h1, h2⟩ := h
  rcases id h1.2 with ⟨rfl, hn⟩ | ⟨g, cap, cur, rfl, hb, hg, hnc, _, hcs, htake⟩
  · omega
  · obtain ⟨g0, b, c, g1, g2⟩ := h2 0 h0
    have := World.ownsRow.cells h1 (g := g) rfl 0 _ g1
    rw [Addr.add_lit] at this
    exact ⟨g, cap, b, _, c, rfl, this, hnc⟩
/-- row i: where it lies -/
theorem GrowT.get {e base : Nat} {w : World} {v : Value} {t : List (List Int)} (h : GrowT e base w v t) {i : Nat} (hi : i < t.length) : ∃ g c b d, v = .slice (some ⟨g, 0, none⟩) t.length c ∧ w.cell? ⟨g, i, none⟩ = some (.slice (some ⟨b, 0, none⟩) (row t i).length d) ∧ IntsAt w b 0 (row t i) ∧ (row t i).length ≤ 1048576 := by
  obtain ⟨xs, h1, h2⟩ := h
  rcases id h1.2 with ⟨rfl, hn⟩ | ⟨g, cap, cur, rfl, hb, hg, hnc, _, hcs, htake⟩
  · omega
  · obtain ⟨g0, b, c, g1, g2⟩ := h2 i hi
    have := World.ownsRow.cells h1 (g := g) rfl i _ g1
    rw [Addr.add_lit, Nat.zero_add] at this
    exact ⟨g, cap, b, c, rfl, this, g2, g0⟩
/-- a literal of one row -/
theorem GrowT.one {e : Nat} {w : World} {b c : Nat} {l : List Int} {base : Nat} (hb : base ≤ w.heap.size) (hl : l.length ≤ 1048576) (h : IntsAt w b 0 l) : GrowT e base (w.alloc (.cells #[.slice (some ⟨b, 0, none⟩) l.length c] e)) (.slice (some ⟨w.heap.size, 0, none⟩) 1 1) [l] :=
  GrowT.of_xt (t := [l]) (ownsRow_one hb) (XT.one ⟨hl, b, c, rfl, h.ext ((Ext.refl w).alloc _)⟩)
end Go.Proofs.Ytbfhecckapgpnaa

/-
  Sets as natural numbers; the socle: plain.
-/
namespace Go.Proofs.Ytbfhecckapgpnaa
set_option linter.unusedVariables false
set_option linter.unusedSimpArgs false
open Go.RowKit

/-- the set of the x below k with p x -/
def natTo (p : Nat → Bool) : Nat → Nat
  | 0 => 0
  | k + 1 => if p k = true then natTo p k ||| 2 ^ k else natTo p k
@[irreducible] def natSet (p : Nat → Bool) (k : Nat) : Nat := natTo p k
theorem natSet_zero (p) : natSet p 0 = 0 := by unfold natSet; rfl
theorem natSet_yes {p : Nat → Bool} {k : Nat} (h : p k = true) : natSet p (k + 1) = natSet p k ||| 2 ^ k := by unfold natSet; simp only [natTo]; rw [if_pos h]
theorem natSet_no {p : Nat → Bool} {k : Nat} (h : p k = false) : natSet p (k + 1) = natSet p k := by unfold natSet; simp only [natTo]; rw [if_neg (by rw [h]; simp)]
theorem natSet_bit (p : Nat → Bool) : ∀ (k i : Nat), (natSet p k).testBit i = (decide (i < k) && p i)
  | 0, i => by rw [natSet_zero]; simp
  | k + 1, i => by
    have ih := natSet_bit p k i
    cases h : p k with
    | true =>
      rw [natSet_yes h, Nat.testBit_or, ih, Nat.testBit_two_pow]
      by_cases e : k = i
      · subst e; simp [h]
      · have h1 : decide (i < k + 1) = decide (i < k) := by rw [Bool.eq_iff_iff]; simp; omega
        rw [h1]; simp [e]
    | false =>
      rw [natSet_no h, ih]
      by_cases e : k = i
      · subst e; simp [h]
      · have h1 : decide (i < k + 1) = decide (i < k) := by rw [Bool.eq_iff_iff]; simp; omega
        rw [h1]
theorem natSet_lt (p : Nat → Bool) (k : Nat) : natSet p k < 2 ^ k := by
  apply Nat.lt_pow_two_of_testBit
  intro i hi
  rw [natSet_bit]
  have : decide (i < k) = false := by simp; omega
  rw [this]; rfl
theorem natSet_ext {p q : Nat → Bool} {k : Nat} (h : ∀ i, i < k → p i = q i) : natSet p k = natSet q k := by
  apply Nat.eq_of_testBit_eq
  intro i
  rw [natSet_bit, natSet_bit]
  by_cases hi : i < k
  · rw [h i hi]
  · have : decide (i < k) = false := by simp; omega
    rw [this]; rfl
theorem bits_or_nat {a b : Nat} (ha : a < 2 ^ 62) (hb : b < 2 ^ 62) : bits .or .i64 (a : Int) (b : Int) = ((a ||| b : Nat) : Int) :=
  (bits_nat .i64 62 (by decide) (fun n h0 h1 => by rw [IntKind.wrap_i64]; omega) a b ha hb).2
theorem bits_and_nat {a b : Nat} (ha : a < 2 ^ 62) (hb : b < 2 ^ 62) : bits .and .i64 (a : Int) (b : Int) = ((a &&& b : Nat) : Int) :=
  (bits_nat .i64 62 (by decide) (fun n h0 h1 => by rw [IntKind.wrap_i64]; omega) a b ha hb).1
theorem wrap_pow {x : Nat} (h : x < 62) : wrap64 (2 ^ x) = ((2 ^ x : Nat) : Int) := by
  have h1 : 2 ^ x < 2 ^ 62 := Nat.pow_lt_pow_right (by decide) h
  have hc : ((2 : Int) ^ x) = ((2 ^ x : Nat) : Int) := by simp
  rw [hc]
  clear hc
  generalize 2 ^ x = P at h1
  exact IntWalk.wrap64_in _ (by omega)
theorem or_pow {a x : Nat} (ha : a < 2 ^ 62) (h : x < 62) : bits .or .i64 (a : Int) (wrap64 (2 ^ x)) = ((a ||| 2 ^ x : Nat) : Int) := by
  rw [wrap_pow h, bits_or_nat ha (Nat.pow_lt_pow_right (by decide) h)]
theorem setOf_nat (p : Nat → Bool) : ∀ k, k ≤ 62 → setOf p k = ((natSet p k : Nat) : Int)
  | 0, _ => by rw [setOf_zero, natSet_zero]; rfl
  | k + 1, h => by
    have ih := setOf_nat p k (by omega)
    have hl : natSet p k < 2 ^ 62 := Nat.lt_of_lt_of_le (natSet_lt p k) (Nat.pow_le_pow_right (by decide) (by omega))
    cases hp : p k with
    | true => rw [setOf_yes hp, natSet_yes hp, ih, or_pow hl (by omega)]
    | false => rw [setOf_no hp, natSet_no hp, ih]
theorem natSet_and (p q : Nat → Bool) (k : Nat) : natSet p k &&& natSet q k = natSet (fun x => p x && q x) k := by
  apply Nat.eq_of_testBit_eq
  intro i
  rw [Nat.testBit_and, natSet_bit, natSet_bit, natSet_bit]
  cases decide (i < k) <;> cases p i <;> cases q i <;> rfl
theorem natSet_62 (p : Nat → Bool) {k : Nat} (h : k ≤ 62) : natSet p k < 2 ^ 62 := Nat.lt_of_lt_of_le (natSet_lt p k) (Nat.pow_le_pow_right (by decide) h)

/-! ### the socle -/
def SocTo (t u : List (List Int)) (x k : Nat) : Prop := ∀ y, y < k → ent u x y = ent t x y ∧ ent t x y = ent t y x
instance (t u x k) : Decidable (SocTo t u x k) := by unfold SocTo; infer_instance
@[irreducible] def socB (t u : List (List Int)) (x k : Nat) : Bool := decide (SocTo t u x k)
theorem socB_iff {t u x k} : socB t u x k = true ↔ SocTo t u x k := by unfold socB; simp
theorem socB_zero (t u x) : socB t u x 0 = true := socB_iff.2 (fun y hy => by omega)
theorem socB_succ (t u : List (List Int)) (x k : Nat) : socB t u x (k + 1) = ((socB t u x k && (ent u x k == ent t x k)) && (ent t x k == ent t k x)) := by
  rw [Bool.eq_iff_iff, Bool.and_eq_true, Bool.and_eq_true, socB_iff, socB_iff, beq_iff_eq, beq_iff_eq]
  constructor
  · intro h; exact ⟨⟨fun y hy => h y (by omega), (h k (by omega)).1⟩, (h k (by omega)).2⟩
  · rintro ⟨⟨h1, h2⟩, h3⟩ y hy
    by_cases e : y = k
    · subst e; exact ⟨h2, h3⟩
    · exact h1 y (by omega)
theorem row_eq_ent {t u : List (List Int)} (h : TableOk t) (h2 : TableOk u) (hl : t.length = u.length) {x : Nat} (hx : x < t.length) : row t x = row u x ↔ ∀ y, y < t.length → ent u x y = ent t x y := by
  constructor
  · intro e y hy
    rw [← ent_def, ← ent_def, e]
  · intro hc
    refine ix_ext (by rw [h.len hx, h2.len (by omega), hl]) fun i hi => ?_
    rw [h.len hx] at hi
    rw [ent_def, ent_def]
    exact (hc i hi).symm
theorem socB_row {t u : List (List Int)} (h : TableOk t) (h2 : TableOk u) (hl : t.length = u.length) {x : Nat} (hx : x < t.length) : (eqIB (row t x) (row u x) && eqIB (row t x) (row (turnT t) x)) = socB t u x t.length := by
  rw [Bool.eq_iff_iff, Bool.and_eq_true, eqIB_iff, eqIB_iff, socB_iff, row_eq_ent h h2 hl hx, row_eq_turn h hx]
  constructor
  · rintro ⟨a, b⟩ y hy; exact ⟨a y hy, b y hy⟩
  · intro a; exact ⟨fun y hy => (a y hy).1, fun y hy => (a y hy).2⟩
@[irreducible] def socI (t u : List (List Int)) : Int := setOf (fun x => socB t u x t.length) t.length
theorem socI_def (t u : List (List Int)) : socI t u = setOf (fun x => socB t u x t.length) t.length := by unfold socI; rfl
/-- the socle as a number -/
@[irreducible] def socN (t u : List (List Int)) : Nat := natSet (fun x => socB t u x t.length) t.length
theorem socN_def (t u : List (List Int)) : socN t u = natSet (fun x => socB t u x t.length) t.length := by unfold socN; rfl
theorem socI_nat {t u : List (List Int)} (h : t.length ≤ 12) : socI t u = ((socN t u : Nat) : Int) := by rw [socI_def, socN_def, setOf_nat _ _ (by omega)]
/-- the annihilator -/
@[irreducible] def annN (t u : List (List Int)) : Nat := natSet (fun x => socB t u x t.length && comB u x t.length) t.length
theorem annN_def (t u : List (List Int)) : annN t u = natSet (fun x => socB t u x t.length && comB u x t.length) t.length := by unfold annN; rfl
theorem ann_spec {t u : List (List Int)} (h : t.length ≤ 12) (hl : t.length = u.length) : bits .and .i64 (socI t u) (centerI u) = ((annN t u : Nat) : Int) := by
  rw [socI_def, centerI_def, ← hl, setOf_nat _ _ (by omega), setOf_nat _ _ (by omega), bits_and_nat (natSet_62 _ (by omega)) (natSet_62 _ (by omega)), natSet_and, annN_def]
/-- the program's way: S holds what of the first i elements of the list is central -/
def AnnTo (t u : List (List Int)) (i S : Nat) : Prop := S < 2 ^ t.length ∧ ∀ x : Nat, S.testBit x = true ↔ (∃ j, j < i ∧ ix (elemsL (socN t u)) j = (x : Int)) ∧ comB u x t.length = true
theorem AnnTo.zero (t u) : AnnTo t u 0 0 := ⟨Nat.two_pow_pos _, fun x => by simp⟩
theorem AnnTo.no {t u i S} (h : AnnTo t u i S) {x : Nat} (hx : ix (elemsL (socN t u)) i = (x : Int)) (hc : comB u x t.length = false) : AnnTo t u (i + 1) S := ⟨h.1, fun y => by
  rw [h.2]
  constructor
  · rintro ⟨⟨j, hj, e⟩, hy⟩; exact ⟨⟨j, by omega, e⟩, hy⟩
  · rintro ⟨⟨j, hj, e⟩, hy⟩
    refine ⟨⟨j, ?_, e⟩, hy⟩
    apply Classical.byContradiction
    intro hji
    have : j = i := by omega
    subst this
    rw [hx] at e
    have : x = y := by omega
    subst this
    rw [hc] at hy; cases hy⟩
theorem AnnTo.yes {t u i S} (h : AnnTo t u i S) {x : Nat} (hl : x < t.length) (hx : ix (elemsL (socN t u)) i = (x : Int)) (hc : comB u x t.length = true) : AnnTo t u (i + 1) (S ||| 2 ^ x) := by
  refine ⟨Nat.or_lt_two_pow h.1 (Nat.pow_lt_pow_right (by decide) hl), fun y => ?_⟩
  rw [Nat.testBit_or, Nat.testBit_two_pow, Bool.or_eq_true, h.2, decide_eq_true_iff]
  constructor
  · rintro (⟨⟨j, hj, e⟩, hy⟩ | rfl)
    · exact ⟨⟨j, by omega, e⟩, hy⟩
    · exact ⟨⟨i, by omega, hx⟩, hc⟩
  · rintro ⟨⟨j, hj, e⟩, hy⟩
    by_cases hji : j = i
    · subst hji
      rw [hx] at e
      right; omega
    · left; exact ⟨⟨j, by omega, e⟩, hy⟩
theorem AnnTo.done {t u S} (hn : t.length ≤ 12) (h : AnnTo t u (elemsL (socN t u)).length S) : S = annN t u := by
  have hsl : socN t u < 2 ^ t.length := by rw [socN_def]; exact natSet_lt _ _
  have hs62 := lt62 hn hsl
  apply Nat.eq_of_testBit_eq
  intro x
  rw [Bool.eq_iff_iff, h.2, annN_def, natSet_bit, Bool.and_eq_true, Bool.and_eq_true, decide_eq_true_iff]
  constructor
  · rintro ⟨⟨j, hj, e⟩, hy⟩
    obtain ⟨z, hz, bz, ez⟩ := elemsL_get hsl (by omega) hj
    rw [e] at ez
    have : x = z := by omega
    subst this
    rw [bitB_test hs62, socN_def, natSet_bit, Bool.and_eq_true] at bz
    exact ⟨hz, bz.2, hy⟩
  · rintro ⟨hx, hs, hy⟩
    have hb : bitB (socN t u) x = true := by rw [bitB_test hs62, socN_def, natSet_bit, hs]; simp [hx]
    obtain ⟨j, hj, e⟩ := elemsL_has hsl (by omega) hb
    exact ⟨⟨j, hj, e⟩, hy⟩
end Go.Proofs.Ytbfhecckapgpnaa

/-
  Racks and quandles as tables: plain.
-/
namespace Go.Proofs.Ytbfhecckapgpnaa
set_option linter.unusedVariables false
set_option linter.unusedSimpArgs false

/-- the table of a rack -/
structure RackOk (t : List (List Int)) : Prop where
  tab : TableOk t
  perm : permRowsB t = true
  law : ∀ x, x < t.length → ∀ y, y < t.length → ∀ z, z < t.length → ent t x (ent t y z).toNat = ent t (ent t x y).toNat (ent t x z).toNat
def QuandOk (t : List (List Int)) : Prop := RackOk t ∧ ∀ x, x < t.length → ent t x x = (x : Int)
def InvolOk (t : List (List Int)) : Prop := ∀ x, x < t.length → ∀ y, y < t.length → ent t x (ent t x y).toNat = (y : Int)
def MedialOk (t : List (List Int)) : Prop := ∀ x, x < t.length → ∀ y, y < t.length → ∀ z, z < t.length → ∀ u, u < t.length → ent t (ent t x y).toNat (ent t z u).toNat = ent t (ent t x z).toNat (ent t y u).toNat
theorem RackOk.iso {t : List (List Int)} (h : RackOk t) {x : Nat} (hx : x < t.length) : IsoOk t.length [] [] (row t x) :=
  isoOk_plain.2 ⟨h.tab.len hx, permRowsB_iff.1 h.perm x hx⟩
theorem length_rowOk {t : List (List Int)} (h : TableOk t) {x : Nat} (hx : x < t.length) : (row t x).length = t.length := h.len hx
end Go.Proofs.Ytbfhecckapgpnaa

/-
  Alexander quandles of numbers: plain.
-/
namespace Go.Proofs.Ytbfhecckapgpnaa
set_option linter.unusedVariables false
set_option linter.unusedSimpArgs false

theorem lin_red (n B a u v : Int) : (B * (u % n) + a * (v % n)) % n = (B * u + a * v) % n := by
  rw [Int.emod_def u n, Int.emod_def v n]
  rw [show B * (u - n * (u / n)) + a * (v - n * (v / n)) = (B * u + a * v) + n * (-(B * (u / n) + a * (v / n))) by grind]
  exact Int.add_mul_emod_self_left _ _ _
/-- entry of an Alexander table -/
def alF (n B a x y : Nat) : Int := (((B * x + a * y) % n : Nat) : Int)
@[irreducible] def alT (n a : Nat) : List (List Int) := mkT n (alF n ((n + 1 - a) % n) a)
theorem alT_eq (n a : Nat) : mkT n (alF n ((n + 1 - a) % n) a) = alT n a := by unfold alT; rfl
theorem length_alT (n a : Nat) : (alT n a).length = n := by rw [← alT_eq, length_mkT]
theorem ent_alT {n a x y : Nat} (hx : x < n) (hy : y < n) : ent (alT n a) x y = ((((n + 1 - a) % n : Nat) : Int) * x + a * y) % n := by
  rw [← alT_eq, ent_mkT _ _ _ _ hx hy]
  unfold alF
  push_cast
  rfl
/-- what the sum of the factors is -/
theorem al_sum {n a : Nat} (h : a < n) : ∃ q : Int, (((n + 1 - a) % n : Nat) : Int) + a = 1 + n * q := by
  rcases Nat.lt_or_ge (n + 1 - a) n with g | g
  · exact ⟨1, by rw [Nat.mod_eq_of_lt g]; omega⟩
  · by_cases e : a = 0
    · subst e
      by_cases e1 : n = 1
      · subst e1; exact ⟨-1, by decide⟩
      · exact ⟨0, by
          have : (n + 1 - 0) % n = 1 := by rw [Nat.sub_zero, Nat.add_mod_left, Nat.mod_eq_of_lt (by omega)]
          rw [this]; omega⟩
    · have : a = 1 := by omega
      subst this
      exact ⟨0, by rw [Nat.add_sub_cancel, Nat.mod_self]; omega⟩
/-- coprime, as the reference tests it -/
def copB (a n : Nat) : Bool := (List.range (n + 1)).all fun d => decide (d < 2) || !(decide (a % d = 0) && decide (n % d = 0))
theorem cop_inj : ((List.range 13).all fun n => (List.range n).all fun a => !copB a n || ((List.range n).all fun y => (List.range n).all fun z => decide ((a * y) % n = (a * z) % n → y = z))) = true := by decide +kernel
theorem al_inj {n a y z : Nat} (hn : n ≤ 12) (ha : a < n) (hc : copB a n = true) (hy : y < n) (hz : z < n) (h : (a * y) % n = (a * z) % n) : y = z := by
  have h0 := cop_inj
  rw [List.all_eq_true] at h0
  have h1 := h0 n (List.mem_range.2 (by omega))
  rw [List.all_eq_true] at h1
  have h2 := h1 a (List.mem_range.2 ha)
  rw [hc] at h2
  simp only [Bool.not_true, Bool.false_or, List.all_eq_true, decide_eq_true_eq] at h2
  exact h2 y (List.mem_range.2 hy) z (List.mem_range.2 hz) h
theorem al_bd {n a x y : Nat} (hx : x < n) (hy : y < n) : 0 ≤ ent (alT n a) x y ∧ ent (alT n a) x y < n := by
  rw [ent_alT hx hy]
  exact ⟨Int.emod_nonneg _ (by omega), Int.emod_lt_of_pos _ (by omega)⟩
theorem al_table {n a : Nat} (h1 : 1 ≤ n) (hn : n ≤ 12) : TableOk (alT n a) := by
  refine ⟨by rw [length_alT]; exact h1, by rw [length_alT]; exact hn, fun x hx => ?_⟩
  rw [length_alT] at hx ⊢
  refine ⟨by rw [← alT_eq, row_mkT _ _ _ hx]; exact length_partRow _ _ _ _, fun y hy => ?_⟩
  have := al_bd (a := a) hx hy
  omega
theorem al_quand {n a : Nat} (hn : n ≤ 12) (ha : a < n) (hc : copB a n = true) : QuandOk (alT n a) := by
  have hT := al_table (n := n) (a := a) (by omega) hn
  obtain ⟨q, hq⟩ := al_sum ha
  have hl := length_alT n a
  obtain ⟨B, hB⟩ : ∃ B : Int, B = (((n + 1 - a) % n : Nat) : Int) := ⟨_, rfl⟩
  rw [← hB] at hq
  have hE : ∀ x, x < n → ∀ y, y < n → ent (alT n a) x y = (B * x + a * y) % n := fun x hx y hy => by rw [ent_alT hx hy, ← hB]
  have hc2 : ∀ x, x < n → ∀ y, y < n → (((ent (alT n a) x y).toNat : Nat) : Int) = (B * x + a * y) % n ∧ (ent (alT n a) x y).toNat < n := fun x hx y hy => by
    have := al_bd (a := a) hx hy
    rw [← hE x hx y hy]
    omega
  refine ⟨⟨hT, permRowsB_iff.2 fun x hx => ?_, ?_⟩, ?_⟩
  · rw [hl] at hx
    have hrl : (row (alT n a) x).length = n := by rw [hT.len (by rw [hl]; exact hx), hl]
    refine ⟨fun y hy => ?_, fun y hy z hz e => ?_⟩
    · rw [hrl] at hy ⊢
      rw [ent_def]
      have := al_bd (a := a) hx hy
      omega
    · rw [hrl] at hy
      rw [ent_def, ent_def, hE x hx z (by omega), hE x hx y hy] at e
      have e2 : ((a : Int) * z) % n = (a * y) % n := by
        have h3 := congrArg (fun v => (v - B * x) % n) e
        simp only [Int.emod_sub_emod] at h3
        rwa [show B * (x : Int) + a * z - B * x = a * z by grind, show B * (x : Int) + a * y - B * x = a * y by grind] at h3
      have e3 : (a * z) % n = (a * y) % n := by exact_mod_cast e2
      have := al_inj hn ha hc (by omega) hy e3
      omega
  · rw [hl]
    intro x hx y hy z hz
    obtain ⟨c1, d1⟩ := hc2 y hy z hz
    obtain ⟨c2, d2⟩ := hc2 x hx y hy
    obtain ⟨c3, d3⟩ := hc2 x hx z hz
    rw [hE x hx _ d1, hE _ d2 _ d3, c1, c2, c3, lin_red]
    have h4 := lin_red n B a x (B * y + a * z)
    have h5 : (B * (x : Int) + a * ((B * y + a * z) % n)) % n = (B * x + a * (B * y + a * z)) % n := by
      rw [← h4, Int.emod_eq_of_lt (by omega) (by omega : (x : Int) < n)]
    rw [h5, show B * (B * x + a * y) + a * (B * x + a * z) = (B * x + a * (B * y + a * z)) + n * (q * (B * x)) by
      have : B * (B * x + a * y) + a * (B * x + a * z) = (B + a) * (B * x) + a * (B * y + a * z) := by grind
      rw [this, hq]; grind]
    exact (Int.add_mul_emod_self_left _ _ _).symm
  · rw [hl]
    intro x hx
    rw [hE x hx x hx, show B * x + a * x = x + n * (q * x) by
      have : B * (x : Int) + a * x = (B + a) * x := by grind
      rw [this, hq]; grind, Int.add_mul_emod_self_left]
    exact Int.emod_eq_of_lt (by omega) (by omega)
theorem al_medial {n a : Nat} (hn : n ≤ 12) (h1 : 1 ≤ n) : MedialOk (alT n a) := by
  have hl := length_alT n a
  obtain ⟨B, hB⟩ : ∃ B : Int, B = (((n + 1 - a) % n : Nat) : Int) := ⟨_, rfl⟩
  have hE : ∀ x, x < n → ∀ y, y < n → ent (alT n a) x y = (B * x + a * y) % n := fun x hx y hy => by rw [ent_alT hx hy, ← hB]
  have hc2 : ∀ x, x < n → ∀ y, y < n → (((ent (alT n a) x y).toNat : Nat) : Int) = (B * x + a * y) % n ∧ (ent (alT n a) x y).toNat < n := fun x hx y hy => by
    have := al_bd (a := a) hx hy
    rw [← hE x hx y hy]
    omega
  unfold MedialOk
  rw [hl]
  intro x hx y hy z hz u hu
  obtain ⟨c1, d1⟩ := hc2 x hx y hy
  obtain ⟨c2, d2⟩ := hc2 z hz u hu
  obtain ⟨c3, d3⟩ := hc2 x hx z hz
  obtain ⟨c4, d4⟩ := hc2 y hy u hu
  rw [hE _ d1 _ d2, hE _ d3 _ d4, c1, c2, c3, c4, lin_red, lin_red]
  congr 1
  grind
end Go.Proofs.Ytbfhecckapgpnaa
