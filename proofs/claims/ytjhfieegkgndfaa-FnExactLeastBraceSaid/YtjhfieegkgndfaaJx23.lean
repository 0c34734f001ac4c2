/-
  Tables that lie apart from what is written; the mapping's steps in memory. No program in sight.
-/
import Derived.Test.YtjhfieegkgndfaaJx0
import Derived.Test.YtjhfieegkgndfaaJx1
import Derived.Test.YtjhfieegkgndfaaJx3
import Derived.Test.YtjhfieegkgndfaaJx8
import Derived.Test.YtjhfieegkgndfaaJx2
import Derived.Test.YtjhfieegkgndfaaJx4
import Derived.Test.YtjhfieegkgndfaaJx5
import Derived.Test.YtjhfieegkgndfaaJx15
import Derived.Test.YtjhfieegkgndfaaJx13
import Derived.Test.YtjhfieegkgndfaaJx21
import Derived.Test.YtjhfieegkgndfaaJx22
import Derived.Test.YtjhfieegkgndfaaJx7
import Derived.Test.YtjhfieegkgndfaaJx6
import Derived.Test.YtjhfieegkgndfaaJx14
import Derived.Test.YtjhfieegkgndfaaJx9
namespace Go.Proofs.Ytjhfieegkgndfaa
set_option linter.unusedVariables false
set_option linter.unusedSimpArgs false
open Go.RowKit
open Go.Deep

/-- the tables ts of n elements lie below base, apart from the block X -/
def TabsIn (base : Nat) (X : Nat → Prop)  (w : World) (b o n : Nat) (ts : List (List (List Int))) : Prop := b < base ∧ ¬ X b ∧ ∀ k, k < ts.length →
  ∃ b1 o1 c1, b1 < base ∧ ¬ X b1 ∧ w.cell? ⟨b, o + k, none⟩ = some (.slice (some ⟨b1, o1, none⟩) n c1) ∧ ∀ x, x < n →
    ∃ b2 o2 c2, b2 < base ∧ ¬ X b2 ∧ w.cell? ⟨b1, o1 + x, none⟩ = some (.slice (some ⟨b2, o2, none⟩) n c2) ∧ ∀ y, y < n → w.cell? ⟨b2, o2 + y, none⟩ = some (.int .i64 (ent (tab ts k) x y))
/-- what lies below base, apart from X, is as it was -/
def KeepB (base : Nat) (X : Nat → Prop)  (w w' : World) : Prop := ∀ k, k < base → ¬ X k → w'.heap[k]? = w.heap[k]?
theorem KeepB.refl (base : Nat) (X : Nat → Prop)  (w : World) : KeepB base X w w := fun _ _ _ => rfl
theorem KeepB.trans {base : Nat} {X : Nat → Prop}  {a b c : World} (h : KeepB base X a b) (k : KeepB base X b c) : KeepB base X a c := fun i h1 h2 => (k i h1 h2).trans (h i h1 h2)
theorem KeepB.cell {base : Nat} {X : Nat → Prop}  {w w' : World} (h : KeepB base X w w') {b o : Nat} {v : Value} (h1 : b < base) (h2 : ¬ X b) (hc : w.cell? ⟨b, o, none⟩ = some v) : w'.cell? ⟨b, o, none⟩ = some v := by
  rw [World.cell?_of_block (w := w) (a := ⟨b, o, none⟩) (h b h1 h2)]; exact hc
theorem TabsIn.keep {base : Nat} {X : Nat → Prop}  {w w' : World} {b o n : Nat} {ts : List (List (List Int))} (h : TabsIn base X w b o n ts) (hk : KeepB base X w w') : TabsIn base X w' b o n ts := by
  obtain ⟨h1, h2, h3⟩ := h
  refine ⟨h1, h2, fun k hkl => ?_⟩
  obtain ⟨b1, o1, c1, g1, g2, g3, g4⟩ := h3 k hkl
  refine ⟨b1, o1, c1, g1, g2, hk.cell h1 h2 g3, fun x hx => ?_⟩
  obtain ⟨b2, o2, c2, k1, k2, k3, k4⟩ := g4 x hx
  exact ⟨b2, o2, c2, k1, k2, hk.cell g1 g2 k3, fun y hy => hk.cell k1 k2 (k4 y hy)⟩

/-- the blocks that the mapping's own steps write -/
def OwnP (M I U : Nat) (sv : Value) (b : Nat) : Prop := b = M ∨ b = I ∨ b = U ∨ sv.ownBlock = some b
/-- the set lies where it lay, or in a block that is new since w -/
def OwnsAt (vo vo' : Value) (w : World) : Prop := vo'.ownBlock = vo.ownBlock ∨ ∃ g, vo'.ownBlock = some g ∧ w.heap.size ≤ g
theorem OwnsAt.refl (v : Value) (w : World) : OwnsAt v v w := .inl rfl
theorem Only.mono {p q : Nat → Prop} {w w' : World} (h : Only p w w') (hpq : ∀ k, k < w.heap.size → p k → q k) : Only q w w' := ⟨h.os, h.tape, h.output, h.size, fun k hk hn => h.keep k hk (fun e => hn (hpq k hk e))⟩
theorem OwnsAt.trans {a b c : Value} {w w' : World} (h : OwnsAt a b w) (k : OwnsAt b c w') (hs : w.heap.size ≤ w'.heap.size) : OwnsAt a c w := by
  rcases k with e | ⟨g, e, hg⟩
  · rcases h with e2 | ⟨g, e2, hg⟩
    · exact .inl (e.trans e2)
    · exact .inr ⟨g, e.trans e2, hg⟩
  · exact .inr ⟨g, e, by omega⟩
/-- a step goes on from a step -/
theorem Only.next {M I U : Nat} {sv sv1 : Value} {w w1 w2 : World} (h : Only (OwnP M I U sv) w w1) (ha : OwnsAt sv sv1 w) (k : Only (OwnP M I U sv1) w1 w2) : Only (OwnP M I U sv) w w2 :=
  ⟨k.os.trans h.os, k.tape.trans h.tape, k.output.trans h.output, Nat.le_trans h.size k.size, fun i hi hn => (k.keep i (Nat.lt_of_lt_of_le hi h.size) (fun e => by
    rcases e with e | e | e | e
    · exact hn (.inl e)
    · exact hn (.inr (.inl e))
    · exact hn (.inr (.inr (.inl e)))
    · rcases ha with e2 | ⟨g, e2, hg⟩
      · exact hn (.inr (.inr (.inr (e2 ▸ e))))
      · rw [e2] at e
        injection e with e
        omega)).trans (h.keep i hi hn)⟩
theorem Only.ext {p : Nat → Prop} {w w' : World} (h : Ext w w') : Only p w w' := ⟨h.os, h.tape, h.output, h.size, fun k hk _ => h.block k hk⟩
theorem Only.keepB {p : Nat → Prop} {base : Nat} {X : Nat → Prop}  {w w' : World} (h : Only p w w') (hp : ∀ k, p k → base ≤ k) (hb : base ≤ w.heap.size) : KeepB base X w w' := fun k h1 _ => h.keep k (by omega) (fun e => by have := hp k e; omega)
theorem MapSt.ownLow {base : Nat} {w : World} {M I U : Nat} {v u : Value} {n : Nat} {f s : List Int} {sv : Value} (h : MapSt base w M I U v u n f s sv) : ∀ k, OwnP M I U sv k → base ≤ k := fun k e => by
  obtain ⟨l1, l2, l3⟩ := h.low
  rcases e with rfl | rfl | rfl | e
  · exact l1
  · exact l2
  · exact l3
  · exact (h.set.lt e).1
theorem MapSt.size {base : Nat} {w : World} {M I U : Nat} {v u : Value} {n : Nat} {f s : List Int} {sv : Value} (h : MapSt base w M I U v u n f s sv) : base ≤ w.heap.size := by
  have := h.img_lt
  have := h.low.1
  omega
theorem MapSt.drew {base : Nat} {w : World} {M I U : Nat} {v u : Value} {n : Nat} {f s : List Int} {sv : Value} (h : MapSt base w M I U v u n f s sv) : MapSt base w.drew M I U v u n f s sv := h.ext h.img_lt (Ext.refl w).drew
theorem MapSt.drewN {base : Nat} {w : World} {M I U : Nat} {v u : Value} {n : Nat} {f s : List Int} {sv : Value} (h : MapSt base w M I U v u n f s sv) (k : Nat) : MapSt base (w.drewN k) M I U v u n f s sv := h.ext h.img_lt ((Ext.refl w).drewN k)
theorem MapSt.put {base : Nat} {w : World} {M I U : Nat} {v u : Value} {n : Nat} {g s : List Int} {sv : Value} (h : MapSt base w M I U v u n g s sv) (hl : g.length = n) {x q : Nat} (hx : x < n) (hf : ix g x < 0) :
    MapSt base ((w.setCell ⟨I, x, none⟩ (.int .i64 (q : Int))).setCell ⟨U, q, none⟩ (.bool true)) M I U v u n (g.set x (q : Int)) s sv where
  c0 := kc_set (fun e => h.apart.2.1 e) (kc_set (fun e => h.apart.1 e) h.c0)
  c1 := kc_set (fun e => h.apart.2.1 e) (kc_set (fun e => h.apart.1 e) h.c1)
  c2 := kc_set (fun e => h.apart.2.1 e) (kc_set (fun e => h.apart.1 e) h.c2)
  c3 := kc_set (fun e => h.apart.2.1 e) (kc_set (fun e => h.apart.1 e) h.c3)
  c4 := kc_set (fun e => h.apart.2.1 e) (kc_set (fun e => h.apart.1 e) h.c4)
  fr := kf_set (kf_set h.fr)
  img := ((h.img.set x _).setOther (fun e => h.apart.2.2.1 e) _).congr fun i hi => by
    by_cases e : i = x
    · subst e; rw [if_pos rfl, ix_set_same _ _ _ (by rw [hl]; exact hx)]
    · rw [if_neg e, ix_set_other _ _ _ _ e]
  usd := ((h.usd.setOther (fun e => h.apart.2.2.1 e.symm) _).set q _).congr fun i hi => by
    rw [hasB_set hl hx hf]
    by_cases e : i = q
    · rw [if_pos e, if_pos e]
    · rw [if_neg e, if_neg e]
  set := (h.set.setOff (fun g hg => (h.apart.2.2.2 g hg).2.1) _).setOff (fun g hg => (h.apart.2.2.2 g hg).2.2) _
  apart := h.apart
  low := h.low
theorem MapSt.put2 {base : Nat} {w : World} {M I U : Nat} {v u : Value} {n : Nat} {g s : List Int} {sv : Value} (h : MapSt base w M I U v u n g s sv) (hl : g.length = n) {x q : Nat} (hx : x < n) (hf : ix g x < 0) :
    MapSt base ((w.setCell ⟨U, q, none⟩ (.bool true)).setCell ⟨I, x, none⟩ (.int .i64 (q : Int))) M I U v u n (g.set x (q : Int)) s sv where
  c0 := kc_set (fun e => h.apart.1 e) (kc_set (fun e => h.apart.2.1 e) h.c0)
  c1 := kc_set (fun e => h.apart.1 e) (kc_set (fun e => h.apart.2.1 e) h.c1)
  c2 := kc_set (fun e => h.apart.1 e) (kc_set (fun e => h.apart.2.1 e) h.c2)
  c3 := kc_set (fun e => h.apart.1 e) (kc_set (fun e => h.apart.2.1 e) h.c3)
  c4 := kc_set (fun e => h.apart.1 e) (kc_set (fun e => h.apart.2.1 e) h.c4)
  fr := kf_set (kf_set h.fr)
  img := ((h.img.setOther (fun e => h.apart.2.2.1 e) _).set x _).congr fun i hi => by
    by_cases e : i = x
    · subst e; rw [if_pos rfl, ix_set_same _ _ _ (by rw [hl]; exact hx)]
    · rw [if_neg e, ix_set_other _ _ _ _ e]
  usd := ((h.usd.set q _).setOther (fun e => h.apart.2.2.1 e.symm) _).congr fun i hi => by
    rw [hasB_set hl hx hf]
    by_cases e : i = q
    · rw [if_pos e, if_pos e]
    · rw [if_neg e, if_neg e]
  set := (h.set.setOff (fun g hg => (h.apart.2.2.2 g hg).2.2) _).setOff (fun g hg => (h.apart.2.2.2 g hg).2.1) _
  apart := h.apart
  low := h.low
theorem only_put {M I U : Nat} {sv : Value} {w : World} (x q : Nat) (a b : Value) : Only (OwnP M I U sv) w ((w.setCell ⟨I, x, none⟩ a).setCell ⟨U, q, none⟩ b) := (only_set (.inr (.inl rfl)) _).trans (only_set (.inr (.inr (.inl rfl))) _)
theorem only_put2 {M I U : Nat} {sv : Value} {w : World} (x q : Nat) (a b : Value) : Only (OwnP M I U sv) w ((w.setCell ⟨U, q, none⟩ b).setCell ⟨I, x, none⟩ a) := (only_set (.inr (.inr (.inl rfl))) _).trans (only_set (.inr (.inl rfl)) _)
/-- an element is appended to the set -/
theorem MapSt.app {base : Nat} {w w' : World} {M I U : Nat} {v u : Value} {n : Nat} {f s s' : List Int} {sv sv' : Value} {o : Obj} (h : MapSt base w M I U v u n f s sv) (hg : (w.alloc o).grownBy w' sv.ownBlock) (hs : GrowI 2 base w' sv' s') (hat : sv'.ownBlock = sv.ownBlock ∨ sv'.ownBlock = some (w.heap.size + 1)) :
    MapSt base (w'.setCell ⟨M, 4, none⟩ sv') M I U v u n f s' sv' := by
  have hx := h.ext h.img_lt ((Ext.refl w).alloc o)
  have hz : (w.alloc o).heap.size = w.heap.size + 1 := by simp
  have nM : M ≠ w.heap.size + 1 := by have := hx.img_lt; omega
  have nI : I ≠ w.heap.size + 1 := by have := hx.img.lt; omega
  have nU : U ≠ w.heap.size + 1 := by have := hx.usd.lt; omega
  have kM : some M ≠ sv.ownBlock := fun e => (h.apart.2.2.2 M e.symm).1 rfl
  have kI : some I ≠ sv.ownBlock := fun e => (h.apart.2.2.2 I e.symm).2.1 rfl
  have kU : some U ≠ sv.ownBlock := fun e => (h.apart.2.2.2 U e.symm).2.2 rfl
  have ap : ∀ g, sv'.ownBlock = some g → g ≠ M ∧ g ≠ I ∧ g ≠ U := fun g e => by
    rcases hat with e2 | e2
    · rw [e2] at e; exact h.apart.2.2.2 g e
    · rw [e2] at e; injection e with e
      subst e
      exact ⟨nM.symm, nI.symm, nU.symm⟩
  exact {
    c0 := kc_set2 (by simp) (hg.cell hx.c0 kM)
    c1 := kc_set2 (by simp) (hg.cell hx.c1 kM)
    c2 := kc_set2 (by simp) (hg.cell hx.c2 kM)
    c3 := kc_set2 (by simp) (hg.cell hx.c3 kM)
    c4 := kc_same (hg.cell hx.c4 kM)
    fr := kf_set (by
      have e := hg.block M hx.img_lt kM
      rw [World.frozen?_of_block (w := w.alloc o) (a := ⟨M, 4, none⟩) e]; exact hx.fr)
    img := (hx.img.of_block (hg.block I hx.img.lt kI)).setOther (fun e => h.apart.1 e.symm) _
    usd := (hx.usd.of_block (hg.block U hx.usd.lt kU)).setOther (fun e => h.apart.2.1 e.symm) _
    set := hs.setOff (fun g hg => (ap g hg).1) _
    apart := ⟨h.apart.1, h.apart.2.1, h.apart.2.2.1, ap⟩
    low := h.low }
theorem only_app {w w' : World} {M I U : Nat} {sv : Value} {o : Obj} (hg : (w.alloc o).grownBy w' sv.ownBlock) (x : Value) : Only (OwnP M I U sv) w (w'.setCell ⟨M, 4, none⟩ x) :=
  (Only.trans ⟨hg.os.trans rfl, hg.tape.trans rfl, hg.output.trans rfl, by have := hg.size; simp at this; omega, fun k hk hn => (hg.block k (by simp; omega) (fun e => hn (.inr (.inr (.inr e.symm))))).trans (Below.heap_alloc w o k hk)⟩ (only_set (.inl rfl) _))
theorem MapSt.row {base : Nat} {w : World} {M I U : Nat} {v u : Value} {n : Nat} {f s : List Int} {sv : Value} (h : MapSt base w M I U v u n f s sv) (hs : 0 < s.length) : ∃ S c, sv = .slice (some ⟨S, 0, none⟩) s.length c ∧ IntsAt w S 0 s := by
  obtain ⟨b, c, rfl, ho⟩ := h.set.own (fun e => by
    rcases h.set.2 with ⟨-, hn⟩ | ⟨g, cap, cur, rfl, _⟩
    · omega
    · simp at e)
  exact ⟨b, c, rfl, ho.2.2.1⟩
end Go.Proofs.Ytjhfieegkgndfaa

/-
  The next permutation in lexicographic order: plain.
-/
namespace Go.Proofs.Ytjhfieegkgndfaa
set_option linter.unusedVariables false
set_option linter.unusedSimpArgs false

/-- all permutations of n elements in lexicographic order -/
theorem isoOk_plain {n : Nat} {p : List Int} : IsoOk n [] [] p ↔ p.length = n ∧ PermOk p := by
  constructor
  · intro h; exact ⟨h.1, h.2.1⟩
  · rintro ⟨h1, h2⟩; exact ⟨h1, h2, fun k hk => by simp at hk⟩
/-- p falls from i on -/
def Falls (p : List Int) (i : Nat) : Prop := ∀ j, i ≤ j → j + 1 < p.length → ix p (j + 1) < ix p j
/-- p rises from i on -/
def Rises (p : List Int) (i : Nat) : Prop := ∀ j, i ≤ j → j + 1 < p.length → ix p j < ix p (j + 1)
theorem Falls.le {p : List Int} {i : Nat} (h : Falls p i) {a : Nat} (ha : i ≤ a) : ∀ (k : Nat), a + k < p.length → ix p (a + k) ≤ ix p a
  | 0, _ => Int.le_refl _
  | k + 1, hk => by
    have := Falls.le h ha k (by omega)
    have := h (a + k) (by omega) (by omega)
    rw [show a + (k + 1) = a + k + 1 by omega]; omega
theorem Rises.le {p : List Int} {i : Nat} (h : Rises p i) {a : Nat} (ha : i ≤ a) : ∀ (k : Nat), a + k < p.length → ix p a ≤ ix p (a + k)
  | 0, _ => Int.le_refl _
  | k + 1, hk => by
    have := Rises.le h ha k (by omega)
    have := h (a + k) (by omega) (by omega)
    rw [show a + (k + 1) = a + k + 1 by omega]; omega
/-- two permutations that agree ahead of d: what r has from d on, p has from d on -/
theorem perm_rest {n : Nat} {p r : List Int} (hp : IsoOk n [] [] p) (hr : IsoOk n [] [] r) {d : Nat} (he : ∀ i, i < d → ix p i = ix r i) {e : Nat} (hd : d ≤ e) (hen : e < n) : ∃ j, d ≤ j ∧ j < n ∧ ix p j = ix r e := by
  obtain ⟨y, hy⟩ : ∃ y : Nat, ix r e = (y : Int) := ⟨_, (Int.toNat_of_nonneg (hr.bd hen).1).symm⟩
  obtain ⟨j, hj, e2⟩ := hp.surj (y := y) (by have := hr.bd hen; omega)
  refine ⟨j, ?_, hj, by omega⟩
  apply Classical.byContradiction
  intro hlt
  have h1 := he j (by omega)
  have := hr.inj (x := j) (y := e) (by omega) hen (by omega)
  omega
theorem lex_first {n : Nat} {p r : List Int} (hp : p.length = n) (hr : r.length = n) (h : p ≠ r) : ∃ d, d < n ∧ (∀ i, i < d → ix p i = ix r i) ∧ ix p d ≠ ix r d := by
  apply Classical.byContradiction
  intro hno
  refine h (ix_ext (by omega) fun i hi => ?_)
  have : ∀ k, k ≤ n → ∀ i, i < k → ix p i = ix r i := by
    intro k
    induction k with
    | zero => intro _ i hi; omega
    | succ k ih =>
      intro hk i hi
      by_cases e : i < k
      · exact ih (by omega) i e
      · have : i = k := by omega
        subst this
        apply Classical.byContradiction
        intro hne
        exact hno ⟨i, by omega, ih (by omega), hne⟩
  exact this n (Nat.le_refl _) i (by omega)
/-- a permutation that rises from i on is the least of those that begin like it -/
theorem rises_least {n : Nat} {q r : List Int} (hq : IsoOk n [] [] q) (hr : IsoOk n [] [] r) {i : Nat} (hR : Rises q i) (he : ∀ j, j < i → ix q j = ix r j) (hne : q ≠ r) : LexLt q r := by
  obtain ⟨d, hd, h1, h2⟩ := lex_first hq.1 hr.1 hne
  have hid : i ≤ d := by
    apply Classical.byContradiction
    intro h
    exact h2 (he d (by omega))
  obtain ⟨j, hj, hjn, e⟩ := perm_rest hq hr h1 (Nat.le_refl d) hd
  have := hR.le hid (j - d) (by have := hq.1; omega)
  rw [show d + (j - d) = j by omega] at this
  exact ⟨d, h1, by omega⟩
/-- one that falls from i on is the greatest -/
theorem falls_greatest {n : Nat} {p r : List Int} (hp : IsoOk n [] [] p) (hr : IsoOk n [] [] r) {i : Nat} (hF : Falls p i) {d : Nat} (hd : d < n) (hid : i ≤ d) (h1 : ∀ j, j < d → ix p j = ix r j) : ix r d ≤ ix p d := by
  obtain ⟨j, hj, hjn, e⟩ := perm_rest hp hr h1 (Nat.le_refl d) hd
  have := hF.le hid (j - d) (by have := hp.1; omega)
  rw [show d + (j - d) = j by omega] at this
  omega
theorem lex_lt_len {n : Nat} {p r : List Int} (hp : p.length = n) (hr : r.length = n) (h : LexLt p r) : ∃ d, d < n ∧ (∀ i, i < d → ix p i = ix r i) ∧ ix p d < ix r d := by
  obtain ⟨d, h1, h2⟩ := h
  refine ⟨d, ?_, h1, h2⟩
  apply Classical.byContradiction
  intro hn
  have e1 : ix p d = 0 := by rw [ix_eq]; simp [List.getD, show p.length ≤ d by omega]
  have e2 : ix r d = 0 := by rw [ix_eq]; simp [List.getD, show r.length ≤ d by omega]
  omega
/-- q follows p: it agrees with p ahead of i, has at i the least of p's that are greater and stand behind, and rises behind i -/
structure NextP (n : Nat) (p q : List Int) (i : Nat) : Prop where
  hin : i < n
  falls : Falls p (i + 1)
  same : ∀ j, j < i → ix q j = ix p j
  more : ix p i < ix q i
  least : ∀ j, i < j → j < n → ix p i < ix p j → ix q i ≤ ix p j
  rises : Rises q (i + 1)
theorem next_least {n i : Nat} {p q r : List Int} (hp : IsoOk n [] [] p) (hq : IsoOk n [] [] q) (hr : IsoOk n [] [] r) (h : NextP n p q i) (hlt : LexLt p r) : q = r ∨ LexLt q r := by
  obtain ⟨d, hd, h1, h2⟩ := lex_lt_len hp.1 hr.1 hlt
  have hdi : d ≤ i := by
    apply Classical.byContradiction
    intro hn
    have := falls_greatest hp hr h.falls hd (by omega) h1
    omega
  by_cases e : d = i
  · subst e
    obtain ⟨j, hj, hjn, e⟩ := perm_rest hp hr h1 (Nat.le_refl d) hd
    have hjd : d < j := by
      apply Classical.byContradiction
      intro hn
      have : j = d := by omega
      subst this
      omega
    have := h.least j hjd hjn (by omega)
    by_cases e2 : ix q d = ix r d
    · by_cases e3 : q = r
      · exact .inl e3
      · refine .inr (rises_least hq hr h.rises (fun k hk => ?_) e3)
        by_cases e4 : k = d
        · subst e4; exact e2
        · rw [h.same k (by omega)]; exact h1 k (by omega)
    · exact .inr ⟨d, fun k hk => by rw [h.same k hk]; exact h1 k hk, by omega⟩
  · exact .inr ⟨d, fun k hk => by rw [h.same k (by omega)]; exact h1 k hk, by rw [h.same d (by omega)]; exact h2⟩
theorem LexLt.trans {p q r : List Int} (h : LexLt p q) (k : LexLt q r) : LexLt p r := by
  obtain ⟨d, h1, h2⟩ := h
  obtain ⟨e, k1, k2⟩ := k
  rcases Nat.lt_trichotomy d e with g | g | g
  · exact ⟨d, fun i hi => (h1 i hi).trans (k1 i (by omega)), by rw [← k1 d g]; exact h2⟩
  · subst g; exact ⟨d, fun i hi => (h1 i hi).trans (k1 i hi), by omega⟩
  · exact ⟨e, fun i hi => (h1 i (by omega)).trans (k1 i hi), by rw [h1 e g]; exact k2⟩
/-- in a sorted list: the member that stands right behind p -/
theorem sorted_next {L : List (List Int)} {pre rest : List (List Int)} {p q : List Int} (hs : L.Pairwise LexLt) (hL : L = pre ++ p :: rest) (hq : q ∈ L) (hpq : LexLt p q) (hmin : ∀ r, r ∈ L → LexLt p r → q = r ∨ LexLt q r) : ∃ rest', rest = q :: rest' := by
  subst hL
  have h2 := (List.pairwise_append.1 hs)
  have h3 := List.pairwise_cons.1 h2.2.1
  have hqr : q ∈ rest := by
    rcases List.mem_append.1 hq with h | h
    · exact absurd (hpq.trans (h2.2.2 q h p (by simp))) (LexLt.irrefl p)
    · rcases List.mem_cons.1 h with h | h
      · subst h; exact absurd hpq (LexLt.irrefl q)
      · exact h
  cases rest with
  | nil => simp at hqr
  | cons a rest =>
    rcases hmin a (by simp) (h3.1 a (by simp)) with e | e
    · subst e; exact ⟨rest, rfl⟩
    · rcases List.mem_cons.1 hqr with e2 | e2
      · subst e2; exact ⟨rest, rfl⟩
      · exact absurd (e.trans ((List.pairwise_cons.1 h3.2).1 q e2)) (LexLt.irrefl q)
theorem sorted_last {L : List (List Int)} {pre rest : List (List Int)} {p : List Int} (hs : L.Pairwise LexLt) (hL : L = pre ++ p :: rest) (hmax : ∀ r, r ∈ L → ¬ LexLt p r) : rest = [] := by
  subst hL
  cases rest with
  | nil => rfl
  | cons a rest =>
    have h2 := (List.pairwise_append.1 hs)
    exact absurd ((List.pairwise_cons.1 h2.2.1).1 a (by simp)) (hmax a (by simp))
theorem sorted_first {L : List (List Int)} {p : List Int} (hs : L.Pairwise LexLt) (hp : p ∈ L) (hmin : ∀ r, r ∈ L → p = r ∨ LexLt p r) : ∃ rest, L = p :: rest := by
  cases L with
  | nil => simp at hp
  | cons a rest =>
    have h3 := List.pairwise_cons.1 hs
    rcases hmin a (by simp) with e | e
    · subst e; exact ⟨rest, rfl⟩
    · rcases List.mem_cons.1 hp with e2 | e2
      · subst e2; exact ⟨rest, rfl⟩
      · exact absurd (e.trans (h3.1 p e2)) (LexLt.irrefl p)
/-- what swapping i and k and turning round all behind i makes of c -/
def swapC (c : Nat → Int) (i k x : Nat) : Int := if x = i then c k else if x = k then c i else c x
def turnC (c : Nat → Int) (i n x : Nat) : Int := if x ≤ i then c x else c (n + i - x)
def nextC (c : Nat → Int) (i k n : Nat) : Nat → Int := turnC (swapC c i k) i n
/-- the list of the first n values of c -/
def listC (c : Nat → Int) (n : Nat) : List Int := (List.range n).map c
theorem length_listC (c : Nat → Int) (n : Nat) : (listC c n).length = n := by simp [listC]
theorem ix_listC (c : Nat → Int) (n i : Nat) (h : i < n) : ix (listC c n) i = c i := by rw [ix_eq]; simp [listC, List.getD, h]
theorem listC_ix {p : List Int} {n : Nat} (h : p.length = n) : listC (ix p) n = p := ix_ext (by rw [length_listC, h]) fun i hi => by rw [length_listC] at hi; rw [ix_listC _ _ _ hi]
theorem swapC_swap (c : Nat → Int) (i k x : Nat) : swapC c i k x = c (if x = i then k else if x = k then i else x) := by
  unfold swapC
  by_cases h1 : x = i
  · rw [if_pos h1, if_pos h1]
  · rw [if_neg h1, if_neg h1]
    by_cases h2 : x = k
    · rw [if_pos h2, if_pos h2]
    · rw [if_neg h2, if_neg h2]
/-- places renamed: still a permutation -/
theorem perm_places {n : Nat} {p : List Int} (hp : IsoOk n [] [] p) (g : Nat → Nat) (hg : ∀ x, x < n → g x < n) (hi : ∀ x y, x < n → y < n → g x = g y → x = y) : IsoOk n [] [] (listC (fun x => ix p (g x)) n) := by
  refine isoOk_plain.2 ⟨length_listC _ _, ⟨fun i h => ?_, fun i h j hj e => ?_⟩⟩
  · rw [length_listC] at h ⊢
    rw [ix_listC _ _ _ h]
    have := hp.bd (hg i h)
    omega
  · rw [length_listC] at h
    rw [ix_listC _ _ _ h, ix_listC _ _ _ (by omega)] at e
    have := hp.inj (hg j (by omega)) (hg i h) e
    have := hi j i (by omega) h this
    omega
theorem nextC_perm {n i k : Nat} {p : List Int} (hp : IsoOk n [] [] p) (hi : i < n) (hk : k < n) (hik : i < k) : IsoOk n [] [] (listC (nextC (ix p) i k n) n) := by
  have h := perm_places hp (fun x => (fun y => if y = i then k else if y = k then i else y) (if x ≤ i then x else n + i - x)) (fun x hx => by
    simp only []
    repeat' split
    all_goals omega) (fun x y hx hy => by
    simp only []
    repeat' split
    all_goals omega)
  have e : (fun x => ix p ((fun y => if y = i then k else if y = k then i else y) (if x ≤ i then x else n + i - x))) = nextC (ix p) i k n := by
    funext x
    unfold nextC turnC
    simp only []
    by_cases hx : x ≤ i
    · rw [if_pos hx, if_pos hx, swapC_swap]
    · rw [if_neg hx, if_neg hx, swapC_swap]
  rw [e] at h
  exact h
/-- the program's choice of i and k: the next permutation -/
theorem nextC_next {n i k : Nat} {p : List Int} (hp : IsoOk n [] [] p) (hi : i + 1 < n) (hk : k < n) (hik : i < k) (hF : Falls p (i + 1)) (hup : ix p i < ix p k) (hlow : ∀ j, k < j → j < n → ix p j < ix p i) : NextP n p (listC (nextC (ix p) i k n) n) i where
  hin := by omega
  falls := hF
  same j hj := by
    rw [ix_listC _ _ _ (by omega)]
    unfold nextC turnC swapC
    rw [if_pos (by omega), if_neg (by omega), if_neg (by omega)]
  more := by
    rw [ix_listC _ _ _ (by omega)]
    unfold nextC turnC swapC
    rw [if_pos (Nat.le_refl _), if_pos rfl]
    exact hup
  least j hj hjn hlt := by
    rw [ix_listC _ _ _ (by omega)]
    unfold nextC turnC swapC
    rw [if_pos (Nat.le_refl _), if_pos rfl]
    have hjk : j ≤ k := by
      apply Classical.byContradiction
      intro hn
      have := hlow j (by omega) hjn
      omega
    have := hF.le (a := j) (by omega) (k - j) (by have := hp.1; omega)
    rw [show j + (k - j) = k by omega] at this
    exact this
  rises j hj hjl := by
    rw [length_listC] at hjl
    rw [ix_listC _ _ _ (by omega), ix_listC _ _ _ hjl]
    have hpl := hp.1
    -- places y = n + i - j and y - 1 of the swapped list
    obtain ⟨y, hy⟩ : ∃ y, y = n + i - (j + 1) := ⟨_, rfl⟩
    have hy2 : n + i - j = y + 1 := by omega
    unfold nextC turnC
    rw [if_neg (by omega), if_neg (by omega), hy2, ← hy]
    have hyi : i < y := by omega
    have hyn : y + 1 < n := by omega
    have h1 := hF y (by omega) (by omega)
    unfold swapC
    rw [if_neg (by omega), if_neg (show ¬ y = i by omega)]
    by_cases e1 : y + 1 = k
    · rw [if_pos e1, if_neg (by omega)]
      rw [e1] at h1
      omega
    · rw [if_neg e1]
      by_cases e2 : y = k
      · rw [if_pos e2]
        exact hlow (y + 1) (by omega) hyn
      · rw [if_neg e2]; exact h1
theorem NextP.lt {n i : Nat} {p q : List Int} (h : NextP n p q i) : LexLt p q := ⟨i, fun j hj => (h.same j hj).symm, h.more⟩
/-- the identity is the first -/
theorem first_perm {n : Nat} {p : List Int} (hp : IsoOk n [] [] p) (hr : ∀ x, x < n → ix p x = (x : Int)) : ∀ r, r ∈ isoL n [] [] → p = r ∨ LexLt p r := fun r h => by
  by_cases e : p = r
  · exact .inl e
  · exact .inr (rises_least hp (mem_isoL.1 h) (i := 0) (fun j _ hj => by rw [hr j (by have := hp.1; omega), hr (j + 1) (by have := hp.1; omega)]; omega) (fun j hj => by omega) e)
/-- what the program's next permutation does to the list of all -/
theorem perms_next {n i : Nat} {p q : List Int} {pre rest : List (List Int)} (hp : IsoOk n [] [] p) (hq : IsoOk n [] [] q) (h : NextP n p q i) (hL : isoL n [] [] = pre ++ p :: rest) : ∃ rest', rest = q :: rest' :=
  sorted_next (sorted_isoL n [] []) hL (mem_isoL.2 hq) h.lt fun r hr hlt => next_least hp hq (mem_isoL.1 hr) h hlt
theorem perms_last {n : Nat} {p : List Int} {pre rest : List (List Int)} (hp : IsoOk n [] [] p) (hF : Falls p 0) (hL : isoL n [] [] = pre ++ p :: rest) : rest = [] :=
  sorted_last (sorted_isoL n [] []) hL fun r hr hlt => by
    have hri := mem_isoL.1 hr
    obtain ⟨d, hd, h1, h2⟩ := lex_lt_len hp.1 hri.1 hlt
    have := falls_greatest hp hri hF hd (Nat.zero_le _) h1
    omega
end Go.Proofs.Ytjhfieegkgndfaa

/-
  The least form of a brace: plain.
-/
namespace Go.Proofs.Ytjhfieegkgndfaa
set_option linter.unusedVariables false
set_option linter.unusedSimpArgs false

theorem cmpL_cons (a b : Int) (l m : List Int) : cmpL (a :: l) (b :: m) = if cmpI a b = 0 then cmpL l m else cmpI a b := by unfold cmpL; rfl
theorem cmpL_neg : ∀ (l m : List Int), cmpL l m < 0 ↔ l < m
  | [], [] => by unfold cmpL cmpBy; simp
  | [], b :: m => by unfold cmpL cmpBy; simp
  | a :: l, [] => by unfold cmpL cmpBy; simp
  | a :: l, b :: m => by
    have ih := cmpL_neg l m
    rw [List.cons_lt_cons_iff, ← ih, cmpL_cons]
    by_cases h1 : a < b
    · have : cmpI a b = -1 := by unfold cmpI; rw [if_pos h1]
      simp [this, h1]
    · by_cases h2 : b < a
      · have : cmpI a b = 1 := by unfold cmpI; rw [if_neg h1, if_pos h2]
        simp [this, h1, show ¬ a = b by omega]
      · have e : a = b := by omega
        subst e
        have : cmpI a a = 0 := cmpI_zero.2 rfl
        simp [this]
theorem lessB_cmp {l m : List Int} : lessB l m = decide (cmpL l m < 0) := by
  unfold lessB
  by_cases h : l < m
  · rw [decide_eq_true h, decide_eq_true ((cmpL_neg l m).2 h)]
  · rw [decide_eq_false h, decide_eq_false (fun e => h ((cmpL_neg l m).1 e))]
/-- the image of a table by a permutation -/
def imgE (t : List (List Int)) (p : List Int) (i j : Nat) : Int := ix p (ent t (indexOf p i).toNat (indexOf p j).toNat).toNat
def imgT (t : List (List Int)) (p : List Int) : List (List Int) := mkT t.length (imgE t p)
theorem indexOf_at {n : Nat} {p : List Int} (hp : IsoOk n [] [] p) {x : Nat} (hx : x < n) : indexOf p (ix p x) = (x : Int) := by
  rcases indexOf_spec p (ix p x) with ⟨_, h⟩ | ⟨i, hi, e, e2, _⟩
  · exact absurd rfl (h x (by have := hp.1; omega))
  · rw [e]
    have := hp.inj (x := i) (y := x) (by have := hp.1; omega) hx e2
    omega
theorem imgE_at {t : List (List Int)} {p : List Int} (hp : IsoOk t.length [] [] p) {x y : Nat} (hx : x < t.length) (hy : y < t.length) : imgE t p (ix p x).toNat (ix p y).toNat = ix p (ent t x y).toNat := by
  unfold imgE
  rw [Int.toNat_of_nonneg (hp.bd hx).1, Int.toNat_of_nonneg (hp.bd hy).1, indexOf_at hp hx, indexOf_at hp hy, Int.toNat_natCast, Int.toNat_natCast]
/-- one pair of tables stands ahead of another -/
def lessP (a b : List (List Int) × List (List Int)) : Bool := if cmpT a.1 b.1 = 0 then decide (cmpT a.2 b.2 < 0) else decide (cmpT a.1 b.1 < 0)
def stepP (t u : List (List Int)) (best : List (List Int) × List (List Int)) (p : List Int) : List (List Int) × List (List Int) := if lessP (imgT t p, imgT u p) best then (imgT t p, imgT u p) else best
/-- the least form -/
@[irreducible] noncomputable def leastP (t u : List (List Int)) : List (List Int) × List (List Int) := ((isoL t.length [] []).filter fun p => decide (ix p 0 = 0)).foldl (stepP t u) (t, u)
/-- those that lead 0 to 0 stand first -/
theorem zero_first {L : List (List Int)} (hs : L.Pairwise LexLt) (h0 : ∀ p, p ∈ L → 0 ≤ ix p 0) : ∀ (pre : List (List Int)) (p : List Int) (rest : List (List Int)), L = pre ++ p :: rest → (∀ q, q ∈ pre → ix q 0 = 0) → ix p 0 ≠ 0 → (L.filter fun p => decide (ix p 0 = 0)) = pre := by
  intro pre p rest hL hp hne
  subst hL
  rw [List.filter_append]
  have h1 : (pre.filter fun p => decide (ix p 0 = 0)) = pre := List.filter_eq_self.2 fun q hq => by simpa using hp q hq
  have h2 : ((p :: rest).filter fun p => decide (ix p 0 = 0)) = [] := by
    rw [List.filter_eq_nil_iff]
    intro q hq
    have hp0 := h0 p (by simp)
    rcases List.mem_cons.1 hq with rfl | hq
    · simpa using hne
    · have hlt := (List.pairwise_cons.1 (List.pairwise_append.1 hs).2.1).1 q hq
      obtain ⟨d, k1, k2⟩ := hlt
      have : ix p 0 ≤ ix q 0 := by
        by_cases e : d = 0
        · subst e; omega
        · have := k1 0 (by omega); omega
      simp; omega
  rw [h1, h2, List.append_nil]
end Go.Proofs.Ytjhfieegkgndfaa

/-
  Which of two lists of tables stands ahead, row by row; the least form as a fold: plain.
-/
namespace Go.Proofs.Ytjhfieegkgndfaa
set_option linter.unusedVariables false
set_option linter.unusedSimpArgs false

/-- d tables from table k on -/
def befG (az bz : List (List (List Int))) : Nat → Nat → Bool
  | 0, _ => false
  | d + 1, k => if cmpT (tab az k) (tab bz k) = 0 then befG az bz d (k + 1) else decide (cmpT (tab az k) (tab bz k) < 0)
/-- from row x of table k on -/
def befR (az bz : List (List (List Int))) (d k x : Nat) : Bool := if cmpTF (tab az k) (tab bz k) x = 0 then befG az bz d (k + 1) else decide (cmpTF (tab az k) (tab bz k) x < 0)
theorem befG_zero (az bz : List (List (List Int))) (k : Nat) : befG az bz 0 k = false := rfl
theorem befG_row (az bz : List (List (List Int))) (d k : Nat) : befG az bz (d + 1) k = befR az bz d k 0 := by unfold befG befR; rw [cmpTF_zero]
theorem befR_end {az bz : List (List (List Int))} {d k x : Nat} (h : (tab az k).length ≤ x) (h2 : (tab bz k).length ≤ x) : befR az bz d k x = befG az bz d (k + 1) := by unfold befR; rw [if_pos (cmpTF_end h h2)]
theorem befR_same {az bz : List (List (List Int))} {d k x : Nat} (h : x < (tab az k).length) (h2 : x < (tab bz k).length) (e : eqIB (row (tab az k) x) (row (tab bz k) x) = true) : befR az bz d k x = befR az bz d k (x + 1) := by
  unfold befR; rw [cmpTF_eq h h2 (cmpL_zero.2 (eqIB_iff.1 e))]
theorem befR_diff {az bz : List (List (List Int))} {d k x : Nat} (h : x < (tab az k).length) (h2 : x < (tab bz k).length) (e : eqIB (row (tab az k) x) (row (tab bz k) x) = false) : befR az bz d k x = lessB (row (tab az k) x) (row (tab bz k) x) := by
  have hne : cmpL (row (tab az k) x) (row (tab bz k) x) ≠ 0 := fun h0 => by
    rw [eqIB_iff.2 (cmpL_zero.1 h0)] at e; cases e
  unfold befR; rw [cmpTF_ne h h2 hne, if_neg hne, lessB_cmp]
theorem befG_two (a1 a2 b1 b2 : List (List Int)) : befG [a1, a2] [b1, b2] 2 0 = lessP (a1, a2) (b1, b2) := by
  unfold befG befG befG lessP
  rw [tab_two0, tab_two0, tab_two1, tab_two1]
  by_cases h : cmpT a1 b1 = 0
  · rw [if_pos h, if_pos h]
    by_cases h2 : cmpT a2 b2 = 0
    · rw [if_pos h2, h2]; rfl
    · rw [if_neg h2]
  · rw [if_neg h, if_neg h]
/-- the fold over the first k permutations, those that lead 0 elsewhere left out -/
@[irreducible] def foldZ (t u : List (List Int)) (L : List (List Int)) (k : Nat) : List (List Int) × List (List Int) := ((L.take k).filter fun p => decide (ix p 0 = 0)).foldl (stepP t u) (t, u)
theorem foldZ_zero (t u : List (List Int)) (L : List (List Int)) : foldZ t u L 0 = (t, u) := by unfold foldZ; simp
theorem take_snoc (L : List (List Int)) (k : Nat) (h : k < L.length) : L.take (k + 1) = L.take k ++ [row L k] := by
  rw [List.take_succ_eq_append_getElem h, row_eq]; simp [List.getD, h]
theorem foldZ_skip {t u : List (List Int)} {L : List (List Int)} {k : Nat} (h : k < L.length) (h0 : ix (row L k) 0 ≠ 0) : foldZ t u L (k + 1) = foldZ t u L k := by
  unfold foldZ; rw [take_snoc L k h, List.filter_append, List.filter_cons_of_neg (by simpa using h0), List.filter_nil, List.append_nil]
theorem foldZ_step {t u : List (List Int)} {L : List (List Int)} {k : Nat} (h : k < L.length) (h0 : ix (row L k) 0 = 0) : foldZ t u L (k + 1) = stepP t u (foldZ t u L k) (row L k) := by
  unfold foldZ; rw [take_snoc L k h, List.filter_append, List.filter_cons_of_pos (by simpa using h0), List.filter_nil, List.foldl_append]; rfl
theorem foldZ_all {t u : List (List Int)} : foldZ t u (isoL t.length [] []) (isoL t.length [] []).length = leastP t u := by unfold foldZ leastP; rw [List.take_length]
theorem stepP_yes {t u : List (List Int)} {b : List (List Int) × List (List Int)} {p : List Int} (h : lessP (imgT t p, imgT u p) b = true) : stepP t u b p = (imgT t p, imgT u p) := by unfold stepP; rw [if_pos h]
theorem stepP_no {t u : List (List Int)} {b : List (List Int) × List (List Int)} {p : List Int} (h : lessP (imgT t p, imgT u p) b = false) : stepP t u b p = b := by unfold stepP; rw [h]; rfl
end Go.Proofs.Ytjhfieegkgndfaa

/-
  The image of a table by a permutation, entry by entry: plain.
-/
namespace Go.Proofs.Ytjhfieegkgndfaa
set_option linter.unusedVariables false
set_option linter.unusedSimpArgs false

/-- all entries ahead of (x, y) are where they belong -/
structure ImgTo (t : List (List Int)) (p : List Int) (x y : Nat) (T : List (List Int)) : Prop where
  len : T.length = t.length
  rows : ∀ i, i < t.length → (row T i).length = t.length
  at_ : ∀ a b, a < t.length → b < t.length → (a < x ∨ (a = x ∧ b < y)) → ent T (ix p a).toNat (ix p b).toNat = ix p (ent t a b).toNat
theorem ImgTo.start {t : List (List Int)} (h : TableOk t) (p : List Int) : ImgTo t p 0 0 t := ⟨rfl, fun i hi => h.len hi, fun a b _ _ h => by omega⟩
theorem ImgTo.step {t T : List (List Int)} {p : List Int} {x y : Nat} (h : ImgTo t p x y T) (hp : IsoOk t.length [] [] p) (hx : x < t.length) (hy : y < t.length) : ImgTo t p x (y + 1) (setE T (ix p x).toNat (ix p y).toNat (ix p (ent t x y).toNat)) := by
  have b1 := (hp.bd hx).2
  have b2 := (hp.bd hy).2
  have hT : (ix p x).toNat < T.length := by rw [h.len]; exact b1
  refine ⟨by rw [length_setE]; exact h.len, fun i hi => by rw [length_row_setE _ _ _ _ _ hT]; exact h.rows i hi, fun a b ha hb hab => ?_⟩
  by_cases e : a = x ∧ b = y
  · obtain ⟨rfl, rfl⟩ := e
    exact ent_setE_same _ _ _ _ hT (by rw [h.rows _ b1]; exact b2)
  · have c1 := hp.bd ha
    have c2 := hp.bd hb
    have d1 := hp.bd hx
    have d2 := hp.bd hy
    rw [ent_setE_other _ _ _ _ _ _ hT ?_]
    · exact h.at_ a b ha hb (by omega)
    · by_cases e1 : a = x
      · right; intro e2; exact e ⟨e1, hp.inj hb hy (by omega)⟩
      · left; intro e2; exact e1 (hp.inj ha hx (by omega))
theorem ImgTo.next {t T : List (List Int)} {p : List Int} {x : Nat} (h : ImgTo t p x t.length T) : ImgTo t p (x + 1) 0 T := ⟨h.len, h.rows, fun a b ha hb hab => h.at_ a b ha hb (by omega)⟩
theorem table_ext {n : Nat} {S T : List (List Int)} (h1 : S.length = n) (h2 : T.length = n) (h3 : ∀ i, i < n → (row S i).length = n) (h4 : ∀ i, i < n → (row T i).length = n) (h : ∀ i j, i < n → j < n → ent S i j = ent T i j) : S = T :=
  row_ext (by omega) fun i hi => ix_ext (by rw [h3 i (by omega), h4 i (by omega)]) fun j hj => by
    rw [h3 i (by omega)] at hj
    rw [ent_def, ent_def]; exact h i j (by omega) hj
theorem length_imgT (t : List (List Int)) (p : List Int) : (imgT t p).length = t.length := length_mkT _ _
theorem row_imgT (t : List (List Int)) (p : List Int) {i : Nat} (h : i < t.length) : (row (imgT t p) i).length = t.length := by unfold imgT; rw [row_mkT _ _ _ h, length_partRow]
theorem ent_imgT (t : List (List Int)) (p : List Int) {i j : Nat} (h : i < t.length) (hj : j < t.length) : ent (imgT t p) i j = imgE t p i j := ent_mkT _ _ _ _ h hj
theorem ImgTo.done {t T : List (List Int)} {p : List Int} (h : ImgTo t p t.length 0 T) (hp : IsoOk t.length [] [] p) : T = imgT t p := by
  refine table_ext h.len (length_imgT _ _) h.rows (fun i hi => row_imgT _ _ hi) fun i j hi hj => ?_
  rw [ent_imgT _ _ hi hj]
  obtain ⟨a, ha, e1⟩ := hp.surj hi
  obtain ⟨b, hb, e2⟩ := hp.surj hj
  have := h.at_ a b ha hb (by omega)
  have h2 := imgE_at hp ha hb
  rw [e1, e2, Int.toNat_natCast, Int.toNat_natCast] at this h2
  rw [this, h2]
theorem imgT_ok {t : List (List Int)} {p : List Int} (h : TableOk t) (hp : IsoOk t.length [] [] p) : TableOk (imgT t p) := by
  refine ⟨by rw [length_imgT]; exact h.1, by rw [length_imgT]; exact h.2.1, fun i hi => ?_⟩
  rw [length_imgT] at hi ⊢
  refine ⟨row_imgT _ _ hi, fun j hj => ?_⟩
  rw [ent_imgT _ _ hi hj]
  obtain ⟨a, ha, e1⟩ := hp.surj hi
  obtain ⟨b, hb, e2⟩ := hp.surj hj
  have h2 := imgE_at hp ha hb
  rw [e1, e2, Int.toNat_natCast, Int.toNat_natCast] at h2
  rw [h2]
  have := h.bd ha hb
  have := hp.bd (x := (ent t a b).toNat) (by omega)
  omega
end Go.Proofs.Ytjhfieegkgndfaa

/-
  What LeastBrace answers: plain.
-/
namespace Go.Proofs.Ytjhfieegkgndfaa
set_option linter.unusedVariables false
set_option linter.unusedSimpArgs false

@[irreducible] noncomputable def lbA (t u : List (List Int)) : List (List Int) := if braceB t u = true ∧ t.length ≤ 7 then (leastP t u).1 else []
@[irreducible] noncomputable def lbB (t u : List (List Int)) : List (List Int) := if braceB t u = true ∧ t.length ≤ 7 then (leastP t u).2 else []
@[irreducible] noncomputable def lbC (t u : List (List Int)) : Int := if braceB t u = true then (if t.length ≤ 7 then 0 else 3) else 1
theorem lb_no {t u : List (List Int)} (h : braceB t u = false) : lbA t u = [] ∧ lbB t u = [] ∧ lbC t u = 1 := by unfold lbA lbB lbC; simp [h]
theorem lb_big {t u : List (List Int)} (h : braceB t u = true) (h7 : ¬ t.length ≤ 7) : lbA t u = [] ∧ lbB t u = [] ∧ lbC t u = 3 := by unfold lbA lbB lbC; simp [h, h7]
theorem lb_yes {t u : List (List Int)} (h : braceB t u = true) (h7 : t.length ≤ 7) : lbA t u = (leastP t u).1 ∧ lbB t u = (leastP t u).2 ∧ lbC t u = 0 := by unfold lbA lbB lbC; simp [h, h7]
end Go.Proofs.Ytjhfieegkgndfaa

/-
  All permutations of few elements, by lengthening a beginning: plain.
-/
namespace Go.Proofs.Ytjhfieegkgndfaa
set_option linter.unusedVariables false
set_option linter.unusedSimpArgs false

theorem length_allL (n : Nat) : ∀ m, (allL n m).length = n ^ m
  | 0 => rfl
  | m + 1 => by
    unfold allL
    rw [List.length_flatMap]
    have : ((intRange n).map fun v => ((allL n m).map (v :: ·)).length) = List.replicate n (n ^ m) := by
      rw [List.eq_replicate_iff]
      refine ⟨by simp [intRange], fun b hb => ?_⟩
      rw [List.mem_map] at hb
      obtain ⟨v, _, rfl⟩ := hb
      rw [List.length_map, length_allL n m]
    rw [this, List.sum_replicate_nat, Nat.pow_succ, Nat.mul_comm]
theorem few_perms {n : Nat} (h : n ≤ 7) (az bz : List (List (List Int))) : (isoL n az bz).length ≤ 823543 := by
  have h1 : (isoL n az bz).length ≤ (allL n n).length := by unfold isoL; exact List.length_filter_le _ _
  rw [length_allL] at h1
  have : n ^ n ≤ 823543 := by
    have : n = 0 ∨ n = 1 ∨ n = 2 ∨ n = 3 ∨ n = 4 ∨ n = 5 ∨ n = 6 ∨ n = 7 := by omega
    rcases this with h | h | h | h | h | h | h | h <;> subst h <;> decide
  omega
theorem few_ext {n : Nat} (h : n ≤ 7) (az bz : List (List (List Int))) (f : List Int) : (extL n az bz f).length ≤ 823543 := by
  have h1 : (extL n az bz f).length ≤ (isoL n az bz).length := by unfold extL; exact List.length_filter_le _ _
  have := few_perms h az bz
  omega
theorem tabsOk_none (n : Nat) : TabsOk n [] := fun k hk => by simp at hk
theorem begun_nil (n : Nat) : Begun n [] [] [] := ⟨fun i hi => by simp at hi, fun i hi => by simp at hi, fun k hk => by simp at hk⟩
theorem begun_more {n : Nat} {f : List Int} {y : Nat} (h : Begun n [] [] f) (hy : y < n) (hh : hasB f y = false) : Begun n [] [] (f ++ [(y : Int)]) :=
  begun_snoc (l := 0) h hy hh (fun k hk => by simp at hk) (fun k hk => by simp at hk)
theorem extL_empty (n : Nat) : extL n [] [] [] = isoL n [] [] := extL_all fun p _ i hi => by simp at hi
theorem below_len (M : List (List Int)) (x k : Nat) : (below M x k).length ≤ M.length := by unfold below; exact List.length_filter_le _ _
end Go.Proofs.Ytjhfieegkgndfaa

/-
  Turning round the end of a list, pair by pair: plain.
-/
namespace Go.Proofs.Ytjhfieegkgndfaa
set_option linter.unusedVariables false
set_option linter.unusedSimpArgs false

/-- r pairs behind place i are exchanged -/
@[irreducible] def turnTo (c : Nat → Int) (i n r x : Nat) : Int := if x ≤ i ∨ n ≤ x then c x else if x < i + 1 + r ∨ n ≤ x + r then c (n + i - x) else c x
theorem turnTo_zero (c : Nat → Int) (i n x : Nat) : turnTo c i n 0 x = c x := by
  unfold turnTo
  by_cases h : x ≤ i ∨ n ≤ x
  · rw [if_pos h]
  · rw [if_neg h, if_neg (by omega)]
theorem turnTo_left (c : Nat → Int) (i n r : Nat) (h : i + 1 + r < n - 1 - r) : turnTo c i n r (i + 1 + r) = c (i + 1 + r) := by
  unfold turnTo; rw [if_neg (by omega), if_neg (by omega)]
theorem turnTo_right (c : Nat → Int) (i n r : Nat) (h : i + 1 + r < n - 1 - r) : turnTo c i n r (n - 1 - r) = c (n - 1 - r) := by
  unfold turnTo; rw [if_neg (by omega), if_neg (by omega)]
theorem turnTo_succ (c : Nat → Int) (i n r x : Nat) (h : i + 1 + r < n - 1 - r) : turnTo c i n (r + 1) x = if x = n - 1 - r then c (i + 1 + r) else if x = i + 1 + r then c (n - 1 - r) else turnTo c i n r x := by
  unfold turnTo
  by_cases h0 : x ≤ i ∨ n ≤ x
  · rw [if_pos h0, if_pos h0, if_neg (by omega), if_neg (by omega)]
  · rw [if_neg h0, if_neg h0]
    by_cases h1 : x = n - 1 - r
    · rw [if_pos h1, if_pos (by omega)]; congr 1; omega
    · rw [if_neg h1]
      by_cases h2 : x = i + 1 + r
      · rw [if_pos h2, if_pos (by omega)]; congr 1; omega
      · rw [if_neg h2]
        by_cases h3 : x < i + 1 + r ∨ n ≤ x + r
        · rw [if_pos h3, if_pos (by omega)]
        · rw [if_neg h3, if_neg (by omega)]
theorem turnTo_done (c : Nat → Int) (i n r x : Nat) (h : ¬ i + 1 + r < n - 1 - r) (hr : i + 1 + r ≤ n) (hx : x < n) : turnTo c i n r x = turnC c i n x := by
  unfold turnTo turnC
  by_cases h0 : x ≤ i
  · rw [if_pos (.inl h0), if_pos h0]
  · rw [if_neg (by omega), if_neg h0]
    by_cases h3 : x < i + 1 + r ∨ n ≤ x + r
    · rw [if_pos h3]
    · rw [if_neg h3]; congr 1; omega
end Go.Proofs.Ytjhfieegkgndfaa

/-
  Sets as natural numbers; the socle: plain.
-/
namespace Go.Proofs.Ytjhfieegkgndfaa
set_option linter.unusedVariables false
set_option linter.unusedSimpArgs false
open Go.RowKit

/-- the set of the x below k with p x -/
def natTo (p : Nat → Bool) : Nat → Nat
  | 0 => 0
  | k + 1 => if p k = true then natTo p k ||| 2 ^ k else natTo p k
@[irreducible] def natSet (p : Nat → Bool) (k : Nat) : Nat := natTo p k
theorem natSet_zero (p) : natSet p 0 = 0 := by unfold natSet; rfl
theorem natSet_yes {p : Nat → Bool} {k : Nat} (h : p k = true) : natSet p (k + 1) = natSet p k ||| 2 ^ k := by unfold natSet; simp only [natTo]; rw [if_pos h]
theorem natSet_no {p : Nat → Bool} {k : Nat} (h : p k = false) : natSet p (k + 1) = natSet p k := by unfold natSet; simp only [natTo]; rw [if_neg (by rw [h]; simp)]
theorem natSet_bit (p : Nat → Bool) : ∀ (k i : Nat), (natSet p k).testBit i = (decide (i < k) && p i)
  | 0, i => by rw [natSet_zero]; simp
  | k + 1, i => by
    have ih := natSet_bit p k i
    cases h : p k with
    | true =>
      rw [natSet_yes h, Nat.testBit_or, ih, Nat.testBit_two_pow]
      by_cases e : k = i
      · subst e; simp [h]
      · have h1 : decide (i < k + 1) = decide (i < k) := by rw [Bool.eq_iff_iff]; simp; omega
        rw [h1]; simp [e]
    | false =>
      rw [natSet_no h, ih]
      by_cases e : k = i
      · subst e; simp [h]
      · have h1 : decide (i < k + 1) = decide (i < k) := by rw [Bool.eq_iff_iff]; simp; omega
        rw [h1]
theorem natSet_lt (p : Nat → Bool) (k : Nat) : natSet p k < 2 ^ k := by
  apply Nat.lt_pow_two_of_testBit
  intro i hi
  rw [natSet_bit]
  have : decide (i < k) = false := by simp; omega
  rw [this]; rfl
theorem natSet_ext {p q : Nat → Bool} {k : Nat} (h : ∀ i, i < k → p i = q i) : natSet p k = natSet q k := by
  apply Nat.eq_of_testBit_eq
  intro i
  rw [natSet_bit, natSet_bit]
  by_cases hi : i < k
  · rw [h i hi]
  · have : decide (i < k) = false := by simp; omega
    rw [this]; rfl
theorem bits_or_nat {a b : Nat} (ha : a < 2 ^ 62) (hb : b < 2 ^ 62) : bits .or .i64 (a : Int) (b : Int) = ((a ||| b : Nat) : Int) :=
  (bits_nat .i64 62 (by decide) (fun n h0 h1 => by rw [IntKind.wrap_i64]; omega) a b ha hb).2
theorem bits_and_nat {a b : Nat} (ha : a < 2 ^ 62) (hb : b < 2 ^ 62) : bits .and .i64 (a : Int) (b : Int) = ((a &&& b : Nat) : Int) :=
  (bits_nat .i64 62 (by decide) (fun n h0 h1 => by rw [IntKind.wrap_i64]; omega) a b ha hb).1
theorem wrap_pow {x : Nat} (h : x < 62) : wrap64 (2 ^ x) = ((2 ^ x : Nat) : Int) := by
  have h1 : 2 ^ x < 2 ^ 62 := Nat.pow_lt_pow_right (by decide) h
  have hc : ((2 : Int) ^ x) = ((2 ^ x : Nat) : Int) := by simp
  rw [hc]
  clear hc
  generalize 2 ^ x = P at h1
  exact IntWalk.wrap64_in _ (by omega)
theorem or_pow {a x : Nat} (ha : a < 2 ^ 62) (h : x < 62) : bits .or .i64 (a : Int) (wrap64 (2 ^ x)) = ((a ||| 2 ^ x : Nat) : Int) := by
  rw [wrap_pow h, bits_or_nat ha (Nat.pow_lt_pow_right (by decide) h)]
theorem setOf_nat (p : Nat → Bool) : ∀ k, k ≤ 62 → setOf p k = ((natSet p k : Nat) : Int)
  | 0, _ => by rw [setOf_zero, natSet_zero]; rfl
  | k + 1, h => by
    have ih := setOf_nat p k (by omega)
    have hl : natSet p k < 2 ^ 62 := Nat.lt_of_lt_of_le (natSet_lt p k) (Nat.pow_le_pow_right (by decide) (by omega))
    cases hp : p k with
    | true => rw [setOf_yes hp, natSet_yes hp, ih, or_pow hl (by omega)]
    | false => rw [setOf_no hp, natSet_no hp, ih]
theorem natSet_and (p q : Nat → Bool) (k : Nat) : natSet p k &&& natSet q k = natSet (fun x => p x && q x) k := by
  apply Nat.eq_of_testBit_eq
  intro i
  rw [Nat.testBit_and, natSet_bit, natSet_bit, natSet_bit]
  cases decide (i < k) <;> cases p i <;> cases q i <;> rfl
theorem natSet_62 (p : Nat → Bool) {k : Nat} (h : k ≤ 62) : natSet p k < 2 ^ 62 := Nat.lt_of_lt_of_le (natSet_lt p k) (Nat.pow_le_pow_right (by decide) h)

/-! ### the socle -/
def SocTo (t u : List (List Int)) (x k : Nat) : Prop := ∀ y, y < k → ent u x y = ent t x y ∧ ent t x y = ent t y x
instance (t u x k) : Decidable (SocTo t u x k) := by unfold SocTo; infer_instance
@[irreducible] def socB (t u : List (List Int)) (x k : Nat) : Bool := decide (SocTo t u x k)
theorem socB_iff {t u x k} : socB t u x k = true ↔ SocTo t u x k := by unfold socB; simp
theorem socB_zero (t u x) : socB t u x 0 = true := socB_iff.2 (fun y hy => by omega)
theorem socB_succ (t u : List (List Int)) (x k : Nat) : socB t u x (k + 1) = ((socB t u x k && (ent u x k == ent t x k)) && (ent t x k == ent t k x)) := by
  rw [Bool.eq_iff_iff, Bool.and_eq_true, Bool.and_eq_true, socB_iff, socB_iff, beq_iff_eq, beq_iff_eq]
  constructor
  · intro h; exact ⟨⟨fun y hy => h y (by omega), (h k (by omega)).1⟩, (h k (by omega)).2⟩
  · rintro ⟨⟨h1, h2⟩, h3⟩ y hy
    by_cases e : y = k
    · subst e; exact ⟨h2, h3⟩
    · exact h1 y (by omega)
theorem row_eq_ent {t u : List (List Int)} (h : TableOk t) (h2 : TableOk u) (hl : t.length = u.length) {x : Nat} (hx : x < t.length) : row t x = row u x ↔ ∀ y, y < t.length → ent u x y = ent t x y := by
  constructor
  · intro e y hy
    rw [← ent_def, ← ent_def, e]
  · intro hc
    refine ix_ext (by rw [h.len hx, h2.len (by omega), hl]) fun i hi => ?_
    rw [h.len hx] at hi
    rw [ent_def, ent_def]
    exact (hc i hi).symm
theorem socB_row {t u : List (List Int)} (h : TableOk t) (h2 : TableOk u) (hl : t.length = u.length) {x : Nat} (hx : x < t.length) : (eqIB (row t x) (row u x) && eqIB (row t x) (row (turnT t) x)) = socB t u x t.length := by
  rw [Bool.eq_iff_iff, Bool.and_eq_true, eqIB_iff, eqIB_iff, socB_iff, row_eq_ent h h2 hl hx, row_eq_turn h hx]
  constructor
  · rintro ⟨a, b⟩ y hy; exact ⟨a y hy, b y hy⟩
  · intro a; exact ⟨fun y hy => (a y hy).1, fun y hy => (a y hy).2⟩
@[irreducible] def socI (t u : List (List Int)) : Int := setOf (fun x => socB t u x t.length) t.length
theorem socI_def (t u : List (List Int)) : socI t u = setOf (fun x => socB t u x t.length) t.length := by unfold socI; rfl
/-- the socle as a number -/
@[irreducible] def socN (t u : List (List Int)) : Nat := natSet (fun x => socB t u x t.length) t.length
theorem socN_def (t u : List (List Int)) : socN t u = natSet (fun x => socB t u x t.length) t.length := by unfold socN; rfl
theorem socI_nat {t u : List (List Int)} (h : t.length ≤ 12) : socI t u = ((socN t u : Nat) : Int) := by rw [socI_def, socN_def, setOf_nat _ _ (by omega)]
/-- the annihilator -/
@[irreducible] def annN (t u : List (List Int)) : Nat := natSet (fun x => socB t u x t.length && comB u x t.length) t.length
theorem annN_def (t u : List (List Int)) : annN t u = natSet (fun x => socB t u x t.length && comB u x t.length) t.length := by unfold annN; rfl
theorem ann_spec {t u : List (List Int)} (h : t.length ≤ 12) (hl : t.length = u.length) : bits .and .i64 (socI t u) (centerI u) = ((annN t u : Nat) : Int) := by
  rw [socI_def, centerI_def, ← hl, setOf_nat _ _ (by omega), setOf_nat _ _ (by omega), bits_and_nat (natSet_62 _ (by omega)) (natSet_62 _ (by omega)), natSet_and, annN_def]
/-- the program's way: S holds what of the first i elements of the list is central -/
def AnnTo (t u : List (List Int)) (i S : Nat) : Prop := S < 2 ^ t.length ∧ ∀ x : Nat, S.testBit x = true ↔ (∃ j, j < i ∧ ix (elemsL (socN t u)) j = (x : Int)) ∧ comB u x t.length = true
theorem AnnTo.zero (t u) : AnnTo t u 0 0 := ⟨Nat.two_pow_pos _, fun x => by simp⟩
theorem AnnTo.no {t u i S} (h : AnnTo t u i S) {x : Nat} (hx : ix (elemsL (socN t u)) i = (x : Int)) (hc : comB u x t.length = false) : AnnTo t u (i + 1) S := ⟨h.1, fun y => by
  rw [h.2]
  constructor
  · rintro ⟨⟨j, hj, e⟩, hy⟩; exact ⟨⟨j, by omega, e⟩, hy⟩
  · rintro ⟨⟨j, hj, e⟩, hy⟩
    refine ⟨⟨j, ?_, e⟩, hy⟩
    apply Classical.byContradiction
    intro hji
    have : j = i := by omega
    subst this
    rw [hx] at e
    have : x = y := by omega
    subst this
    rw [hc] at hy; cases hy⟩
theorem AnnTo.yes {t u i S} (h : AnnTo t u i S) {x : Nat} (hl : x < t.length) (hx : ix (elemsL (socN t u)) i = (x : Int)) (hc : comB u x t.length = true) : AnnTo t u (i + 1) (S ||| 2 ^ x) := by
  refine ⟨Nat.or_lt_two_pow h.1 (Nat.pow_lt_pow_right (by decide) hl), fun y => ?_⟩
  rw [Nat.testBit_or, Nat.testBit_two_pow, Bool.or_eq_true, h.2, decide_eq_true_iff]
  constructor
  · rintro (⟨⟨j, hj, e⟩, hy⟩ | rfl)
    · exact ⟨⟨j, by omega, e⟩, hy⟩
    · exact ⟨⟨i, by omega, hx⟩, hc⟩
  · rintro ⟨⟨j, hj, e⟩, hy⟩
    by_cases hji : j = i
    · subst hji
      rw [hx] at e
      right; omega
    · left; exact ⟨⟨j, by omega, e⟩, hy⟩
theorem AnnTo.done {t u S} (hn : t.length ≤ 12) (h : AnnTo t u (elemsL (socN t u)).length S) : S = annN t u := by
  have hsl : socN t u < 2 ^ t.length := by rw [socN_def]; exact natSet_lt _ _
  have hs62 := lt62 hn hsl
  apply Nat.eq_of_testBit_eq
  intro x
  rw [Bool.eq_iff_iff, h.2, annN_def, natSet_bit, Bool.and_eq_true, Bool.and_eq_true, decide_eq_true_iff]
  constructor
  · rintro ⟨⟨j, hj, e⟩, hy⟩
    obtain ⟨z, hz, bz, ez⟩ := elemsL_get hsl (by omega) hj
    rw [e] at ez
    have : x = z := by omega
    subst this
    rw [bitB_test hs62, socN_def, natSet_bit, Bool.and_eq_true] at bz
    exact ⟨hz, bz.2, hy⟩
  · rintro ⟨hx, hs, hy⟩
    have hb : bitB (socN t u) x = true := by rw [bitB_test hs62, socN_def, natSet_bit, hs]; simp [hx]
    obtain ⟨j, hj, e⟩ := elemsL_has hsl (by omega) hb
    exact ⟨⟨j, hj, e⟩, hy⟩
end Go.Proofs.Ytjhfieegkgndfaa
