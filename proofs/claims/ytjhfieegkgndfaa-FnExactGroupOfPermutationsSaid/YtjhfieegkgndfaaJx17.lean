/-
  Tables that lie apart from what is written; the mapping's steps in memory. No program in sight.
-/
import Derived.Test.YtjhfieegkgndfaaJx0
import Derived.Test.YtjhfieegkgndfaaJx1
import Derived.Test.YtjhfieegkgndfaaJx3
import Derived.Test.YtjhfieegkgndfaaJx9
import Derived.Test.YtjhfieegkgndfaaJx2
import Derived.Test.YtjhfieegkgndfaaJx4
import Derived.Test.YtjhfieegkgndfaaJx5
import Derived.Test.YtjhfieegkgndfaaJx15
import Derived.Test.YtjhfieegkgndfaaJx14
import Derived.Test.YtjhfieegkgndfaaJx16
import Derived.Test.YtjhfieegkgndfaaJx19
import Derived.Test.YtjhfieegkgndfaaJx7
import Derived.Test.YtjhfieegkgndfaaJx8
namespace Go.Proofs.Ytjhfieegkgndfaa
set_option linter.unusedVariables false
set_option linter.unusedSimpArgs false
open Go.RowKit
open Go.Deep

/-- the tables ts of n elements lie below base, apart from the block X -/
def TabsIn (base : Nat) (X : Nat → Prop)  (w : World) (b o n : Nat) (ts : List (List (List Int))) : Prop := b < base ∧ ¬ X b ∧ ∀ k, k < ts.length →
  ∃ b1 o1 c1, b1 < base ∧ ¬ X b1 ∧ w.cell? ⟨b, o + k, none⟩ = some (.slice (some ⟨b1, o1, none⟩) n c1) ∧ ∀ x, x < n →
    ∃ b2 o2 c2, b2 < base ∧ ¬ X b2 ∧ w.cell? ⟨b1, o1 + x, none⟩ = some (.slice (some ⟨b2, o2, none⟩) n c2) ∧ ∀ y, y < n → w.cell? ⟨b2, o2 + y, none⟩ = some (.int .i64 (ent (tab ts k) x y))
/-- what lies below base, apart from X, is as it was -/
def KeepB (base : Nat) (X : Nat → Prop)  (w w' : World) : Prop := ∀ k, k < base → ¬ X k → w'.heap[k]? = w.heap[k]?
theorem KeepB.refl (base : Nat) (X : Nat → Prop)  (w : World) : KeepB base X w w := fun _ _ _ => rfl
theorem KeepB.trans {base : Nat} {X : Nat → Prop}  {a b c : World} (h : KeepB base X a b) (k : KeepB base X b c) : KeepB base X a c := fun i h1 h2 => (k i h1 h2).trans (h i h1 h2)
theorem KeepB.cell {base : Nat} {X : Nat → Prop}  {w w' : World} (h : KeepB base X w w') {b o : Nat} {v : Value} (h1 : b < base) (h2 : ¬ X b) (hc : w.cell? ⟨b, o, none⟩ = some v) : w'.cell? ⟨b, o, none⟩ = some v := by
  rw [World.cell?_of_block (w := w) (a := ⟨b, o, none⟩) (h b h1 h2)]; exact hc
theorem TabsIn.keep {base : Nat} {X : Nat → Prop}  {w w' : World} {b o n : Nat} {ts : List (List (List Int))} (h : TabsIn base X w b o n ts) (hk : KeepB base X w w') : TabsIn base X w' b o n ts := by
  obtain ⟨h1, h2, h3⟩ := h
  refine ⟨h1, h2, fun k hkl => ?_⟩
  obtain ⟨b1, o1, c1, g1, g2, g3, g4⟩ := h3 k hkl
  refine ⟨b1, o1, c1, g1, g2, hk.cell h1 h2 g3, fun x hx => ?_⟩
  obtain ⟨b2, o2, c2, k1, k2, k3, k4⟩ := g4 x hx
  exact ⟨b2, o2, c2, k1, k2, hk.cell g1 g2 k3, fun y hy => hk.cell k1 k2 (k4 y hy)⟩

/-- the blocks that the mapping's own steps write -/
def OwnP (M I U : Nat) (sv : Value) (b : Nat) : Prop := b = M ∨ b = I ∨ b = U ∨ sv.ownBlock = some b
/-- the set lies where it lay, or in a block that is new since w -/
def OwnsAt (vo vo' : Value) (w : World) : Prop := vo'.ownBlock = vo.ownBlock ∨ ∃ g, vo'.ownBlock = some g ∧ w.heap.size ≤ g
theorem OwnsAt.refl (v : Value) (w : World) : OwnsAt v v w := .inl rfl
theorem Only.mono {p q : Nat → Prop} {w w' : World} (h : Only p w w') (hpq : ∀ k, k < w.heap.size → p k → q k) : Only q w w' := ⟨h.os, h.tape, h.output, h.size, fun k hk hn => h.keep k hk (fun e => hn (hpq k hk e))⟩
theorem OwnsAt.trans {a b c : Value} {w w' : World} (h : OwnsAt a b w) (k : OwnsAt b c w') (hs : w.heap.size ≤ w'.heap.size) : OwnsAt a c w := by
  rcases k with e | ⟨g, e, hg⟩
  · rcases h with e2 | ⟨g, e2, hg⟩
    · exact .inl (e.trans e2)
    · exact .inr ⟨g, e.trans e2, hg⟩
  · exact .inr ⟨g, e, by omega⟩
/-- a step goes on from a step -/
theorem Only.next {M I U : Nat} {sv sv1 : Value} {w w1 w2 : World} (h : Only (OwnP M I U sv) w w1) (ha : OwnsAt sv sv1 w) (k : Only (OwnP M I U sv1) w1 w2) : Only (OwnP M I U sv) w w2 :=
  ⟨k.os.trans h.os, k.tape.trans h.tape, k.output.trans h.output, Nat.le_trans h.size k.size, fun i hi hn => (k.keep i (Nat.lt_of_lt_of_le hi h.size) (fun e => by
    rcases e with e | e | e | e
    · exact hn (.inl e)
    · exact hn (.inr (.inl e))
    · exact hn (.inr (.inr (.inl e)))
    · rcases ha with e2 | ⟨g, e2, hg⟩
      · exact hn (.inr (.inr (.inr (e2 ▸ e))))
      · rw [e2] at e
        injection e with e
        omega)).trans (h.keep i hi hn)⟩
theorem Only.ext {p : Nat → Prop} {w w' : World} (h : Ext w w') : Only p w w' := ⟨h.os, h.tape, h.output, h.size, fun k hk _ => h.block k hk⟩
theorem Only.keepB {p : Nat → Prop} {base : Nat} {X : Nat → Prop}  {w w' : World} (h : Only p w w') (hp : ∀ k, p k → base ≤ k) (hb : base ≤ w.heap.size) : KeepB base X w w' := fun k h1 _ => h.keep k (by omega) (fun e => by have := hp k e; omega)
theorem MapSt.ownLow {base : Nat} {w : World} {M I U : Nat} {v u : Value} {n : Nat} {f s : List Int} {sv : Value} (h : MapSt base w M I U v u n f s sv) : ∀ k, OwnP M I U sv k → base ≤ k := fun k e => by
  obtain ⟨l1, l2, l3⟩ := h.low
  rcases e with rfl | rfl | rfl | e
  · exact l1
  · exact l2
  · exact l3
  · exact (h.set.lt e).1
theorem MapSt.size {base : Nat} {w : World} {M I U : Nat} {v u : Value} {n : Nat} {f s : List Int} {sv : Value} (h : MapSt base w M I U v u n f s sv) : base ≤ w.heap.size := by
  have := h.img_lt
  have := h.low.1
  omega
theorem MapSt.drew {base : Nat} {w : World} {M I U : Nat} {v u : Value} {n : Nat} {f s : List Int} {sv : Value} (h : MapSt base w M I U v u n f s sv) : MapSt base w.drew M I U v u n f s sv := h.ext h.img_lt (Ext.refl w).drew
theorem MapSt.drewN {base : Nat} {w : World} {M I U : Nat} {v u : Value} {n : Nat} {f s : List Int} {sv : Value} (h : MapSt base w M I U v u n f s sv) (k : Nat) : MapSt base (w.drewN k) M I U v u n f s sv := h.ext h.img_lt ((Ext.refl w).drewN k)
theorem MapSt.put {base : Nat} {w : World} {M I U : Nat} {v u : Value} {n : Nat} {g s : List Int} {sv : Value} (h : MapSt base w M I U v u n g s sv) (hl : g.length = n) {x q : Nat} (hx : x < n) (hf : ix g x < 0) :
    MapSt base ((w.setCell ⟨I, x, none⟩ (.int .i64 (q : Int))).setCell ⟨U, q, none⟩ (.bool true)) M I U v u n (g.set x (q : Int)) s sv where
  c0 := kc_set (fun e => h.apart.2.1 e) (kc_set (fun e => h.apart.1 e) h.c0)
  c1 := kc_set (fun e => h.apart.2.1 e) (kc_set (fun e => h.apart.1 e) h.c1)
  c2 := kc_set (fun e => h.apart.2.1 e) (kc_set (fun e => h.apart.1 e) h.c2)
  c3 := kc_set (fun e => h.apart.2.1 e) (kc_set (fun e => h.apart.1 e) h.c3)
  c4 := kc_set (fun e => h.apart.2.1 e) (kc_set (fun e => h.apart.1 e) h.c4)
  fr := kf_set (kf_set h.fr)
  img := ((h.img.set x _).setOther (fun e => h.apart.2.2.1 e) _).congr fun i hi => by
    by_cases e : i = x
    · subst e; rw [if_pos rfl, ix_set_same _ _ _ (by rw [hl]; exact hx)]
    · rw [if_neg e, ix_set_other _ _ _ _ e]
  usd := ((h.usd.setOther (fun e => h.apart.2.2.1 e.symm) _).set q _).congr fun i hi => by
    rw [hasB_set hl hx hf]
    by_cases e : i = q
    · rw [if_pos e, if_pos e]
    · rw [if_neg e, if_neg e]
  set := (h.set.setOff (fun g hg => (h.apart.2.2.2 g hg).2.1) _).setOff (fun g hg => (h.apart.2.2.2 g hg).2.2) _
  apart := h.apart
  low := h.low
theorem MapSt.put2 {base : Nat} {w : World} {M I U : Nat} {v u : Value} {n : Nat} {g s : List Int} {sv : Value} (h : MapSt base w M I U v u n g s sv) (hl : g.length = n) {x q : Nat} (hx : x < n) (hf : ix g x < 0) :
    MapSt base ((w.setCell ⟨U, q, none⟩ (.bool true)).setCell ⟨I, x, none⟩ (.int .i64 (q : Int))) M I U v u n (g.set x (q : Int)) s sv where
  c0 := kc_set (fun e => h.apart.1 e) (kc_set (fun e => h.apart.2.1 e) h.c0)
  c1 := kc_set (fun e => h.apart.1 e) (kc_set (fun e => h.apart.2.1 e) h.c1)
  c2 := kc_set (fun e => h.apart.1 e) (kc_set (fun e => h.apart.2.1 e) h.c2)
  c3 := kc_set (fun e => h.apart.1 e) (kc_set (fun e => h.apart.2.1 e) h.c3)
  c4 := kc_set (fun e => h.apart.1 e) (kc_set (fun e => h.apart.2.1 e) h.c4)
  fr := kf_set (kf_set h.fr)
  img := ((h.img.setOther (fun e => h.apart.2.2.1 e) _).set x _).congr fun i hi => by
    by_cases e : i = x
    · subst e; rw [if_pos rfl, ix_set_same _ _ _ (by rw [hl]; exact hx)]
    · rw [if_neg e, ix_set_other _ _ _ _ e]
  usd := ((h.usd.set q _).setOther (fun e => h.apart.2.2.1 e.symm) _).congr fun i hi => by
    rw [hasB_set hl hx hf]
    by_cases e : i = q
    · rw [if_pos e, if_pos e]
    · rw [if_neg e, if_neg e]
  set := (h.set.setOff (fun g hg => (h.apart.2.2.2 g hg).2.2) _).setOff (fun g hg => (h.apart.2.2.2 g hg).2.1) _
  apart := h.apart
  low := h.low
theorem only_put {M I U : Nat} {sv : Value} {w : World} (x q : Nat) (a b : Value) : Only (OwnP M I U sv) w ((w.setCell ⟨I, x, none⟩ a).setCell ⟨U, q, none⟩ b) := (only_set (.inr (.inl rfl)) _).trans (only_set (.inr (.inr (.inl rfl))) _)
theorem only_put2 {M I U : Nat} {sv : Value} {w : World} (x q : Nat) (a b : Value) : Only (OwnP M I U sv) w ((w.setCell ⟨U, q, none⟩ b).setCell ⟨I, x, none⟩ a) := (only_set (.inr (.inr (.inl rfl))) _).trans (only_set (.inr (.inl rfl)) _)
/-- an element is appended to the set -/
theorem MapSt.app {base : Nat} {w w' : World} {M I U : Nat} {v u : Value} {n : Nat} {f s s' : List Int} {sv sv' : Value} {o : Obj} (h : MapSt base w M I U v u n f s sv) (hg : (w.alloc o).grownBy w' sv.ownBlock) (hs : GrowI 2 base w' sv' s') (hat : sv'.ownBlock = sv.ownBlock ∨ sv'.ownBlock = some (w.heap.size + 1)) :
    MapSt base (w'.setCell ⟨M, 4, none⟩ sv') M I U v u n f s' sv' := by
  have hx := h.ext h.img_lt ((Ext.refl w).alloc o)
  have hz : (w.alloc o).heap.size = w.heap.size + 1 := by simp
  have nM : M ≠ w.heap.size + 1 := by have := hx.img_lt; omega
  have nI : I ≠ w.heap.size + 1 := by have := hx.img.lt; omega
  have nU : U ≠ w.heap.size + 1 := by have := hx.usd.lt; omega
  have kM : some M ≠ sv.ownBlock := fun e => (h.apart.2.2.2 M e.symm).1 rfl
  have kI : some I ≠ sv.ownBlock := fun e => (h.apart.2.2.2 I e.symm).2.1 rfl
  have kU : some U ≠ sv.ownBlock := fun e => (h.apart.2.2.2 U e.symm).2.2 rfl
  have ap : ∀ g, sv'.ownBlock = some g → g ≠ M ∧ g ≠ I ∧ g ≠ U := fun g e => by
    rcases hat with e2 | e2
    · rw [e2] at e; exact h.apart.2.2.2 g e
    · rw [e2] at e; injection e with e
      subst e
      exact ⟨nM.symm, nI.symm, nU.symm⟩
  exact {
    c0 := kc_set2 (by simp) (hg.cell hx.c0 kM)
    c1 := kc_set2 (by simp) (hg.cell hx.c1 kM)
    c2 := kc_set2 (by simp) (hg.cell hx.c2 kM)
    c3 := kc_set2 (by simp) (hg.cell hx.c3 kM)
    c4 := kc_same (hg.cell hx.c4 kM)
    fr := kf_set (by
      have e := hg.block M hx.img_lt kM
      rw [World.frozen?_of_block (w := w.alloc o) (a := ⟨M, 4, none⟩) e]; exact hx.fr)
    img := (hx.img.of_block (hg.block I hx.img.lt kI)).setOther (fun e => h.apart.1 e.symm) _
    usd := (hx.usd.of_block (hg.block U hx.usd.lt kU)).setOther (fun e => h.apart.2.1 e.symm) _
    set := hs.setOff (fun g hg => (ap g hg).1) _
    apart := ⟨h.apart.1, h.apart.2.1, h.apart.2.2.1, ap⟩
    low := h.low }
theorem only_app {w w' : World} {M I U : Nat} {sv : Value} {o : Obj} (hg : (w.alloc o).grownBy w' sv.ownBlock) (x : Value) : Only (OwnP M I U sv) w (w'.setCell ⟨M, 4, none⟩ x) :=
  (Only.trans ⟨hg.os.trans rfl, hg.tape.trans rfl, hg.output.trans rfl, by have := hg.size; simp at this; omega, fun k hk hn => (hg.block k (by simp; omega) (fun e => hn (.inr (.inr (.inr e.symm))))).trans (Below.heap_alloc w o k hk)⟩ (only_set (.inl rfl) _))
theorem MapSt.row {base : Nat} {w : World} {M I U : Nat} {v u : Value} {n : Nat} {f s : List Int} {sv : Value} (h : MapSt base w M I U v u n f s sv) (hs : 0 < s.length) : ∃ S c, sv = .slice (some ⟨S, 0, none⟩) s.length c ∧ IntsAt w S 0 s := by
  obtain ⟨b, c, rfl, ho⟩ := h.set.own (fun e => by
    rcases h.set.2 with ⟨-, hn⟩ | ⟨g, cap, cur, rfl, _⟩
    · omega
    · simp at e)
  exact ⟨b, c, rfl, ho.2.2.1⟩
end Go.Proofs.Ytjhfieegkgndfaa

/-
  Normal subgroups: plain.
-/
namespace Go.Proofs.Ytjhfieegkgndfaa
set_option linter.unusedVariables false
set_option linter.unusedSimpArgs false
open Go.RowKit

theorem conjF_bd {t : List (List Int)} (hG : GroupOk t) {x y : Nat} (hx : x < t.length) (hy : y < t.length) : 0 ≤ conjF t x y ∧ conjF t x y < (t.length : Int) := by
  rw [← conjF_def]
  have h1 := backF_ok hG hx
  have h2 := hG.1.bd hx hy
  have := hG.1.bd (x := (ent t x y).toNat) (y := (backF t x).toNat) (by omega) (by omega)
  omega
def NormRow (t : List (List Int)) (m x k : Nat) : Prop := ∀ y, y < k → bitB m y = true → bitB m (conjF t x y).toNat = true
def NormTo (t : List (List Int)) (m n k : Nat) : Prop := ∀ x, x < k → NormRow t m x n
instance (t m x k) : Decidable (NormRow t m x k) := by unfold NormRow; infer_instance
instance (t m n k) : Decidable (NormTo t m n k) := by unfold NormTo; infer_instance
@[irreducible] def normB (t : List (List Int)) (m : Nat) : Bool := decide (NormTo t m t.length t.length)
theorem normB_iff {t m} : normB t m = true ↔ NormTo t m t.length t.length := by unfold normB; simp
theorem normB_yes {t m} (h : NormTo t m t.length t.length) : normB t m = true := normB_iff.2 h
theorem normB_no {t m} {x y : Nat} (hx : x < t.length) (hy : y < t.length) (hb : bitB m y = true) (hc : bitB m (conjF t x y).toNat = false) : normB t m = false := by
  rw [← Bool.not_eq_true, normB_iff]
  intro h; rw [h x hx y hy hb] at hc; cases hc
theorem NormRow.zero (t m x) : NormRow t m x 0 := all_zero
theorem NormRow.succ {t m x k} (h : NormRow t m x k) (hk : bitB m k = true → bitB m (conjF t x k).toNat = true) : NormRow t m x (k + 1) := all_succ h hk
theorem NormRow.mono {t m x k k'} (h : NormRow t m x k) (hk : k' ≤ k) : NormRow t m x k' := all_mono h hk
theorem NormTo.zero (t m n) : NormTo t m n 0 := all_zero
theorem NormTo.succ {t m n k} (h : NormTo t m n k) (hk : NormRow t m k n) : NormTo t m n (k + 1) := all_succ h hk
/-- over the list of the elements -/
def NormL (t : List (List Int)) (m x k : Nat) : Prop := ∀ i, i < k → bitB m (conjF t x (ix (elemsL m) i).toNat).toNat = true
theorem NormL.zero (t m x) : NormL t m x 0 := all_zero
theorem NormL.succ {t m x k} (h : NormL t m x k) (hk : bitB m (conjF t x (ix (elemsL m) k).toNat).toNat = true) : NormL t m x (k + 1) := all_succ h hk
theorem NormL.row {t : List (List Int)} {m x : Nat} (hm : m < 2 ^ t.length) (hn : t.length ≤ 12) (h : NormL t m x (elemsL m).length) : NormRow t m x t.length := fun y _ hb => by
  obtain ⟨i, hi, e⟩ := elemsL_has hm (by omega) hb
  have := h i hi
  rw [e] at this
  simpa using this
/-- the code of a group and a subgroup -/
@[irreducible] def subC (t : List (List Int)) (a : Int) : Int :=
  if groupB t = true then (if inR a 0 (((2 ^ t.length : Nat) : Int) - 1) = true then (if subB t a.toNat = true then 0 else 5) else 2) else 1
theorem subC_1 {t a} (h : groupB t = false) : subC t a = 1 := by unfold subC; rw [if_neg (by rw [h]; simp)]
theorem subC_2 {t a} (h : groupB t = true) (h2 : inR a 0 (((2 ^ t.length : Nat) : Int) - 1) = false) : subC t a = 2 := by unfold subC; rw [if_pos h, if_neg (by rw [h2]; simp)]
theorem subC_5 {t} {m : Nat} (h : groupB t = true) (h2 : inR m 0 (((2 ^ t.length : Nat) : Int) - 1) = true) (h3 : subB t m = false) : subC t m = 5 := by unfold subC; rw [if_pos h, if_pos h2, if_neg (by rw [Int.toNat_natCast, h3]; simp)]
theorem subC_0 {t} {m : Nat} (h : groupB t = true) (h2 : inR m 0 (((2 ^ t.length : Nat) : Int) - 1) = true) (h3 : subB t m = true) : subC t m = 0 := by unfold subC; rw [if_pos h, if_pos h2, if_pos (by rw [Int.toNat_natCast]; exact h3)]
theorem subC_zero {t a} (h : subC t a = 0) : groupB t = true ∧ ∃ m : Nat, a = (m : Int) ∧ m < 2 ^ t.length ∧ subB t m = true := by
  unfold subC at h
  split at h
  · rename_i h1
    split at h
    · rename_i h2
      split at h
      · rename_i h3
        have := inR_iff.1 h2
        obtain ⟨m, rfl⟩ := Int.eq_ofNat_of_zero_le this.1
        rw [Int.toNat_natCast] at h3
        exact ⟨h1, m, rfl, by omega, h3⟩
      · omega
    · omega
  · omega
/-- what IsNormalIn returns -/
@[irreducible] def normV (t : List (List Int)) (a : Int) : Bool := if subC t a = 0 then normB t a.toNat else false
theorem normV_bad {t a} (h : subC t a ≠ 0) : normV t a = false := by unfold normV; rw [if_neg h]
theorem normV_good {t} {m : Nat} (h : subC t m = 0) : normV t m = normB t m := by unfold normV; rw [if_pos h, Int.toNat_natCast]
theorem ediv2_bit {m : Nat} (h : m < 2 ^ 62) (hb : bitB m 0 = true) : ((m : Int) % 2 == 0) = false := by
  rw [bitB_zero_odd h] at hb
  have := eq_of_beq hb
  rw [beq_eq_false_iff_ne]; omega
theorem ediv2_nobit {m : Nat} (h : m < 2 ^ 62) (hb : bitB m 0 = false) : ((m : Int) % 2 == 0) = true := by
  rw [bitB_zero_odd h, beq_eq_false_iff_ne] at hb
  rw [beq_iff_eq]; omega
end Go.Proofs.Ytjhfieegkgndfaa

/-
  Numbering labels by their first occurrence: plain.
-/
namespace Go.Proofs.Ytjhfieegkgndfaa
set_option linter.unusedVariables false
set_option linter.unusedSimpArgs false

/-- the labels among the first i, each once, in the order of their first occurrence -/
def seenTo (l : List Int) : Nat → List Int
  | 0 => []
  | i + 1 => if hasB (seenTo l i) (ix l i) = true then seenTo l i else seenTo l i ++ [ix l i]
theorem seenTo_old {l : List Int} {i : Nat} (h : hasB (seenTo l i) (ix l i) = true) : seenTo l (i + 1) = seenTo l i := by simp only [seenTo]; rw [if_pos h]
theorem seenTo_new {l : List Int} {i : Nat} (h : hasB (seenTo l i) (ix l i) = false) : seenTo l (i + 1) = seenTo l i ++ [ix l i] := by simp only [seenTo]; rw [if_neg (by rw [h]; simp)]
theorem seenTo_len (l : List Int) : ∀ i, (seenTo l i).length ≤ i
  | 0 => by simp [seenTo]
  | i + 1 => by
    have := seenTo_len l i
    cases h : hasB (seenTo l i) (ix l i) with
    | true => rw [seenTo_old h]; omega
    | false => rw [seenTo_new h]; simp; omega
theorem hasB_mem {l : List Int} {n : Int} : hasB l n = true ↔ n ∈ l := by
  rw [hasB_iff]
  rcases indexOf_spec l n with ⟨h1, h2⟩ | ⟨i, h1, h2, h3, _⟩
  · rw [h1]
    constructor
    · intro h; omega
    · intro h; obtain ⟨i, hi, e⟩ := mem_ix h; exact absurd e (h2 i hi)
  · rw [h2]
    constructor
    · intro _; rw [← h3]; exact ix_mem l i h1
    · intro _; omega
theorem ix_append_left {a b : List Int} {i : Nat} (h : i < a.length) : ix (a ++ b) i = ix a i := by
  rw [ix_eq, ix_eq]; simp [List.getD, List.getElem?_append_left h]
theorem ix_append_one (a : List Int) (x : Int) : ix (a ++ [x]) a.length = x := by rw [ix_eq]; simp [List.getD]
theorem indexOf_append_old {a b : List Int} {x : Int} (h : hasB a x = true) : indexOf (a ++ b) x = indexOf a x := by
  rcases indexOf_spec a x with ⟨h1, _⟩ | ⟨i, h1, h2, h3, h4⟩
  · rw [hasB_iff, h1] at h; omega
  · rcases indexOf_spec (a ++ b) x with ⟨_, k2⟩ | ⟨j, k1, k2, k3, k4⟩
    · exact absurd (by rw [ix_append_left h1, h3]) (k2 i (by simp; omega))
    · rw [h2, k2]
      have hij : i = j := by
        rcases Nat.lt_trichotomy i j with g | g | g
        · exact absurd (by rw [ix_append_left h1, h3]) (k4 i g)
        · exact g
        · exact absurd (by rw [← ix_append_left (b := b) (by omega), k3]) (h4 j g)
      rw [hij]
theorem indexOf_append_new {a : List Int} {x : Int} (h : hasB a x = false) : indexOf (a ++ [x]) x = (a.length : Int) := by
  have hn : ¬ x ∈ a := fun hm => by rw [hasB_mem.2 hm] at h; cases h
  rcases indexOf_spec (a ++ [x]) x with ⟨_, k2⟩ | ⟨j, k1, k2, k3, k4⟩
  · exact absurd (ix_append_one a x) (k2 a.length (by simp))
  · rw [k2]
    have hj : ¬ j < a.length := fun hj => by
      rw [ix_append_left hj] at k3
      exact hn (by rw [← k3]; exact ix_mem a j hj)
    have : j = a.length := by simp at k1; omega
    rw [this]
/-- the number of label i -/
@[irreducible] def numF (l : List Int) (i : Nat) : Int := indexOf (seenTo l (i + 1)) (ix l i)
@[irreducible] def numL (l : List Int) : List Int := mkL l.length (numF l)
theorem length_numL (l : List Int) : (numL l).length = l.length := by unfold numL; exact length_mkL _ _
theorem ix_numL (l : List Int) (i : Nat) (h : i < l.length) : ix (numL l) i = numF l i := by unfold numL; exact ix_mkL _ _ _ h
theorem numF_old {l : List Int} {i : Nat} (h : hasB (seenTo l i) (ix l i) = true) : numF l i = indexOf (seenTo l i) (ix l i) := by unfold numF; rw [seenTo_old h]
theorem numF_new {l : List Int} {i : Nat} (h : hasB (seenTo l i) (ix l i) = false) : numF l i = ((seenTo l i).length : Int) := by unfold numF; rw [seenTo_new h, indexOf_append_new h]
theorem numF_eq (l : List Int) (i : Nat) : indexOf (seenTo l (i + 1)) (ix l i) = numF l i := by unfold numF; rfl
/-- what is seen stays seen, at its place -/
theorem seenTo_mono {l : List Int} {x : Int} {i : Nat} (h : hasB (seenTo l i) x = true) : ∀ d, hasB (seenTo l (i + d)) x = true ∧ indexOf (seenTo l (i + d)) x = indexOf (seenTo l i) x
  | 0 => ⟨h, rfl⟩
  | d + 1 => by
    have ⟨h1, h2⟩ := seenTo_mono h d
    rw [← Nat.add_assoc]
    cases hb : hasB (seenTo l (i + d)) (ix l (i + d)) with
    | true => rw [seenTo_old hb]; exact ⟨h1, h2⟩
    | false =>
      rw [seenTo_new hb]
      exact ⟨hasB_mem.2 (List.mem_append.2 (.inl (hasB_mem.1 h1))), by rw [indexOf_append_old h1, h2]⟩
theorem seenTo_has (l : List Int) (i : Nat) : hasB (seenTo l (i + 1)) (ix l i) = true := by
  cases hb : hasB (seenTo l i) (ix l i) with
  | true => rw [seenTo_old hb]; exact hb
  | false => rw [seenTo_new hb]; exact hasB_mem.2 (by simp)
theorem numF_end (l : List Int) {i n : Nat} (h : i < n) : indexOf (seenTo l n) (ix l i) = numF l i := by
  have := (seenTo_mono (seenTo_has l i) (n - (i + 1))).2
  rw [show i + 1 + (n - (i + 1)) = n from by omega, numF_eq] at this
  exact this
/-- numbers are at least 0 and below their own place and one -/
theorem numF_bd (l : List Int) (i : Nat) : 0 ≤ numF l i ∧ numF l i ≤ (i : Int) := by
  have h := seenTo_has l i
  rw [hasB_iff, numF_eq] at h
  refine ⟨h, ?_⟩
  have := seenTo_len l (i + 1)
  rcases indexOf_spec (seenTo l (i + 1)) (ix l i) with ⟨h1, _⟩ | ⟨j, h1, h2, _⟩
  · rw [numF_eq] at h1; omega
  · rw [numF_eq] at h2; omega
end Go.Proofs.Ytjhfieegkgndfaa

/-
  Classes of conjugate elements: plain.
-/
namespace Go.Proofs.Ytjhfieegkgndfaa
set_option linter.unusedVariables false
set_option linter.unusedSimpArgs false

/-- the product, in numbers -/
def gm (t : List (List Int)) (x y : Nat) : Nat := (ent t x y).toNat
def gi (t : List (List Int)) (x : Nat) : Nat := (backF t x).toNat
def cj (t : List (List Int)) (x y : Nat) : Nat := (conjF t x y).toNat
theorem cj_eq (t : List (List Int)) (x y : Nat) : cj t x y = gm t (gm t x y) (gi t x) := by unfold cj gm gi; rw [conjF_def]
section
variable {t : List (List Int)} (h : GroupOk t)
include h
theorem gm_lt {x y : Nat} (hx : x < t.length) (hy : y < t.length) : gm t x y < t.length := ent_nn h.1 hx hy
theorem gi_lt {x : Nat} (hx : x < t.length) : gi t x < t.length := by have := backF_ok h hx; unfold gi; omega
theorem cj_lt {x y : Nat} (hx : x < t.length) (hy : y < t.length) : cj t x y < t.length := by have := conjF_bd h hx hy; unfold cj; omega
theorem gm_assoc {x y z : Nat} (hx : x < t.length) (hy : y < t.length) (hz : z < t.length) : gm t (gm t x y) z = gm t x (gm t y z) := by
  unfold gm; rw [grp_assoc h hx hy hz]
theorem gm_zero {x : Nat} (hx : x < t.length) : gm t 0 x = x := by unfold gm; rw [grp_unit_l h hx]; simp
theorem gm_unit {x : Nat} (hx : x < t.length) : gm t x 0 = x := by unfold gm; rw [grp_unit_r h hx]; simp
theorem gm_gi {x : Nat} (hx : x < t.length) : gm t x (gi t x) = 0 := by
  have := (backF_ok h hx).2.2
  unfold gm gi; rw [this]; rfl
theorem gm_inj {x y z : Nat} (hx : x < t.length) (hy : y < t.length) (hz : z < t.length) (e : gm t x y = gm t x z) : y = z := by
  have h1 := h.1.bd hx hy
  have h2 := h.1.bd hx hz
  unfold gm at e
  exact grp_inj h hx hy hz (by omega)
theorem pos_len : 0 < t.length := h.1.1
theorem gi_gm {x : Nat} (hx : x < t.length) : gm t (gi t x) x = 0 := by
  have hi := gi_lt h hx
  have h0 := pos_len h
  have : gm t x (gm t (gi t x) x) = gm t x 0 := by rw [← gm_assoc h hx hi hx, gm_gi h hx, gm_zero h hx, gm_unit h hx]
  exact gm_inj h hx (gm_lt h hi hx) h0 this
theorem gi_zero : gi t 0 = 0 := by
  have h0 := pos_len h
  have := gm_gi h h0
  rwa [gm_zero h (gi_lt h h0)] at this
theorem gi_gi {x : Nat} (hx : x < t.length) : gi t (gi t x) = x := by
  have hi := gi_lt h hx
  exact gm_inj h hi (gi_lt h hi) hx (by rw [gm_gi h hi, gi_gm h hx])
theorem gi_mul {x y : Nat} (hx : x < t.length) (hy : y < t.length) : gi t (gm t x y) = gm t (gi t y) (gi t x) := by
  have hxy := gm_lt h hx hy
  have ix := gi_lt h hx
  have iy := gi_lt h hy
  refine gm_inj h hxy (gi_lt h hxy) (gm_lt h iy ix) ?_
  rw [gm_gi h hxy, gm_assoc h hx hy (gm_lt h iy ix), ← gm_assoc h hy iy ix, gm_gi h hy, gm_zero h ix, gm_gi h hx]
theorem cj_zero {y : Nat} (hy : y < t.length) : cj t 0 y = y := by rw [cj_eq t, gi_zero h, gm_zero h hy, gm_unit h hy]
theorem cj_cj {x y z : Nat} (hx : x < t.length) (hy : y < t.length) (hz : z < t.length) : cj t x (cj t y z) = cj t (gm t x y) z := by
  have ix := gi_lt h hx
  have iy := gi_lt h hy
  have hyz := gm_lt h hy hz
  rw [cj_eq t, cj_eq t, cj_eq t, gi_mul h hx hy, ← gm_assoc h hx hyz iy, ← gm_assoc h (gm_lt h (gm_lt h hx hy) hz) iy ix, ← gm_assoc h hx hy hz]
theorem cj_back {x y : Nat} (hx : x < t.length) (hy : y < t.length) : cj t (gi t x) (cj t x y) = y := by
  rw [cj_cj h (gi_lt h hx) hx hy, gi_gm h hx, cj_zero h hy]
end
/-- the least of y and of its conjugates by the first k elements -/
def lstTo (t : List (List Int)) (y : Nat) : Nat → Int
  | 0 => (y : Int)
  | k + 1 => min (lstTo t y k) (conjF t k y)
@[irreducible] def lstF (t : List (List Int)) (k y : Nat) : Int := lstTo t y k
theorem lstF_zero (t y) : lstF t 0 y = (y : Int) := by unfold lstF; rfl
theorem lstF_succ (t k y) : lstF t (k + 1) y = min (lstF t k y) (conjF t k y) := by unfold lstF; rfl
/-- the least conjugate -/
@[irreducible] def minC (t : List (List Int)) (y : Nat) : Int := lstF t t.length y
theorem minC_def (t y) : minC t y = lstF t t.length y := by unfold minC; rfl
theorem lstF_le (t : List (List Int)) (y : Nat) : ∀ k, (lstF t k y ≤ (y : Int)) ∧ ∀ x, x < k → lstF t k y ≤ conjF t x y
  | 0 => ⟨by rw [lstF_zero]; omega, fun x hx => by omega⟩
  | k + 1 => by
    have ⟨h1, h2⟩ := lstF_le t y k
    rw [lstF_succ]
    refine ⟨by omega, fun x hx => ?_⟩
    by_cases e : x = k
    · subst e; omega
    · have := h2 x (by omega); omega
theorem lstF_is (t : List (List Int)) (y : Nat) : ∀ k, lstF t k y = (y : Int) ∨ ∃ x, x < k ∧ lstF t k y = conjF t x y
  | 0 => .inl (lstF_zero t y)
  | k + 1 => by
    rw [lstF_succ]
    rcases Int.le_total (lstF t k y) (conjF t k y) with g | g
    · rw [Int.min_eq_left g]
      rcases lstF_is t y k with e | ⟨x, hx, e⟩
      · exact .inl e
      · exact .inr ⟨x, by omega, e⟩
    · rw [Int.min_eq_right g]; exact .inr ⟨k, by omega, rfl⟩
theorem minC_is {t : List (List Int)} (h : GroupOk t) {y : Nat} (hy : y < t.length) : ∃ x, x < t.length ∧ minC t y = ((cj t x y : Nat) : Int) := by
  rw [minC_def]
  rcases lstF_is t y t.length with e | ⟨x, hx, e⟩
  · exact ⟨0, pos_len h, by rw [e, cj_zero h hy]⟩
  · have := conjF_bd h hx hy
    exact ⟨x, hx, by rw [e]; unfold cj; omega⟩
theorem minC_le {t : List (List Int)} (h : GroupOk t) {x y : Nat} (hx : x < t.length) (hy : y < t.length) : minC t y ≤ ((cj t x y : Nat) : Int) := by
  have h1 := (lstF_le t y t.length).2 x hx
  have := conjF_bd h hx hy
  rw [minC_def]; unfold cj; omega
theorem minC_cj {t : List (List Int)} (h : GroupOk t) {x y : Nat} (hx : x < t.length) (hy : y < t.length) : minC t (cj t x y) = minC t y := by
  have hc := cj_lt h hx hy
  obtain ⟨a, ha, ea⟩ := minC_is h hy
  obtain ⟨b, hb, eb⟩ := minC_is h hc
  have h1 := minC_le h (gm_lt h hb hx) hy
  rw [← cj_cj h hb hx hy] at h1
  have h2 := minC_le h (gm_lt h ha (gi_lt h hx)) hc
  rw [← cj_cj h ha (gi_lt h hx) hc, cj_back h hx hy] at h2
  omega
theorem minC_conj {t : List (List Int)} (h : GroupOk t) {x y : Nat} (hx : x < t.length) (hy : y < t.length) (e : minC t x = minC t y) : ∃ k, k < t.length ∧ cj t k x = y := by
  obtain ⟨a, ha, ea⟩ := minC_is h hx
  obtain ⟨b, hb, eb⟩ := minC_is h hy
  refine ⟨gm t (gi t b) a, gm_lt h (gi_lt h hb) ha, ?_⟩
  rw [← cj_cj h (gi_lt h hb) ha hx]
  have : cj t a x = cj t b y := by omega
  rw [this, cj_back h hb hy]
/-- the labels: the least conjugates -/
@[irreducible] def lstL (t : List (List Int)) (k : Nat) : List Int := mkL t.length (lstF t k)
theorem length_lstL (t k) : (lstL t k).length = t.length := by unfold lstL; exact length_mkL _ _
theorem ix_lstL (t : List (List Int)) (k y : Nat) (h : y < t.length) : ix (lstL t k) y = lstF t k y := by unfold lstL; exact ix_mkL _ _ _ h
@[irreducible] def minL (t : List (List Int)) : List Int := lstL t t.length
theorem minL_def (t) : minL t = lstL t t.length := by unfold minL; rfl
theorem length_minL (t) : (minL t).length = t.length := by rw [minL_def]; exact length_lstL _ _
theorem ix_minL (t : List (List Int)) (y : Nat) (h : y < t.length) : ix (minL t) y = minC t y := by rw [minL_def, ix_lstL _ _ _ h, minC_def]
/-- the classes' numbers -/
@[irreducible] def clsL (t : List (List Int)) : List Int := numL (minL t)
theorem clsL_def (t) : clsL t = numL (minL t) := by unfold clsL; rfl
theorem length_clsL (t) : (clsL t).length = t.length := by rw [clsL_def, length_numL, length_minL]

/-! ### the reference's way -/
/-- O holds different elements that are conjugate to x, x first -/
structure OrbOk (t : List (List Int)) (x : Nat) (O : List Int) : Prop where
  pos : 0 < O.length
  first : ix O 0 = (x : Int)
  mem : ∀ i, i < O.length → ∃ y : Nat, ix O i = (y : Int) ∧ y < t.length ∧ minC t y = minC t x
  nodup : O.Nodup
theorem OrbOk.one {t : List (List Int)} {x : Nat} (hx : x < t.length) : OrbOk t x [(x : Int)] where
  pos := by simp
  first := by rw [ix_eq]; rfl
  mem := fun i hi => by
    have : i = 0 := by simp at hi; omega
    subst this
    exact ⟨x, by rw [ix_eq]; rfl, hx, rfl⟩
  nodup := by simp
theorem OrbOk.len {t : List (List Int)} {x : Nat} {O : List Int} (h : OrbOk t x O) : O.length ≤ t.length := by
  have := nodup_le O (intRange t.length) h.nodup (fun z hz => by
    obtain ⟨i, hi, rfl⟩ := mem_ix hz
    obtain ⟨y, e, hy, _⟩ := h.mem i hi
    rw [e, mem_intRange]; omega)
  rwa [length_intRange] at this
theorem OrbOk.add {t : List (List Int)} (hG : GroupOk t) {x y k : Nat} {O : List Int} (h : OrbOk t x O) (hy : y < t.length) (hc : minC t y = minC t x) (hk : k < t.length) (hn : hasB O ((cj t k y : Nat) : Int) = false) : OrbOk t x (O ++ [((cj t k y : Nat) : Int)]) where
  pos := by simp
  first := by rw [ix_append_left h.pos]; exact h.first
  mem := fun i hi => by
    by_cases e : i < O.length
    · rw [ix_append_left e]; exact h.mem i e
    · have : i = O.length := by simp at hi; omega
      subst this
      exact ⟨cj t k y, ix_append_one _ _, cj_lt hG hk hy, by rw [minC_cj hG hk hy, hc]⟩
  nodup := by
    rw [List.nodup_append]
    refine ⟨h.nodup, by simp, fun a ha b hb => ?_⟩
    simp at hb
    subst hb
    intro e; subst e
    rw [hasB_mem.2 ha] at hn; cases hn
/-- the first k conjugates of y are in O -/
def OrbRow (t : List (List Int)) (O : List Int) (y k : Nat) : Prop := ∀ j, j < k → hasB O ((cj t j y : Nat) : Int) = true
/-- .. all of the first i of O -/
def OrbTo (t : List (List Int)) (O : List Int) (i : Nat) : Prop := ∀ a, a < i → a < O.length → OrbRow t O (ix O a).toNat t.length
theorem OrbRow.zero (t O y) : OrbRow t O y 0 := all_zero
theorem hasB_more {O : List Int} {z u : Int} (h : hasB O z = true) : hasB (O ++ [u]) z = true := hasB_mem.2 (List.mem_append.2 (.inl (hasB_mem.1 h)))
theorem OrbRow.old {t O y k} (h : OrbRow t O y k) (hk : hasB O ((cj t k y : Nat) : Int) = true) : OrbRow t O y (k + 1) := all_succ h hk
theorem OrbRow.new {t O y k} (h : OrbRow t O y k) : OrbRow t (O ++ [((cj t k y : Nat) : Int)]) y (k + 1) :=
  all_succ (fun j hj => hasB_more (h j hj)) (hasB_mem.2 (by simp))
theorem OrbTo.zero (t O) : OrbTo t O 0 := fun a ha => by omega
theorem OrbTo.more {t O i} {z : Int} (h : OrbTo t O i) (hi : i ≤ O.length) : OrbTo t (O ++ [z]) i := fun a ha hl j hj => by
  have hl' : a < O.length := by omega
  have := h a ha hl' j hj
  rw [ix_append_left hl']
  exact hasB_more this
theorem OrbTo.succ {t O i} (h : OrbTo t O i) (hr : OrbRow t O (ix O i).toNat t.length) : OrbTo t O (i + 1) := fun a ha hl => by
  by_cases e : a = i
  · subst e; exact hr
  · exact h a (by omega) hl
theorem OrbTo.all {t : List (List Int)} (hG : GroupOk t) {x : Nat} {O : List Int} (h : OrbOk t x O) (hx : x < t.length) (ht : OrbTo t O O.length) {y : Nat} (hy : y < t.length) (e : minC t y = minC t x) : hasB O (y : Int) = true := by
  obtain ⟨k, hk, ek⟩ := minC_conj hG hx hy e.symm
  have := ht 0 h.pos h.pos k hk
  rw [h.first, Int.toNat_natCast, ek] at this
  exact this
/-- the orbit of x -/
def IsOrb (t : List (List Int)) (x : Nat) (O : List Int) : Prop := OrbOk t x O ∧ ∀ y, y < t.length → (hasB O (y : Int) = true ↔ minC t y = minC t x)
theorem isOrb_of {t : List (List Int)} (hG : GroupOk t) {x : Nat} {O : List Int} (h : OrbOk t x O) (hx : x < t.length) (ht : OrbTo t O O.length) : IsOrb t x O :=
  ⟨h, fun y hy => ⟨fun hb => by
    obtain ⟨i, hi, e⟩ := mem_ix (hasB_mem.1 hb)
    obtain ⟨z, ez, _, ec⟩ := h.mem i hi
    have : y = z := by omega
    rw [this]; exact ec, fun e => OrbTo.all hG h hx ht hy e⟩⟩
/-- what the reference holds when it has looked at x elements, and of the orbit of x at m -/
@[irreducible] def orbF (t : List (List Int)) (x : Nat) (y : Nat) : Int := if hasB (seenTo (minL t) x) (minC t y) = true then indexOf (seenTo (minL t) x) (minC t y) else -1
@[irreducible] def orbM (t : List (List Int)) (x : Nat) (O : List Int) (m : Nat) (y : Nat) : Int := if hasB (O.take m) (y : Int) = true then ((seenTo (minL t) x).length : Int) else orbF t x y
theorem orbF_zero (t y) : orbF t 0 y = -1 := by unfold orbF; rw [if_neg (by rw [hasB_no.2]; simp; unfold seenTo indexOf indexFrom; decide)]
theorem orbF_nonneg {t : List (List Int)} {x y : Nat} : 0 ≤ orbF t x y ↔ hasB (seenTo (minL t) x) (minC t y) = true := by
  unfold orbF
  split
  · rename_i h; exact ⟨fun _ => h, fun _ => hasB_iff.1 h⟩
  · rename_i h; exact ⟨fun h2 => by omega, fun h2 => absurd h2 h⟩
theorem orbF_old {t : List (List Int)} {x y : Nat} (hx : x < t.length) (h : hasB (seenTo (minL t) x) (minC t x) = true) : orbF t (x + 1) y = orbF t x y := by
  unfold orbF; rw [seenTo_old (by rw [ix_minL _ _ hx]; exact h)]
theorem orbM_zero (t x O y) : orbM t x O 0 y = orbF t x y := by unfold orbM; rw [if_neg (by rw [List.take_zero, hasB_no.2]; simp; unfold indexOf indexFrom; decide)]
theorem orbM_succ {t : List (List Int)} {x m y : Nat} {O : List Int} (hm : m < O.length) : orbM t x O (m + 1) y = if (y : Int) = ix O m then ((seenTo (minL t) x).length : Int) else orbM t x O m y := by
  have ht : O.take (m + 1) = O.take m ++ [ix O m] := by rw [List.take_succ_eq_append_getElem hm, ix_eq]; simp [List.getD, hm]
  unfold orbM
  rw [ht]
  by_cases e : (y : Int) = ix O m
  · rw [if_pos e, if_pos (hasB_mem.2 (by rw [e]; simp))]
  · rw [if_neg e]
    by_cases hb : hasB (O.take m) (y : Int) = true
    · rw [if_pos hb, if_pos (hasB_more hb)]
    · rw [if_neg hb, if_neg (fun h2 => by
        have := hasB_mem.1 h2
        simp only [List.mem_append, List.mem_singleton] at this
        rcases this with h3 | h3
        · exact hb (hasB_mem.2 h3)
        · exact e h3)]
theorem orbM_done {t : List (List Int)} {x y : Nat} {O : List Int} (hx : x < t.length) (hy : y < t.length) (hO : IsOrb t x O) (hn : hasB (seenTo (minL t) x) (minC t x) = false) : orbM t x O O.length y = orbF t (x + 1) y := by
  have hs := seenTo_new (l := minL t) (i := x) (by rw [ix_minL _ _ hx]; exact hn)
  rw [ix_minL _ _ hx] at hs
  unfold orbM
  rw [List.take_length]
  by_cases hb : hasB O (y : Int) = true
  · rw [if_pos hb]
    have e := (hO.2 y hy).1 hb
    unfold orbF
    rw [hs, e, if_pos (hasB_mem.2 (by simp)), indexOf_append_new hn]
  · rw [if_neg hb]
    have e : minC t y ≠ minC t x := fun e => hb ((hO.2 y hy).2 e)
    unfold orbF
    rw [hs]
    by_cases h2 : hasB (seenTo (minL t) x) (minC t y) = true
    · rw [if_pos h2, if_pos (hasB_more h2), indexOf_append_old h2]
    · rw [if_neg h2, if_neg (fun h3 => by
        have := hasB_mem.1 h3
        simp only [List.mem_append, List.mem_singleton] at this
        rcases this with h4 | h4
        · exact h2 (hasB_mem.2 h4)
        · exact e h4)]
theorem orbF_done {t : List (List Int)} {y : Nat} (hy : y < t.length) : orbF t t.length y = ix (clsL t) y := by
  rw [clsL_def, ix_numL _ _ (by rw [length_minL]; exact hy)]
  have h1 := numF_end (minL t) (i := y) (n := t.length) hy
  rw [ix_minL _ _ hy] at h1
  have h2 := (seenTo_mono (seenTo_has (minL t) y) (t.length - (y + 1))).1
  rw [show y + 1 + (t.length - (y + 1)) = t.length from by omega, ix_minL _ _ hy] at h2
  unfold orbF
  rw [if_pos h2, h1]
end Go.Proofs.Ytjhfieegkgndfaa

/-
  Refining colours: plain.
-/
namespace Go.Proofs.Ytjhfieegkgndfaa
set_option linter.unusedVariables false
set_option linter.unusedSimpArgs false

def ColOk (n : Nat) (c : List Int) : Prop := c.length = n ∧ ∀ i, i < n → 0 ≤ ix c i ∧ ix c i ≤ 60
/-- the marks of all elements of both -/
@[irreducible] def marksL (az bz : List (List (List Int))) (l r : List Int) (n K : Nat) : List (List Int) :=
  ((List.range n).map fun x => markL az l n x K) ++ (List.range n).map fun x => markL bz r n x K
theorem length_marksL (az bz : List (List (List Int))) (l r : List Int) (n K : Nat) : (marksL az bz l r n K).length = 2 * n := by unfold marksL; simp; omega
theorem row_marksL1 (az bz : List (List (List Int))) (l r : List Int) (n K x : Nat) (hx : x < n) : row (marksL az bz l r n K) x = markL az l n x K := by
  rw [row_eq]; unfold marksL
  simp [List.getD, List.getElem?_append_left, hx]
theorem row_marksL2 (az bz : List (List (List Int))) (l r : List Int) (n K x : Nat) (hx : x < n) : row (marksL az bz l r n K) (n + x) = markL bz r n x K := by
  rw [row_eq]; unfold marksL
  simp [List.getD, List.getElem?_append_right, hx]
theorem length_row_marksL (az bz : List (List (List Int))) (l r : List Int) (n K i : Nat) (hi : i < 2 * n) : (row (marksL az bz l r n K) i).length = 1 + K * (2 * n) := by
  by_cases h : i < n
  · rw [row_marksL1 _ _ _ _ _ _ _ h, length_markL]
  · obtain ⟨x, rfl⟩ : ∃ x, i = n + x := ⟨i - n, by omega⟩
    rw [row_marksL2 _ _ _ _ _ _ _ (by omega), length_markL]
/-- the marks made so far -/
@[irreducible] def marksTo (az bz : List (List (List Int))) (l r : List Int) (n K i : Nat) : List (List Int) := (marksL az bz l r n K).take i
theorem marksTo_def (az bz : List (List (List Int))) (l r : List Int) (n K i : Nat) : marksTo az bz l r n K i = (marksL az bz l r n K).take i := by unfold marksTo; rfl
theorem marksTo_succ (az bz : List (List (List Int))) (l r : List Int) (n K i : Nat) (hi : i < 2 * n) : marksTo az bz l r n K (i + 1) = marksTo az bz l r n K i ++ [row (marksL az bz l r n K) i] := by
  rw [marksTo_def, marksTo_def]
  have h : i < (marksL az bz l r n K).length := by rw [length_marksL]; exact hi
  rw [List.take_succ_eq_append_getElem h, row_eq]; simp [List.getD, h]
theorem marksTo_all (az bz : List (List (List Int))) (l r : List Int) (n K : Nat) : marksTo az bz l r n K (2 * n) = marksL az bz l r n K := by
  rw [marksTo_def]; exact List.take_of_length_le (by rw [length_marksL]; omega)
theorem length_marksTo (az bz : List (List (List Int))) (l r : List Int) (n K i : Nat) (hi : i ≤ 2 * n) : (marksTo az bz l r n K i).length = i := by
  rw [marksTo_def, List.length_take, length_marksL]; omega
theorem marksTo_zero (az bz : List (List (List Int))) (l r : List Int) (n K : Nat) : marksTo az bz l r n K 0 = [] := by rw [marksTo_def, List.take_zero]

/-- all colours below num are in use -/
def Used (n num : Nat) (l r : List Int) : Prop := ∀ c : Nat, c < num → ∃ x, x < n ∧ (ix l x = (c : Int) ∨ ix r x = (c : Int))
theorem Used.zero (n : Nat) (l r : List Int) : Used n 0 l r := fun c hc => by omega
theorem Used.more {az bz : List (List (List Int))} {l r : List Int} {n K num : Nat} {Kd : List (List Int)} (h : Used n num l r) (hk : Kinds (marksL az bz l r n K) Kd) : num ≤ Kd.length := by
  refine hk.more fun c hc => ?_
  obtain ⟨x, hx, e | e⟩ := h c hc
  · exact ⟨x, by rw [length_marksL]; omega, by rw [row_marksL1 _ _ _ _ _ _ _ hx, markL_head]; exact e⟩
  · exact ⟨n + x, by rw [length_marksL]; omega, by rw [row_marksL2 _ _ _ _ _ _ _ hx, markL_head]; exact e⟩
/-- the new colour of place i -/
@[irreducible] def newC (M Kd : List (List Int)) (i : Nat) : Int := (placeL Kd (row M i) : Nat)
theorem newC_def (M Kd : List (List Int)) (i : Nat) : newC M Kd i = (placeL Kd (row M i) : Nat) := by unfold newC; rfl
theorem row_mem {M : List (List Int)} {i : Nat} (h : i < M.length) : row M i ∈ M := by rw [row_eq]; simp [List.getD, h]
theorem newC_bd {M Kd : List (List Int)} (hk : Kinds M Kd) {i : Nat} (hi : i < M.length) : 0 ≤ newC M Kd i ∧ newC M Kd i < Kd.length := by
  have := placeL_lt (hk.2.2 _ (row_mem hi))
  rw [newC_def]; omega
/-- how much oftener colour c stands among the first n places than behind, as far as place i -/
def cntD (M Kd : List (List Int)) (n c : Nat) : Nat → Int
  | 0 => 0
  | i + 1 => cntD M Kd n c i + (if placeL Kd (row M i) = c then (if i < n then 1 else -1) else 0)
theorem cntD_bd (M Kd : List (List Int)) (n c : Nat) : ∀ i : Nat, -(i : Int) ≤ cntD M Kd n c i ∧ cntD M Kd n c i ≤ i
  | 0 => by unfold cntD; omega
  | i + 1 => by
    have := cntD_bd M Kd n c i
    unfold cntD
    split
    · split <;> omega
    · omega
/-- .. as counts -/
theorem cntD_lo (M Kd : List (List Int)) (n c : Nat) : ∀ i, i ≤ n → cntD M Kd n c i = (((List.range i).countP fun j => decide (placeL Kd (row M j) = c) : Nat) : Int)
  | 0, _ => by unfold cntD; simp
  | i + 1, h => by
    unfold cntD
    rw [cntD_lo M Kd n c i (by omega), List.range_succ, List.countP_append]
    by_cases e : placeL Kd (row M i) = c
    · rw [if_pos e, if_pos (show i < n by omega)]; simp [e]
    · rw [if_neg e]; simp [e]
theorem cntD_hi (M Kd : List (List Int)) (n c : Nat) : ∀ i, i ≤ n → cntD M Kd n c (n + i) = cntD M Kd n c n - (((List.range i).countP fun j => decide (placeL Kd (row M (n + j)) = c) : Nat) : Int)
  | 0, _ => by simp
  | i + 1, h => by
    rw [show n + (i + 1) = (n + i) + 1 from rfl]
    rw [cntD, cntD_hi M Kd n c i (by omega), List.range_succ, List.countP_append]
    by_cases e : placeL Kd (row M (n + i)) = c
    · rw [if_pos e, if_neg (show ¬ n + i < n by omega)]; simp [e]; omega
    · rw [if_neg e]; simp [e]
/-- an isomorphism that keeps the colours: marks agree, so nothing is oftener -/
theorem marks_iso {n : Nat} {az bz : List (List (List Int))} {l r p : List Int} (hA : TabsOk n az) (h : IsoOk n az bz p) (hr : Resp n l r p) {x : Nat} (hx : x < n) :
    row (marksL az bz l r n az.length) x = row (marksL az bz l r n az.length) (n + (ix p x).toNat) := by
  rw [row_marksL1 _ _ _ _ _ _ _ hx, row_marksL2 _ _ _ _ _ _ _ (h.bd hx).2, markL_iso hA h hr hx _ (Nat.le_refl _)]
theorem cntD_iso {n : Nat} {az bz : List (List (List Int))} {l r p : List Int} (hA : TabsOk n az) (h : IsoOk n az bz p) (hr : Resp n l r p) (Kd : List (List Int)) (c : Nat) :
    cntD (marksL az bz l r n az.length) Kd n c (2 * n) = 0 := by
  rw [show 2 * n = n + n by omega, cntD_hi _ _ _ _ n (Nat.le_refl _), cntD_lo _ _ _ _ n (Nat.le_refl _)]
  have e : (List.range n).countP (fun j => decide (placeL Kd (row (marksL az bz l r n az.length) (n + j)) = c)) = (List.range n).countP fun j => decide (placeL Kd (row (marksL az bz l r n az.length) j) = c) := by
    rw [← (perm_range h.1 h.2.1).countP_eq, List.countP_map]
    refine List.countP_congr fun x hx => ?_
    rw [List.mem_range] at hx
    simp only [Function.comp, decide_eq_true_eq]
    rw [marks_iso hA h hr hx]
  rw [e]; omega
/-- the new colours of both halves -/
@[irreducible] def colsL (M Kd : List (List Int)) (m : Nat) : List Int := mkL m (newC M Kd)
theorem length_colsL (M Kd : List (List Int)) (m : Nat) : (colsL M Kd m).length = m := by unfold colsL; exact length_mkL _ _
theorem ix_colsL (M Kd : List (List Int)) (m i : Nat) (h : i < m) : ix (colsL M Kd m) i = newC M Kd i := by unfold colsL; exact ix_mkL _ _ _ h
theorem ix_take {l : List Int} {k i : Nat} (h : i < k) : ix (l.take k) i = ix l i := by
  rw [ix_eq, ix_eq]; simp [List.getD, List.getElem?_take, h]
theorem ix_drop {l : List Int} {k i : Nat} : ix (l.drop k) i = ix l (k + i) := by
  rw [ix_eq, ix_eq]; simp [List.getD, List.getElem?_drop]
theorem cols_ok {M Kd : List (List Int)} {n : Nat} (hk : Kinds M Kd) (hm : M.length = 2 * n) (h12 : n ≤ 12) : ColOk n ((colsL M Kd (2 * n)).take n) ∧ ColOk n ((colsL M Kd (2 * n)).drop n) := by
  have hle := hk.le
  refine ⟨⟨by rw [List.length_take, length_colsL]; omega, fun i hi => ?_⟩, ⟨by rw [List.length_drop, length_colsL]; omega, fun i hi => ?_⟩⟩
  · rw [ix_take hi, ix_colsL _ _ _ _ (by omega)]
    have := newC_bd hk (i := i) (by omega)
    omega
  · rw [ix_drop, ix_colsL _ _ _ _ (by omega)]
    have := newC_bd hk (i := n + i) (by omega)
    omega
theorem cols_used {M Kd : List (List Int)} {n : Nat} (hk : Kinds M Kd) (hm : M.length = 2 * n) : Used n Kd.length ((colsL M Kd (2 * n)).take n) ((colsL M Kd (2 * n)).drop n) := fun c hc => by
  obtain ⟨i, hi, e⟩ := hk.used hc
  by_cases h : i < n
  · exact ⟨i, h, .inl (by rw [ix_take h, ix_colsL _ _ _ _ (by omega), newC_def, e])⟩
  · refine ⟨i - n, by omega, .inr ?_⟩
    rw [ix_drop, ix_colsL _ _ _ _ (by omega), newC_def, show n + (i - n) = i by omega, e]
theorem cols_resp {n : Nat} {az bz : List (List (List Int))} {l r p : List Int} (hA : TabsOk n az) (h : IsoOk n az bz p) (hr : Resp n l r p) (Kd : List (List Int)) :
    Resp n ((colsL (marksL az bz l r n az.length) Kd (2 * n)).take n) ((colsL (marksL az bz l r n az.length) Kd (2 * n)).drop n) p := fun x hx => by
  have hp := h.bd hx
  rw [ix_take hx, ix_drop, ix_colsL _ _ _ _ (by omega), ix_colsL _ _ _ _ (by omega), newC_def, newC_def, marks_iso hA h hr hx]
end Go.Proofs.Ytjhfieegkgndfaa

/-
  The search for isomorphisms: plain.
-/
namespace Go.Proofs.Ytjhfieegkgndfaa
set_option linter.unusedVariables false
set_option linter.unusedSimpArgs false

/-- f fits as far as it goes -/
def FitAll (az bz : List (List (List Int))) (f : List Int) : Prop :=
  ∀ k, k < az.length → ∀ x, x < f.length → ∀ y, y < f.length → ent (tab az k) x y < (f.length : Int) → ix f (ent (tab az k) x y).toNat = ent (tab bz k) (ix f x).toNat (ix f y).toNat
/-- f is a beginning: elements, different ones, that fits -/
def Begun (n : Nat) (az bz : List (List (List Int))) (f : List Int) : Prop :=
  (∀ i, i < f.length → 0 ≤ ix f i ∧ ix f i < n) ∧ DistinctTo f f.length ∧ FitAll az bz f
theorem begun_iso {n : Nat} {az bz : List (List (List Int))} {f : List Int} (hA : TabsOk n az) (h : Begun n az bz f) (hl : f.length = n) : IsoOk n az bz f := by
  refine ⟨hl, ⟨fun i hi => ?_, h.2.1⟩, fun k hk x hx y hy => ?_⟩
  · have := h.1 i hi
    omega
  · have := hA.bd hk hx hy
    exact h.2.2 k hk x (by omega) y (by omega) (by omega)
theorem extP_get {f p : List Int} (h : ExtP f p) (hf : ∀ i, i < f.length → 0 ≤ ix f i) {i : Nat} (hi : i < f.length) : ix p i = ix f i := h i hi (hf i hi)
/-- the map lengthened by y -/
theorem begun_snoc {n l : Nat} {az bz : List (List (List Int))} {f : List Int} {y : Nat} (h : Begun n az bz f) (hy : y < n) (hh : hasB f y = false) (hfit : ∀ k, k < az.length → ∀ x, x < f.length + 1 → ∀ q, q < f.length + 1 →
    ((f.length : Int) < ent (tab az k) x q ∨ (x < f.length ∧ q < f.length ∧ ent (tab az k) x q < (f.length : Int)) ∨ ix (f ++ [(y : Int)]) (ent (tab az k) x q).toNat = ent (tab bz k) (ix (f ++ [(y : Int)]) x).toNat (ix (f ++ [(y : Int)]) q).toNat))
    (h0 : ∀ k, k < az.length → ∀ x, x < f.length → ∀ q, q < f.length → 0 ≤ ent (tab az k) x q) : Begun n az bz (f ++ [(y : Int)]) := by
  have hne : ∀ j, j < f.length → ix f j ≠ (y : Int) := fun j hj e => by
    have hno := hasB_no.1 hh
    rcases indexOf_spec f y with ⟨_, g⟩ | ⟨i, _, g, _⟩
    · exact g j hj e
    · omega
  refine ⟨fun i hi => ?_, fun i hi j hj => ?_, fun k hk x hx q hq hlt => ?_⟩
  · by_cases e : i < f.length
    · rw [ix_app e]; exact h.1 i e
    · have : i = f.length := by simp at hi; omega
      subst this
      rw [ix_snoc]; omega
  · by_cases e : i < f.length
    · rw [ix_app e, ix_app (show j < f.length by omega)]; exact h.2.1 i e j hj
    · have : i = f.length := by simp at hi; omega
      subst this
      rw [ix_snoc, ix_app hj]; exact hne j hj
  · simp at hx hq hlt
    rcases hfit k hk x hx q hq with g | ⟨g1, g2, g3⟩ | g
    · omega
    · have hp := h0 k hk x g1 q g2
      rw [ix_app g1, ix_app g2, ix_app (by omega)]
      exact h.2.2 k hk x g1 q g2 g3
    · exact g
theorem ext_no_has {n : Nat} {az bz : List (List (List Int))} {f : List Int} {y : Nat} (hf : ∀ i, i < f.length → 0 ≤ ix f i) (hln : f.length < n) (hh : hasB f y = true) : extL n az bz (f ++ [(y : Int)]) = [] := by
  refine extL_nil fun p hp he => ?_
  rw [← extP_snoc (by omega)] at he
  have := hasB_iff.1 hh
  rcases indexOf_spec f y with ⟨g, _⟩ | ⟨i, hi, _, e, _⟩
  · omega
  · have h1 := extP_get he.1 hf hi
    have := hp.inj (x := i) (y := f.length) (by omega) hln (by rw [h1, e, he.2])
    omega
theorem ext_no_colour {n : Nat} {az bz : List (List (List Int))} {f l r : List Int} {y : Nat} (hr : ∀ p, IsoOk n az bz p → ExtP f p → Resp n l r p) (hln : f.length < n) (hne : ix l f.length ≠ ix r y) : extL n az bz (f ++ [(y : Int)]) = [] := by
  refine extL_nil fun p hp he => ?_
  rw [← extP_snoc (by omega)] at he
  have := hr p hp he.1 f.length hln
  rw [he.2, Int.toNat_natCast] at this
  exact hne this
theorem ext_no_fit {n : Nat} {az bz : List (List (List Int))} {f : List Int} (hA : TabsOk n az) (hf : ∀ i, i < f.length → 0 ≤ ix f i) (hln : f.length ≤ n) {k x q : Nat} (hk : k < az.length) (hx : x < f.length) (hq : q < f.length) (hlt : ent (tab az k) x q < (f.length : Int))
    (hno : ix f (ent (tab az k) x q).toNat ≠ ent (tab bz k) (ix f x).toNat (ix f q).toNat) : extL n az bz f = [] := by
  refine extL_nil fun p hp he => ?_
  have h1 := hp.2.2 k hk x (by omega) q (by omega)
  have hb := hA.bd hk (show x < n by omega) (show q < n by omega)
  rw [extP_get he hf hx, extP_get he hf hq, extP_get he hf (show (ent (tab az k) x q).toNat < f.length by omega)] at h1
  exact hno h1
/-- x and y alone with a colour of their own -/
theorem resp_own {n : Nat} {az bz : List (List (List Int))} {f l r : List Int} {y : Nat} (hr : ∀ p, IsoOk n az bz p → ExtP f p → Resp n l r p) (hl : l.length = n) (hrl : r.length = n) (hln : f.length < n) (hy : y < n) {p : List Int} (hp : IsoOk n az bz p) (he : ExtP (f ++ [(y : Int)]) p) : Resp n (l.set f.length 60) (r.set y 60) p := fun z hz => by
  rw [← extP_snoc (by omega)] at he
  have hb := hp.bd hz
  have set_ix : ∀ (c : List Int) (i j : Nat), j < c.length → ix (c.set i 60) j = if i = j then 60 else ix c j := fun c i j hj => by
    rw [ix_eq, ix_eq]
    by_cases h : i = j
    · subst h; simp [List.getD, hj]
    · simp [List.getD, h, List.getElem?_set_ne]
  rw [set_ix _ _ _ (by omega), set_ix _ _ _ (by omega)]
  by_cases e : f.length = z
  · subst e
    rw [if_pos rfl, he.2, Int.toNat_natCast, if_pos rfl]
  · rw [if_neg e, if_neg (fun e2 => e (hp.inj hln hz (by rw [he.2]; omega)))]
    exact hr p hp he.1 z hz
theorem colOk_set {n : Nat} {l : List Int} (h : ColOk n l) (i : Nat) : ColOk n (l.set i 60) := by
  refine ⟨by rw [List.length_set]; exact h.1, fun j hj => ?_⟩
  have := h.2 j hj
  rw [ix_eq] at this ⊢
  by_cases e : i = j
  · subst e
    have : i < l.length := by rw [h.1]; exact hj
    simp [List.getD, this]
  · simp [List.getD, e, List.getElem?_set_ne] at this ⊢
    exact this
/-- the round's arithmetic -/
theorem take_round {α : Type} (s B X : List α) (most : Nat) (h1 : s.length ≤ most) (h : (s ++ B.take (most - s.length)).length < most) :
    (s ++ B.take (most - s.length)) ++ X.take (most - (s ++ B.take (most - s.length)).length) = s ++ (B ++ X).take (most - s.length) := by
  rw [List.length_append, List.length_take] at h
  have hB : B.length < most - s.length := by omega
  rw [List.take_of_length_le (show B.length ≤ most - s.length by omega), List.append_assoc, List.length_append, List.take_append]
  congr 2
  · rw [List.take_of_length_le (by omega)]
  · congr 1; omega
theorem take_full {α : Type} (s B X : List α) (most : Nat) (h1 : s.length ≤ most) (h : ¬ (s ++ B.take (most - s.length)).length < most) : s ++ B.take (most - s.length) = s ++ (B ++ X).take (most - s.length) := by
  rw [List.length_append, List.length_take] at h
  rw [List.take_append_of_le_length (by omega)]
/-- E is what is below k, and the rest -/
theorem below_split {M : List (List Int)} {x : Nat} (k : Nat) (h : M.Pairwise fun p q => ix p x ≤ ix q x) : ∃ X, M = below M x k ++ X := by
  unfold below
  induction M with
  | nil => exact ⟨[], rfl⟩
  | cons a M ih =>
    rw [List.pairwise_cons] at h
    obtain ⟨X, hX⟩ := ih h.2
    by_cases g : ix a x < (k : Int)
    · rw [List.filter_cons_of_pos (by simpa using g)]
      refine ⟨X, ?_⟩
      rw [List.cons_append, ← hX]
    · refine ⟨a :: M, ?_⟩
      rw [List.filter_cons_of_neg (by simpa using g)]
      have : M.filter (fun p => decide (ix p x < (k : Int))) = [] := by
        rw [List.filter_eq_nil_iff]
        intro p hp
        have := h.1 p hp
        simp; omega
      rw [this]; rfl
end Go.Proofs.Ytjhfieegkgndfaa

/-
  The search by partial maps: plain.
-/
namespace Go.Proofs.Ytjhfieegkgndfaa
set_option linter.unusedVariables false
set_option linter.unusedSimpArgs false

theorem AsgR.iff {n : Nat} {az bz : List (List (List Int))} {f s f' s' : List Int} {x v : Nat} (hf : PartOk n f s) (hx : x < n) (h : AsgR n az bz f s x v true f' s') (p : List Int) (hp : IsoOk n az bz p) : (ExtP f p ∧ ix p x = (v : Int)) ↔ ExtP f' p := by
  constructor
  · rintro ⟨h1, h2⟩; exact h.ext rfl p hp h1 h2
  · intro h1
    refine ⟨fun i hi h0 => ?_, ?_⟩
    · rw [hf.len] at hi
      have e := h.goes.2 i hi h0
      have := h1 i (by rw [h.part.len]; exact hi) (by omega)
      omega
    · have := h.here rfl
      rw [h1 x (by rw [h.part.len]; exact hx) (by omega), this]
theorem extL_yes {n : Nat} {az bz : List (List (List Int))} {f s f' s' : List Int} {x v : Nat} (hf : PartOk n f s) (hx : x < n) (h : AsgR n az bz f s x v true f' s') : ((extL n az bz f).filter fun p => decide (ix p x = (v : Int))) = extL n az bz f' := extL_at fun p hp => h.iff hf hx p hp
theorem extL_no {n : Nat} {az bz : List (List (List Int))} {f s f' s' : List Int} {x v : Nat} (h : AsgR n az bz f s x v false f' s') : ((extL n az bz f).filter fun p => decide (ix p x = (v : Int))) = [] := by
  rw [List.filter_eq_nil_iff]
  intro p hp
  obtain ⟨h1, h2⟩ := mem_extL.1 hp
  have := h.no rfl p h1 h2
  simpa using this
theorem extL_used {n : Nat} {az bz : List (List (List Int))} {f s : List Int} {x v : Nat} (hf : PartOk n f s) (hx : x < n) (h0 : ix f x < 0) (hu : hasB f v = true) : ((extL n az bz f).filter fun p => decide (ix p x = (v : Int))) = [] := extL_no (AsgR.used (az := az) (bz := bz) hf hx h0 hu)
theorem good_next {n : Nat} {az bz : List (List (List Int))} {f s f' s' : List Int} {x v : Nat} (hA : TabsOk n az) (hg : GoodAll az bz n f) (h : AsgR n az bz f s x v true f' s') : GoodAll az bz n f' := fun a ha b hb h1 h2 => by
  by_cases g1 : 0 ≤ ix f a
  · by_cases g2 : 0 ≤ ix f b
    · exact (hg a ha b hb g1 g2).goes hA h.goes ha hb g1 g2
    · exact fun k hk => (h.good rfl b hb a ha (by omega) h2 h1 k hk).2
  · exact fun k hk => (h.good rfl a ha b hb (by omega) h1 h2 k hk).1
theorem whole_one {n : Nat} {az bz : List (List (List Int))} {f s : List Int} (hf : PartOk n f s) (hg : GoodAll az bz n f) (h : indexOf f (-1) = -1) : IsoOk n az bz f ∧ extL n az bz f = [f] := by
  have hi : IsoOk n az bz f := iso_of_good hf (fun x hx => by
    rcases indexOf_spec f (-1) with ⟨_, hn⟩ | ⟨i, _, e, _⟩
    · have h1 := hn x (by rw [hf.len]; exact hx)
      have := (hf.rng x hx).1
      omega
    · omega) hg
  exact ⟨hi, extL_one hi⟩
theorem first_unset {n : Nat} {f s : List Int} (hf : PartOk n f s) (h : indexOf f (-1) ≠ -1) : ∃ x : Nat, x < n ∧ indexOf f (-1) = (x : Int) ∧ ix f x = -1 ∧ ∀ i, i < x → 0 ≤ ix f i := by
  rcases indexOf_spec f (-1) with ⟨e, _⟩ | ⟨x, hx, e, e2, hn⟩
  · exact absurd e h
  · rw [hf.len] at hx
    refine ⟨x, hx, e, e2, fun i hi => ?_⟩
    have h1 := hn i hi
    have := (hf.rng i (by omega)).1
    omega
theorem prefix_part {α : Type} {xs a b c L : List α} (h : xs ++ (a ++ b ++ c) <+: L) : (xs ++ a) ++ b <+: L := by
  obtain ⟨r, e⟩ := h
  exact ⟨c ++ r, by rw [← e]; simp⟩
theorem prefix_app {α : Type} {q b a c : List α} (h : q <+: b) : a ++ q <+: a ++ b ++ c := by
  obtain ⟨r, e⟩ := h
  exact ⟨r ++ c, by rw [← e]; simp⟩
end Go.Proofs.Ytjhfieegkgndfaa

/-
  The next permutation in lexicographic order: plain.
-/
namespace Go.Proofs.Ytjhfieegkgndfaa
set_option linter.unusedVariables false
set_option linter.unusedSimpArgs false

/-- all permutations of n elements in lexicographic order -/
theorem isoOk_plain {n : Nat} {p : List Int} : IsoOk n [] [] p ↔ p.length = n ∧ PermOk p := by
  constructor
  · intro h; exact ⟨h.1, h.2.1⟩
  · rintro ⟨h1, h2⟩; exact ⟨h1, h2, fun k hk => by simp at hk⟩
/-- p falls from i on -/
def Falls (p : List Int) (i : Nat) : Prop := ∀ j, i ≤ j → j + 1 < p.length → ix p (j + 1) < ix p j
/-- p rises from i on -/
def Rises (p : List Int) (i : Nat) : Prop := ∀ j, i ≤ j → j + 1 < p.length → ix p j < ix p (j + 1)
theorem Falls.le {p : List Int} {i : Nat} (h : Falls p i) {a : Nat} (ha : i ≤ a) : ∀ (k : Nat), a + k < p.length → ix p (a + k) ≤ ix p a
  | 0, _ => Int.le_refl _
  | k + 1, hk => by
    have := Falls.le h ha k (by omega)
    have := h (a + k) (by omega) (by omega)
    rw [show a + (k + 1) = a + k + 1 by omega]; omega
theorem Rises.le {p : List Int} {i : Nat} (h : Rises p i) {a : Nat} (ha : i ≤ a) : ∀ (k : Nat), a + k < p.length → ix p a ≤ ix p (a + k)
  | 0, _ => Int.le_refl _
  | k + 1, hk => by
    have := Rises.le h ha k (by omega)
    have := h (a + k) (by omega) (by omega)
    rw [show a + (k + 1) = a + k + 1 by omega]; omega
/-- two permutations that agree ahead of d: what r has from d on, p has from d on -/
theorem perm_rest {n : Nat} {p r : List Int} (hp : IsoOk n [] [] p) (hr : IsoOk n [] [] r) {d : Nat} (he : ∀ i, i < d → ix p i = ix r i) {e : Nat} (hd : d ≤ e) (hen : e < n) : ∃ j, d ≤ j ∧ j < n ∧ ix p j = ix r e := by
  obtain ⟨y, hy⟩ : ∃ y : Nat, ix r e = (y : Int) := ⟨_, (Int.toNat_of_nonneg (hr.bd hen).1).symm⟩
  obtain ⟨j, hj, e2⟩ := hp.surj (y := y) (by have := hr.bd hen; omega)
  refine ⟨j, ?_, hj, by omega⟩
  apply Classical.byContradiction
  intro hlt
  have h1 := he j (by omega)
  have := hr.inj (x := j) (y := e) (by omega) hen (by omega)
  omega
theorem lex_first {n : Nat} {p r : List Int} (hp : p.length = n) (hr : r.length = n) (h : p ≠ r) : ∃ d, d < n ∧ (∀ i, i < d → ix p i = ix r i) ∧ ix p d ≠ ix r d := by
  apply Classical.byContradiction
  intro hno
  refine h (ix_ext (by omega) fun i hi => ?_)
  have : ∀ k, k ≤ n → ∀ i, i < k → ix p i = ix r i := by
    intro k
    induction k with
    | zero => intro _ i hi; omega
    | succ k ih =>
      intro hk i hi
      by_cases e : i < k
      · exact ih (by omega) i e
      · have : i = k := by omega
        subst this
        apply Classical.byContradiction
        intro hne
        exact hno ⟨i, by omega, ih (by omega), hne⟩
  exact this n (Nat.le_refl _) i (by omega)
/-- a permutation that rises from i on is the least of those that begin like it -/
theorem rises_least {n : Nat} {q r : List Int} (hq : IsoOk n [] [] q) (hr : IsoOk n [] [] r) {i : Nat} (hR : Rises q i) (he : ∀ j, j < i → ix q j = ix r j) (hne : q ≠ r) : LexLt q r := by
  obtain ⟨d, hd, h1, h2⟩ := lex_first hq.1 hr.1 hne
  have hid : i ≤ d := by
    apply Classical.byContradiction
    intro h
    exact h2 (he d (by omega))
  obtain ⟨j, hj, hjn, e⟩ := perm_rest hq hr h1 (Nat.le_refl d) hd
  have := hR.le hid (j - d) (by have := hq.1; omega)
  rw [show d + (j - d) = j by omega] at this
  exact ⟨d, h1, by omega⟩
/-- one that falls from i on is the greatest -/
theorem falls_greatest {n : Nat} {p r : List Int} (hp : IsoOk n [] [] p) (hr : IsoOk n [] [] r) {i : Nat} (hF : Falls p i) {d : Nat} (hd : d < n) (hid : i ≤ d) (h1 : ∀ j, j < d → ix p j = ix r j) : ix r d ≤ ix p d := by
  obtain ⟨j, hj, hjn, e⟩ := perm_rest hp hr h1 (Nat.le_refl d) hd
  have := hF.le hid (j - d) (by have := hp.1; omega)
  rw [show d + (j - d) = j by omega] at this
  omega
theorem lex_lt_len {n : Nat} {p r : List Int} (hp : p.length = n) (hr : r.length = n) (h : LexLt p r) : ∃ d, d < n ∧ (∀ i, i < d → ix p i = ix r i) ∧ ix p d < ix r d := by
  obtain ⟨d, h1, h2⟩ := h
  refine ⟨d, ?_, h1, h2⟩
  apply Classical.byContradiction
  intro hn
  have e1 : ix p d = 0 := by rw [ix_eq]; simp [List.getD, show p.length ≤ d by omega]
  have e2 : ix r d = 0 := by rw [ix_eq]; simp [List.getD, show r.length ≤ d by omega]
  omega
/-- q follows p: it agrees with p ahead of i, has at i the least of p's that are greater and stand behind, and rises behind i -/
structure NextP (n : Nat) (p q : List Int) (i : Nat) : Prop where
  hin : i < n
  falls : Falls p (i + 1)
  same : ∀ j, j < i → ix q j = ix p j
  more : ix p i < ix q i
  least : ∀ j, i < j → j < n → ix p i < ix p j → ix q i ≤ ix p j
  rises : Rises q (i + 1)
theorem next_least {n i : Nat} {p q r : List Int} (hp : IsoOk n [] [] p) (hq : IsoOk n [] [] q) (hr : IsoOk n [] [] r) (h : NextP n p q i) (hlt : LexLt p r) : q = r ∨ LexLt q r := by
  obtain ⟨d, hd, h1, h2⟩ := lex_lt_len hp.1 hr.1 hlt
  have hdi : d ≤ i := by
    apply Classical.byContradiction
    intro hn
    have := falls_greatest hp hr h.falls hd (by omega) h1
    omega
  by_cases e : d = i
  · subst e
    obtain ⟨j, hj, hjn, e⟩ := perm_rest hp hr h1 (Nat.le_refl d) hd
    have hjd : d < j := by
      apply Classical.byContradiction
      intro hn
      have : j = d := by omega
      subst this
      omega
    have := h.least j hjd hjn (by omega)
    by_cases e2 : ix q d = ix r d
    · by_cases e3 : q = r
      · exact .inl e3
      · refine .inr (rises_least hq hr h.rises (fun k hk => ?_) e3)
        by_cases e4 : k = d
        · subst e4; exact e2
        · rw [h.same k (by omega)]; exact h1 k (by omega)
    · exact .inr ⟨d, fun k hk => by rw [h.same k hk]; exact h1 k hk, by omega⟩
  · exact .inr ⟨d, fun k hk => by rw [h.same k (by omega)]; exact h1 k hk, by rw [h.same d (by omega)]; exact h2⟩
theorem LexLt.trans {p q r : List Int} (h : LexLt p q) (k : LexLt q r) : LexLt p r := by
  obtain ⟨d, h1, h2⟩ := h
  obtain ⟨e, k1, k2⟩ := k
  rcases Nat.lt_trichotomy d e with g | g | g
  · exact ⟨d, fun i hi => (h1 i hi).trans (k1 i (by omega)), by rw [← k1 d g]; exact h2⟩
  · subst g; exact ⟨d, fun i hi => (h1 i hi).trans (k1 i hi), by omega⟩
  · exact ⟨e, fun i hi => (h1 i (by omega)).trans (k1 i hi), by rw [h1 e g]; exact k2⟩
/-- in a sorted list: the member that stands right behind p -/
theorem sorted_next {L : List (List Int)} {pre rest : List (List Int)} {p q : List Int} (hs : L.Pairwise LexLt) (hL : L = pre ++ p :: rest) (hq : q ∈ L) (hpq : LexLt p q) (hmin : ∀ r, r ∈ L → LexLt p r → q = r ∨ LexLt q r) : ∃ rest', rest = q :: rest' := by
  subst hL
  have h2 := (List.pairwise_append.1 hs)
  have h3 := List.pairwise_cons.1 h2.2.1
  have hqr : q ∈ rest := by
    rcases List.mem_append.1 hq with h | h
    · exact absurd (hpq.trans (h2.2.2 q h p (by simp))) (LexLt.irrefl p)
    · rcases List.mem_cons.1 h with h | h
      · subst h; exact absurd hpq (LexLt.irrefl q)
      · exact h
  cases rest with
  | nil => simp at hqr
  | cons a rest =>
    rcases hmin a (by simp) (h3.1 a (by simp)) with e | e
    · subst e; exact ⟨rest, rfl⟩
    · rcases List.mem_cons.1 hqr with e2 | e2
      · subst e2; exact ⟨rest, rfl⟩
      · exact absurd (e.trans ((List.pairwise_cons.1 h3.2).1 q e2)) (LexLt.irrefl q)
theorem sorted_last {L : List (List Int)} {pre rest : List (List Int)} {p : List Int} (hs : L.Pairwise LexLt) (hL : L = pre ++ p :: rest) (hmax : ∀ r, r ∈ L → ¬ LexLt p r) : rest = [] := by
  subst hL
  cases rest with
  | nil => rfl
  | cons a rest =>
    have h2 := (List.pairwise_append.1 hs)
    exact absurd ((List.pairwise_cons.1 h2.2.1).1 a (by simp)) (hmax a (by simp))
theorem sorted_first {L : List (List Int)} {p : List Int} (hs : L.Pairwise LexLt) (hp : p ∈ L) (hmin : ∀ r, r ∈ L → p = r ∨ LexLt p r) : ∃ rest, L = p :: rest := by
  cases L with
  | nil => simp at hp
  | cons a rest =>
    have h3 := List.pairwise_cons.1 hs
    rcases hmin a (by simp) with e | e
    · subst e; exact ⟨rest, rfl⟩
    · rcases List.mem_cons.1 hp with e2 | e2
      · subst e2; exact ⟨rest, rfl⟩
      · exact absurd (e.trans (h3.1 p e2)) (LexLt.irrefl p)
/-- what swapping i and k and turning round all behind i makes of c -/
def swapC (c : Nat → Int) (i k x : Nat) : Int := if x = i then c k else if x = k then c i else c x
def turnC (c : Nat → Int) (i n x : Nat) : Int := if x ≤ i then c x else c (n + i - x)
def nextC (c : Nat → Int) (i k n : Nat) : Nat → Int := turnC (swapC c i k) i n
/-- the list of the first n values of c -/
def listC (c : Nat → Int) (n : Nat) : List Int := (List.range n).map c
theorem length_listC (c : Nat → Int) (n : Nat) : (listC c n).length = n := by simp [listC]
theorem ix_listC (c : Nat → Int) (n i : Nat) (h : i < n) : ix (listC c n) i = c i := by rw [ix_eq]; simp [listC, List.getD, h]
theorem listC_ix {p : List Int} {n : Nat} (h : p.length = n) : listC (ix p) n = p := ix_ext (by rw [length_listC, h]) fun i hi => by rw [length_listC] at hi; rw [ix_listC _ _ _ hi]
theorem swapC_swap (c : Nat → Int) (i k x : Nat) : swapC c i k x = c (if x = i then k else if x = k then i else x) := by
  unfold swapC
  by_cases h1 : x = i
  · rw [if_pos h1, if_pos h1]
  · rw [if_neg h1, if_neg h1]
    by_cases h2 : x = k
    · rw [if_pos h2, if_pos h2]
    · rw [if_neg h2, if_neg h2]
/-- places renamed: still a permutation -/
theorem perm_places {n : Nat} {p : List Int} (hp : IsoOk n [] [] p) (g : Nat → Nat) (hg : ∀ x, x < n → g x < n) (hi : ∀ x y, x < n → y < n → g x = g y → x = y) : IsoOk n [] [] (listC (fun x => ix p (g x)) n) := by
  refine isoOk_plain.2 ⟨length_listC _ _, ⟨fun i h => ?_, fun i h j hj e => ?_⟩⟩
  · rw [length_listC] at h ⊢
    rw [ix_listC _ _ _ h]
    have := hp.bd (hg i h)
    omega
  · rw [length_listC] at h
    rw [ix_listC _ _ _ h, ix_listC _ _ _ (by omega)] at e
    have := hp.inj (hg j (by omega)) (hg i h) e
    have := hi j i (by omega) h this
    omega
theorem nextC_perm {n i k : Nat} {p : List Int} (hp : IsoOk n [] [] p) (hi : i < n) (hk : k < n) (hik : i < k) : IsoOk n [] [] (listC (nextC (ix p) i k n) n) := by
  have h := perm_places hp (fun x => (fun y => if y = i then k else if y = k then i else y) (if x ≤ i then x else n + i - x)) (fun x hx => by
    simp only []
    repeat' split
    all_goals omega) (fun x y hx hy => by
    simp only []
    repeat' split
    all_goals omega)
  have e : (fun x => ix p ((fun y => if y = i then k else if y = k then i else y) (if x ≤ i then x else n + i - x))) = nextC (ix p) i k n := by
    funext x
    unfold nextC turnC
    simp only []
    by_cases hx : x ≤ i
    · rw [if_pos hx, if_pos hx, swapC_swap]
    · rw [if_neg hx, if_neg hx, swapC_swap]
  rw [e] at h
  exact h
/-- the program's choice of i and k: the next permutation -/
theorem nextC_next {n i k : Nat} {p : List Int} (hp : IsoOk n [] [] p) (hi : i + 1 < n) (hk : k < n) (hik : i < k) (hF : Falls p (i + 1)) (hup : ix p i < ix p k) (hlow : ∀ j, k < j → j < n → ix p j < ix p i) : NextP n p (listC (nextC (ix p) i k n) n) i where
  hin := by omega
  falls := hF
  same j hj := by
    rw [ix_listC _ _ _ (by omega)]
    unfold nextC turnC swapC
    rw [if_pos (by omega), if_neg (by omega), if_neg (by omega)]
  more := by
    rw [ix_listC _ _ _ (by omega)]
    unfold nextC turnC swapC
    rw [if_pos (Nat.le_refl _), if_pos rfl]
    exact hup
  least j hj hjn hlt := by
    rw [ix_listC _ _ _ (by omega)]
    unfold nextC turnC swapC
    rw [if_pos (Nat.le_refl _), if_pos rfl]
    have hjk : j ≤ k := by
      apply Classical.byContradiction
      intro hn
      have := hlow j (by omega) hjn
      omega
    have := hF.le (a := j) (by omega) (k - j) (by have := hp.1; omega)
    rw [show j + (k - j) = k by omega] at this
    exact this
  rises j hj hjl := by
    rw [length_listC] at hjl
    rw [ix_listC _ _ _ (by omega), ix_listC _ _ _ hjl]
    have hpl := hp.1
    -- places y = n + i - j and y - 1 of the swapped list
    obtain ⟨y, hy⟩ : ∃ y, y = n + i - (j + 1) := ⟨_, rfl⟩
    have hy2 : n + i - j = y + 1 := by omega
    unfold nextC turnC
    rw [if_neg (by omega), if_neg (by omega), hy2, ← hy]
    have hyi : i < y := by omega
    have hyn : y + 1 < n := by omega
    have h1 := hF y (by omega) (by omega)
    unfold swapC
    rw [if_neg (by omega), if_neg (show ¬ y = i by omega)]
    by_cases e1 : y + 1 = k
    · rw [if_pos e1, if_neg (by omega)]
      rw [e1] at h1
      omega
    · rw [if_neg e1]
      by_cases e2 : y = k
      · rw [if_pos e2]
        exact hlow (y + 1) (by omega) hyn
      · rw [if_neg e2]; exact h1
theorem NextP.lt {n i : Nat} {p q : List Int} (h : NextP n p q i) : LexLt p q := ⟨i, fun j hj => (h.same j hj).symm, h.more⟩
/-- the identity is the first -/
theorem first_perm {n : Nat} {p : List Int} (hp : IsoOk n [] [] p) (hr : ∀ x, x < n → ix p x = (x : Int)) : ∀ r, r ∈ isoL n [] [] → p = r ∨ LexLt p r := fun r h => by
  by_cases e : p = r
  · exact .inl e
  · exact .inr (rises_least hp (mem_isoL.1 h) (i := 0) (fun j _ hj => by rw [hr j (by have := hp.1; omega), hr (j + 1) (by have := hp.1; omega)]; omega) (fun j hj => by omega) e)
/-- what the program's next permutation does to the list of all -/
theorem perms_next {n i : Nat} {p q : List Int} {pre rest : List (List Int)} (hp : IsoOk n [] [] p) (hq : IsoOk n [] [] q) (h : NextP n p q i) (hL : isoL n [] [] = pre ++ p :: rest) : ∃ rest', rest = q :: rest' :=
  sorted_next (sorted_isoL n [] []) hL (mem_isoL.2 hq) h.lt fun r hr hlt => next_least hp hq (mem_isoL.1 hr) h hlt
theorem perms_last {n : Nat} {p : List Int} {pre rest : List (List Int)} (hp : IsoOk n [] [] p) (hF : Falls p 0) (hL : isoL n [] [] = pre ++ p :: rest) : rest = [] :=
  sorted_last (sorted_isoL n [] []) hL fun r hr hlt => by
    have hri := mem_isoL.1 hr
    obtain ⟨d, hd, h1, h2⟩ := lex_lt_len hp.1 hri.1 hlt
    have := falls_greatest hp hri hF hd (Nat.zero_le _) h1
    omega
end Go.Proofs.Ytjhfieegkgndfaa
