/-
  Contract of undo.
-/
import Derived.Test.YthlafeefjonkdaaDoorProg
import Derived.Deep.DeepCutAuto
import Derived.Deep.RegionWith
import Derived.Deep.RegionHeld3
import Derived.Deep.DrawnRows
import Derived.StillTailTactics
import Derived.Test.YthlafeefjonkdaaDoorJx0
import Derived.Test.YthlafeefjonkdaaDoorJx1
import Derived.Test.YthlafeefjonkdaaDoorJx3
import Derived.Test.YthlafeefjonkdaaDoorJx4
import Derived.Test.YthlafeefjonkdaaDoorJx5
namespace Go.Proofs.YthlafeefjonkdaaDoor
set_option linter.unusedVariables false
set_option linter.unusedSimpArgs false
open Go.RowKit
attribute [local go_sem ↓] Go.wp_at_zero Go.wp_at_succ

open Go.Deep
/-- only blocks of p (and new ones) may differ -/
structure Only (p : Nat → Prop) (w w' : World) : Prop where
  os : w'.os = w.os
  tape : w'.tape = w.tape
  output : w'.output = w.output
  size : w.heap.size ≤ w'.heap.size
  keep : ∀ k, k < w.heap.size → ¬ p k → w'.heap[k]? = w.heap[k]?
theorem Only.refl (p : Nat → Prop) (w : World) : Only p w w := ⟨rfl, rfl, rfl, Nat.le_refl _, fun _ _ _ => rfl⟩
theorem Only.trans {p : Nat → Prop} {a b c : World} (h : Only p a b) (k : Only p b c) : Only p a c := ⟨k.os.trans h.os, k.tape.trans h.tape, k.output.trans h.output, Nat.le_trans h.size k.size, fun i hi hn => (k.keep i (Nat.lt_of_lt_of_le hi h.size) hn).trans (h.keep i hi hn)⟩
theorem MapSt.img_lt {base : Nat} {w : World} {M I U : Nat} {v u : Value} {n : Nat} {f s : List Int} {sv : Value} (h : MapSt base w M I U v u n f s sv) : M < w.heap.size := World.block_lt_of_cell? _ _ h.c0
theorem MapSt.clear {base : Nat} {w : World} {M I U : Nat} {v u : Value} {n : Nat} {g s : List Int} {sv : Value} (h : MapSt base w M I U v u n g s sv) (hg : PartF n g) {x y : Nat} (hx : x < n) (hy : ix g x = (y : Int)) :
    MapSt base ((w.setCell ⟨U, y, none⟩ (.bool false)).setCell ⟨I, x, none⟩ (.int .i64 (-1))) M I U v u n (g.set x (-1)) s sv where
  c0 := kc_set (fun e => h.apart.1 e) (kc_set (fun e => h.apart.2.1 e) h.c0)
  c1 := kc_set (fun e => h.apart.1 e) (kc_set (fun e => h.apart.2.1 e) h.c1)
  c2 := kc_set (fun e => h.apart.1 e) (kc_set (fun e => h.apart.2.1 e) h.c2)
  c3 := kc_set (fun e => h.apart.1 e) (kc_set (fun e => h.apart.2.1 e) h.c3)
  c4 := kc_set (fun e => h.apart.1 e) (kc_set (fun e => h.apart.2.1 e) h.c4)
  fr := kf_set (kf_set h.fr)
  img := ((h.img.setOther (fun e => h.apart.2.2.1 e) _).set x _).congr fun i hi => by
    by_cases e : i = x
    · subst e; rw [if_pos rfl, ix_set_same _ _ _ (by rw [hg.1]; exact hx)]
    · rw [if_neg e, ix_set_other _ _ _ _ e]
  usd := ((h.usd.set y _).setOther (fun e => h.apart.2.2.1 e.symm) _).congr fun i hi => by
    have := hasB_clear hg hx (by omega) i
    rw [hy, Int.toNat_natCast] at this
    rw [this]
    by_cases e : i = y
    · rw [if_pos e, if_pos e]
    · rw [if_neg e, if_neg e]
  set := (h.set.setOff (fun g hg => (h.apart.2.2.2 g hg).2.2) _).setOff (fun g hg => (h.apart.2.2.2 g hg).2.1) _
  apart := h.apart
  low := h.low

end Go.Proofs.YthlafeefjonkdaaDoor

/-
  Tables that lie apart from what is written; the mapping's steps in memory. No program in sight.
-/
namespace Go.Proofs.YthlafeefjonkdaaDoor
set_option linter.unusedVariables false
set_option linter.unusedSimpArgs false
open Go.RowKit
open Go.Deep

/-- the tables ts of n elements lie below base, apart from the block X -/
def TabsIn (base : Nat) (X : Nat → Prop)  (w : World) (b o n : Nat) (ts : List (List (List Int))) : Prop := b < base ∧ ¬ X b ∧ ∀ k, k < ts.length →
  ∃ b1 o1 c1, b1 < base ∧ ¬ X b1 ∧ w.cell? ⟨b, o + k, none⟩ = some (.slice (some ⟨b1, o1, none⟩) n c1) ∧ ∀ x, x < n →
    ∃ b2 o2 c2, b2 < base ∧ ¬ X b2 ∧ w.cell? ⟨b1, o1 + x, none⟩ = some (.slice (some ⟨b2, o2, none⟩) n c2) ∧ ∀ y, y < n → w.cell? ⟨b2, o2 + y, none⟩ = some (.int .i64 (ent (tab ts k) x y))
/-- what lies below base, apart from X, is as it was -/
def KeepB (base : Nat) (X : Nat → Prop)  (w w' : World) : Prop := ∀ k, k < base → ¬ X k → w'.heap[k]? = w.heap[k]?
theorem KeepB.refl (base : Nat) (X : Nat → Prop)  (w : World) : KeepB base X w w := fun _ _ _ => rfl
theorem KeepB.trans {base : Nat} {X : Nat → Prop}  {a b c : World} (h : KeepB base X a b) (k : KeepB base X b c) : KeepB base X a c := fun i h1 h2 => (k i h1 h2).trans (h i h1 h2)
theorem KeepB.cell {base : Nat} {X : Nat → Prop}  {w w' : World} (h : KeepB base X w w') {b o : Nat} {v : Value} (h1 : b < base) (h2 : ¬ X b) (hc : w.cell? ⟨b, o, none⟩ = some v) : w'.cell? ⟨b, o, none⟩ = some v := by
  rw [World.cell?_of_block (w := w) (a := ⟨b, o, none⟩) (h b h1 h2)]; exact hc
theorem TabsIn.keep {base : Nat} {X : Nat → Prop}  {w w' : World} {b o n : Nat} {ts : List (List (List Int))} (h : TabsIn base X w b o n ts) (hk : KeepB base X w w') : TabsIn base X w' b o n ts := by
  obtain ⟨h1, h2, h3⟩ := h
  refine ⟨h1, h2, fun k hkl => ?_⟩
  obtain ⟨b1, o1, c1, g1, g2, g3, g4⟩ := h3 k hkl
  refine ⟨b1, o1, c1, g1, g2, hk.cell h1 h2 g3, fun x hx => ?_⟩
  obtain ⟨b2, o2, c2, k1, k2, k3, k4⟩ := g4 x hx
  exact ⟨b2, o2, c2, k1, k2, hk.cell g1 g2 k3, fun y hy => hk.cell k1 k2 (k4 y hy)⟩

/-- the blocks that the mapping's own steps write -/
def OwnP (M I U : Nat) (sv : Value) (b : Nat) : Prop := b = M ∨ b = I ∨ b = U ∨ sv.ownBlock = some b
/-- the set lies where it lay, or in a block that is new since w -/
def OwnsAt (vo vo' : Value) (w : World) : Prop := vo'.ownBlock = vo.ownBlock ∨ ∃ g, vo'.ownBlock = some g ∧ w.heap.size ≤ g
theorem OwnsAt.refl (v : Value) (w : World) : OwnsAt v v w := .inl rfl
theorem Only.mono {p q : Nat → Prop} {w w' : World} (h : Only p w w') (hpq : ∀ k, k < w.heap.size → p k → q k) : Only q w w' := ⟨h.os, h.tape, h.output, h.size, fun k hk hn => h.keep k hk (fun e => hn (hpq k hk e))⟩
theorem OwnsAt.trans {a b c : Value} {w w' : World} (h : OwnsAt a b w) (k : OwnsAt b c w') (hs : w.heap.size ≤ w'.heap.size) : OwnsAt a c w := by
  rcases k with e | ⟨g, e, hg⟩
  · rcases h with e2 | ⟨g, e2, hg⟩
    · exact .inl (e.trans e2)
    · exact .inr ⟨g, e.trans e2, hg⟩
  · exact .inr ⟨g, e, by omega⟩
/-- a step goes on from a step -/
theorem Only.next {M I U : Nat} {sv sv1 : Value} {w w1 w2 : World} (h : Only (OwnP M I U sv) w w1) (ha : OwnsAt sv sv1 w) (k : Only (OwnP M I U sv1) w1 w2) : Only (OwnP M I U sv) w w2 :=
  ⟨k.os.trans h.os, k.tape.trans h.tape, k.output.trans h.output, Nat.le_trans h.size k.size, fun i hi hn => (k.keep i (Nat.lt_of_lt_of_le hi h.size) (fun e => by
    rcases e with e | e | e | e
    · exact hn (.inl e)
    · exact hn (.inr (.inl e))
    · exact hn (.inr (.inr (.inl e)))
    · rcases ha with e2 | ⟨g, e2, hg⟩
      · exact hn (.inr (.inr (.inr (e2 ▸ e))))
      · rw [e2] at e
        injection e with e
        omega)).trans (h.keep i hi hn)⟩
theorem Only.ext {p : Nat → Prop} {w w' : World} (h : Ext w w') : Only p w w' := ⟨h.os, h.tape, h.output, h.size, fun k hk _ => h.block k hk⟩
theorem Only.keepB {p : Nat → Prop} {base : Nat} {X : Nat → Prop}  {w w' : World} (h : Only p w w') (hp : ∀ k, p k → base ≤ k) (hb : base ≤ w.heap.size) : KeepB base X w w' := fun k h1 _ => h.keep k (by omega) (fun e => by have := hp k e; omega)
theorem MapSt.ownLow {base : Nat} {w : World} {M I U : Nat} {v u : Value} {n : Nat} {f s : List Int} {sv : Value} (h : MapSt base w M I U v u n f s sv) : ∀ k, OwnP M I U sv k → base ≤ k := fun k e => by
  obtain ⟨l1, l2, l3⟩ := h.low
  rcases e with rfl | rfl | rfl | e
  · exact l1
  · exact l2
  · exact l3
  · exact (h.set.lt e).1
theorem MapSt.size {base : Nat} {w : World} {M I U : Nat} {v u : Value} {n : Nat} {f s : List Int} {sv : Value} (h : MapSt base w M I U v u n f s sv) : base ≤ w.heap.size := by
  have := h.img_lt
  have := h.low.1
  omega
theorem MapSt.drewN {base : Nat} {w : World} {M I U : Nat} {v u : Value} {n : Nat} {f s : List Int} {sv : Value} (h : MapSt base w M I U v u n f s sv) (k : Nat) : MapSt base (w.drewN k) M I U v u n f s sv := h.ext h.img_lt ((Ext.refl w).drewN k)
theorem MapSt.put {base : Nat} {w : World} {M I U : Nat} {v u : Value} {n : Nat} {g s : List Int} {sv : Value} (h : MapSt base w M I U v u n g s sv) (hl : g.length = n) {x q : Nat} (hx : x < n) (hf : ix g x < 0) :
    MapSt base ((w.setCell ⟨I, x, none⟩ (.int .i64 (q : Int))).setCell ⟨U, q, none⟩ (.bool true)) M I U v u n (g.set x (q : Int)) s sv where
  c0 := kc_set (fun e => h.apart.2.1 e) (kc_set (fun e => h.apart.1 e) h.c0)
  c1 := kc_set (fun e => h.apart.2.1 e) (kc_set (fun e => h.apart.1 e) h.c1)
  c2 := kc_set (fun e => h.apart.2.1 e) (kc_set (fun e => h.apart.1 e) h.c2)
  c3 := kc_set (fun e => h.apart.2.1 e) (kc_set (fun e => h.apart.1 e) h.c3)
  c4 := kc_set (fun e => h.apart.2.1 e) (kc_set (fun e => h.apart.1 e) h.c4)
  fr := kf_set (kf_set h.fr)
  img := ((h.img.set x _).setOther (fun e => h.apart.2.2.1 e) _).congr fun i hi => by
    by_cases e : i = x
    · subst e; rw [if_pos rfl, ix_set_same _ _ _ (by rw [hl]; exact hx)]
    · rw [if_neg e, ix_set_other _ _ _ _ e]
  usd := ((h.usd.setOther (fun e => h.apart.2.2.1 e.symm) _).set q _).congr fun i hi => by
    rw [hasB_set hl hx hf]
    by_cases e : i = q
    · rw [if_pos e, if_pos e]
    · rw [if_neg e, if_neg e]
  set := (h.set.setOff (fun g hg => (h.apart.2.2.2 g hg).2.1) _).setOff (fun g hg => (h.apart.2.2.2 g hg).2.2) _
  apart := h.apart
  low := h.low
/-- an element is appended to the set -/
theorem MapSt.app {base : Nat} {w w' : World} {M I U : Nat} {v u : Value} {n : Nat} {f s s' : List Int} {sv sv' : Value} {o : Obj} (h : MapSt base w M I U v u n f s sv) (hg : (w.alloc o).grownBy w' sv.ownBlock) (hs : GrowI 2 base w' sv' s') (hat : sv'.ownBlock = sv.ownBlock ∨ sv'.ownBlock = some (w.heap.size + 1)) :
    MapSt base (w'.setCell ⟨M, 4, none⟩ sv') M I U v u n f s' sv' := by
  have hx := h.ext h.img_lt ((Ext.refl w).alloc o)
  have hz : (w.alloc o).heap.size = w.heap.size + 1 := by simp
  have nM : M ≠ w.heap.size + 1 := by have := hx.img_lt; omega
  have nI : I ≠ w.heap.size + 1 := by have := hx.img.lt; omega
  have nU : U ≠ w.heap.size + 1 := by have := hx.usd.lt; omega
  have kM : some M ≠ sv.ownBlock := fun e => (h.apart.2.2.2 M e.symm).1 rfl
  have kI : some I ≠ sv.ownBlock := fun e => (h.apart.2.2.2 I e.symm).2.1 rfl
  have kU : some U ≠ sv.ownBlock := fun e => (h.apart.2.2.2 U e.symm).2.2 rfl
  have ap : ∀ g, sv'.ownBlock = some g → g ≠ M ∧ g ≠ I ∧ g ≠ U := fun g e => by
    rcases hat with e2 | e2
    · rw [e2] at e; exact h.apart.2.2.2 g e
    · rw [e2] at e; injection e with e
      subst e
      exact ⟨nM.symm, nI.symm, nU.symm⟩
  exact {
    c0 := kc_set2 (by simp) (hg.cell hx.c0 kM)
    c1 := kc_set2 (by simp) (hg.cell hx.c1 kM)
    c2 := kc_set2 (by simp) (hg.cell hx.c2 kM)
    c3 := kc_set2 (by simp) (hg.cell hx.c3 kM)
    c4 := kc_same (hg.cell hx.c4 kM)
    fr := kf_set (by
      have e := hg.block M hx.img_lt kM
      rw [World.frozen?_of_block (w := w.alloc o) (a := ⟨M, 4, none⟩) e]; exact hx.fr)
    img := (hx.img.of_block (hg.block I hx.img.lt kI)).setOther (fun e => h.apart.1 e.symm) _
    usd := (hx.usd.of_block (hg.block U hx.usd.lt kU)).setOther (fun e => h.apart.2.1 e.symm) _
    set := hs.setOff (fun g hg => (ap g hg).1) _
    apart := ⟨h.apart.1, h.apart.2.1, h.apart.2.2.1, ap⟩
    low := h.low }
theorem MapSt.row {base : Nat} {w : World} {M I U : Nat} {v u : Value} {n : Nat} {f s : List Int} {sv : Value} (h : MapSt base w M I U v u n f s sv) (hs : 0 < s.length) : ∃ S c, sv = .slice (some ⟨S, 0, none⟩) s.length c ∧ IntsAt w S 0 s := by
  obtain ⟨b, c, rfl, ho⟩ := h.set.own (fun e => by
    rcases h.set.2 with ⟨-, hn⟩ | ⟨g, cap, cur, rfl, _⟩
    · omega
    · simp at e)
  exact ⟨b, c, rfl, ho.2.2.1⟩
end Go.Proofs.YthlafeefjonkdaaDoor

/-
  Contracts: is it a table, by the reference and by the program.
-/
namespace Go.Proofs.YthlafeefjonkdaaDoor
set_option linter.unusedVariables false
set_option linter.unusedSimpArgs false
open Go.RowKit

theorem l01Table_any (t : List (List Int)) (v : Value) (w : World) (hv : Rows w v t) :
    Calls Tryd.prog 19 #[v] w fun e w' => e = .returned (.bool (tableB t)) ∧ w = w' := by
  obtain ⟨hlen, b, o, c, rfl, hc⟩ := hv
  cases hin : inR t.length 1 12 with
  | false =>
    go_enter Tryd.func19, Tryd.ntmps19
    go_wp2_with (go_at_call 31; refine (l01In_any _ _ _ _).mono ?_; rintro e w' ⟨rfl, rfl⟩)
    go_ret
    have := inR_false.1 hin
    exact ⟨ret_bool (tableB_no (fun h => this ⟨by have := h.1; omega, by have := h.2.1; omega⟩)).symm, rfl⟩
  | true =>
    have hb := inR_iff.1 hin
    go_enter Tryd.func19, Tryd.ntmps19
    go_wp2_with (go_at_call 31; refine (l01In_any _ _ _ _).mono ?_; rintro e w' ⟨rfl, rfl⟩)
    clear hin
    go_loop [4] (fun x => ∃ k : Nat, k ≤ t.length ∧ x = .int .i64 k ∧ RowsOk t t.length k) (fun x => t.length - (intOf x).toNat)
    case atStart => exact ⟨0, Nat.zero_le _, rfl, RowsOk.zero _ _⟩
    case round =>
      obtain ⟨k, hk, rfl, hok⟩ := hrel
      by_cases hlt : k < t.length
      · obtain ⟨b1, o1, c1, hr, hc1, hrl⟩ := hc.get hlt
        by_cases hw : (row t k).length = t.length
        · go_wp2
          go_loop [5] (fun y => ∃ j : Nat, j ≤ t.length ∧ y = .int .i64 j ∧ RowTo t t.length k j) (fun y => t.length - (intOf y).toNat)
          case atStart => exact ⟨0, Nat.zero_le _, rfl, RowTo.zero _ _ _⟩
          case round =>
            obtain ⟨j, hj, rfl, hto⟩ := hrel
            by_cases hjl : j < t.length
            · have hcell := hc1.ent hw hjl
              cases hin : inR (ent t k j) 0 (t.length - 1) with
              | false =>
                go_wp2_with (go_at_call 31; refine (l01In_any _ _ _ _).mono ?_; rintro e w' ⟨rfl, rfl⟩)
                go_ret
                exact ⟨ret_bool (tableB_no (fun h => inR_false.1 hin ((h.2.2 k hlt).2 j hjl))).symm, rfl⟩
              | true =>
                go_wp2_with (go_at_call 31; refine (l01In_any _ _ _ _).mono ?_; rintro e w' ⟨rfl, rfl⟩)
                go_round
                case rel => exact ⟨j + 1, by omega, by go_num, hto.succ (inR_iff.1 hin)⟩
                case measure => simp [intOf]; omega
            · have hjn : t.length ≤ j := by omega
              go_wp2
              go_round
              case rel => exact ⟨k + 1, by omega, by go_num, hok.succ ⟨hw, hto.mono hjn⟩⟩
              case measure => simp [intOf]; omega
        · go_wp2
          go_ret
          exact ⟨ret_bool (tableB_no (fun h => hw (h.2.2 k hlt).1)).symm, rfl⟩
      · go_wp2
        go_ret
        exact ⟨ret_bool (tableB_yes ⟨by omega, by omega, hok.mono (by omega)⟩).symm, rfl⟩
end Go.Proofs.YthlafeefjonkdaaDoor

/-
  Contracts of the reference: is it a permutation, is it the table of a group.
-/
namespace Go.Proofs.YthlafeefjonkdaaDoor
set_option linter.unusedVariables false
set_option linter.unusedSimpArgs false
open Go.RowKit

theorem l01Perm_any (l : List Int) (v : Value) (w : World) (hv : Ints w v l) (h1 : 1 ≤ l.length) (h2 : l.length ≤ 12) :
    Calls Tryd.prog 32 #[v] w fun e w' => e = .returned (.bool (permB l)) ∧ w = w' := by
  have hin : inR l.length 1 12 = true := inR_iff.2 ⟨by omega, by omega⟩
  have hv' := hv
  obtain ⟨hlen, b, o, c, rfl, hc⟩ := hv
  clear hc
  go_enter Tryd.func32, Tryd.ntmps32
  go_wp2_with (go_at_call 31; refine (l01In_any _ _ _ _).mono ?_; rintro e w' ⟨rfl, rfl⟩)
  go_loop [4] (fun x => ∃ k : Nat, k ≤ l.length ∧ x = .int .i64 k ∧ HasTo l k) (fun x => l.length - (intOf x).toNat)
  case atStart => exact ⟨0, Nat.zero_le _, rfl, HasTo.zero _⟩
  case round =>
    obtain ⟨k, hk, rfl, hto⟩ := hrel
    by_cases hlt : k < l.length
    · cases hi : hasB l k with
      | true =>
        go_wp2_with (go_at_call 43; refine (l01Has_any l _ _ _ hv').mono ?_; rintro e w' ⟨rfl, rfl⟩)
        go_round
        case rel => exact ⟨k + 1, by omega, by go_num, hto.succ (hasB_iff.1 hi)⟩
        case measure => simp [intOf]; omega
      | false =>
        go_wp2_with (go_at_call 43; refine (l01Has_any l _ _ _ hv').mono ?_; rintro e w' ⟨rfl, rfl⟩)
        go_ret
        exact ⟨ret_bool (permB_no (fun h => hasB_no.1 hi ((permOk_iff_has l).1 h k hlt))).symm, rfl⟩
    · go_wp2
      go_ret
      exact ⟨ret_bool (permB_yes ((permOk_iff_has l).2 (hto.mono (by omega)))).symm, rfl⟩

set_option maxRecDepth 100000 in
theorem l10Is_any (t : List (List Int)) (v : Value) (w : World) (hv : Rows w v t) :
    Calls Tryd.prog 20 #[v] w fun e w' => e = .returned (.bool (groupB t)) ∧ Ext w w' := by
  by_cases hT : TableOk t
  case neg =>
    have hB := tableB_no hT
    go_enter Tryd.func20, Tryd.ntmps20
    go_wp2_with (go_at_call 19; refine (l01Table_any t _ _ hv).mono ?_; rintro e w' ⟨rfl, rfl⟩)
    go_ret
    exact ⟨ret_bool (groupB_no (fun h => hT h.1)).symm, Ext.refl _⟩
  case pos =>
    have hB := tableB_yes hT
    have hv' := hv
    obtain ⟨hlen, b, o, c, rfl, hc⟩ := hv
    have HT := Lib.hid hT
    have h1 := hT.1
    have h2 := hT.2.1
    clear hT
    go_enter Tryd.func20, Tryd.ntmps20
    go_wp2_with (go_at_call 19; refine (l01Table_any t _ _ hv').mono ?_; rintro e w' ⟨rfl, rfl⟩)
    clear hB
    go_loopw [3] (fun x wr => ∃ k : Nat, k ≤ t.length ∧ x = .int .i64 k ∧ PermRows t k ∧ UnitAssocTo t t.length k ∧ Ext w wr) (fun x _ => t.length - (intOf x).toNat)
    case atStart => exact ⟨0, Nat.zero_le _, rfl, PermRows.zero _, UnitAssocTo.zero _ _, Ext.refl _⟩
    case round =>
      obtain ⟨k, hk, rfl, hpr, hua, hx⟩ := hrel
      by_cases hlt : k < t.length
      case neg =>
        go_wp2
        go_ret
        exact ⟨ret_bool (groupB_yes ⟨HT.out, hpr.mono (by omega), hua.mono (by omega)⟩).symm, hx⟩
      case pos =>
        obtain ⟨b0, o0, c0, hr0, hc0, -⟩ := (hc.ext hx).head (by omega)
        obtain ⟨b1, o1, c1, hr, hc1, hl⟩ := (hc.ext hx).get hlt
        have hl0 := HT.out.len (x := 0) (by omega)
        have hl1 := HT.out.len hlt
        have e0 := hc0.ent hl0 hlt
        have e1 := hc1.ent0 hl1 (by omega)
        have hri' := hc1.ints hl c1
        rw [hl0] at hr0
        rw [hl1] at hr hri'
        clear hl0 hc0
        cases hu0 : (ent t 0 k != (k : Int)) with
        | true =>
          go_wp2
          go_ret
          exact ⟨ret_bool (groupB_no (fun h => absurd (h.2.2 k hlt).1.1 (by simpa using hu0))).symm, hx⟩
        | false =>
          cases hu1 : (ent t k 0 != (k : Int)) with
          | true =>
            go_wp2
            go_ret
            exact ⟨ret_bool (groupB_no (fun h => absurd (h.2.2 k hlt).1.2 (by simpa using hu1))).symm, hx⟩
          | false =>
            have hun : UnitAt t k := ⟨by simpa using hu0, by simpa using hu1⟩
            cases hp : permB (row t k) with
            | false =>
              go_wp2_with (go_at_call 32; refine (l01Perm_any (row t k) _ _ hri' (by omega) (by omega)).mono ?_; rintro e w' ⟨rfl, rfl⟩)
              go_ret
              exact ⟨ret_bool (groupB_no (fun h => absurd (permB_yes (h.2.1 k hlt)) (by rw [hp]; simp))).symm, hx⟩
            | true =>
              go_wp2_with (go_at_call 32; refine (l01Perm_any (row t k) _ _ hri' (by omega) (by omega)).mono ?_; rintro e w' ⟨rfl, rfl⟩)
              have hpk := permB_iff.1 hp
              clear hp hu0 hu1 e0 e1 hr0 hr hc1 hri'
              obtain ⟨w1, rfl⟩ : ∃ w1 : World, w1 = wr := ⟨_, rfl⟩
              go_loopw [4] (fun y wr => ∃ m : Nat, m ≤ t.length ∧ y = .int .i64 m ∧ AssocY t t.length k m ∧ Ext w wr) (fun y _ => t.length - (intOf y).toNat)
              case atStart => exact ⟨0, Nat.zero_le _, rfl, AssocY.zero _ _ _, hx⟩
              case round =>
                clear hx
                obtain ⟨m, hm, rfl, hay, hx⟩ := hrel
                by_cases hml : m < t.length
                case neg =>
                  go_wp2
                  go_roundw
                  case rel => exact ⟨k + 1, by omega, by go_num, hpr.succ hpk, hua.succ hun (hay.mono (by omega)), hx⟩
                  case measure => simp [intOf]; omega
                case pos =>
                  go_wp2
                  obtain ⟨w2, rfl⟩ : ∃ w1 : World, w1 = wr := ⟨_, rfl⟩
                  go_loopw [5] (fun z wr => ∃ j : Nat, j ≤ t.length ∧ z = .int .i64 j ∧ AssocTo t k m j ∧ Ext w wr) (fun z _ => t.length - (intOf z).toNat)
                  case atStart => exact ⟨0, Nat.zero_le _, rfl, AssocTo.zero _ _ _, hx⟩
                  case round =>
                    clear hx
                    obtain ⟨j, hj, rfl, hato, hx⟩ := hrel
                    by_cases hjl : j < t.length
                    case neg =>
                      go_wp2
                      go_roundw
                      case rel => exact ⟨m + 1, by omega, by go_num, hay.succ (hato.mono (by omega)), hx⟩
                      case measure => simp [intOf]; omega
                    case pos =>
                      have bxy := HT.out.bd hlt hml
                      have byz := HT.out.bd hml hjl
                      have hcw := hc.ext hx
                      obtain ⟨b1, o1, c1, hr, hc1, -⟩ := hcw.get hlt
                      obtain ⟨b2, o2, c2, hrm, hc2, -⟩ := hcw.get hml
                      obtain ⟨b3, o3, c3, hrx, hc3, -⟩ := hcw.get (i := (ent t k m).toNat) (by omega)
                      have f1 := hc1.ent hl1 hml
                      have f2 := hc2.ent (HT.out.len hml) hjl
                      have f3 := hc1.ent (y := (ent t m j).toNat) hl1 (by omega)
                      have f4 := hc3.ent (HT.out.len (by omega)) hjl
                      clear hc1 hc2 hc3 hcw
                      rw [HT.out.len hml] at hrm
                      rw [HT.out.len hlt] at hr
                      rw [HT.out.len (x := (ent t k m).toNat) (by omega)] at hrx
                      cases ha : (ent t (ent t k m).toNat j != ent t k (ent t m j).toNat) with
                      | true =>
                        go_wp2
                        go_quiet (fail)
                        go_wp2
                        go_ret
                        exact ⟨ret_bool (groupB_no (fun h => absurd ((h.2.2 k hlt).2 m hml j hjl) (by simpa using ha))).symm, hx.drewN _⟩
                      | false =>
                        go_wp2
                        go_quiet (fail)
                        go_wp2
                        go_roundw
                        case rel => exact ⟨j + 1, by omega, by go_num, hato.succ (by simpa using ha), hx.drewN _⟩
                        case measure => simp [intOf]; omega
end Go.Proofs.YthlafeefjonkdaaDoor

/-
  Contracts of the program: is it a table, are the rows permutations, is it the table of a group.
-/
namespace Go.Proofs.YthlafeefjonkdaaDoor
set_option linter.unusedVariables false
set_option linter.unusedSimpArgs false
open Go.RowKit

/-- all entries of l are in lo .. hi -/
theorem allWithin_any (l : List Int) (v : Value) (lo hi : Int) (w : World) (hv : Ints w v l) :
    Calls Tryd.prog 40 #[v, .int .i64 lo, .int .i64 hi] w fun e w' => e = .returned (.bool (allInB l lo hi)) ∧ w = w' := by
  obtain ⟨hlen, b, o, c, rfl, hc⟩ := hv
  go_enter Tryd.func40, Tryd.ntmps40
  go_wp2
  go_loop [11] (fun i => ∃ k : Nat, k ≤ l.length ∧ i = .int .i64 k ∧ AllInTo l lo hi k) (fun i => l.length - (intOf i).toNat)
  case atStart => exact ⟨0, Nat.zero_le _, rfl, AllInTo.zero _ _ _⟩
  case round =>
    obtain ⟨k, hk, rfl, hto⟩ := hrel
    by_cases hlt : k < l.length
    · have hcell := hc k hlt
      cases hin : inR (ix l k) lo hi with
      | true =>
        go_wp2_with (go_at_call 37; refine (within_any _ _ _ _).mono ?_; rintro e w' ⟨rfl, rfl⟩)
        go_round
        case rel => exact ⟨k + 1, by omega, by go_num, hto.succ (inR_iff.1 hin)⟩
        case measure => simp [intOf]; omega
      | false =>
        go_wp2_with (go_at_call 37; refine (within_any _ _ _ _).mono ?_; rintro e w' ⟨rfl, rfl⟩)
        go_ret
        exact ⟨ret_bool (allInB_no (fun h => inR_false.1 hin (h k hlt))).symm, rfl⟩
    · go_wp2
      go_ret
      exact ⟨ret_bool (allInB_yes (hto.mono (by omega))).symm, rfl⟩

theorem IndexFunc_any (t : List (List Int)) (p : List Int → Bool) (F : Nat) (cap : Array Value) (v : Value) (w : World) (hv : Rows w v t)
    (hcall : ∀ (args : Array Value) (w : World), (callFunc F args).run Tryd.prog w = .ok (.enter F args) w)
    (hf : ∀ w1 r i, Ext w w1 → i < t.length → Ints w1 r (row t i) → Calls Tryd.prog F (#[r] ++ cap) w1 fun e w' => e = .returned (.bool (p (row t i))) ∧ Ext w1 w') :
    Calls Tryd.prog 52 #[v, .func (.func F) #[] cap] w fun e w' => e = .returned (.int .i64 (findIx p t)) ∧ Ext w w' := by
  obtain ⟨hlen, b, o, c, rfl, hc⟩ := hv
  have HF := Lib.hid hf
  clear hf
  go_enter Tryd.func52, Tryd.ntmps52
  go_wp2
  go_loopw [8] (fun i wr => ∃ k : Nat, k ≤ t.length ∧ i = .int .i64 k ∧ findIx p t = findFrom p (t.drop k) k ∧ Ext w wr) (fun i _ => t.length - (intOf i).toNat)
  case atStart => exact ⟨0, Nat.zero_le _, rfl, by unfold findIx; rfl, Ext.refl _⟩
  case round =>
    obtain ⟨k, hk, rfl, hr, hx⟩ := hrel
    have Hr := Lib.hid hr
    clear hr
    by_cases hlt : k < t.length
    · obtain ⟨b1, o1, c1, hrow, hc1, hl⟩ := (hc.ext hx).get hlt
      have hri := hc1.ints hl c1
      cases hp : p (row t k) with
      | true =>
        go_wp2_with fail
        refine (HF.out _ _ k hx hlt hri).mono ?_
        rintro e w1 ⟨rfl, hx1⟩
        rw [hp]
        go_wp2
        go_ret
        exact ⟨ret_int (by rw [Hr.out, findFrom_hit p t k hlt hp]), hx.trans hx1⟩
      | false =>
        go_wp2_with fail
        refine (HF.out _ _ k hx hlt hri).mono ?_
        rintro e w1 ⟨rfl, hx1⟩
        rw [hp]
        go_wp2
        go_roundw
        case rel => exact ⟨k + 1, by omega, by go_num, by rw [Hr.out, findFrom_miss p t k hlt hp], hx.trans hx1⟩
        case measure => simp [intOf]; omega
    · go_wp2
      go_ret
      exact ⟨ret_int (by rw [Hr.out, findFrom_end p t k (by omega)]), hx⟩

theorem ContainsFunc_any (t : List (List Int)) (p : List Int → Bool) (F : Nat) (cap : Array Value) (v : Value) (w : World) (hv : Rows w v t)
    (hcall : ∀ (args : Array Value) (w : World), (callFunc F args).run Tryd.prog w = .ok (.enter F args) w)
    (hf : ∀ w1 r i, Ext w w1 → i < t.length → Ints w1 r (row t i) → Calls Tryd.prog F (#[r] ++ cap) w1 fun e w' => e = .returned (.bool (p (row t i))) ∧ Ext w1 w') :
    Calls Tryd.prog 38 #[v, .func (.func F) #[] cap] w fun e w' => e = .returned (.bool (anyB p t)) ∧ Ext w w' := by
  go_enter Tryd.func38, Tryd.ntmps38
  go_wp2_with fail
  refine (IndexFunc_any t p F cap v _ hv hcall hf).mono ?_
  rintro e w1 ⟨rfl, hx1⟩
  clear hcall hf
  go_wp2
  go_ret
  exact ⟨ret_bool (anyB_find p t).symm, hx1⟩
end Go.Proofs.YthlafeefjonkdaaDoor
