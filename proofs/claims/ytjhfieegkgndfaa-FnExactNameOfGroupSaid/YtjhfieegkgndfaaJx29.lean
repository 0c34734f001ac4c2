/-
  Callers of the iterator over isomorphisms: what they need besides; CountBraceAutomorphisms.
-/
import Derived.Test.YtjhfieegkgndfaaProg
import Derived.Deep.DeepCutAuto
import Derived.Deep.DrawnRows
import Derived.RangeFuncNested
import Derived.RangeFuncBound
import Derived.RangeFuncCalls
import Derived.RangeFuncLeaves
import Derived.Shelf.Abstract
import Derived.Shelf.RegionOpen
import Derived.WalkKit
import Derived.OwnWalkIn
import Derived.TacticsInMore
import Derived.LoopNIn
import Derived.LoopIn
import Derived.Test.YtjhfieegkgndfaaJx0
import Derived.Test.YtjhfieegkgndfaaJx1
import Derived.Test.YtjhfieegkgndfaaJx3
import Derived.Test.YtjhfieegkgndfaaJx8
import Derived.Test.YtjhfieegkgndfaaJx2
import Derived.Test.YtjhfieegkgndfaaJx4
import Derived.Test.YtjhfieegkgndfaaJx5
import Derived.Test.YtjhfieegkgndfaaJx15
import Derived.Test.YtjhfieegkgndfaaJx21
import Derived.Test.YtjhfieegkgndfaaJx23
import Derived.Test.YtjhfieegkgndfaaJx6
import Derived.Test.YtjhfieegkgndfaaJx9
import Derived.Test.YtjhfieegkgndfaaJx7
import Derived.Test.YtjhfieegkgndfaaJx11
import Derived.Test.YtjhfieegkgndfaaJx12
import Derived.Test.YtjhfieegkgndfaaJx24
import Derived.Test.YtjhfieegkgndfaaJx13
import Derived.Test.YtjhfieegkgndfaaJx22
import Derived.Test.YtjhfieegkgndfaaJx25
import Derived.Test.YtjhfieegkgndfaaJx26
import Derived.Test.YtjhfieegkgndfaaJx27
import Derived.Test.YtjhfieegkgndfaaJx28
namespace Go.Proofs.Ytjhfieegkgndfaa
set_option linter.unusedVariables false
set_option linter.unusedSimpArgs false
open Go.RowKit Go.Shelf
open Go.Deep
attribute [local go_sem] Oper.semAt_some

set_option maxHeartbeats 400000 in
/-- isomorphisms(from, to): a function value over two boxes -/
theorem isomorphisms_any (b n c b2 n2 c2 : Nat) (w : World) :
    Calls Try.prog 62 #[.slice (some ⟨b, 0, none⟩) n c, .slice (some ⟨b2, 0, none⟩) n2 c2] w fun e w' => e = .returned (.func (.func 95) #[] #[.pointer (some ⟨w.heap.size, 0, none⟩), .pointer (some ⟨w.heap.size + 1, 0, none⟩)]) ∧ w' = (w.alloc (.cells #[.slice (some ⟨b, 0, none⟩) n c] 72)).alloc (.cells #[.slice (some ⟨b2, 0, none⟩) n2 c2] 72) := by
  go_enter Try.func62, Try.ntmps62
  go_wp2
  go_ret
  exact ⟨rfl, rfl⟩
theorem tabsIn_of {base : Nat} {X : Nat → Prop} {wR w0 : World} {b o n : Nat} {ts : List (List (List Int))} (hR : ∀ k, k < ts.length → ∃ r, w0.cell? ⟨b, o + k, none⟩ = some r ∧ Rows wR r (tab ts k)) (hx : Ext wR w0) (hX : ∀ k, k < wR.heap.size → ¬ X k) (hb : b < base) (hXb : ¬ X b) (hbase : wR.heap.size ≤ base) (hT : TabsOk n ts) (h1 : 1 ≤ n) : TabsIn base X w0 b o n ts := by
  refine ⟨hb, hXb, fun k hk => ?_⟩
  obtain ⟨r, h2, h3⟩ := hR k hk
  obtain ⟨_, b1, o1, c1, rfl, h4⟩ := h3
  obtain ⟨ht, hl⟩ := hT k hk
  rw [hl] at h2
  have hrow : ∀ x, x < n → ∃ b2 o2 c2, wR.cell? ⟨b1, o1 + x, none⟩ = some (.slice (some ⟨b2, o2, none⟩) n c2) ∧ IntsAt wR b2 o2 (row (tab ts k) x) := fun x hx => by
    obtain ⟨b2, o2, c2, g1, g2, _⟩ := h4.get (i := x) (by omega)
    rw [ht.len (x := x) (by omega), hl] at g1
    exact ⟨b2, o2, c2, g1, g2⟩
  have hb1 : b1 < wR.heap.size := by
    obtain ⟨_, _, _, g, _⟩ := hrow 0 (by omega)
    exact World.block_lt_of_cell? _ _ g
  refine ⟨b1, o1, c1, by omega, hX b1 hb1, h2, fun x hxn => ?_⟩
  obtain ⟨b2, o2, c2, g1, g2⟩ := hrow x hxn
  have hlx := ht.len (x := x) (by omega)
  have hb2 : b2 < wR.heap.size := World.block_lt_of_cell? _ _ (g2 0 (by omega))
  exact ⟨b2, o2, c2, by omega, hX b2 hb2, hx.cell g1, fun y hy => hx.cell (g2.ent (by omega) hy)⟩
/-- what the law asks of the iterator, at the caller's memory -/
theorem iso_call {wR W0 : World} {X : Nat → Prop} {n bt ct bu cu B1 B2 : Nat} {az bz : List (List (List Int))} (hx : Ext wR W0) (hRa : ∀ k, k < az.length → ∃ r, W0.cell? ⟨bt, 0 + k, none⟩ = some r ∧ Rows wR r (tab az k)) (hRb : ∀ k, k < bz.length → ∃ r, W0.cell? ⟨bu, 0 + k, none⟩ = some r ∧ Rows wR r (tab bz k))
    (hX : ∀ k, k < wR.heap.size → ¬ X k) (hXa : ¬ X bt) (hXb : ¬ X bu) (hA : TabsOk n az) (hB : TabsOk n bz) (hab : az.length = bz.length) (h0 : 0 < az.length) (h2 : az.length ≤ 2) (h1 : 1 ≤ n) (h12 : n ≤ 12)
    (k1 : W0.cell? ⟨B1, 0, none⟩ = some (.slice (some ⟨bt, 0, none⟩) az.length ct)) (k2 : W0.cell? ⟨B2, 0, none⟩ = some (.slice (some ⟨bu, 0, none⟩) bz.length cu)) :
    ∀ (W : World) (l : Nat) (J Jx : List (List Int) → (Nat → Prop) → World → Prop), Ext W0 W → Stab J → Stab Jx → Rounds W0.heap.size X n l az bz (isoL n az bz) J Jx → J [] (fun _ => False) W →
      Calls Try.prog 95 (#[.func (.yield l) #[] #[]] ++ #[.pointer (some ⟨B1, 0, none⟩), .pointer (some ⟨B2, 0, none⟩)]) W fun e w' => (∃ v, e = .returned v) ∧ ∃ O, (J (isoL n az bz) O w' ∨ ∃ q, q ≠ [] ∧ q <+: isoL n az bz ∧ Jx q O w') := by
  intro W l J Jx hW hJ hJx hY hj
  obtain ⟨ra, ca, -⟩ := hRa 0 h0
  obtain ⟨rb, cb, -⟩ := hRb 0 (by omega)
  have ba : bt < W0.heap.size := World.block_lt_of_cell? _ _ ca
  have bb : bu < W0.heap.size := World.block_lt_of_cell? _ _ cb
  have hta := (tabsIn_of (base := W0.heap.size) hRa hx hX ba hXa hx.size hA h1).keep (w' := W) (fun k hk _ => hW.block k hk)
  have htb := (tabsIn_of (base := W0.heap.size) hRb hx hX bb hXb hx.size hB h1).keep (w' := W) (fun k hk _ => hW.block k hk)
  exact iso1_any _ _ _ _ _ _ _ _ _ _ _ _ _ _ J Jx hJ hJx hY hA hB hab h0 h2 h12 W hW.size (hW.cell k1) (hW.cell k2) hta htb hj
theorem iso_call_diff {wR W0 : World} {X : Nat → Prop} {n n2 bt ct bu cu B1 B2 : Nat} {az bz : List (List (List Int))} (hx : Ext wR W0) (hRa : ∀ k, k < az.length → ∃ r, W0.cell? ⟨bt, 0 + k, none⟩ = some r ∧ Rows wR r (tab az k)) (hRb : ∀ k, k < bz.length → ∃ r, W0.cell? ⟨bu, 0 + k, none⟩ = some r ∧ Rows wR r (tab bz k))
    (hX : ∀ k, k < wR.heap.size → ¬ X k) (hXa : ¬ X bt) (hXb : ¬ X bu) (hA : TabsOk n az) (hB : TabsOk n2 bz) (hab : az.length = bz.length) (h0 : 0 < az.length) (h2 : az.length ≤ 2) (h1 : 1 ≤ n) (h12 : n ≤ 12) (h3 : 1 ≤ n2) (h32 : n2 ≤ 12) (hne : n2 ≠ n)
    (k1 : W0.cell? ⟨B1, 0, none⟩ = some (.slice (some ⟨bt, 0, none⟩) az.length ct)) (k2 : W0.cell? ⟨B2, 0, none⟩ = some (.slice (some ⟨bu, 0, none⟩) bz.length cu)) (az' bz' : List (List (List Int))) :
    ∀ (W : World) (l : Nat) (J Jx : List (List Int) → (Nat → Prop) → World → Prop), Ext W0 W → Stab J → Stab Jx → Rounds W0.heap.size X n l az' bz' [] J Jx → J [] (fun _ => False) W →
      Calls Try.prog 95 (#[.func (.yield l) #[] #[]] ++ #[.pointer (some ⟨B1, 0, none⟩), .pointer (some ⟨B2, 0, none⟩)]) W fun e w' => (∃ v, e = .returned v) ∧ ∃ O, (J [] O w' ∨ ∃ q, q ≠ [] ∧ q <+: [] ∧ Jx q O w') := by
  intro W l J Jx hW hJ hJx hY hj
  obtain ⟨ra, ca, -⟩ := hRa 0 h0
  obtain ⟨rb, cb, -⟩ := hRb 0 (by omega)
  have ba : bt < W0.heap.size := World.block_lt_of_cell? _ _ ca
  have bb : bu < W0.heap.size := World.block_lt_of_cell? _ _ cb
  have hta := (tabsIn_of (base := W0.heap.size) hRa hx hX ba hXa hx.size hA h1).keep (w' := W) (fun k hk _ => hW.block k hk)
  have htb := (tabsIn_of (base := W0.heap.size) hRb hx hX bb hXb hx.size hB h3).keep (w' := W) (fun k hk _ => hW.block k hk)
  refine (iso1_diff _ X _ _ _ _ _ _ n n2 l _ _ az bz h0 (by omega) h2 (by omega) h12 h32 hne W (hW.cell k1) (hW.cell k2) hta htb).mono ?_
  rintro e w' ⟨hr, rfl⟩
  exact ⟨hr, _, .inl hj⟩
theorem tabs1 {wR W0 : World} {b : Nat} {t : List (List Int)} {r : Value} (c0 : W0.cell? ⟨b, 0, none⟩ = some r) (h : Rows wR r t) : ∀ k, k < [t].length → ∃ r, W0.cell? ⟨b, 0 + k, none⟩ = some r ∧ Rows wR r (tab [t] k) := fun k hk => by
  have : k = 0 := by simpa using hk
  subst this
  exact ⟨r, c0, by rw [tab_one]; exact h⟩
theorem tabs2 {wR W0 : World} {b : Nat} {t u : List (List Int)} {r r2 : Value} (c0 : W0.cell? ⟨b, 0, none⟩ = some r) (h : Rows wR r t) (c1 : W0.cell? ⟨b, 1, none⟩ = some r2) (h2 : Rows wR r2 u) : ∀ k, k < [t, u].length → ∃ r, W0.cell? ⟨b, 0 + k, none⟩ = some r ∧ Rows wR r (tab [t, u] k) := fun k hk => by
  have : k = 0 ∨ k = 1 := by have := hk; simp at this; omega
  rcases this with rfl | rfl
  · exact ⟨r, c0, by rw [tab_two0]; exact h⟩
  · exact ⟨r2, c1, by rw [tab_two1]; exact h2⟩
/-- all that was there at w is as it was; the iterator's blocks are new since w -/
def Since (w : World) (O : Nat → Prop) (W : World) : Prop := Ext w W ∧ ∀ k, O k → w.heap.size ≤ k
theorem Since.next {w W W' : World} {O O' : Nat → Prop} (h : Since w O W) (ho : Only O W W') (hO : ∀ k, O' k → O k ∨ W.heap.size ≤ k) : Since w O' W' := by
  obtain ⟨h1, h2⟩ := h
  refine ⟨⟨ho.os.trans h1.os, ho.tape.trans h1.tape, ho.output.trans h1.output, Nat.le_trans h1.size ho.size, fun k hk => (ho.keep k (Nat.lt_of_lt_of_le hk h1.size) (fun e => by have := h2 k e; omega)).trans (h1.block k hk)⟩, fun k e => ?_⟩
  rcases hO k e with e | e
  · exact h2 k e
  · have := h1.size; omega
/-- a cell of the caller's own -/
def Mine (O : Nat → Prop) (W : World) (C : Nat) (v : Value) : Prop := W.cell? ⟨C, 0, none⟩ = some v ∧ W.frozen? ⟨C, 0, none⟩ = false ∧ ¬ O C
theorem Mine.lt {O : Nat → Prop} {W : World} {C : Nat} {v : Value} (h : Mine O W C v) : C < W.heap.size := World.block_lt_of_cell? _ _ h.1
theorem Mine.next {W W' : World} {O O' : Nat → Prop} {C : Nat} {v : Value} (h : Mine O W C v) (ho : Only O W W') (hO : ∀ k, O' k → O k ∨ W.heap.size ≤ k) : Mine O' W' C v := by
  have hl := h.lt
  obtain ⟨h1, h2, h3⟩ := h
  have e := ho.keep C hl h3
  refine ⟨by rw [World.cell?_of_block (w := W) (a := ⟨C, 0, none⟩) e]; exact h1, by rw [World.frozen?_of_block (w := W) (a := ⟨C, 0, none⟩) e]; exact h2, fun e => ?_⟩
  rcases hO C e with e | e
  · exact h3 e
  · omega
theorem Rnd.refl {base : Nat} {X : Nat → Prop} (O : Nat → Prop) (W : World) : Rnd base X O W W := ⟨Nat.le_refl _, fun _ _ _ => rfl, fun _ _ _ => rfl⟩
/-- a store into a cell of the caller's -/
theorem Rnd.setCell {base : Nat} {X : Nat → Prop} {O : Nat → Prop} {W W' : World} (h : Rnd base X O W W') {a : Addr} (hO : ¬ O a.block) (hX : X a.block ∨ base ≤ a.block) (v : Value) : Rnd base X O W (W'.setCell a v) :=
  ⟨by have := h.size; simp; exact this, fun k hk hk2 => (Below.heap_setCell _ _ _ _ (fun e => hO (e ▸ hk2))).trans (h.own k hk hk2), fun k hk hk2 => by
    have e : k ≠ a.block := fun e => by subst e; rcases hX with h | h
                                        · exact hk2 h
                                        · omega
    exact (Below.heap_setCell _ _ _ _ e).trans (h.below k hk hk2)⟩
theorem Rnd.ext {base : Nat} {X : Nat → Prop} {O : Nat → Prop} {W W' W2 : World} (h : Rnd base X O W W') (hx : Ext W' W2) (hb : base ≤ W'.heap.size) : Rnd base X O W W2 :=
  ⟨Nat.le_trans h.size hx.size, fun k hk hk2 => (hx.block k (Nat.lt_of_lt_of_le hk h.size)).trans (h.own k hk hk2), fun k hk hk2 => (hx.block k (by omega)).trans (h.below k hk hk2)⟩
theorem Ext.putObj {w W : World} (h : Ext w W) {D : Nat} (hD : w.heap.size ≤ D) (o : Obj) : Ext w (W.putObj D o) :=
  ⟨h.os, h.tape, h.output, by have := h.size; simp [World.putObj]; exact this, fun k hk => (World.putObj_heap_other (by omega)).trans (h.block k hk)⟩

end Go.Proofs.Ytjhfieegkgndfaa

/-
  GroupIsomorphism of the program.
-/
namespace Go.Proofs.Ytjhfieegkgndfaa
set_option linter.unusedVariables false
set_option linter.unusedSimpArgs false
open Go.RowKit Go.Shelf
open Go.Deep
attribute [local go_sem] Oper.semAt_some

/-- a list of the caller's own -/
def MineI (lo : Nat) (O : Nat → Prop) (W : World) (b : Nat) (l : List Int) : Prop := OwnI lo W.heap.size W b 0 l ∧ ¬ O b
theorem MineI.next {lo : Nat} {W W' : World} {O O' : Nat → Prop} {b : Nat} {l : List Int} (h : MineI lo O W b l) (ho : Only O W W') (hO : ∀ k, O' k → O k ∨ W.heap.size ≤ k) : MineI lo O' W' b l := by
  obtain ⟨⟨h1, h2, h3, h4⟩, h5⟩ := h
  have e := ho.keep b h2 h5
  refine ⟨⟨h1, Nat.lt_of_lt_of_le h2 ho.size, h3.block e, h4.block e⟩, fun e => ?_⟩
  rcases hO b e with e | e
  · exact h5 e
  · omega
theorem cell_putObj {W : World} {a : Addr} {v : Value} {D : Nat} {x : Option (List Deferred)} (h : W.cell? a = some v) (hK : W.heap[D]? = some (.deferred x)) (o : Obj) : (W.putObj D o).cell? a = some v :=
  cell_kept h (grownBy_putObj' _ D o) (fun r e => by cases e; exact ⟨_, hK, rfl⟩)
theorem ne_deferred {W : World} {b : Nat} {l : List Int} {D : Nat} {x : Option (List Deferred)} (h : IntsAt W b 0 l) (hl : 0 < l.length) (hK : W.heap[D]? = some (.deferred x)) : b ≠ D := fun e => by
  have hc := h 0 hl
  obtain ⟨o, ho, hc2⟩ := cells_of_cell hc
  subst e
  rw [hK] at ho
  cases ho
  cases hc2
theorem OwnI.putObj {lo hi : Nat} {W : World} {b : Nat} {l : List Int} {D : Nat} {x : Option (List Deferred)} (h : OwnI lo hi W b 0 l) (hl : 0 < l.length) (hK : W.heap[D]? = some (.deferred x)) (o : Obj) : OwnI lo hi (W.putObj D o) b 0 l :=
  h.block (World.putObj_heap_other (ne_deferred h.2.2.1 hl hK))
/-- between two rounds, and behind a round that has returned -/
def GiI (w : World) (xs : List (List Int)) (O : Nat → Prop) (W : World) : Prop := xs = [] ∧ Mine O W (w.heap.size + 2) (.slice none 0 0) ∧ Mine O W (w.heap.size + 3) (.int .i64 0) ∧ Since w O W
def GiX (w : World) (c : Code) (xs : List (List Int)) (O : Nat → Prop) (W : World) : Prop := c = .ret ∧ ∃ p b cc, xs = [p] ∧ Mine O W (w.heap.size + 2) (.slice (some ⟨b, 0, none⟩) p.length cc) ∧ MineI w.heap.size O W b p ∧ Mine O W (w.heap.size + 3) (.int .i64 0) ∧ Since w O W
theorem giI_stab (w : World) : Stab (GiI w) := fun xs O O' W W' h ho hO => ⟨h.1, h.2.1.next ho hO, h.2.2.1.next ho hO, h.2.2.2.next ho hO⟩
theorem giX_stab (w : World) (c : Code) : Stab (GiX w c) := fun xs O O' W W' ⟨h0, p, b, cc, h1, h2, h3, h4, h5⟩ ho hO => ⟨h0, p, b, cc, h1, h2.next ho hO, h3.next ho hO, h4.next ho hO, h5.next ho hO⟩

end Go.Proofs.Ytjhfieegkgndfaa

/-
  Leaving a function behind several ranges over a function; a store carried along.
-/
namespace Go.Proofs.Ytjhfieegkgndfaa
set_option linter.unusedVariables false
set_option linter.unusedSimpArgs false
open Go.RowKit Go.Shelf
open Go.Deep

/-- the mark that a range over a function leaves -/
def markOf (D : Nat) : Deferred := { target := .collected D, args := #[] }
theorem leaves_marks {F : Fence} {n : Nat} {fn : Func} {tmps : Array Value} {R : Ending → World → Prop} : ∀ (ds : List Nat) (W : World), ds.Nodup → (∀ D ∈ ds, W.heap[D]? = some (.deferred (some []))) →
    (∀ W', (∀ a v, W.cell? a = some v → W'.cell? a = some v) → (∀ lo : World, (∀ D ∈ ds, lo.heap.size ≤ D) → Ext lo W → Ext lo W') → LeavesIn F n Try.prog fn tmps R [] .returning W') → LeavesInM F n Try.prog fn tmps R (ds.map markOf) .returning W
  | [], W, _, _, h => h W (fun _ _ h => h) (fun _ _ h => h)
  | D :: ds, W, hn, hd, h => by
    have hK := hd D (by simp)
    have hn := List.nodup_cons.1 hn
    refine ⟨by simp, .inl ⟨D, _, rfl, run_takeDeferred hK, ?_⟩⟩
    refine leaves_marks ds _ hn.2 (fun E hE => (World.putObj_heap_other (fun e => hn.1 (by first | exact e ▸ hE | exact e.symm ▸ hE))).trans (hd E (by simp [hE]))) fun W' h1 h2 => h W' (fun a v hv => h1 a v (cell_putObj hv hK _)) (fun lo hlo hx => h2 lo (fun E hE => hlo E (by simp [hE])) (hx.putObj (hlo D (by simp)) _))
theorem Ext.setBoth {A B : World} (h : Ext A B) {p : Addr} (hp : p.block < A.heap.size) (v : Value) : Ext (A.setCell p v) (B.setCell p v) := by
  have ha := h.block p.block hp
  refine ⟨h.os, h.tape, h.output, ?_, fun k hk => ?_⟩
  · have := h.size; simp; exact this
  · have hk' : k < A.heap.size := by simpa using hk
    by_cases e : k = p.block
    · subst e
      simp only [World.setCell, Array.getElem?_modify, if_true, ha]
    · rw [blk_setCell_other _ _ _ _ e, blk_setCell_other _ _ _ _ e]
      exact h.block k hk'
/-- a table in memory of its own, behind what the rounds may write -/
theorem tabsIn_own {base : Nat} {X : Nat → Prop} {wR W0 : World} {bt b1 c1 lo hi n : Nat} {t : List (List Int)} (hc : W0.cell? ⟨bt, 0, none⟩ = some (.slice (some ⟨b1, 0, none⟩) t.length c1)) (hO : OwnT lo hi wR b1 0 t) (hx : Ext wR W0) (hh : hi ≤ wR.heap.size) (hbase : wR.heap.size ≤ base) (hX : ∀ k, lo ≤ k → ¬ X k) (hb : bt < base) (hXb : ¬ X bt) (hT : TableOk t) (hl : t.length = n) : TabsIn base X W0 bt 0 n [t] := by
  subst hl
  refine ⟨hb, hXb, fun k hk => ?_⟩
  have : k = 0 := by simpa using hk
  subst this
  rw [tab_one]
  obtain ⟨h1, h2, B, O, C, h3, h4⟩ := hO
  refine ⟨b1, 0, c1, by omega, hX b1 h1, hc, fun x hxn => ?_⟩
  obtain ⟨g1, ⟨g2, g3, g4, g5⟩, -⟩ := h3 x hxn
  have hlen := hT.len (x := x) hxn
  rw [hlen] at g1
  exact ⟨B x, O x, C x, by omega, hX _ g2, hx.cell g1, fun y hy => hx.cell (g4.ent (by omega) hy)⟩
/-- between the rounds, and behind a round that has returned -/
def NmI (W0 : World) (xs : List (List Int)) (O : Nat → Prop) (W : World) : Prop := xs = [] ∧ Since W0 O W
def NmX (V : World) (c : Code) (xs : List (List Int)) (O : Nat → Prop) (W : World) : Prop := c = .ret ∧ xs ≠ [] ∧ Since V O W
theorem nmI_stab (W0 : World) : Stab (NmI W0) := fun _ _ _ _ _ h ho hO => ⟨h.1, h.2.next ho hO⟩
theorem nmX_stab (V : World) (c : Code) : Stab (NmX V c) := fun _ _ _ _ _ h ho hO => ⟨h.1, h.2.1, h.2.2.next ho hO⟩
end Go.Proofs.Ytjhfieegkgndfaa
