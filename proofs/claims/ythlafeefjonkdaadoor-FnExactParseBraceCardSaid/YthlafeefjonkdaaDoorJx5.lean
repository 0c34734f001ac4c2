/-
  Lists of tables in memory; contract of l01Less.
-/
import Derived.Test.YthlafeefjonkdaaDoorProg
import Derived.Deep.DeepCutAuto
import Derived.Deep.RegionWith
import Derived.Deep.RegionHeld3
import Derived.Deep.DrawnRows
import Derived.Test.YthlafeefjonkdaaDoorJx0
import Derived.Test.YthlafeefjonkdaaDoorJx1
import Derived.Test.YthlafeefjonkdaaDoorJx3
import Derived.Test.YthlafeefjonkdaaDoorJx4
namespace Go.Proofs.YthlafeefjonkdaaDoor
set_option linter.unusedVariables false
set_option linter.unusedSimpArgs false
open Go.RowKit
attribute [local go_sem ↓] Go.wp_at_zero Go.wp_at_succ

/-- from ⟨b, o⟩ on lie slices that hold the tables ts -/
def TabsAt (w : World) (b o : Nat) (ts : List (List (List Int))) : Prop := ∀ k, k < ts.length → ∃ r, w.cell? ⟨b, o + k, none⟩ = some r ∧ Rows w r (tab ts k)

/-- v is a slice that holds the tables ts -/
def Tabs (w : World) (v : Value) (ts : List (List (List Int))) : Prop := ts.length ≤ 1048576 ∧ ∃ b o c, v = .slice (some ⟨b, o, none⟩) ts.length c ∧ TabsAt w b o ts
theorem TabsAt.ext {w w' : World} {b o : Nat} {ts : List (List (List Int))} (h : TabsAt w b o ts) (hx : Ext w w') : TabsAt w' b o ts := fun k hk => by
  obtain ⟨r, h1, h2⟩ := h k hk
  exact ⟨r, hx.cell h1, h2.ext hx⟩
theorem Tabs.ext {w w' : World} {v : Value} {ts : List (List (List Int))} (h : Tabs w v ts) (hx : Ext w w') : Tabs w' v ts := by
  obtain ⟨hl, b, o, c, rfl, hc⟩ := h
  exact ⟨hl, b, o, c, rfl, hc.ext hx⟩
theorem TabsAt.get {w : World} {b o : Nat} {ts : List (List (List Int))} (h : TabsAt w b o ts) {k : Nat} (hk : k < ts.length) :
    ∃ b1 o1 c1, w.cell? ⟨b, o + k, none⟩ = some (.slice (some ⟨b1, o1, none⟩) (tab ts k).length c1) ∧ RowsAt w b1 o1 (tab ts k) := by
  obtain ⟨r, h1, _, b1, o1, c1, rfl, h2⟩ := h k hk
  exact ⟨b1, o1, c1, h1, h2⟩

/-- an entry of table k: the three cells on the way to it -/
theorem TabsAt.read {w : World} {b o n : Nat} {ts : List (List (List Int))} (h : TabsAt w b o ts) (hT : TabsOk n ts) {k : Nat} (hk : k < ts.length) :
    ∃ b1 o1 c1, w.cell? ⟨b, o + k, none⟩ = some (.slice (some ⟨b1, o1, none⟩) n c1) ∧ ∀ x, x < n → ∃ b2 o2 c2, w.cell? ⟨b1, o1 + x, none⟩ = some (.slice (some ⟨b2, o2, none⟩) n c2) ∧ ∀ y, y < n → w.cell? ⟨b2, o2 + y, none⟩ = some (.int .i64 (ent (tab ts k) x y)) := by
  obtain ⟨b1, o1, c1, h1, h2⟩ := h.get hk
  obtain ⟨t1, t2⟩ := hT k hk
  rw [t2] at h1
  refine ⟨b1, o1, c1, h1, fun x hx => ?_⟩
  obtain ⟨b2, o2, c2, g1, g2, _⟩ := h2.get (i := x) (by omega)
  have hl := t1.len (x := x) (by omega)
  rw [hl, t2] at g1
  exact ⟨b2, o2, c2, g1, fun y hy => g2.ent (by rw [hl, t2]) hy⟩

end Go.Proofs.YthlafeefjonkdaaDoor

/-
  What the program's mapping holds in memory.
-/
namespace Go.Proofs.YthlafeefjonkdaaDoor
set_option linter.unusedVariables false
set_option linter.unusedSimpArgs false
open Go.RowKit
open Go.Deep

/-- the mapping at block M: the image in block I, the used values in block U, the elements set in a slice that grows -/
structure MapSt (base : Nat) (w : World) (M I U : Nat) (v u : Value) (n : Nat) (f s : List Int) (sv : Value) : Prop where
  c0 : w.cell? ⟨M, 0, none⟩ = some v
  c1 : w.cell? ⟨M, 1, none⟩ = some u
  c2 : w.cell? ⟨M, 2, none⟩ = some (.slice (some ⟨I, 0, none⟩) n n)
  c3 : w.cell? ⟨M, 3, none⟩ = some (.slice (some ⟨U, 0, none⟩) n n)
  c4 : w.cell? ⟨M, 4, none⟩ = some sv
  fr : w.frozen? ⟨M, 4, none⟩ = false
  img : w.rowIs I 2 n (fun i => .int .i64 (ix f i))
  usd : w.rowIs U 4 n (fun i => .bool (hasB f i))
  set : GrowI 2 base w sv s
  apart : M ≠ I ∧ M ≠ U ∧ I ≠ U ∧ ∀ g, sv.ownBlock = some g → g ≠ M ∧ g ≠ I ∧ g ≠ U
  low : base ≤ M ∧ base ≤ I ∧ base ≤ U
theorem MapSt.ext {base : Nat} {w w' : World} {M I U : Nat} {v u : Value} {n : Nat} {f s : List Int} {sv : Value} (h : MapSt base w M I U v u n f s sv) (hM : M < w.heap.size) (hx : Ext w w') : MapSt base w' M I U v u n f s sv where
  c0 := hx.cell h.c0
  c1 := hx.cell h.c1
  c2 := hx.cell h.c2
  c3 := hx.cell h.c3
  c4 := hx.cell h.c4
  fr := hx.free h.fr hM
  img := h.img.of_block (Below.block hx I h.img.lt)
  usd := h.usd.of_block (Below.block hx U h.usd.lt)
  set := h.set.ext hx
  apart := h.apart
  low := h.low
/-- a store into a block of neither the set nor .. : what the set's slice holds stays -/
theorem GrowI.setOff {e base : Nat} {w : World} {v : Value} {l : List Int} (h : GrowI e base w v l) {a : Addr} (ha : ∀ g, v.ownBlock = some g → g ≠ a.block) (u : Value) : GrowI e base (w.setCell a u) v l := by
  refine ⟨h.1, ?_⟩
  rcases h.2 with hn | ⟨g, cap, cur, rfl, hb, hg, rest⟩
  · exact .inl hn
  · exact .inr ⟨g, cap, cur, rfl, hb, (blk_setCell_other _ _ _ _ (ha g rfl)).trans hg, rest⟩
/-- the set cut short -/
theorem MapSt.cut {base : Nat} {w : World} {M I U S : Nat} {v u : Value} {n c k : Nat} {f s : List Int} (h : MapSt base w M I U v u n f s (.slice (some ⟨S, 0, none⟩) s.length c)) (hk : k ≤ s.length) :
    MapSt base (w.setCell ⟨M, 4, none⟩ (.slice (some ⟨S, 0, none⟩) k c)) M I U v u n f (s.take k) (.slice (some ⟨S, 0, none⟩) k c) where
  c0 := kc_set2 (by simp) h.c0
  c1 := kc_set2 (by simp) h.c1
  c2 := kc_set2 (by simp) h.c2
  c3 := kc_set2 (by simp) h.c3
  c4 := kc_same h.c4
  fr := kf_set h.fr
  img := h.img.setOther (fun e => h.apart.1 e.symm) _
  usd := h.usd.setOther (fun e => h.apart.2.1 e.symm) _
  set := (h.set.cut hk).setOff (fun g hg => (h.apart.2.2.2 g hg).1) _
  apart := ⟨h.apart.1, h.apart.2.1, h.apart.2.2.1, fun g hg => h.apart.2.2.2 g hg⟩
  low := h.low
end Go.Proofs.YthlafeefjonkdaaDoor

/-
  A partial map taken back: plain.
-/
namespace Go.Proofs.YthlafeefjonkdaaDoor
set_option linter.unusedVariables false
set_option linter.unusedSimpArgs false

/-- a partial map, its elements aside -/
def PartF (n : Nat) (f : List Int) : Prop := f.length = n ∧ (∀ x, x < n → -1 ≤ ix f x ∧ ix f x < (n : Int)) ∧ ∀ x, x < n → ∀ y, y < n → 0 ≤ ix f x → ix f x = ix f y → x = y
theorem PartF.clear {n : Nat} {f : List Int} (h : PartF n f) {x : Nat} (hx : x < n) : PartF n (f.set x (-1)) := by
  obtain ⟨h1, h2, h3⟩ := h
  have hxl : x < f.length := by omega
  refine ⟨by rw [List.length_set]; exact h1, fun y hy => ?_, fun y hy z hz h0 e => ?_⟩
  · by_cases e : y = x
    · subst e; rw [ix_set_same _ _ _ hxl]; omega
    · rw [ix_set_other _ _ _ _ e]; exact h2 y hy
  · by_cases ey : y = x
    · subst ey; rw [ix_set_same _ _ _ hxl] at h0; omega
    · rw [ix_set_other _ _ _ _ ey] at h0
      rw [ix_set_other _ _ _ _ ey] at e
      by_cases ez : z = x
      · subst ez; rw [ix_set_same _ _ _ hxl] at e; omega
      · rw [ix_set_other _ _ _ _ ez] at e; exact h3 y hy z hz h0 e
theorem hasB_has {l : List Int} {v : Int} : hasB l v = true ↔ ∃ i, i < l.length ∧ ix l i = v := by
  rw [hasB_iff]
  rcases indexOf_spec l v with ⟨h, hn⟩ | ⟨i, hi, h, e, _⟩
  · constructor
    · intro h2; omega
    · rintro ⟨i, hi, e⟩; exact absurd e (hn i hi)
  · exact ⟨fun _ => ⟨i, hi, e⟩, fun _ => by omega⟩
theorem bool_ext {a b : Bool} (h : a = true ↔ b = true) : a = b := by cases a <;> cases b <;> simp_all
theorem hasB_clear {n : Nat} {f : List Int} (h : PartF n f) {x : Nat} (hx : x < n) (h0 : 0 ≤ ix f x) (i : Nat) : hasB (f.set x (-1)) i = if i = (ix f x).toNat then false else hasB f i := by
  obtain ⟨h1, h2, h3⟩ := h
  have hxl : x < f.length := by omega
  by_cases e : i = (ix f x).toNat
  · rw [if_pos e, ← Bool.not_eq_true, hasB_has]
    rintro ⟨y, hy, e2⟩
    rw [List.length_set] at hy
    by_cases ey : y = x
    · subst ey; rw [ix_set_same _ _ _ hxl] at e2; omega
    · rw [ix_set_other _ _ _ _ ey] at e2
      exact ey (h3 x hx y (by omega) h0 (by omega)).symm
  · rw [if_neg e]
    refine bool_ext ?_
    rw [hasB_has, hasB_has, List.length_set]
    constructor
    · rintro ⟨y, hy, e2⟩
      by_cases ey : y = x
      · subst ey; rw [ix_set_same _ _ _ hxl] at e2; omega
      · rw [ix_set_other _ _ _ _ ey] at e2; exact ⟨y, hy, e2⟩
    · rintro ⟨y, hy, e2⟩
      have ey : y ≠ x := fun h => by subst h; omega
      exact ⟨y, hy, by rw [ix_set_other _ _ _ _ ey]; exact e2⟩
theorem hasB_set {n : Nat} {f : List Int} (hl : f.length = n) {x v : Nat} (hx : x < n) (hf : ix f x < 0) (i : Nat) : hasB (f.set x (v : Int)) i = if i = v then true else hasB f i := by
  have hxl : x < f.length := by omega
  by_cases e : i = v
  · rw [if_pos e, hasB_has]
    subst e
    exact ⟨x, by rw [List.length_set]; exact hxl, ix_set_same _ _ _ hxl⟩
  · rw [if_neg e]
    refine bool_ext ?_
    rw [hasB_has, hasB_has, List.length_set]
    constructor
    · rintro ⟨y, hy, e2⟩
      by_cases ey : y = x
      · subst ey; rw [ix_set_same _ _ _ hxl] at e2; omega
      · rw [ix_set_other _ _ _ _ ey] at e2; exact ⟨y, hy, e2⟩
    · rintro ⟨y, hy, e2⟩
      have ey : y ≠ x := fun h => by subst h; omega
      exact ⟨y, hy, by rw [ix_set_other _ _ _ _ ey]; exact e2⟩
end Go.Proofs.YthlafeefjonkdaaDoor

/-
  Assigning an element of a partial map and all that follows: plain.
-/
namespace Go.Proofs.YthlafeefjonkdaaDoor
set_option linter.unusedVariables false
set_option linter.unusedSimpArgs false

/-- the pair x, y is good at table k -/
def Gd (az bz : List (List (List Int))) (f : List Int) (k x y : Nat) : Prop :=
  0 ≤ ix f (ent (tab az k) x y).toNat ∧ ix f (ent (tab az k) x y).toNat = ent (tab bz k) (ix f x).toNat (ix f y).toNat
theorem Gd.goes {n : Nat} {az bz : List (List (List Int))} {f g : List Int} {k x y : Nat} (hA : TabsOk n az) (hk : k < az.length) (h : Gd az bz f k x y) (hg : Goes n f g) (hx : x < n) (hy : y < n) (fx : 0 ≤ ix f x) (fy : 0 ≤ ix f y) : Gd az bz g k x y := by
  obtain ⟨h1, h2⟩ := h
  have hb := hA.bd hk hx hy
  have e := hg.2 _ hb.2 h1
  unfold Gd
  rw [e, hg.2 x hx fx, hg.2 y hy fy]
  exact ⟨h1, h2⟩
/-- what assigning v to x has led to: f and s turned to f' and s' -/
structure AsgR (n : Nat) (az bz : List (List (List Int))) (f s : List Int) (x v : Nat) (r : Bool) (f' s' : List Int) : Prop where
  part : PartOk n f' s'
  goes : Goes n f f'
  more : ∃ l, s' = s ++ l
  new : ix f x < 0 → hasB f v = false → ∃ l, s' = s ++ [(x : Int)] ++ l
  here : r = true → ix f' x = (v : Int)
  good : r = true → ∀ a, a < n → ∀ b, b < n → ix f a < 0 → 0 ≤ ix f' a → 0 ≤ ix f' b → ∀ k, k < az.length → Gd az bz f' k a b ∧ Gd az bz f' k b a
  ext : r = true → ∀ p, IsoOk n az bz p → ExtP f p → ix p x = (v : Int) → ExtP f' p
  no : r = false → ∀ p, IsoOk n az bz p → ExtP f p → ix p x ≠ (v : Int)
theorem AsgR.used {n : Nat} {az bz : List (List (List Int))} {f s : List Int} {x v : Nat} (h : PartOk n f s) (hx : x < n) (hf : ix f x < 0) (hu : hasB f v = true) : AsgR n az bz f s x v false f s where
  part := h
  goes := Goes.refl h.len
  more := ⟨[], by simp⟩
  new := fun _ h => by rw [hu] at h; cases h
  here := fun e => by cases e
  good := fun e => by cases e
  ext := fun e => by cases e
  no := fun _ p hp he => by
    obtain ⟨y, hy, e⟩ := hasB_has.1 hu
    exact used_no h.len hp he hx (by rw [← h.len]; exact hy) hf (by omega) e
/-- within the loops: f1 and s1 are what f and s have become -/
structure Lp (n : Nat) (az bz : List (List (List Int))) (f s : List Int) (x v : Nat) (f1 s1 : List Int) (P : Nat → Nat → Nat → Prop) : Prop where
  part : PartOk n f1 s1
  goes : Goes n f f1
  more : ∃ l, s1 = s ++ [(x : Int)] ++ l
  here : ix f1 x = (v : Int)
  good : ∀ a, a < n → ∀ b, b < n → ix f a < 0 → a ≠ x → 0 ≤ ix f1 a → 0 ≤ ix f1 b → ∀ k, k < az.length → Gd az bz f1 k a b ∧ Gd az bz f1 k b a
  done : ∀ k a b, P k a b → k < az.length ∧ a < n ∧ b < n ∧ 0 ≤ ix f1 a ∧ 0 ≤ ix f1 b ∧ Gd az bz f1 k a b
  ext : ∀ p, IsoOk n az bz p → ExtP f p → ix p x = (v : Int) → ExtP f1 p
theorem Lp.mono {n : Nat} {az bz : List (List (List Int))} {f s : List Int} {x v : Nat} {f1 s1 : List Int} {P P' : Nat → Nat → Nat → Prop} (h : Lp n az bz f s x v f1 s1 P) (hp : ∀ k a b, P' k a b → P k a b) : Lp n az bz f s x v f1 s1 P' where
  part := h.part
  goes := h.goes
  more := h.more
  here := h.here
  good := h.good
  done := fun k a b e => h.done k a b (hp k a b e)
  ext := h.ext
/-- a pair's value has been assigned -/
theorem Lp.call {n : Nat} {az bz : List (List (List Int))} {f s : List Int} {x v : Nat} {f1 s1 f2 s2 : List Int} {P : Nat → Nat → Nat → Prop} (hA : TabsOk n az) (h : Lp n az bz f s x v f1 s1 P) {k a b x' v' : Nat} (hk : k < az.length) (ha : a < n) (hb : b < n) (h1 : 0 ≤ ix f1 a) (h2 : 0 ≤ ix f1 b)
    (ex : ent (tab az k) a b = (x' : Int)) (ev : ent (tab bz k) (ix f1 a).toNat (ix f1 b).toNat = (v' : Int)) (g : AsgR n az bz f1 s1 x' v' true f2 s2) : Lp n az bz f s x v f2 s2 (fun k' a' b' => P k' a' b' ∨ (k' = k ∧ a' = a ∧ b' = b)) where
  part := g.part
  goes := h.goes.trans g.goes
  more := by
    obtain ⟨l, e⟩ := h.more
    obtain ⟨m, e2⟩ := g.more
    exact ⟨l ++ m, by rw [e2, e]; simp⟩
  here := by
    have hxn : x < n := by
      obtain ⟨l, e⟩ := h.more
      have hm : (x : Int) ∈ s1 := by rw [e]; simp
      obtain ⟨i, hi, e2⟩ := mem_ix hm
      have := h.part.bd i hi
      omega
    rw [g.goes.2 x hxn (by rw [h.here]; omega)]; exact h.here
  good := fun c hc d hd hn hne hc2 hd2 q hq => by
    by_cases g1 : 0 ≤ ix f1 c
    · by_cases g2 : 0 ≤ ix f1 d
      · obtain ⟨r1, r2⟩ := h.good c hc d hd hn hne g1 g2 q hq
        exact ⟨r1.goes hA hq g.goes hc hd g1 g2, r2.goes hA hq g.goes hd hc g2 g1⟩
      · obtain ⟨r1, r2⟩ := g.good rfl d hd c hc (by omega) hd2 hc2 q hq
        exact ⟨r2, r1⟩
    · exact g.good rfl c hc d hd (by omega) hc2 hd2 q hq
  done := fun k' a' b' e => by
    rcases e with e | ⟨rfl, rfl, rfl⟩
    · obtain ⟨d1, d2, d3, d4, d5, d6⟩ := h.done k' a' b' e
      refine ⟨d1, d2, d3, ?_, ?_, d6.goes hA d1 g.goes d2 d3 d4 d5⟩
      · rw [g.goes.2 a' d2 d4]; exact d4
      · rw [g.goes.2 b' d3 d5]; exact d5
    · have e1 := g.goes.2 a' ha h1
      have e2 := g.goes.2 b' hb h2
      refine ⟨hk, ha, hb, by rw [e1]; exact h1, by rw [e2]; exact h2, ?_⟩
      unfold Gd
      rw [ex, e1, e2, ev, Int.toNat_natCast, g.here rfl]
      exact ⟨by omega, rfl⟩
  ext := fun p hp he e => by
    have h3 := h.ext p hp he e
    refine g.ext rfl p hp h3 ?_
    have h4 := ext_follows h.part.len hp h3 ha hb h1 h2 hk
    rw [ex, ev, Int.toNat_natCast] at h4
    exact h4
theorem Lp.no {n : Nat} {az bz : List (List (List Int))} {f s : List Int} {x v : Nat} {f1 s1 f2 s2 : List Int} {P : Nat → Nat → Nat → Prop} (h : Lp n az bz f s x v f1 s1 P) {k a b x' v' : Nat} (hk : k < az.length) (ha : a < n) (hb : b < n) (h1 : 0 ≤ ix f1 a) (h2 : 0 ≤ ix f1 b)
    (ex : ent (tab az k) a b = (x' : Int)) (ev : ent (tab bz k) (ix f1 a).toNat (ix f1 b).toNat = (v' : Int)) (g : AsgR n az bz f1 s1 x' v' false f2 s2) : AsgR n az bz f s x v false f2 s2 where
  part := g.part
  goes := h.goes.trans g.goes
  more := by
    obtain ⟨l, e⟩ := h.more
    obtain ⟨m, e2⟩ := g.more
    exact ⟨[(x : Int)] ++ l ++ m, by rw [e2, e]; simp⟩
  new := fun _ _ => by
    obtain ⟨l, e⟩ := h.more
    obtain ⟨m, e2⟩ := g.more
    exact ⟨l ++ m, by rw [e2, e]; simp⟩
  here := fun e => by cases e
  good := fun e => by cases e
  ext := fun e => by cases e
  no := fun _ p hp he e => by
    have h3 := h.ext p hp he e
    refine g.no rfl p hp h3 ?_
    have h4 := ext_follows h.part.len hp h3 ha hb h1 h2 hk
    rw [ex, ev, Int.toNat_natCast] at h4
    exact h4
theorem Lp.fin {n : Nat} {az bz : List (List (List Int))} {f s : List Int} {x v : Nat} {f1 s1 : List Int} {P : Nat → Nat → Nat → Prop} (h : Lp n az bz f s x v f1 s1 P) (hall : ∀ k, k < az.length → ∀ j, j < s1.length → P k x (ix s1 j).toNat ∧ P k (ix s1 j).toNat x) : AsgR n az bz f s x v true f1 s1 where
  part := h.part
  goes := h.goes
  more := by
    obtain ⟨l, e⟩ := h.more
    exact ⟨[(x : Int)] ++ l, by rw [e]; simp⟩
  new := fun _ _ => h.more
  here := fun _ => h.here
  good := fun _ a ha b hb hn ha2 hb2 k hk => by
    by_cases e : a = x
    · subst e
      obtain ⟨j, hj, e2⟩ := mem_ix ((h.part.mem b hb).2 hb2)
      have := hall k hk j hj
      rw [e2, Int.toNat_natCast] at this
      exact ⟨(h.done _ _ _ this.1).2.2.2.2.2, (h.done _ _ _ this.2).2.2.2.2.2⟩
    · exact h.good a ha b hb hn e ha2 hb2 k hk
  ext := fun _ => h.ext
  no := fun e => by cases e
/-- the pairs done: x with the first i elements, at all tables; with y at the first kk tables, and one way at the next perhaps -/
def PrO (az : List (List (List Int))) (x i : Nat) (s1 : List Int) (k a b : Nat) : Prop := k < az.length ∧ ∃ j, j < i ∧ ((a = x ∧ b = (ix s1 j).toNat) ∨ (b = x ∧ a = (ix s1 j).toNat))
def PrI (az : List (List (List Int))) (x i : Nat) (s1 : List Int) (y kk k a b : Nat) : Prop := PrO az x i s1 k a b ∨ (k < kk ∧ ((a = x ∧ b = y) ∨ (b = x ∧ a = y)))
theorem prO_app {az : List (List (List Int))} {x i : Nat} {s1 l : List Int} {k a b : Nat} (hi : i ≤ s1.length) (h : PrO az x i (s1 ++ l) k a b) : PrO az x i s1 k a b := by
  obtain ⟨h0, j, hj, h⟩ := h
  rw [ix_app (by omega)] at h
  exact ⟨h0, j, hj, h⟩
theorem prO_succ {az : List (List (List Int))} {x i : Nat} {s1 : List Int} {k a b y : Nat} (hy : (ix s1 i).toNat = y) (h : PrO az x (i + 1) s1 k a b) : PrI az x i s1 y az.length k a b := by
  obtain ⟨h0, j, hj, h⟩ := h
  by_cases e : j < i
  · exact .inl ⟨h0, j, e, h⟩
  · have : j = i := by omega
    subst this
    rw [hy] at h
    exact .inr ⟨h0, h⟩
end Go.Proofs.YthlafeefjonkdaaDoor

/-
  Assigning as a function of plain lists.
-/
namespace Go.Proofs.YthlafeefjonkdaaDoor
set_option linter.unusedVariables false
set_option linter.unusedSimpArgs false

/-- whether it went well, the map, its elements -/
abbrev ARes := Bool × List Int × List Int
/-- the calls for the element y at m tables from k on -/
def tabsL (call : List Int → List Int → Nat → Nat → ARes) (az bz : List (List (List Int))) (x v y : Nat) : Nat → Nat → List Int → List Int → ARes
  | 0, _, f, s => (true, f, s)
  | m + 1, k, f, s =>
    let p := call f s (ent (tab az k) x y).toNat (ent (tab bz k) v (ix f y).toNat).toNat
    if p.1 then
      let q := call p.2.1 p.2.2 (ent (tab az k) y x).toNat (ent (tab bz k) (ix p.2.1 y).toNat v).toNat
      if q.1 then tabsL call az bz x v y m (k + 1) q.2.1 q.2.2 else q
    else p
def asgE (call : List Int → List Int → Nat → Nat → ARes) (az bz : List (List (List Int))) (x v : Nat) : Nat → Nat → List Int → List Int → ARes
  | 0, _, f, s => (true, f, s)
  | m + 1, i, f, s => if i < s.length then
      let p := tabsL call az bz x v (ix s i).toNat az.length 0 f s
      if p.1 then asgE call az bz x v m (i + 1) p.2.1 p.2.2 else p
    else (true, f, s)
def asgF (n : Nat) (az bz : List (List (List Int))) : Nat → List Int → List Int → Nat → Nat → ARes
  | 0, f, s, x, v => (decide (ix f x = (v : Int)), f, s)
  | d + 1, f, s, x, v => if 0 ≤ ix f x then (decide (ix f x = (v : Int)), f, s) else if hasB f v then (false, f, s) else asgE (asgF n az bz d) az bz x v n 0 (f.set x (v : Int)) (s ++ [(x : Int)])

section
variable {call : List Int → List Int → Nat → Nat → ARes} {az bz : List (List (List Int))} {x v y m k i : Nat} {f s : List Int}
/-- what is left of the round for an element, and of the loop behind it -/
def contL (call : List Int → List Int → Nat → Nat → ARes) (az bz : List (List (List Int))) (x v m i : Nat) (p : ARes) : ARes := if p.1 then asgE call az bz x v m (i + 1) p.2.1 p.2.2 else p
end

/-- what a call with d steps to go gives -/
def CallOk (n : Nat) (az bz : List (List (List Int))) (d : Nat) (call : List Int → List Int → Nat → Nat → ARes) : Prop :=
  ∀ f s x v r f' s', n - s.length ≤ d → PartOk n f s → x < n → v < n → call f s x v = (r, f', s') → AsgR n az bz f s x v r f' s'

theorem Lp.len {n : Nat} {az bz : List (List (List Int))} {f s : List Int} {x v : Nat} {f1 s1 : List Int} {P : Nat → Nat → Nat → Prop} (h : Lp n az bz f s x v f1 s1 P) : s.length + 1 ≤ s1.length := by
  obtain ⟨l, e⟩ := h.more
  rw [e]; simp
theorem Lp.mapped {n : Nat} {az bz : List (List (List Int))} {f s : List Int} {x v : Nat} {f1 s1 : List Int} {P : Nat → Nat → Nat → Prop} (h : Lp n az bz f s x v f1 s1 P) {y : Nat} (hy : y < n) (hm : (y : Int) ∈ s1) : 0 ≤ ix f1 y ∧ (ix f1 y).toNat < n := by
  have h1 := (h.part.mem y hy).1 hm
  have := h.part.rng y hy
  omega
/-- the values of the pairs x, y and y, x -/
structure Two (az bz : List (List (List Int))) (n k x y v q x1 v1 x2 v2 : Nat) : Prop where
  e1 : ent (tab az k) x y = (x1 : Int)
  e2 : ent (tab bz k) v q = (v1 : Int)
  e3 : ent (tab az k) y x = (x2 : Int)
  e4 : ent (tab bz k) q v = (v2 : Int)
  l1 : x1 < n
  l2 : v1 < n
  l3 : x2 < n
  l4 : v2 < n
/-- both calls at table k -/
theorem Lp.both {n d : Nat} {az bz : List (List (List Int))} {f s : List Int} {x v : Nat} {call : List Int → List Int → Nat → Nat → ARes} (hA : TabsOk n az) (hc : CallOk n az bz d call) (hd : n - s.length ≤ d + 1) {f2 s2 s1 l : List Int} {i y k x1 v1 x2 v2 q : Nat}
    (h : Lp n az bz f s x v f2 s2 (PrI az x i s1 y k)) (hx : x < n) (hy : y < n) (hym : (y : Int) ∈ s2) (hk : k < az.length) (hq : ix f2 y = (q : Int)) (ht : Two az bz n k x y v q x1 v1 x2 v2) (hs : s2 = s1 ++ l) :
    (∀ f3 s3, call f2 s2 x1 v1 = (false, f3, s3) → AsgR n az bz f s x v false f3 s3) ∧
    (∀ f3 s3, call f2 s2 x1 v1 = (true, f3, s3) → AsgR n az bz f2 s2 x1 v1 true f3 s3 ∧ ix f3 y = (q : Int) ∧ (∃ l, s3 = s1 ++ l) ∧ PartOk n f3 s3 ∧ n - s3.length ≤ d ∧
      (∀ f4 s4, call f3 s3 x2 v2 = (false, f4, s4) → AsgR n az bz f s x v false f4 s4) ∧
      (∀ f4 s4, call f3 s3 x2 v2 = (true, f4, s4) → Lp n az bz f s x v f4 s4 (PrI az x i s1 y (k + 1)) ∧ ∃ l, s4 = s1 ++ l)) := by
  have hfx : ix f2 x = (v : Int) := h.here
  have hlen := h.len
  have e2 : ent (tab bz k) (ix f2 x).toNat (ix f2 y).toNat = (v1 : Int) := by rw [hfx, hq]; exact ht.e2
  refine ⟨fun f3 s3 e => h.no hk hx hy (by omega) (by omega) ht.e1 e2 (hc _ _ _ _ _ _ _ (by omega) h.part ht.l1 ht.l2 e), fun f3 s3 e => ?_⟩
  have g := hc _ _ _ _ _ _ _ (by omega) h.part ht.l1 ht.l2 e
  have h3 := h.call hA hk hx hy (by omega) (by omega) ht.e1 e2 g
  have e3 : ix f3 y = (q : Int) := by rw [g.goes.2 y hy (by omega)]; exact hq
  have e3x : ix f3 x = (v : Int) := h3.here
  have hlen3 := h3.len
  have e4 : ent (tab bz k) (ix f3 y).toNat (ix f3 x).toNat = (v2 : Int) := by rw [e3, e3x]; exact ht.e4
  obtain ⟨l3, hl3⟩ := g.more
  refine ⟨g, e3, ⟨l ++ l3, by rw [hl3, hs]; simp⟩, h3.part, by omega, fun f4 s4 e' => h3.no hk hy hx (by omega) (by omega) ht.e3 e4 (hc _ _ _ _ _ _ _ (by omega) h3.part ht.l3 ht.l4 e'), fun f4 s4 e' => ?_⟩
  have g4 := hc _ _ _ _ _ _ _ (by omega) h3.part ht.l3 ht.l4 e'
  have h4 := h3.call hA hk hy hx (by omega) (by omega) ht.e3 e4 g4
  obtain ⟨l4, hl4⟩ := g4.more
  refine ⟨h4.mono fun k' a b hp => ?_, l ++ l3 ++ l4, by rw [hl4, hl3, hs]; simp⟩
  rcases hp with hp | ⟨hk', hp⟩
  · exact .inl (.inl (.inl hp))
  · by_cases e : k' < k
    · exact .inl (.inl (.inr ⟨e, hp⟩))
    · have : k' = k := by omega
      rcases hp with ⟨ha, hb⟩ | ⟨hb, ha⟩
      · exact .inl (.inr ⟨this, ha, hb⟩)
      · exact .inr ⟨this, ha, hb⟩
/-- the next element's round begins -/
theorem Lp.next {n : Nat} {az bz : List (List (List Int))} {f s : List Int} {x v : Nat} {f1 s1 : List Int} {i y : Nat} (h : Lp n az bz f s x v f1 s1 (PrO az x i s1)) : Lp n az bz f s x v f1 s1 (PrI az x i s1 y 0) := h.mono fun k a b hp => by
  rcases hp with hp | ⟨hk, _⟩
  · exact hp
  · omega
/-- .. is over -/
theorem Lp.over {n : Nat} {az bz : List (List (List Int))} {f s : List Int} {x v : Nat} {f2 s2 s1 l : List Int} {i y : Nat} (h : Lp n az bz f s x v f2 s2 (PrI az x i s1 y az.length)) (hi : i < s1.length) (hy : (ix s1 i).toNat = y) (hs : s2 = s1 ++ l) : Lp n az bz f s x v f2 s2 (PrO az x (i + 1) s2) := h.mono fun k a b hp => by
  rw [hs] at hp
  exact prO_succ hy (prO_app (by omega) hp)
theorem Lp.all {n : Nat} {az bz : List (List (List Int))} {f s : List Int} {x v : Nat} {f1 s1 : List Int} (h : Lp n az bz f s x v f1 s1 (PrO az x s1.length s1)) : AsgR n az bz f s x v true f1 s1 :=
  h.fin fun k hk j hj => ⟨⟨hk, j, hj, .inl ⟨rfl, rfl⟩⟩, ⟨hk, j, hj, .inr ⟨rfl, rfl⟩⟩⟩
attribute [irreducible] asgF tabsL asgE contL
end Go.Proofs.YthlafeefjonkdaaDoor
