/-
  Lists of tables, each table in memory of its own, apart from the others and from the list; append of some at once.
-/
import Derived.Test.YtbfhecckapgpnaaGreatProg
import Derived.Maps.AppendAt
import Derived.Test.YtbfhecckapgpnaaGreatKx0
import Derived.Test.YtbfhecckapgpnaaGreatKx1
import Derived.Test.YtbfhecckapgpnaaGreatKx2
import Derived.Test.YtbfhecckapgpnaaGreatKx8
import Derived.Test.YtbfhecckapgpnaaGreatKx9
import Derived.Test.YtbfhecckapgpnaaGreatKx7
import Derived.Test.YtbfhecckapgpnaaGreatKx5
import Derived.Test.YtbfhecckapgpnaaGreatKx10
import Derived.Test.YtbfhecckapgpnaaGreatKx6
import Derived.Test.YtbfhecckapgpnaaGreatKx14
import Derived.Test.YtbfhecckapgpnaaGreatKx19
import Derived.Test.YtbfhecckapgpnaaGreatKx28
import Derived.Test.YtbfhecckapgpnaaGreatKx29
import Derived.Test.YtbfhecckapgpnaaGreatKx18
import Derived.Test.YtbfhecckapgpnaaGreatKx12
import Derived.Test.YtbfhecckapgpnaaGreatKx32
namespace Go.Proofs.YtbfhecckapgpnaaGreat
set_option linter.unusedVariables false
set_option linter.unusedSimpArgs false
open Go.RowKit
open Go.Deep

/-- r is the table t, in the blocks p -/
def TabV (w : World) (base : Nat) (r : Value) (t : List (List Int)) (p : Nat × Nat) : Prop :=
  ∃ b c, r = .slice (some ⟨b, 0, none⟩) t.length c ∧ OwnT p.1 p.2 w b 0 t ∧ Small t ∧ base ≤ p.1 ∧ p.2 ≤ w.heap.size
def TabsV (w : World) (base : Nat) : List Value → List (List (List Int)) → List (Nat × Nat) → Prop
  | [], [], [] => True
  | r :: rs, t :: ts, p :: ps => TabV w base r t p ∧ TabsV w base rs ts ps
  | _, _, _ => False
def Apart (ps : List (Nat × Nat)) : Prop := ps.Pairwise (fun p q => p.2 ≤ q.1 ∨ q.2 ≤ p.1)
def Off (g : Option Nat) (ps : List (Nat × Nat)) : Prop := ∀ p ∈ ps, ∀ k, g = some k → ¬ (p.1 ≤ k ∧ k < p.2)

theorem TabV.keep {w w' : World} {base : Nat} {r : Value} {t : List (List Int)} {p : Nat × Nat} (h : TabV w base r t p) (hs : w.heap.size ≤ w'.heap.size) (hk : ∀ k, p.1 ≤ k → k < p.2 → w'.heap[k]? = w.heap[k]?) : TabV w' base r t p := by
  obtain ⟨b, c, rfl, h1, h2, h3, h4⟩ := h
  exact ⟨b, c, rfl, h1.keep hk, h2, h3, by omega⟩
theorem TabsV.keep {w w' : World} {base : Nat} (hs : w.heap.size ≤ w'.heap.size) : ∀ {rs : List Value} {ts : List (List (List Int))} {ps : List (Nat × Nat)}, TabsV w base rs ts ps → (∀ p ∈ ps, ∀ k, p.1 ≤ k → k < p.2 → w'.heap[k]? = w.heap[k]?) → TabsV w' base rs ts ps
  | [], [], [], _, _ => trivial
  | r :: rs, t :: ts, p :: ps, h, hk => ⟨h.1.keep hs (hk p (by simp)), TabsV.keep hs h.2 (fun q hq => hk q (by simp [hq]))⟩
theorem TabsV.top {w : World} {base : Nat} : ∀ {rs : List Value} {ts : List (List (List Int))} {ps : List (Nat × Nat)}, TabsV w base rs ts ps → ∀ p ∈ ps, base ≤ p.1 ∧ p.2 ≤ w.heap.size
  | [], [], [], _, p, hp => by simp at hp
  | r :: rs, t :: ts, q :: ps, h, p, hp => by
    rcases List.mem_cons.1 hp with rfl | hp
    · obtain ⟨_, _, _, _, _, h3, h4⟩ := h.1
      exact ⟨h3, h4⟩
    · exact TabsV.top h.2 p hp
theorem TabsV.ext {w w' : World} {base : Nat} {rs : List Value} {ts : List (List (List Int))} {ps : List (Nat × Nat)} (h : TabsV w base rs ts ps) (hx : Ext w w') : TabsV w' base rs ts ps :=
  h.keep hx.size (fun p hp k _ h2 => hx.block k (by have := (h.top p hp).2; omega))
theorem TabsV.append {w : World} {base : Nat} : ∀ {rs qs : List Value} {ts us : List (List (List Int))} {ps os : List (Nat × Nat)}, TabsV w base rs ts ps → TabsV w base qs us os → TabsV w base (rs ++ qs) (ts ++ us) (ps ++ os)
  | [], _, [], _, [], _, _, h => h
  | r :: rs, _, t :: ts, _, p :: ps, _, h, k => ⟨h.1, TabsV.append h.2 k⟩
theorem TabsV.length {w : World} {base : Nat} : ∀ {rs : List Value} {ts : List (List (List Int))} {ps : List (Nat × Nat)}, TabsV w base rs ts ps → rs.length = ts.length ∧ ps.length = ts.length
  | [], [], [], _ => ⟨rfl, rfl⟩
  | r :: rs, t :: ts, p :: ps, h => by
    have := TabsV.length h.2
    simp [this.1, this.2]
theorem TabsV.get {w : World} {base : Nat} : ∀ {rs : List Value} {ts : List (List (List Int))} {ps : List (Nat × Nat)}, TabsV w base rs ts ps → ∀ i, i < ts.length → ∃ r p, rs[i]? = some r ∧ ps[i]? = some p ∧ TabV w base r (tab ts i) p
  | [], [], [], _, i, hi => by simp at hi
  | r :: rs, t :: ts, p :: ps, h, 0, hi => ⟨r, p, rfl, rfl, by rw [tab_eq]; exact h.1⟩
  | r :: rs, t :: ts, p :: ps, h, i + 1, hi => by
    obtain ⟨r1, p1, h1, h2, h3⟩ := TabsV.get h.2 i (by simpa using hi)
    refine ⟨r1, p1, by simpa using h1, by simpa using h2, ?_⟩
    rw [tab_eq] at h3 ⊢
    simpa using h3
theorem TabsV.lower {w : World} {base base2 : Nat} (hb : base2 ≤ base) : ∀ {rs : List Value} {ts : List (List (List Int))} {ps : List (Nat × Nat)}, TabsV w base rs ts ps → TabsV w base2 rs ts ps
  | [], [], [], _ => trivial
  | r :: rs, t :: ts, p :: ps, h => by
    obtain ⟨b, c, h0, h1, h2, h3, h4⟩ := h.1
    exact ⟨⟨b, c, h0, h1, h2, by omega, h4⟩, TabsV.lower hb h.2⟩
theorem TabsV.nil (w : World) (base : Nat) : TabsV w base [] [] [] := trivial
theorem TabsV.cons {w : World} {base lo hi b c : Nat} {t : List (List Int)} {rs : List Value} {ts : List (List (List Int))} {ps : List (Nat × Nat)} (h : OwnT lo hi w b 0 t) (hs : Small t) (h1 : base ≤ lo) (h2 : hi ≤ w.heap.size) (k : TabsV w base rs ts ps) :
    TabsV w base (.slice (some ⟨b, 0, none⟩) t.length c :: rs) (t :: ts) ((lo, hi) :: ps) := ⟨⟨b, c, rfl, h, hs, h1, h2⟩, k⟩
theorem TabV.rows {w : World} {base : Nat} {r : Value} {t : List (List Int)} {p : Nat × Nat} (h : TabV w base r t p) : Rows w r t := by
  obtain ⟨b, c, rfl, h1, h2, h3, h4⟩ := h
  exact (h1.rowsAt h2).rows h2.1 c

/-- a list of tables that grows -/
def GrowD (e base : Nat) (w : World) (v : Value) (ts : List (List (List Int))) : Prop :=
  ∃ xs ps, w.ownsRow base e 1 v ts.length xs ∧ TabsV w base xs ts ps ∧ Apart ps ∧ Off v.ownBlock ps
theorem GrowD.ext {e base : Nat} {w w' : World} {v : Value} {ts : List (List (List Int))} (h : GrowD e base w v ts) (hx : Ext w w') : GrowD e base w' v ts := by
  obtain ⟨xs, ps, h1, h2, h3, h4⟩ := h
  exact ⟨xs, ps, ownsRow_ext h1 hx, h2.ext hx, h3, h4⟩
theorem GrowD.lt {e base : Nat} {w : World} {v : Value} {ts : List (List (List Int))} (h : GrowD e base w v ts) (k : Nat) (hk : v.ownBlock = some k) : base ≤ k ∧ k < w.heap.size := by
  obtain ⟨xs, ps, h1, -⟩ := h
  exact h1.lt k hk
theorem GrowD.one {e base : Nat} {w : World} {lo hi b c : Nat} {t : List (List Int)} (h : OwnT lo hi w b 0 t) (hs : Small t) (h1 : base ≤ lo) (h2 : hi ≤ w.heap.size) (hb : base ≤ w.heap.size) :
    GrowD e base (w.alloc (.cells #[.slice (some ⟨b, 0, none⟩) t.length c] e)) (.slice (some ⟨w.heap.size, 0, none⟩) 1 1) [t] :=
  ⟨_, [(lo, hi)], ownsRow_one hb, ((TabsV.nil w base).cons (c := c) h hs h1 h2).ext ((Ext.refl w).alloc _), by simp [Apart], fun p hp k hk => by
    have : p = (lo, hi) := by simpa using hp
    subst this
    have : w.heap.size = k := Option.some.inj hk
    simp only []
    omega⟩
theorem GrowD.slice {e base : Nat} {w : World} {v : Value} {ts : List (List (List Int))} (h : GrowD e base w v ts) (h0 : 0 < ts.length) : ∃ g c, v = .slice (some ⟨g, 0, none⟩) ts.length c := by
  obtain ⟨xs, ps, h1, -⟩ := h
  rcases h1.2 with ⟨rfl, hn⟩ | ⟨g, cap, cur, rfl, _⟩
  · omega
  · exact ⟨_, cap, rfl⟩
theorem GrowD.cell {e base : Nat} {w : World} {g n c : Nat} {ts : List (List (List Int))} (h : GrowD e base w (.slice (some ⟨g, 0, none⟩) n c) ts) {i : Nat} (hi : i < ts.length) : ∃ b d p, w.cell? ⟨g, i, none⟩ = some (.slice (some ⟨b, 0, none⟩) (tab ts i).length d) ∧ TabV w base (.slice (some ⟨b, 0, none⟩) (tab ts i).length d) (tab ts i) p := by
  obtain ⟨xs, ps, h1, h2, -⟩ := h
  obtain ⟨r, p, g1, g2, g3⟩ := h2.get i hi
  have hc := World.ownsRow.cells h1 (g := g) rfl i _ g1
  rw [Addr.add_lit, Nat.zero_add] at hc
  obtain ⟨b, d, rfl, -⟩ := id g3
  exact ⟨b, d, p, hc, g3⟩
theorem GrowD.tabs {e base : Nat} {w : World} {v : Value} {ts : List (List (List Int))} (h : GrowD e base w v ts) (hl : ts.length ≤ 1048576) (h0 : 0 < ts.length) : Tabs w v ts := by
  obtain ⟨g, c, rfl⟩ := h.slice h0
  refine ⟨hl, g, 0, c, rfl, fun i hi => ?_⟩
  obtain ⟨b, d, p, h1, h2⟩ := h.cell hi
  exact ⟨_, by rw [Nat.zero_add]; exact h1, h2.rows⟩

/-- append(v, tables) -/
theorem wpList_append_tabs {P : Program} {w1 w : World} {ops : Array Oper} {rest : List Oper} {o : Oper} {a : Act} {Q : Exit → Act → World → Prop} (hgd : o.guard = none) (s x : Operand) (t e : TypeId)
    (ho : o.op = .call { callee := .builtin .append, args := #[s, x], argTypes := #[t, t] }) (ht : P.underlying t = some (.slice e)) {z : Value} (hinfo : (P.info? e).map (fun i => (i.zero, i.size, i.bytes)) = some (some z, 1, 24)) (hz1c : z.cells.size = 1)
    (base : Nat) (v : Value) (ts : List (List (List Int))) (hs : a.eval s = v) (hown : GrowD e base w1 v ts) (hx1 : Ext w1 w) (g m : Nat) (rs : List Value) (ls : List (List (List Int))) (qs : List (Nat × Nat)) (hx : a.eval x = .slice (some ⟨g, 0, none⟩) m m) (hm : m = ls.length) (hc : ∀ j u, rs[j]? = some u → w.cell? ⟨g, j, none⟩ = some u)
    (hr : TabsV w w1.heap.size rs ls qs) (hap : Apart qs) (hl : ts.length + ls.length ≤ 1048576) (hbase : base ≤ w1.heap.size)
    (h : ∀ v' w', GrowD e base w' v' (ts ++ ls) → w.grownBy w' v.ownBlock → (v'.ownBlock = v.ownBlock ∨ v'.ownBlock = some w.heap.size) → wpList P ops Q rest (a.put o.dst v') w') : wpList P ops Q (o :: rest) a w := by
  subst hm
  obtain ⟨i0, hi, hz0, hz1, hz2⟩ := info_parts hinfo
  obtain ⟨xs, ps, h1, h2, h3, h4⟩ := id hown
  have hlt := hown.lt
  have hz := hx1.size
  refine wpList_append_own_at w hgd s x t ho base e i0 z 1 24 ht hi hz0 hz1 hz2 hz1c (by decide) v ts.length xs hs (ownsRow_ext h1 hx1) ⟨g, 0, none⟩ ls.length ls.length rs hx (by rw [hr.length.1, Nat.mul_one]) ?_ ?_ (by unfold maxLen; omega) (by omega) (by omega) ?_
  · intro j u hj
    rw [Addr.add_lit, Nat.zero_add]
    exact hc j u hj
  · intro u hu
    obtain ⟨i, hi, rfl⟩ := List.mem_iff_getElem.1 hu
    obtain ⟨r, p, g1, g2, b, c, rfl, -⟩ := hr.get i (by rw [← hr.length.1]; exact hi)
    rw [List.getElem?_eq_getElem hi] at g1
    rw [Option.some.inj g1]; rfl
  · intro v' w' k1 k2 k3 k4
    have top1 := h2.top
    have top2 := hr.top
    refine h v' w' ⟨xs ++ rs, ps ++ qs, by simpa using k1, TabsV.append ?_ ?_, ?_, ?_⟩ k2 k4
    · refine (h2.ext hx1).keep k2.size (fun p hp k g1 g2 => k2.block k (by have := (top1 p hp).2; omega) (fun e => h4 p hp k e.symm ⟨g1, g2⟩))
    · refine (hr.lower hbase).keep k2.size (fun p hp k g1 g2 => k2.block k (by have := (top2 p hp).2; omega) (fun e => by have := hlt k e.symm; have := (top2 p hp).1; omega))
    · unfold Apart at *
      rw [List.pairwise_append]
      exact ⟨h3, hap, fun p hp q hq => .inl (by have := (top1 p hp).2; have := (top2 q hq).1; omega)⟩
    · intro p hp k hk
      rcases k4 with e4 | e4
      · rw [e4] at hk
        rcases List.mem_append.1 hp with hp | hp
        · exact h4 p hp k hk
        · have := hlt k hk; have := (top2 p hp).1; omega
      · rw [e4] at hk
        have hk := Option.some.inj hk
        rcases List.mem_append.1 hp with hp | hp
        · have := (top1 p hp).2; omega
        · have := (top2 p hp).2; omega
end Go.Proofs.YtbfhecckapgpnaaGreat

/-
  append of several tables to a list of tables, at a step of a region that draws its order.
-/
namespace Go.Proofs.YtbfhecckapgpnaaGreat
set_option linter.unusedVariables false
set_option linter.unusedSimpArgs false
open Go.RowKit
open Go.Deep

theorem step_append_tabs {P : Program} {w1 w : World} {ops : Array Oper} {o : Oper} {a : Act} {K : Act → World → Prop} {Q : Exit → Act → World → Prop} {E : Prop} (hgd : o.guard = none) (s x : Operand) (t e : TypeId)
    (ho : o.op = .call { callee := .builtin .append, args := #[s, x], argTypes := #[t, t] }) (ht : P.underlying t = some (.slice e)) {z : Value} (hinfo : (P.info? e).map (fun i => (i.zero, i.size, i.bytes)) = some (some z, 1, 24)) (hz1c : z.cells.size = 1)
    (base : Nat) (v : Value) (ts : List (List (List Int))) (hs : a.eval s = v) (hown : GrowD e base w1 v ts) (hx1 : Ext w1 w) (g m : Nat) (rs : List Value) (ls : List (List (List Int))) (qs : List (Nat × Nat)) (hx : a.eval x = .slice (some ⟨g, 0, none⟩) m m) (hm : m = ls.length) (hc : ∀ j u, rs[j]? = some u → w.cell? ⟨g, j, none⟩ = some u)
    (hr : TabsV w w1.heap.size rs ls qs) (hap : Apart qs) (hl : ts.length + ls.length ≤ 1048576) (hbase : base ≤ w1.heap.size)
    (h : ∀ v' w', GrowD e base w' v' (ts ++ ls) → w.grownBy w' v.ownBlock → (v'.ownBlock = v.ownBlock ∨ v'.ownBlock = some w.heap.size) → K (a.put o.dst v') w') : if Region.wanted o (yielded ops a.tmps) = true then Oper.wp P o a w K Q else E := by
  subst hm
  obtain ⟨i0, hi, hz0, hz1, hz2⟩ := info_parts hinfo
  obtain ⟨xs, ps, h1, h2, h3, h4⟩ := id hown
  have hlt := hown.lt
  have hz := hx1.size
  have hw : Region.wanted o (yielded ops a.tmps) = true := by simp [Region.wanted, hgd]
  rw [if_pos hw]
  have hn : ∀ j u, rs[j]? = some u → w.cell? ((⟨g, 0, none⟩ : Addr).add j) = some u := by
    intro j u hj
    rw [Addr.add_lit, Nat.zero_add]
    exact hc j u hj
  have h1c : ∀ u ∈ rs, u.oneCell' = true := by
    intro u hu
    obtain ⟨i, hi, rfl⟩ := List.mem_iff_getElem.1 hu
    obtain ⟨r, p, g1, g2, b, c, rfl, -⟩ := hr.get i (by rw [← hr.length.1]; exact hi)
    rw [List.getElem?_eq_getElem hi] at g1
    rw [Option.some.inj g1]; rfl
  obtain ⟨v', w', hrn, k1, k2, k3, k4⟩ := run_append_own_at (P := P) w base t o.type e i0 z 1 24 ht hi hz0 hz1 hz2 hz1c (by decide) v ts.length xs (ownsRow_ext h1 hx1) ⟨g, 0, none⟩ ls.length ls.length rs (by rw [hr.length.1, Nat.mul_one]) hn h1c (by unfold maxLen; omega) (by omega) (by omega)
  unfold Oper.wp execOp
  simp only [ho, resolve, invoke, builtin, Sem.run_bind, Sem.run_pure, Result.andThen_ok, List.map_toArray, List.map_cons, List.map_nil, hs, hx, hrn]
  have top1 := h2.top
  have top2 := hr.top
  refine h v' w' ⟨xs ++ rs, ps ++ qs, by simpa using k1, TabsV.append ?_ ?_, ?_, ?_⟩ k2 k4
  · refine (h2.ext hx1).keep k2.size (fun p hp k g1 g2 => k2.block k (by have := (top1 p hp).2; omega) (fun e => h4 p hp k e.symm ⟨g1, g2⟩))
  · refine (hr.lower hbase).keep k2.size (fun p hp k g1 g2 => k2.block k (by have := (top2 p hp).2; omega) (fun e => by have := hlt k e.symm; have := (top2 p hp).1; omega))
  · unfold Apart at *
    rw [List.pairwise_append]
    exact ⟨h3, hap, fun p hp q hq => .inl (by have := (top1 p hp).2; have := (top2 q hq).1; omega)⟩
  · intro p hp k hk
    rcases k4 with e4 | e4
    · rw [e4] at hk
      rcases List.mem_append.1 hp with hp | hp
      · exact h4 p hp k hk
      · have := hlt k hk; have := (top2 p hp).1; omega
    · rw [e4] at hk
      have hk := Option.some.inj hk
      rcases List.mem_append.1 hp with hp | hp
      · have := (top1 p hp).2; omega
      · have := (top2 p hp).2; omega
end Go.Proofs.YtbfhecckapgpnaaGreat

/-
  Lists of tables that are only read, growing by one; a list that grew as a result.
-/
namespace Go.Proofs.YtbfhecckapgpnaaGreat
set_option linter.unusedVariables false
set_option linter.unusedSimpArgs false
open Go.RowKit
open Go.Deep

/-- xs are slices that hold the tables ts -/
def XR (w : World) (xs : List Value) (ts : List (List (List Int))) : Prop := xs.length = ts.length ∧ ∀ i, i < ts.length → ∃ r, xs[i]? = some r ∧ Rows w r (tab ts i)
theorem XR.ext {w w' : World} {xs : List Value} {ts : List (List (List Int))} (h : XR w xs ts) (hx : Ext w w') : XR w' xs ts := ⟨h.1, fun i hi => by
  obtain ⟨r, h1, h2⟩ := h.2 i hi
  exact ⟨r, h1, h2.ext hx⟩⟩
theorem XR.nil (w : World) : XR w [] [] := ⟨rfl, fun i hi => by simp at hi⟩
theorem XR.snoc {w : World} {xs : List Value} {ts : List (List (List Int))} {x : Value} {t : List (List Int)} (h : XR w xs ts) (k : Rows w x t) : XR w (xs ++ [x]) (ts ++ [t]) := by
  refine ⟨by simp [h.1], fun i hi => ?_⟩
  by_cases hl : i < ts.length
  · obtain ⟨r, h1, h2⟩ := h.2 i hl
    refine ⟨r, by rw [List.getElem?_append_left (by rw [h.1]; exact hl)]; exact h1, ?_⟩
    rw [tab_eq] at h2 ⊢
    simpa [List.getD, List.getElem?_append_left hl] using h2
  · have hi' : i = ts.length := by simp at hi; omega
    subst hi'
    refine ⟨x, by rw [← h.1]; simp, ?_⟩
    rw [tab_eq]
    simpa [List.getD] using k
/-- a list of tables of the call's own; the tables lie in a world before it -/
def GrowR2 (e : TypeId) (W : World) (w : World) (v : Value) (ts : List (List (List Int))) : Prop := ∃ xs, w.ownsRow W.heap.size e 1 v ts.length xs ∧ XR W xs ts
theorem GrowR2.ext {e : TypeId} {W w w' : World} {v : Value} {ts : List (List (List Int))} (h : GrowR2 e W w v ts) (hx : Ext w w') : GrowR2 e W w' v ts := by
  obtain ⟨xs, h1, h2⟩ := h
  exact ⟨xs, ownsRow_ext h1 hx, h2⟩
theorem GrowR2.lit {e : TypeId} {w : World} : GrowR2 e w (w.alloc (.cells #[] e)) (.slice (some ⟨w.heap.size, 0, none⟩) 0 0) [] := ⟨[], ownsRow_lit (Nat.le_refl _), XR.nil _⟩
theorem GrowR2.tabsR {e : TypeId} {W w : World} {v : Value} {ts : List (List (List Int))} (h : GrowR2 e W w v ts) (hx : Ext W w) : TabsR w v ts := by
  obtain ⟨xs, h1, h2⟩ := h
  rcases id h1.2 with ⟨rfl, hn⟩ | ⟨g, cap, cur, rfl, _⟩
  · exact ⟨none, 0, by rw [hn], fun h => absurd (List.eq_nil_of_length_eq_zero hn) h⟩
  · refine ⟨_, cap, rfl, fun _ => ⟨g, 0, rfl, fun i hi => ?_⟩⟩
    obtain ⟨r, k1, k2⟩ := h2.2 i hi
    have := h1.cells (g := g) rfl i _ k1
    rw [Addr.add_lit] at this
    exact ⟨r, this, (k2.ext hx).toR⟩

/-- append of one table that lies boxed -/
theorem wpList_append_rd {P : Program} {W w1 w : World} {ops : Array Oper} {rest : List Oper} {o : Oper} {a : Act} {Q : Exit → Act → World → Prop} (hgd : o.guard = none) (s x : Operand) (t e : TypeId)
    (ho : o.op = .call { callee := .builtin .append, args := #[s, x], argTypes := #[t, t] }) (ht : P.underlying t = some (.slice e)) {z : Value} (hinfo : (P.info? e).map (fun i => (i.zero, i.size, i.bytes)) = some (some z, 1, 24)) (hz1c : z.cells.size = 1)
    (v : Value) (ts : List (List (List Int))) (hs : a.eval s = v) (hown : GrowR2 e W w1 v ts) (hW : Ext W w1) (hx1 : Ext w1 w) (g : Nat) (r : Value) (tt : List (List Int)) (hx : a.eval x = .slice (some ⟨g, 0, none⟩) 1 1) (hc : w.cell? ⟨g, 0, none⟩ = some r)
    (hr : Rows W r tt) (hl : ts.length ≤ 1048575)
    (h : ∀ v' w', GrowR2 e W w' v' (ts ++ [tt]) → Ext W w' → wpList P ops Q rest (a.put o.dst v') w') : wpList P ops Q (o :: rest) a w := by
  obtain ⟨i0, hi, hz0, hz1, hz2⟩ := info_parts hinfo
  obtain ⟨xs, h1, h2⟩ := id hown
  have hz := hx1.size
  have hz2' := hW.size
  have h1' := ownsRow_ext h1 hx1
  refine wpList_append_own w hgd s x t ho W.heap.size e i0 z 1 24 ht hi hz0 hz1 hz2 hz1c (by decide) v ts.length xs hs h1' ⟨g, 0, none⟩ 1 1 [r] hx rfl ?_ ?_ (by unfold maxLen; omega) (by omega) (by omega) ?_
  · intro j u hj
    match j, hj with
    | 0, hj =>
      simp at hj
      subst hj
      rw [Addr.add_lit]
      exact hc
  · intro u hu
    simp at hu
    subst hu
    obtain ⟨_, b, o, c, rfl, -⟩ := hr
    rfl
  · intro v' w' k1 k2 k3
    exact h v' w' ⟨xs ++ [r], by rw [List.length_append]; exact k1, h2.snoc hr⟩ ((hW.trans hx1).grown k2 h1' (Nat.le_refl _))

/-- a list that grew, as a result -/
theorem GrowD.ds {e base : Nat} {w : World} {v : Value} {ts : List (List (List Int))} (h : GrowD e base w v ts) : OwnDs base w.heap.size w v ts := by
  obtain ⟨xs, ps, h1, h2, h3, h4⟩ := h
  rcases id h1.2 with ⟨rfl, hn⟩ | ⟨g, cap, cur, rfl, hb, hg, _⟩
  · rw [List.eq_nil_of_length_eq_zero hn]
    exact OwnDs.nil _ _ _
  · refine ⟨_, cap, rfl, fun _ => ⟨g, rfl, hb, (h1.lt g rfl).2, fun i => (ps.getD i (0, 0)).1, fun i => (ps.getD i (0, 0)).2, fun i hi => ?_, fun i j hi hj hij => ?_⟩⟩
    · obtain ⟨r, p, k1, k2, k3⟩ := h2.get i hi
      have hp : p ∈ ps := List.mem_of_getElem? k2
      have hoff := h4 p hp g rfl
      have htop := h2.top p hp
      have hcell := h1.cells (g := g) rfl i _ k1
      rw [Addr.add_lit, Nat.zero_add] at hcell
      have hpe : ps.getD i (0, 0) = p := by rw [List.getD_eq_getElem?_getD, k2]; rfl
      simp only [hpe]
      obtain ⟨b, c, rfl, g1, g2, g3, g4⟩ := k3
      exact ⟨g3, g4, by omega, _, hcell, g1.v g2 c⟩
    · have hpl := h2.length.2
      have e1 : ps[i]? = some (ps.getD i (0, 0)) := by rw [List.getD_eq_getElem?_getD, List.getElem?_eq_getElem (by omega)]; rfl
      have e2 : ps[j]? = some (ps.getD j (0, 0)) := by rw [List.getD_eq_getElem?_getD, List.getElem?_eq_getElem (by omega)]; rfl
      rw [List.getElem?_eq_some_iff] at e1 e2
      obtain ⟨q1, e1⟩ := e1
      obtain ⟨q2, e2⟩ := e2
      have h3' := List.pairwise_iff_getElem.1 h3
      rcases Nat.lt_or_gt_of_ne hij with hlt | hgt
      · have := h3' i j q1 q2 hlt
        rw [e1, e2] at this
        exact this
      · have := h3' j i q2 q1 hgt
        rw [e1, e2] at this
        exact this.symm
end Go.Proofs.YtbfhecckapgpnaaGreat
