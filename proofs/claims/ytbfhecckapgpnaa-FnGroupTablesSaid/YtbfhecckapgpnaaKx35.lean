/-
  Lists of tables, each table in memory of its own, apart from the others and from the list; append of some at once.
-/
import Derived.Test.YtbfhecckapgpnaaProg
import Derived.Maps.AppendAt
import Derived.Test.YtbfhecckapgpnaaKx0
import Derived.Test.YtbfhecckapgpnaaKx1
import Derived.Test.YtbfhecckapgpnaaKx2
import Derived.Test.YtbfhecckapgpnaaKx8
import Derived.Test.YtbfhecckapgpnaaKx9
import Derived.Test.YtbfhecckapgpnaaKx7
import Derived.Test.YtbfhecckapgpnaaKx5
import Derived.Test.YtbfhecckapgpnaaKx10
import Derived.Test.YtbfhecckapgpnaaKx6
import Derived.Test.YtbfhecckapgpnaaKx14
import Derived.Test.YtbfhecckapgpnaaKx19
import Derived.Test.YtbfhecckapgpnaaKx28
import Derived.Test.YtbfhecckapgpnaaKx29
namespace Go.Proofs.Ytbfhecckapgpnaa
set_option linter.unusedVariables false
set_option linter.unusedSimpArgs false
open Go.RowKit
open Go.Deep

/-- r is the table t, in the blocks p -/
def TabV (w : World) (base : Nat) (r : Value) (t : List (List Int)) (p : Nat × Nat) : Prop :=
  ∃ b c, r = .slice (some ⟨b, 0, none⟩) t.length c ∧ OwnT p.1 p.2 w b 0 t ∧ Small t ∧ base ≤ p.1 ∧ p.2 ≤ w.heap.size
def TabsV (w : World) (base : Nat) : List Value → List (List (List Int)) → List (Nat × Nat) → Prop
  | [], [], [] => True
  | r :: rs, t :: ts, p :: ps => TabV w base r t p ∧ TabsV w base rs ts ps
  | _, _, _ => False
def Apart (ps : List (Nat × Nat)) : Prop := ps.Pairwise (fun p q => p.2 ≤ q.1 ∨ q.2 ≤ p.1)
def Off (g : Option Nat) (ps : List (Nat × Nat)) : Prop := ∀ p ∈ ps, ∀ k, g = some k → ¬ (p.1 ≤ k ∧ k < p.2)

theorem TabV.keep {w w' : World} {base : Nat} {r : Value} {t : List (List Int)} {p : Nat × Nat} (h : TabV w base r t p) (hs : w.heap.size ≤ w'.heap.size) (hk : ∀ k, p.1 ≤ k → k < p.2 → w'.heap[k]? = w.heap[k]?) : TabV w' base r t p := by
  obtain ⟨b, c, rfl, h1, h2, h3, h4⟩ := h
  exact ⟨b, c, rfl, h1.keep hk, h2, h3, by omega⟩
theorem TabsV.keep {w w' : World} {base : Nat} (hs : w.heap.size ≤ w'.heap.size) : ∀ {rs : List Value} {ts : List (List (List Int))} {ps : List (Nat × Nat)}, TabsV w base rs ts ps → (∀ p ∈ ps, ∀ k, p.1 ≤ k → k < p.2 → w'.heap[k]? = w.heap[k]?) → TabsV w' base rs ts ps
  | [], [], [], _, _ => trivial
  | r :: rs, t :: ts, p :: ps, h, hk => ⟨h.1.keep hs (hk p (by simp)), TabsV.keep hs h.2 (fun q hq => hk q (by simp [hq]))⟩
theorem TabsV.top {w : World} {base : Nat} : ∀ {rs : List Value} {ts : List (List (List Int))} {ps : List (Nat × Nat)}, TabsV w base rs ts ps → ∀ p ∈ ps, base ≤ p.1 ∧ p.2 ≤ w.heap.size
  | [], [], [], _, p, hp => by simp at hp
  | r :: rs, t :: ts, q :: ps, h, p, hp => by
    rcases List.mem_cons.1 hp with rfl | hp
    · obtain ⟨_, _, _, _, _, h3, h4⟩ := h.1
      exact ⟨h3, h4⟩
    · exact TabsV.top h.2 p hp
theorem TabsV.ext {w w' : World} {base : Nat} {rs : List Value} {ts : List (List (List Int))} {ps : List (Nat × Nat)} (h : TabsV w base rs ts ps) (hx : Ext w w') : TabsV w' base rs ts ps :=
  h.keep hx.size (fun p hp k _ h2 => hx.block k (by have := (h.top p hp).2; omega))
theorem TabsV.append {w : World} {base : Nat} : ∀ {rs qs : List Value} {ts us : List (List (List Int))} {ps os : List (Nat × Nat)}, TabsV w base rs ts ps → TabsV w base qs us os → TabsV w base (rs ++ qs) (ts ++ us) (ps ++ os)
  | [], _, [], _, [], _, _, h => h
  | r :: rs, _, t :: ts, _, p :: ps, _, h, k => ⟨h.1, TabsV.append h.2 k⟩
theorem TabsV.length {w : World} {base : Nat} : ∀ {rs : List Value} {ts : List (List (List Int))} {ps : List (Nat × Nat)}, TabsV w base rs ts ps → rs.length = ts.length ∧ ps.length = ts.length
  | [], [], [], _ => ⟨rfl, rfl⟩
  | r :: rs, t :: ts, p :: ps, h => by
    have := TabsV.length h.2
    simp [this.1, this.2]
theorem TabsV.get {w : World} {base : Nat} : ∀ {rs : List Value} {ts : List (List (List Int))} {ps : List (Nat × Nat)}, TabsV w base rs ts ps → ∀ i, i < ts.length → ∃ r p, rs[i]? = some r ∧ ps[i]? = some p ∧ TabV w base r (tab ts i) p
  | [], [], [], _, i, hi => by simp at hi
  | r :: rs, t :: ts, p :: ps, h, 0, hi => ⟨r, p, rfl, rfl, by rw [tab_eq]; exact h.1⟩
  | r :: rs, t :: ts, p :: ps, h, i + 1, hi => by
    obtain ⟨r1, p1, h1, h2, h3⟩ := TabsV.get h.2 i (by simpa using hi)
    refine ⟨r1, p1, by simpa using h1, by simpa using h2, ?_⟩
    rw [tab_eq] at h3 ⊢
    simpa using h3
theorem TabsV.lower {w : World} {base base2 : Nat} (hb : base2 ≤ base) : ∀ {rs : List Value} {ts : List (List (List Int))} {ps : List (Nat × Nat)}, TabsV w base rs ts ps → TabsV w base2 rs ts ps
  | [], [], [], _ => trivial
  | r :: rs, t :: ts, p :: ps, h => by
    obtain ⟨b, c, h0, h1, h2, h3, h4⟩ := h.1
    exact ⟨⟨b, c, h0, h1, h2, by omega, h4⟩, TabsV.lower hb h.2⟩
theorem TabsV.nil (w : World) (base : Nat) : TabsV w base [] [] [] := trivial
theorem TabsV.cons {w : World} {base lo hi b c : Nat} {t : List (List Int)} {rs : List Value} {ts : List (List (List Int))} {ps : List (Nat × Nat)} (h : OwnT lo hi w b 0 t) (hs : Small t) (h1 : base ≤ lo) (h2 : hi ≤ w.heap.size) (k : TabsV w base rs ts ps) :
    TabsV w base (.slice (some ⟨b, 0, none⟩) t.length c :: rs) (t :: ts) ((lo, hi) :: ps) := ⟨⟨b, c, rfl, h, hs, h1, h2⟩, k⟩
theorem TabV.rows {w : World} {base : Nat} {r : Value} {t : List (List Int)} {p : Nat × Nat} (h : TabV w base r t p) : Rows w r t := by
  obtain ⟨b, c, rfl, h1, h2, h3, h4⟩ := h
  exact (h1.rowsAt h2).rows h2.1 c

/-- a list of tables that grows -/
def GrowD (e base : Nat) (w : World) (v : Value) (ts : List (List (List Int))) : Prop :=
  ∃ xs ps, w.ownsRow base e 1 v ts.length xs ∧ TabsV w base xs ts ps ∧ Apart ps ∧ Off v.ownBlock ps
theorem GrowD.ext {e base : Nat} {w w' : World} {v : Value} {ts : List (List (List Int))} (h : GrowD e base w v ts) (hx : Ext w w') : GrowD e base w' v ts := by
  obtain ⟨xs, ps, h1, h2, h3, h4⟩ := h
  exact ⟨xs, ps, ownsRow_ext h1 hx, h2.ext hx, h3, h4⟩
theorem GrowD.lt {e base : Nat} {w : World} {v : Value} {ts : List (List (List Int))} (h : GrowD e base w v ts) (k : Nat) (hk : v.ownBlock = some k) : base ≤ k ∧ k < w.heap.size := by
  obtain ⟨xs, ps, h1, -⟩ := h
  exact h1.lt k hk
theorem GrowD.one {e base : Nat} {w : World} {lo hi b c : Nat} {t : List (List Int)} (h : OwnT lo hi w b 0 t) (hs : Small t) (h1 : base ≤ lo) (h2 : hi ≤ w.heap.size) (hb : base ≤ w.heap.size) :
    GrowD e base (w.alloc (.cells #[.slice (some ⟨b, 0, none⟩) t.length c] e)) (.slice (some ⟨w.heap.size, 0, none⟩) 1 1) [t] :=
  ⟨_, [(lo, hi)], ownsRow_one hb, ((TabsV.nil w base).cons (c := c) h hs h1 h2).ext ((Ext.refl w).alloc _), by simp [Apart], fun p hp k hk => by
    have : p = (lo, hi) := by simpa using hp
    subst this
    have : w.heap.size = k := Option.some.inj hk
    simp only []
    omega⟩
theorem GrowD.slice {e base : Nat} {w : World} {v : Value} {ts : List (List (List Int))} (h : GrowD e base w v ts) (h0 : 0 < ts.length) : ∃ g c, v = .slice (some ⟨g, 0, none⟩) ts.length c := by
  obtain ⟨xs, ps, h1, -⟩ := h
  rcases h1.2 with ⟨rfl, hn⟩ | ⟨g, cap, cur, rfl, _⟩
  · omega
  · exact ⟨_, cap, rfl⟩
theorem GrowD.cell {e base : Nat} {w : World} {g n c : Nat} {ts : List (List (List Int))} (h : GrowD e base w (.slice (some ⟨g, 0, none⟩) n c) ts) {i : Nat} (hi : i < ts.length) : ∃ b d p, w.cell? ⟨g, i, none⟩ = some (.slice (some ⟨b, 0, none⟩) (tab ts i).length d) ∧ TabV w base (.slice (some ⟨b, 0, none⟩) (tab ts i).length d) (tab ts i) p := by
  obtain ⟨xs, ps, h1, h2, -⟩ := h
  obtain ⟨r, p, g1, g2, g3⟩ := h2.get i hi
  have hc := World.ownsRow.cells h1 (g := g) rfl i _ g1
  rw [Addr.add_lit, Nat.zero_add] at hc
  obtain ⟨b, d, rfl, -⟩ := id g3
  exact ⟨b, d, p, hc, g3⟩
theorem GrowD.tabs {e base : Nat} {w : World} {v : Value} {ts : List (List (List Int))} (h : GrowD e base w v ts) (hl : ts.length ≤ 1048576) (h0 : 0 < ts.length) : Tabs w v ts := by
  obtain ⟨g, c, rfl⟩ := h.slice h0
  refine ⟨hl, g, 0, c, rfl, fun i hi => ?_⟩
  obtain ⟨b, d, p, h1, h2⟩ := h.cell hi
  exact ⟨_, by rw [Nat.zero_add]; exact h1, h2.rows⟩

/-- append(v, tables) -/
theorem wpList_append_tabs {P : Program} {w1 w : World} {ops : Array Oper} {rest : List Oper} {o : Oper} {a : Act} {Q : Exit → Act → World → Prop} (hgd : o.guard = none) (s x : Operand) (t e : TypeId)
    (ho : o.op = .call { callee := .builtin .append, args := #[s, x], argTypes := #[t, t] }) (ht : P.underlying t = some (.slice e)) {z : Value} (hinfo : (P.info? e).map (fun i => (i.zero, i.size, i.bytes)) = some (some z, 1, 24)) (hz1c : z.cells.size = 1)
    (base : Nat) (v : Value) (ts : List (List (List Int))) (hs : a.eval s = v) (hown : GrowD e base w1 v ts) (hx1 : Ext w1 w) (g m : Nat) (rs : List Value) (ls : List (List (List Int))) (qs : List (Nat × Nat)) (hx : a.eval x = .slice (some ⟨g, 0, none⟩) m m) (hm : m = ls.length) (hc : ∀ j u, rs[j]? = some u → w.cell? ⟨g, j, none⟩ = some u)
    (hr : TabsV w w1.heap.size rs ls qs) (hap : Apart qs) (hl : ts.length + ls.length ≤ 1048576) (hbase : base ≤ w1.heap.size)
    (h : ∀ v' w', GrowD e base w' v' (ts ++ ls) → w.grownBy w' v.ownBlock → (v'.ownBlock = v.ownBlock ∨ v'.ownBlock = some w.heap.size) → wpList P ops Q rest (a.put o.dst v') w') : wpList P ops Q (o :: rest) a w := by
  subst hm
  obtain ⟨i0, hi, hz0, hz1, hz2⟩ := info_parts hinfo
  obtain ⟨xs, ps, h1, h2, h3, h4⟩ := id hown
  have hlt := hown.lt
  have hz := hx1.size
  refine wpList_append_own_at w hgd s x t ho base e i0 z 1 24 ht hi hz0 hz1 hz2 hz1c (by decide) v ts.length xs hs (ownsRow_ext h1 hx1) ⟨g, 0, none⟩ ls.length ls.length rs hx (by rw [hr.length.1, Nat.mul_one]) ?_ ?_ (by unfold maxLen; omega) (by omega) (by omega) ?_
  · intro j u hj
    rw [Addr.add_lit, Nat.zero_add]
    exact hc j u hj
  · intro u hu
    obtain ⟨i, hi, rfl⟩ := List.mem_iff_getElem.1 hu
    obtain ⟨r, p, g1, g2, b, c, rfl, -⟩ := hr.get i (by rw [← hr.length.1]; exact hi)
    rw [List.getElem?_eq_getElem hi] at g1
    rw [Option.some.inj g1]; rfl
  · intro v' w' k1 k2 k3 k4
    have top1 := h2.top
    have top2 := hr.top
    refine h v' w' ⟨xs ++ rs, ps ++ qs, by simpa using k1, TabsV.append ?_ ?_, ?_, ?_⟩ k2 k4
    · refine (h2.ext hx1).keep k2.size (fun p hp k g1 g2 => k2.block k (by have := (top1 p hp).2; omega) (fun e => h4 p hp k e.symm ⟨g1, g2⟩))
    · refine (hr.lower hbase).keep k2.size (fun p hp k g1 g2 => k2.block k (by have := (top2 p hp).2; omega) (fun e => by have := hlt k e.symm; have := (top2 p hp).1; omega))
    · unfold Apart at *
      rw [List.pairwise_append]
      exact ⟨h3, hap, fun p hp q hq => .inl (by have := (top1 p hp).2; have := (top2 q hq).1; omega)⟩
    · intro p hp k hk
      rcases k4 with e4 | e4
      · rw [e4] at hk
        rcases List.mem_append.1 hp with hp | hp
        · exact h4 p hp k hk
        · have := hlt k hk; have := (top2 p hp).1; omega
      · rw [e4] at hk
        have hk := Option.some.inj hk
        rcases List.mem_append.1 hp with hp | hp
        · have := (top1 p hp).2; omega
        · have := (top2 p hp).2; omega
end Go.Proofs.Ytbfhecckapgpnaa
