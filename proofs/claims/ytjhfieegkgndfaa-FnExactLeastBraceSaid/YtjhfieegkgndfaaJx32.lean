/-
  A list of tables that grows inside a region that draws its order.
-/
import Derived.Deep.AppendLies
import Derived.Test.YtjhfieegkgndfaaJx0
import Derived.Test.YtjhfieegkgndfaaJx1
import Derived.Test.YtjhfieegkgndfaaJx3
import Derived.Test.YtjhfieegkgndfaaJx2
import Derived.Test.YtjhfieegkgndfaaJx4
import Derived.Test.YtjhfieegkgndfaaJx8
import Derived.Test.YtjhfieegkgndfaaJx30
import Derived.Test.YtjhfieegkgndfaaJx31
namespace Go.Proofs.Ytjhfieegkgndfaa
set_option linter.unusedVariables false
set_option linter.unusedSimpArgs false
open Go.RowKit

theorem step_append_tab {P : Program} {w1 w : World} {ops : Array Oper} {o : Oper} {a : Act} {K : Act → World → Prop} {Q : Exit → Act → World → Prop} {E : Prop} (hgd : o.guard = none) (s x : Operand) (t e : TypeId)
    (ho : o.op = .call { callee := .builtin .append, args := #[s, x], argTypes := #[t, t] }) (ht : P.underlying t = some (.slice e)) {z : Value} (hinfo : (P.info? e).map (fun i => (i.zero, i.size, i.bytes)) = some (some z, 1, 24)) (hz1c : z.cells.size = 1)
    (base : Nat) (v : Value) (ts : List (List (List Int))) (hs : a.eval s = v) (hown : GrowTabs e base w1 v ts) (hx1 : Ext w1 w) (g : Nat) (br cr : Nat) (l : List (List Int)) (hx : a.eval x = .slice (some ⟨g, 0, none⟩) 1 1) (hc : w.cell? ⟨g, 0, none⟩ = some (.slice (some ⟨br, 0, none⟩) l.length cr)) (hr : OwnT w1.heap.size w.heap.size w br 0 l) (hsm : Small l)
    (hl : ts.length ≤ 1048576) (hbase : base ≤ w1.heap.size)
    (h : ∀ v' w', GrowTabs e base w' v' (ts ++ [l]) → w.grownBy w' v.ownBlock → v' ≠ .slice none 0 0 → (v'.ownBlock = v.ownBlock ∨ v'.ownBlock = some w.heap.size) → K (a.put o.dst v') w') : if Region.wanted o (yielded ops a.tmps) = true then Oper.wp P o a w K Q else E := by
  obtain ⟨i0, hi, hz0, hz1, hz2⟩ := info_parts hinfo
  obtain ⟨xs, h1, h2⟩ := id hown
  have hlt := hown.lt
  have hz := hx1.size
  refine step_append_lies w hgd s x t ho base e i0 z 1 24 ht hi hz0 hz1 hz2 hz1c (by decide) v ts.length xs hs (ownsRow_ext h1 hx1) ⟨g, 0, none⟩ 1 1 [.slice (some ⟨br, 0, none⟩) l.length cr] hx rfl ?_ ?_ (by omega) (by unfold maxLen; omega) (by omega) (by omega) w.heap.size rfl ?_
  · intro j u hj
    match j, hj with
    | 0, hj => simp at hj; subst hj; simpa [Addr.add] using hc
  · intro u hu; simp at hu; subst hu; rfl
  · intro g' cap w' k1 k2 k3 k4
    have hxl : xs.length = ts.length := by simpa using h1.1
    have k3' : (Value.slice (some ⟨g', 0, none⟩) (ts.length + 1) cap).ownBlock = v.ownBlock ∨ (Value.slice (some ⟨g', 0, none⟩) (ts.length + 1) cap).ownBlock = some w.heap.size := by
      rcases k3 with h3 | h3
      · exact .inl (by rw [h3]; rfl)
      · exact .inr (by rw [h3]; rfl)
    have k4' : (Value.slice (some ⟨g', 0, none⟩) (ts.length + 1) cap).ownBlock = v.ownBlock ∨ ∃ g, (Value.slice (some ⟨g', 0, none⟩) (ts.length + 1) cap).ownBlock = some g ∧ w.heap.size ≤ g := by
      rcases k3' with e | e
      · exact .inl e
      · exact .inr ⟨_, e, Nat.le_refl _⟩
    refine h _ w' ⟨xs ++ [.slice (some ⟨br, 0, none⟩) l.length cr], by simpa using k1, fun i hi => ?_⟩ k2 (by simp) k3'
    by_cases hi' : i < ts.length
    · obtain ⟨r, g1, g2⟩ := h2 i hi'
      rw [tab_app _ _ hi']
      refine ⟨r, by rw [List.getElem?_append_left (by omega)]; exact g1, ?_⟩
      have g3 := g2.keep hx1.size (fun k _ hk _ => hx1.block k hk) (.inl rfl) (v' := v)
      exact g3.keep k2.size (fun k _ hk hn => k2.block k hk (fun e => hn e.symm)) k4'
    · have hie : i = ts.length := by simp at hi; omega
      subst hie
      rw [tab_snoc]
      have g3 : GTab w v (.slice (some ⟨br, 0, none⟩) l.length cr) l base := ⟨br, cr, _, _, rfl, hr, hsm, hbase, Nat.le_refl _, fun g e => by have := hlt g e; omega⟩
      exact ⟨_, by rw [List.getElem?_append_right (by omega), hxl]; simp, g3.keep k2.size (fun k _ hk hn => k2.block k hk (fun e => hn e.symm)) k4'⟩
end Go.Proofs.Ytjhfieegkgndfaa
