/-
  From the reading of an argument to what the walks are told of it.
-/
import Derived.ProofKit
import Derived.OpenShut
import Derived.Deep.Matrix
import Derived.Lib.SmallJoins
import Derived.Test.YtjbloenjphpngaaJx0
import Derived.Test.YtjbloenjphpngaaJx1
namespace Go.Proofs.Ytjbloenjphpngaa
set_option linter.unusedVariables false
set_option linter.unusedSimpArgs false
open Go.RowKit Go.ChangeShapes Go.WideShapes Go.ChangeAt Go.Joins
open Go.Deep (oneCellFields hone_of)

section
variable {H : Type} {enc : TypeId × Value → H} {P : Program} {w : World} {base : Nat} {spare : Nat → Bool} {held : Bool}

theorem array1 {α : Type} {cs : Array α} (h : cs.size = 1) : ∃ c0, cs = #[c0] := by
  match cs, h with
  | ⟨[c0]⟩, _ => exact ⟨c0, rfl⟩

theorem open_agg1 {r : Reach} {b0 : Nat} {t : TypeId} {f0 : Field} {v : Value} {d : DataW H} {p : List MemPlace} (hs : P.underlying t = some (.struct #[f0])) (hone : oneCellFields P #[f0] = true) (hC : P.cellsOf t = 1)
    (hv : Value.okWide P w r b0 t v) (h : DataW.Trod enc P w base spare held t v d p) :
    ∃ (v0 : Value) (y0 : DataW H × List MemPlace) (n : Nat), v = .agg #[v0] ∧ DataW.trod enc P w base spare held n f0.type [v0] = some y0 := by
  obtain ⟨cs, rfl, hsz⟩ := okWide_struct hs hv
  obtain ⟨c0, rfl⟩ := array1 (hsz.trans hC)
  obtain ⟨fuel, hf⟩ := h
  obtain ⟨y0, n, hx, _, h0⟩ := trod_struct1 hs hf
  obtain ⟨o0, k0⟩ := hone_of hone 0 f0 rfl
  exact ⟨c0, y0, n, rfl, by simpa [Value.cells, o0, k0] using h0⟩

theorem addr_none {w : World} {a : Addr} {v : Value} (h : w.cell? a = some v) : a = ⟨a.block, a.off, none⟩ := by
  obtain ⟨b, o, s⟩ := a
  cases s with
  | none => rfl
  | some x =>
    unfold World.cell? at h
    split at h <;> simp at h

theorem rowsR_of_trod {t e q : TypeId} {fuel : Nat} {c : Value} {x : DataW H × List MemPlace} (ht : P.underlying t = some (.slice e)) (he : P.underlying e = some (.slice q)) (hq : P.underlying q = some (.int .i64))
    (ce : P.cellsOf e = 1) (cq : P.cellsOf q = 1) (h : DataW.trod enc P w base (fun _ => true) held fuel t [c] = some x) :
    ∃ tb : List (List Int), RowsR w c tb ∧ tb.length ≤ maxLen ∧ ∀ i, (row tb i).length ≤ maxLen := by
  rcases Deep.open_int_rows ht he hq ce cq h with ⟨hcs, _⟩ | ⟨a, len, cap, A, L, C, Z, hcs, _, hl, hm, _, hcell⟩
  · simp at hcs
    subst hcs
    exact ⟨[], RowsR.nil _ _, by simp, fun i => by rw [row_eq]; simp⟩
  · simp at hcs
    subst hcs
    have hlen : ((List.range len).map fun r => (Z r).take (L r)).length = len := by simp
    have hrow : ∀ i, i < len → row ((List.range len).map fun r => (Z r).take (L r)) i = (Z i).take (L i) := fun i hi => by rw [row_eq]; simp [List.getD, hi]
    have hrl : ∀ i, i < len → ((Z i).take (L i)).length = L i := fun i hi => by
      obtain ⟨_, h1, _, h3, _⟩ := hcell i (by omega)
      simp; omega
    refine ⟨(List.range len).map fun r => (Z r).take (L r), ⟨some a, cap, by rw [hlen], fun hne => ?_⟩, by rw [hlen]; omega, fun i => ?_⟩
    · have hpos : 0 < len := by
        rcases Nat.eq_zero_or_pos len with h0 | h0
        · subst h0; exact absurd rfl hne
        · exact h0
      have ha := addr_none (by simpa [Addr.add] using (hcell 0 (by omega)).1)
      refine ⟨a.block, a.off, by rw [← ha], fun i hi => ?_⟩
      have hi' : i < len := by simpa using hi
      obtain ⟨g1, g2, g3, g4, _, g6, g7⟩ := hcell i (by omega)
      refine ⟨.slice (A i) (L i) (C i), ?_, ?_⟩
      · rw [← g1, ha]
        by_cases h0 : i = 0
        · subst h0; simp [Addr.add]
        · simp [Addr.add, h0]
      · rw [hrow i hi']
        refine ⟨A i, C i, by rw [hrl i hi'], fun hne => ?_⟩
        have hL : 0 < L i := by
          rcases Nat.eq_zero_or_pos (L i) with h0 | h0
          · rw [h0] at hne; simp at hne
          · exact h0
        cases hA : A i with
        | none => have := g6 hA; omega
        | some a' =>
          obtain ⟨_, hc⟩ := g7 a' hA
          have ha' := addr_none (by simpa [Addr.add] using hc 0 (by omega))
          refine ⟨a'.block, a'.off, by rw [← ha'], fun j hj => ?_⟩
          rw [hrl i hi'] at hj
          have hj2 : j < (Z i).length := by omega
          rw [ix_eq]
          have := hc j (by omega)
          have e : ((Z i).take (L i)).getD j 0 = (Z i).getD j 0 := by simp [List.getD, hj]
          rw [e, ← this, ha']
          by_cases h0 : j = 0
          · subst h0; simp [Addr.add]
          · simp [Addr.add, h0]
    · by_cases hi : i < len
      · rw [hrow i hi, hrl i hi]
        obtain ⟨_, g2, g3, _⟩ := hcell i (by omega)
        omega
      · rw [row_eq]; simp [List.getD, hi]
end
end Go.Proofs.Ytjbloenjphpngaa
