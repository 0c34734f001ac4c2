/-
  From the reading of an argument of bytes to what the walks are told of it.
-/
import Derived.ProofKit
import Derived.OpenShut
import Derived.ChangeSlices
import Derived.Deep.Matrix
import Derived.Lib.SmallJoins
import Derived.Test.YtjfjpngajboidaaGreatJx27
namespace Go.Proofs.YtjfjpngajboidaaGreat
set_option linter.unusedVariables false
set_option linter.unusedSimpArgs false
open Go.RowKit Go.ChangeShapes Go.WideShapes Go.ChangeAt Go.Joins

theorem bytesR_of_trod {H : Type} {enc : TypeId × Value → H} {P : Program} {w : World} {base : Nat} {held : Bool} {t e : TypeId} {fuel : Nat} {c : Value} {x : DataW H × List MemPlace} (ht : P.underlying t = some (.slice e)) (he : P.underlying e = some (.int .u8)) (ce : P.cellsOf e = 1)
    (h : DataW.trod enc P w base (fun _ => true) held fuel t [c] = some x) : ∃ bs : List Int, BytesR w c bs := by
  rcases open_ints ht he ce h with ⟨hcs, _⟩ | ⟨a, len, cap, zs, hcs, _, hl, hm, hz, _, hcell, hwf⟩
  · simp at hcs
    subst hcs
    exact ⟨[], none, 0, rfl, fun i hi => by simp at hi, fun h => absurd rfl h⟩
  · simp at hcs
    subst hcs
    rw [if_pos rfl] at hz
    have hlen : (zs.take len).length = len := by rw [List.length_take]; omega
    have hix : ∀ i, i < len → ix (zs.take len) i = zs.getD i 0 := fun i hi => by rw [ix_eq]; simp [List.getD, List.getElem?_take, hi]
    refine ⟨zs.take len, some a, cap, by rw [hlen], fun i hi => ?_, fun hne => ?_⟩
    · rw [hlen] at hi
      rw [hix i hi]
      have hm : zs.getD i 0 ∈ zs := by
        rw [List.getD_eq_getElem?_getD, List.getElem?_eq_getElem (by omega)]
        exact List.getElem_mem _
      exact bounds_u8 (hwf _ hm)
    · have hpos : 0 < len := by
        rcases Nat.eq_zero_or_pos len with h0 | h0
        · subst h0; exact absurd (by simp) hne
        · exact h0
      obtain ⟨b, o, rfl, hc⟩ := ints_at hcell (by omega)
      refine ⟨b, o, rfl, fun i hi => ?_⟩
      rw [hlen] at hi
      rw [hix i hi]
      exact hc i (by omega)
end Go.Proofs.YtjfjpngajboidaaGreat


namespace Go.Proofs.YtjfjpngajboidaaGreat
set_option linter.unusedVariables false
set_option linter.unusedSimpArgs false

def mvJ (f g fi gi : Nat → Nat → Nat) (v : List Int) (k j : Nat) : List Int := if j = 0 then moveL f g v k else moveL fi gi v k
structure BfsI (f g fi gi : Nat → Nat → Nat) (w : List Int) (F : List (List Int)) (i k j : Nat) : Prop where
  head : w ∈ F
  nd : F.Nodup
  eq : ∀ v, v ∈ F → Eqv f g fi gi w v
  old : ∀ a, a < i → ∀ q, q + 1 < w.length → ∀ h, h < 2 → mvJ f g fi gi (row F a) q h ∈ F
  cur : ∀ q, q < k → q + 1 < w.length → ∀ h, h < 2 → mvJ f g fi gi (row F i) q h ∈ F
  now : k + 1 < w.length → ∀ h, h < j → mvJ f g fi gi (row F i) k h ∈ F
section
variable {n : Nat} {f g fi gi : Nat → Nat → Nat} {w : List Int} {F : List (List Int)} {i k j : Nat}
theorem BfsI.start (f g fi gi : Nat → Nat → Nat) (w : List Int) : BfsI f g fi gi w [w] 0 0 0 :=
  ⟨List.mem_cons_self, by simp, fun v hv => by rw [List.mem_singleton.1 hv]; exact .refl, fun a ha => by omega, fun q hq => by omega, fun _ h hh => by omega⟩
theorem rowB_app {F : List (List Int)} {x : List Int} {i : Nat} (h : i < F.length) : row (F ++ [x]) i = row F i := by
  rw [row_eq, row_eq]; simp [List.getD, List.getElem?_append_left h]
theorem rowB_mem {F : List (List Int)} {i : Nat} (h : i < F.length) : row F i ∈ F := by
  rw [row_eq]; simp [List.getD, h]
theorem mvJ_eqv {v : List Int} {q h : Nat} (hq : q + 1 < v.length) (hv : Eqv f g fi gi w v) : Eqv f g fi gi w (mvJ f g fi gi v q h) := by
  refine .step v _ hv ⟨q, hq, ?_⟩
  unfold mvJ
  split
  · exact .inl rfl
  · exact .inr rfl
theorem BfsI.skip (h : BfsI f g fi gi w F i k j) (hx : mvJ f g fi gi (row F i) k j ∈ F) : BfsI f g fi gi w F i k (j + 1) :=
  ⟨h.head, h.nd, h.eq, h.old, h.cur, fun hk q hq => by
    by_cases e : q = j
    · subst e; exact hx
    · exact h.now hk q (by omega)⟩
theorem BfsI.add (h : BfsI f g fi gi w F i k j) (hi : i < F.length) (hk : k + 1 < w.length) (hx : mvJ f g fi gi (row F i) k j ∉ F) : BfsI f g fi gi w (F ++ [mvJ f g fi gi (row F i) k j]) i k (j + 1) := by
  have hm : ∀ {x : List Int}, x ∈ F → x ∈ F ++ [mvJ f g fi gi (row F i) k j] := fun hx => List.mem_append_left _ hx
  have hlen := (h.eq _ (rowB_mem hi)).len
  refine ⟨hm h.head, ?_, ?_, ?_, ?_, ?_⟩
  · rw [List.nodup_append]
    refine ⟨h.nd, by simp, fun a ha b hb => ?_⟩
    rw [List.mem_singleton.1 hb]
    intro e
    subst e
    exact hx ha
  · intro v hv
    rcases List.mem_append.1 hv with e | e
    · exact h.eq v e
    · rw [List.mem_singleton.1 e]
      exact mvJ_eqv (by omega) (h.eq _ (rowB_mem hi))
  · intro a ha q hq c hc
    rw [rowB_app (by omega)]
    exact hm (h.old a ha q hq c hc)
  · intro q hq hq2 c hc
    rw [rowB_app hi]
    exact hm (h.cur q hq hq2 c hc)
  · intro hk2 c hc
    rw [rowB_app hi]
    by_cases e : c = j
    · subst e; simp
    · exact hm (h.now hk2 c (by omega))
theorem BfsI.nextK (h : BfsI f g fi gi w F i k 2) : BfsI f g fi gi w F i (k + 1) 0 :=
  ⟨h.head, h.nd, h.eq, h.old, fun q hq hq2 c hc => by
    by_cases e : q = k
    · subst e; exact h.now hq2 c hc
    · exact h.cur q (by omega) hq2 c hc, fun _ c hc => by omega⟩
theorem BfsI.nextI (h : BfsI f g fi gi w F i k 0) (hk : ¬ k + 1 < w.length) : BfsI f g fi gi w F (i + 1) 0 0 :=
  ⟨h.head, h.nd, h.eq, fun a ha q hq c hc => by
    by_cases e : a = i
    · subst e; exact h.cur q (by omega) hq c hc
    · exact h.old a (by omega) q hq c hc, fun q hq => by omega, fun _ c hc => by omega⟩
theorem BfsI.done (hm : Mv n f g fi gi) (hw : WordOk n w) (h : BfsI f g fi gi w F i 0 0) (hi : F.length ≤ i) : ∀ x, x ∈ F ↔ x ∈ wclL n f g fi gi w :=
  wclL_closed hm hw h.head h.eq fun v hv q hq => by
    obtain ⟨a, ha, rfl⟩ := List.getElem_of_mem hv
    have e : F[a] = row F a := by rw [row_eq]; simp [List.getD, ha]
    rw [e]
    have h0 := h.old a (by omega) q hq 0 (by omega)
    have h1 := h.old a (by omega) q hq 1 (by omega)
    exact ⟨h0, h1⟩
theorem BfsI.few (hm : Mv n f g fi gi) (hw : WordOk n w) (h : BfsI f g fi gi w F i k j) : F.length ≤ (wclL n f g fi gi w).length :=
  nodup_le _ _ h.nd fun x hx => (mem_wclL hm hw).2 (h.eq x hx)
theorem BfsI.all (hm : Mv n f g fi gi) (hw : WordOk n w) (h : BfsI f g fi gi w F i 0 0) (hi : F.length ≤ i) : F.length = (wclL n f g fi gi w).length :=
  Nat.le_antisymm (h.few hm hw) (nodup_le _ _ (nodup_wclL _ _ _ _ _ _) fun x hx => (h.done hm hw hi x).2 hx)
theorem BfsI.sorted (hm : Mv n f g fi gi) (hw : WordOk n w) (h : BfsI f g fi gi w F i 0 0) (hi : F.length ≤ i) {G : List (List Int)} (hs : G.Pairwise LexLt) (hG : ∀ x, x ∈ G ↔ x ∈ F) : G = wclL n f g fi gi w :=
  lex_same hs (sorted_wclL _ _ _ _ _ _) fun x => (hG x).trans (h.done hm hw hi x)
theorem mvJ_ok (hm : Mv n f g fi gi) {v : List Int} (hv : WordOk n v) {q : Nat} (hq : q + 1 < v.length) (c : Nat) : WordOk n (mvJ f g fi gi v q c) := by
  unfold mvJ
  split
  · exact hv.move hm hq
  · exact hv.move hm.inv hq
theorem length_mvJ (f g fi gi : Nat → Nat → Nat) (v : List Int) (q c : Nat) : (mvJ f g fi gi v q c).length = v.length := by
  unfold mvJ
  split <;> exact length_moveL _ _ _ _
end
end Go.Proofs.YtjfjpngajboidaaGreat


namespace Go.Proofs.YtjfjpngajboidaaGreat
set_option linter.unusedVariables false
set_option linter.unusedSimpArgs false

@[irreducible] noncomputable def dvK (L S : List (List Int)) (w : List Int) (k : Nat) : List (List Int) := divK L.length (mulN L) (mulN S) (mulN (invP L S).1) (mulN (invP L S).2) w k
@[irreducible] noncomputable def dvT (L S : List (List Int)) (w : List Int) (m : Nat) : List (List Int) := divTo L.length (mulN L) (mulN S) (mulN (invP L S).1) (mulN (invP L S).2) w m
section
variable {L S : List (List Int)}
theorem dvT_zero (w : List Int) : dvT L S w 0 = [] := by unfold dvT; exact divTo_zero _ _ _ _ _ _
theorem dvT_succ (w : List Int) (k : Nat) : dvT L S w (k + 1) = dvT L S w k ++ dvK L S w k := by unfold dvT dvK; exact divTo_succ _ _ _ _ _ _ _
theorem mem_dvK (h : SolOk L S) {w v : List Int} (hw : WordOk L.length w) {k : Nat} (hk : k ≤ w.length) : v ∈ dvK L S w k ↔ ∃ x, x ∈ clS L S w ∧ nfS L S (x.take k) = v := by
  unfold dvK
  rw [mem_divK (mvP h) hw hk, clS_def]
  constructor
  · rintro ⟨x, h1, h2⟩; exact ⟨x, h1, by rw [nfS_def]; exact h2⟩
  · rintro ⟨x, h1, h2⟩; exact ⟨x, h1, by rw [← nfS_def]; exact h2⟩
theorem sorted_dvK (w : List Int) (k : Nat) : (dvK L S w k).Pairwise LexLt := by unfold dvK; exact sorted_divK _ _ _ _ _ _ _
theorem mem_dvT {w v : List Int} {m : Nat} : v ∈ dvT L S w m ↔ ∃ k, k < m ∧ v ∈ dvK L S w k := by
  unfold dvT dvK
  exact mem_divTo
theorem begin_S (h : SolOk L S) {w x : List Int} (hw : WordOk L.length w) (hx : x ∈ clS L S w) (k : Nat) : WordOk L.length (x.take k) := by
  rw [clS_def] at hx
  exact begin_ok (mvP h) hw hx k
theorem dvK_divides (h : SolOk L S) {w v : List Int} (hw : WordOk L.length w) {k : Nat} (hk : k ≤ w.length) (hv : v ∈ dvK L S w k) : rsS L S v w ≠ [] ∧ WordOk L.length v ∧ v.length = k ∧ (clS L S v).length ≤ (clS L S w).length := by
  rw [rsS_def, clS_def, clS_def]
  unfold dvK at hv
  exact div_divides (mvP h) hw hk hv
theorem dvK_eq (h : SolOk L S) {w : List Int} (hw : WordOk L.length w) {k : Nat} (hk : k ≤ w.length) {G : List (List Int)} (hs : G.Pairwise (· < ·)) (hG : ∀ x, x ∈ G ↔ ∃ j, j < (clS L S w).length ∧ nfS L S ((row (clS L S w) j).take k) = x) : G = dvK L S w k := by
  have hlen : ∀ x, x ∈ G → x.length = k := fun x hx => by
    obtain ⟨j, hj, rfl⟩ := (hG x).1 hx
    have hm := clS_row h hw hj
    have h1 := (nfS_word h (begin_S h hw hm k)).2
    have h2 := (clS_word h hw hm).2
    rw [h1, List.length_take]
    omega
  refine lex_same (hs.imp_of_mem fun {a b} ha hb hlt => (lex_less (by rw [hlen a ha, hlen b hb])).1 hlt) (sorted_dvK _ _) fun x => ?_
  rw [hG x, mem_dvK h hw hk]
  constructor
  · rintro ⟨j, hj, e⟩; exact ⟨_, clS_row h hw hj, e⟩
  · rintro ⟨y, hy, e⟩
    obtain ⟨j, hj, rfl⟩ := List.mem_iff_getElem.1 hy
    exact ⟨j, hj, by rw [row_eq, List.getD_eq_getElem?_getD, List.getElem?_eq_getElem hj]; exact e⟩
end
def rstS (p : List Int) (l : List (List Int)) : List (List Int) := (l.filter fun x => decide (x.take p.length = p)).map (·.drop p.length)
theorem rstS_all (L S : List (List Int)) (p q : List Int) : rstS p (clS L S q) = rsS L S p q := by rw [rsS_def, clS_def]; unfold rstS restL; rfl
theorem rstS_nil (p : List Int) : rstS p [] = [] := rfl
theorem rstS_yes {p x : List Int} {l : List (List Int)} (h : x.take p.length = p) : rstS p (l ++ [x]) = rstS p l ++ [x.drop p.length] := by unfold rstS; simp [List.filter_append, h]
theorem rstS_no {p x : List Int} {l : List (List Int)} (h : x.take p.length ≠ p) : rstS p (l ++ [x]) = rstS p l := by unfold rstS; simp [List.filter_append, h]
theorem rstS_len (p : List Int) (l : List (List Int)) : (rstS p l).length ≤ l.length := by unfold rstS; rw [List.length_map]; exact List.length_filter_le _ _
@[irreducible] noncomputable def rsV (L S : List (List Int)) (p q : List Int) : List (List Int) := if dvC L S p q = 0 then rsS L S p q else []
theorem rsV_ok {L S : List (List Int)} {p q : List Int} (h : dvC L S p q = 0) : rsV L S p q = rsS L S p q := by unfold rsV; rw [if_pos h]
theorem rsV_no {L S : List (List Int)} {p q : List Int} (h : dvC L S p q ≠ 0) : rsV L S p q = [] := by unfold rsV; rw [if_neg h]
theorem dvB_rs (L S : List (List Int)) (p q : List Int) : dvB L S p q = decide (0 < (rsV L S p q).length) := by
  by_cases h : dvC L S p q = 0
  · rw [dvB_ok h, rsV_ok h]
    cases rsS L S p q with
    | nil => rfl
    | cons a r => simp
  · rw [dvB_no h, rsV_no h]; rfl
end Go.Proofs.YtjfjpngajboidaaGreat
