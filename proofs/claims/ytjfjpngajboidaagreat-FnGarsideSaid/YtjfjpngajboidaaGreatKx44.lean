/-
  slices.SortFunc at an own list of rows, whatever its length (the shelf's contract): the same rows, in order.
-/
import Derived.Shelf.SlSortCmp.Whole1
import Derived.Test.YtjfjpngajboidaaGreatKx19
import Derived.Test.YtjfjpngajboidaaGreatShS
namespace Go.Proofs.YtjfjpngajboidaaGreat
set_option linter.unusedVariables false
set_option linter.unusedSimpArgs false
open Go.RowKit Go.Sort Go.Shelf

section
variable {α : Type} [Inhabited α] {enc : α → Value}
theorem sortZ_holds {w : World} {g : Nat} {cur : Array Value} {e : TypeId} {d : List α} (hb : w.heap[g]? = some (.cells cur e (0, 0))) (ht : cur.toList.take d.length = d.map enc) : Holds enc w g 0 d.toArray := by
  intro j hj
  have hj' : j < d.length := by simpa using hj
  refine ⟨?_, by simp [World.frozen?, hb]⟩
  have h1 : (cur.toList.take d.length)[j]? = (d.map enc)[j]? := by rw [ht]
  rw [List.getElem?_take_of_lt hj'] at h1
  simp only [World.cell?, hb, Nat.zero_add]
  simp only [Option.isSome_none, Bool.false_eq_true, if_false]
  rw [← Array.getElem?_toList, h1]
  simp [hj']
theorem sortZ_heap {w : World} {g n : Nat} {os : Array Obj} {cur : Array Value} {e : TypeId} {fr : Nat × Nat} (d : Array α) (hb : w.heap[g]? = some (.cells cur e fr)) :
    (sortWorld enc w g 0 n d os).heap[g]? = some (.cells (putCells enc 0 d cur) e fr) := by
  have hg : g < w.heap.size := (Array.getElem?_eq_some_iff.1 hb).1
  unfold sortWorld
  rw [heap_grow_old _ _ (by simpa using hg)]
  simp [putRow, mapBlock, Sort.ahead, Array.getElem?_modify, hb, onCells]
theorem sortZ_grown {w : World} {g n : Nat} {os : Array Obj} (d : Array α) : w.grownBy (sortWorld enc w g 0 n d os) (some g) := by
  unfold sortWorld
  refine ⟨rfl, rfl, rfl, by simp, fun k hk hne => ?_⟩
  rw [heap_grow_old _ _ (by simpa using hk)]
  have : g ≠ k := fun e => hne (by rw [e])
  simp [putRow, mapBlock, Sort.ahead, Array.getElem?_modify, this]
theorem sortZ_take (cur : Array Value) (ts : List α) (h : ts.length ≤ cur.size) : (putCells enc 0 ts.toArray cur).toList.take ts.length = ts.map enc := by
  apply List.ext_getElem?
  intro j
  by_cases hj : j < ts.length
  · rw [List.getElem?_take_of_lt hj, Array.getElem?_toList]
    simp [putCells, hj, show j < cur.size by omega]
  · rw [List.getElem?_take_eq_none (by omega), List.getElem?_eq_none (by simp; omega)]
theorem sortZ_row {w : World} {base g cap : Nat} {e : TypeId} {d : List α} (h : w.ownsRow base e 1 (.slice (some ⟨g, 0, none⟩) d.length cap) d.length (d.map enc)) :
    Holds enc w g 0 d.toArray ∧ ∀ (ts : List α) (n : Nat) (os : Array Obj), ts.length = d.length → (sortWorld enc w g 0 n ts.toArray os).ownsRow base e 1 (.slice (some ⟨g, 0, none⟩) d.length cap) d.length (ts.map enc) := by
  rcases id h.2 with ⟨hv, _⟩ | ⟨g', cap', cur, hv, hb, hg, hnc, hm, hcs, htake⟩
  · cases hv
  · simp only [Value.slice.injEq, Option.some.injEq, Addr.mk.injEq, and_true, true_and] at hv
    obtain ⟨rfl, rfl⟩ := hv
    rw [Nat.mul_one] at htake
    refine ⟨sortZ_holds hg htake, fun ts n os hl => ⟨by simp [hl], .inr ⟨g, cap, _, rfl, hb, sortZ_heap _ hg, hnc, hm, by simp [putCells, hcs], ?_⟩⟩⟩
    rw [Nat.mul_one, ← hl]
    exact sortZ_take cur ts (by omega)
end

def RowA (lo : Nat) (D : Nat → Prop) (w : World) : Type := {a : Nat × Nat × List Int // RK lo D w (.slice (some ⟨a.1, 0, none⟩) a.2.2.length a.2.1) a.2.2}
def encA {lo : Nat} {D : Nat → Prop} {w : World} (a : RowA lo D w) : Value := .slice (some ⟨a.1.1, 0, none⟩) a.1.2.2.length a.1.2.1
def wordA {lo : Nat} {D : Nat → Prop} {w : World} (a : RowA lo D w) : List Int := a.1.2.2
def mkA {lo : Nat} {D : Nat → Prop} {w : World} (b c : Nat) (l : List Int) (h : RK lo D w (.slice (some ⟨b, 0, none⟩) l.length c) l) : RowA lo D w := ⟨(b, c, l), h⟩
theorem rowsA {lo : Nat} {D : Nat → Prop} {w : World} : ∀ (F : List (List Int)) (xs : List Value), XK lo D w xs F → ∃ d : List (RowA lo D w), d.map encA = xs ∧ d.map wordA = F := by
  intro F
  induction F with
  | nil =>
    intro xs h
    have : xs = [] := List.eq_nil_of_length_eq_zero (by rw [h.1]; rfl)
    exact ⟨[], by rw [this]; rfl, rfl⟩
  | cons l F ih =>
    intro xs h
    cases xs with
    | nil => have := h.1; simp at this
    | cons x xs =>
      have h0 := h.2 0 (by simp)
      obtain ⟨y, e, hy⟩ := h0
      have e : x = y := by simpa using e
      subst e
      have hrow : row (l :: F) 0 = l := by rw [row_eq]; rfl
      rw [hrow] at hy
      obtain ⟨d, h1, h2⟩ := ih xs ⟨by have := h.1; simpa using this, fun i hi => by
        obtain ⟨z, e1, e2⟩ := h.2 (i + 1) (by simpa using hi)
        refine ⟨z, by simpa using e1, ?_⟩
        have : row (l :: F) (i + 1) = row F i := by rw [row_eq, row_eq]; simp [List.getD]
        rwa [this] at e2⟩
      obtain ⟨-, b, c, rfl, -⟩ := id hy
      exact ⟨mkA b c l hy :: d, by rw [List.map_cons, h1]; rfl, by rw [List.map_cons, h2]; rfl⟩
theorem rowsA_back {lo : Nat} {D : Nat → Prop} {w : World} : ∀ d : List (RowA lo D w), XK lo D w (d.map encA) (d.map wordA) := by
  intro d
  refine ⟨by simp, fun i hi => ?_⟩
  have hi' : i < d.length := by simpa using hi
  refine ⟨encA d[i], by simp [hi'], ?_⟩
  have : row (d.map wordA) i = wordA d[i] := by rw [row_eq]; simp [List.getD, hi']
  rw [this]
  exact d[i].2
theorem swoA {lo : Nat} {D : Nat → Prop} {w : World} : SWO (ltOf (fun a b : RowA lo D w => cmpL (wordA a) (wordA b))) := by
  have h : ∀ a b : RowA lo D w, ltOf (fun a b : RowA lo D w => cmpL (wordA a) (wordA b)) a b = decide (wordA a < wordA b) := fun a b => by
    unfold ltOf
    rw [decide_eq_decide]
    exact cmpL_neg _ _
  refine ⟨fun x => ?_, fun x y z h1 h2 => ?_, fun x y z h1 h2 => ?_⟩
  · rw [h]; simp
  · rw [h] at *
    simp only [decide_eq_true_eq] at *
    exact less_trans h1 h2
  · rw [h] at *
    simp only [decide_eq_false_iff_not] at *
    intro h3
    rcases less_tri (wordA x) (wordA y) with h4 | h4 | h4
    · exact h1 h4
    · exact h2 (by rw [← h4]; exact h3)
    · exact h2 (less_trans h4 h3)
theorem callCompareZ (args : Array Value) (w : World) : (callFunc 39 args).run Tryz.prog w = .ok (.enter 39 args) w :=
  callFunc_enter Tryz.func39 (by kernel_rfl) rfl args w
theorem pairwise_of {α : Type} [Inhabited α] {lt : α → α → Bool} {d : Array α} (h : SortedIn lt 0 d.size d) : d.toList.Pairwise fun a b => lt b a = false := by
  rw [List.pairwise_iff_getElem]
  intro i j hi hj hij
  have h1 := h i j (Nat.zero_le _) hij (by simpa using hj)
  have e1 : d[i]! = d.toList[i] := by simp [getElem!_pos d i (by simpa using hi)]
  have e2 : d[j]! = d.toList[j] := by simp [getElem!_pos d j (by simpa using hj)]
  rwa [e1, e2] at h1

set_option maxHeartbeats 1000000 in
theorem sortRows_any (e lo : Nat) (D : Nat → Prop) (g c : Nat) (xs : List Value) (F : List (List Int)) (w : World) (h : MineK e lo D w g c xs F) (hp : 0 < F.length) (hl : F.length ≤ 1048576) :
    Calls Tryz.prog 38 #[.slice (some ⟨g, 0, none⟩) F.length c, .func (.func 39) #[] #[]] w fun e' w' => e' = .returned (.tuple #[]) ∧ ∃ ys G, G.Perm F ∧ G.Pairwise (fun a b => ¬ b < a) ∧ G.length = F.length ∧ MineK e lo D w' g c ys G ∧ w.grownBy w' (some g) := by
  obtain ⟨d, hd1, hd2⟩ := rowsA F xs h.rows
  have hdl : d.length = F.length := by rw [← hd2]; simp
  obtain ⟨a0, ha0⟩ : ∃ a, a ∈ d := List.exists_mem_of_length_pos (by omega)
  haveI : Inhabited (RowA lo (fun b => b = g ∨ D b) w) := ⟨a0⟩
  have hrow := h.own
  rw [← hd1, ← hdl] at hrow
  obtain ⟨hH, hback⟩ := sortZ_row (enc := encA) hrow
  have hg := h.at_g.2
  have hcmp : CmpLays1 Tryz.prog 39 #[] encA (fun a b : RowA lo (fun b => b = g ∨ D b) w => cmpL (wordA a) (wordA b)) g 0 d.toArray.size w := by
    intro m os dk hs x y
    have hgr := sortZ_grown (enc := encA) (w := w) (g := g) (n := m) (os := os) dk
    have hx := (x.2.grown hgr (.inl rfl)).ints
    have hy := (y.2.grown hgr (.inl rfl)).ints
    refine (slicesCompare_any _ _ _ _ _ hx hy).mono ?_
    rintro e' w' ⟨rfl, rfl⟩
    exact ⟨rfl, 0, #[], by rw [grow_empty]; rfl⟩
  have hcon := Any.slices_SortFunc sh_sortW encA (fun _ => rfl) (fun a b : RowA lo (fun b => b = g ∨ D b) w => cmpL (wordA a) (wordA b)) swoA 39 #[] g 0 c d.toArray w callCompareZ hcmp hH hg (by simp; omega)
  have hsz : d.toArray.size = F.length := by simp [hdl]
  rw [hsz] at hcon
  refine Calls.mono hcon ?_
  rintro e' w' ⟨rfl, d', n, os, hP, hS, rfl⟩
  refine ⟨rfl, d'.toList.map encA, d'.toList.map wordA, ?_, ?_, ?_, ⟨?_, ?_⟩, sortZ_grown d'⟩
  · obtain ⟨p1, -, p3⟩ := hP
    have q1 : (d'.extract 0 F.length).toList = d'.toList := by
      rw [← hsz, ← p1]; simp
    have q2 : (d.toArray.extract 0 F.length).toList = d := by
      rw [← hsz]; simp
    rw [q1, q2] at p3
    rw [← hd2]
    exact p3.map wordA
  · rw [List.pairwise_map]
    have hsd : d'.size = F.length := by rw [hP.1, hsz]
    rw [← hsd] at hS
    refine (pairwise_of hS).imp fun {a b} k => ?_
    unfold ltOf at k
    simp only [decide_eq_false_iff_not] at k
    exact fun q => k ((cmpL_neg _ _).2 q)
  · have := hP.1; simp at this; simp; omega
  · have hl2 : d'.toList.length = d.length := by have := hP.1; simp at this; simp; omega
    have := hback d'.toList n os hl2
    rw [hdl] at this
    simpa [hP.1, hdl] using this
  · exact (rowsA_back d'.toList).imp fun _ _ q => q.grown (sortZ_grown d') (.inl rfl)
end Go.Proofs.YtjfjpngajboidaaGreat
