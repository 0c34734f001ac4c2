/-
  Contract of tableBy: the table of the values of a function.
-/
import Derived.Deep.DeepCutAuto
import Derived.Deep.RegionWith
import Derived.Test.YthlafeefjonkdaaGreatDoorJx2
namespace Go.Proofs.YthlafeefjonkdaaGreatDoor
set_option linter.unusedVariables false
set_option linter.unusedSimpArgs false
open Go.RowKit

@[irreducible] def mkT (n : Nat) (f : Nat → Nat → Int) : List (List Int) := (List.range n).map fun x => (List.range n).map fun y => f x y
theorem length_mkT (n : Nat) (f : Nat → Nat → Int) : (mkT n f).length = n := by unfold mkT; simp
@[irreducible] def partRow (f : Nat → Nat → Int) (n x j : Nat) : List Int := (List.range n).map fun y => if y < j then f x y else 0
theorem length_partRow (f : Nat → Nat → Int) (n x j : Nat) : (partRow f n x j).length = n := by unfold partRow; simp
theorem ix_partRow (f : Nat → Nat → Int) (n x j y : Nat) (h : y < n) : ix (partRow f n x j) y = if y < j then f x y else 0 := by
  rw [ix_eq]; unfold partRow; simp [List.getD, h]
theorem row_mkT (n : Nat) (f : Nat → Nat → Int) (x : Nat) (h : x < n) : row (mkT n f) x = partRow f n x n := by
  apply ix_ext
  · rw [length_partRow, row_eq]; unfold mkT; simp [List.getD, h]
  · intro y hy
    have hy' : y < n := by rw [row_eq] at hy; unfold mkT at hy; simpa [List.getD, h] using hy
    rw [ix_partRow _ _ _ _ _ hy', if_pos hy', ix_eq, row_eq]; unfold mkT; simp [List.getD, h, hy']
theorem ent_mkT (n : Nat) (f : Nat → Nat → Int) (x y : Nat) (hx : x < n) (hy : y < n) : ent (mkT n f) x y = f x y := by
  rw [← ent_def, row_mkT _ _ _ hx, ix_partRow _ _ _ _ _ hy, if_pos hy]
theorem small_mkT {n : Nat} (hn : n ≤ 1048576) (f : Nat → Nat → Int) : Small (mkT n f) := ⟨by rw [length_mkT]; exact hn, fun i => by
  by_cases h : i < n
  · rw [row_mkT _ _ _ h, length_partRow]; exact hn
  · rw [row_eq]; unfold mkT; simp [List.getD, h]⟩

def making (f : Nat → Nat → Int) (n k j : Nat) (i : Nat) : List Int := if i = k then partRow f n k j else partRow f n i n

theorem making_other (f : Nat → Nat → Int) (n k j i : Nat) (h : i ≠ k) : making f n k j i = partRow f n i n := by unfold making; rw [if_neg h]
theorem making_own (f : Nat → Nat → Int) (n k j : Nat) : making f n k j k = partRow f n k j := by unfold making; rw [if_pos rfl]
theorem making_all (f : Nat → Nat → Int) (n k i : Nat) : making f n k n i = partRow f n i n := by
  unfold making
  by_cases h : i = k
  · subst h; rw [if_pos rfl]
  · rw [if_neg h]
set_option maxRecDepth 100000 in
theorem tableBy_any (n : Nat) (f : Nat → Nat → Int) (F : Nat) (cap : Array Value) (w : World) (hn : n ≤ 1048576)
    (hcall : ∀ (args : Array Value) (w : World), (callFunc F args).run Tryz.prog w = .ok (.enter F args) w)
    (hf : ∀ w1 x y, Ext w w1 → x < n → y < n → Calls Tryz.prog F (#[.int .i64 (x : Nat), .int .i64 (y : Nat)] ++ cap) w1 fun e w' => e = .returned (.int .i64 (f x y)) ∧ Ext w1 w') :
    Calls Tryz.prog 85 #[.int .i64 n, .func (.func F) #[] cap] w (NewT (mkT n f) w) := by
  have HF := Lib.hid hf
  clear hf
  have hmk := run_make_row' (P := Tryz.prog) 24 29 (.slice none 0 0) 24 Tryz.underlying24 infoSl rfl .i64 .i64 n (by omega) (by omega)
  go_enter Tryz.func85, Tryz.ntmps85
  go_wp2_with fail
  clear hmk
  have hx0 : Ext w (w.alloc (.cells (madeCells #[Value.slice none 0 0] n) 29)) := (Ext.refl _).alloc _
  have hr0 := World.rowIs_made w (.slice none 0 0) n 29
  go_loopw [12] (fun i wr => ∃ k : Nat, k ≤ n ∧ i = .int .i64 k ∧ Build wr w.heap.size 29 n k (fun i => partRow f n i n) ∧ Ext w wr) (fun i _ => n - (intOf i).toNat)
  case atStart => exact ⟨0, Nat.zero_le _, rfl, Build.zero _ hr0, hx0⟩
  case round =>
    clear hx0 hr0
    obtain ⟨k, hk, rfl, hb, hx⟩ := hrel
    by_cases hlt : k < n
    case neg =>
      go_wp2
      go_ret
      exact ⟨w.heap.size, n, by rw [length_mkT]; rfl, hb.done (fun i hi => (row_mkT _ _ _ (by rw [length_mkT] at hi; exact hi)).symm) (by rw [length_mkT]; omega) (by rw [length_mkT]; omega) (Nat.le_refl _) (Nat.le_refl _), hx⟩
    case pos =>
      have hmk := run_make_row' (P := Tryz.prog) 29 2 (.int .i64 0) 8 Tryz.underlying29 infoInt rfl .i64 .i64 n (by omega) (by omega)
      have hlb := hb.lt
      have e1 := hb.cell hlt (Nat.le_refl _)
      have e2 := hb.frozen k
      go_wp2
      clear hmk e1 e2
      obtain ⟨w2, rfl⟩ : ∃ w2 : World, w2 = wr := ⟨_, rfl⟩
      have hxa : Ext w2 (w2.alloc (.cells (madeCells #[Value.int .i64 0] n) 2)) := (Ext.refl _).alloc _
      have hra := World.rowIs_made w2 (.int .i64 0) n 2
      have hb0 : Build ((w2.alloc (.cells (madeCells #[Value.int .i64 0] n) 2)).setCell ⟨w.heap.size, k, none⟩ (.slice (some ⟨w2.heap.size, 0, none⟩) n n)) w.heap.size 29 n (k + 1) (making f n k 0) :=
        (hb.congr (fun i hi => (making_other f n k 0 i (by omega)).symm)).succ hxa (by
          rw [making_own]
          exact ownI_of_row hra (by rw [length_partRow]; exact Nat.le_refl _) (fun i hi => by rw [ix_partRow _ _ _ _ _ (by rw [length_partRow] at hi; exact hi)]; rfl) (Nat.le_refl _) hra.lt) (by rw [making_own, length_partRow])
      have hc0 : ((w2.alloc (.cells (madeCells #[Value.int .i64 0] n) 2)).setCell ⟨w.heap.size, k, none⟩ (.slice (some ⟨w2.heap.size, 0, none⟩) n n)).cell? ⟨w.heap.size, k, none⟩ = some (.slice (some ⟨w2.heap.size, 0, none⟩) n n) :=
        World.cell?_setCell_same _ _ _ (hxa.cell (hb.cell hlt (Nat.le_refl _)))
      have hx0 : Ext w ((w2.alloc (.cells (madeCells #[Value.int .i64 0] n) 2)).setCell ⟨w.heap.size, k, none⟩ (.slice (some ⟨w2.heap.size, 0, none⟩) n n)) := (hx.trans hxa).setNew (Nat.le_refl _) _
      rw [World.setCell_alloc_past _ _ _ _ hlb] at hb0 hc0 hx0
      clear hxa hra hb hx
      go_loopw [25] (fun i wr => ∃ j : Nat, j ≤ n ∧ i = .int .i64 j ∧ Build wr w.heap.size 29 n (k + 1) (making f n k j) ∧ wr.cell? ⟨w.heap.size, k, none⟩ = some (.slice (some ⟨w2.heap.size, 0, none⟩) n n) ∧ Ext w wr) (fun i _ => n - (intOf i).toNat)
      case atStart => exact ⟨0, Nat.zero_le _, rfl, hb0, hc0, hx0⟩
      case round =>
        clear hb0 hc0 hx0
        obtain ⟨j, hj, rfl, hb, hc, hx⟩ := hrel
        by_cases hjl : j < n
        case neg =>
          go_wp2
          go_roundw
          case rel => exact ⟨k + 1, by omega, by go_num, hb.congr (fun i _ => by
            have : j = n := by omega
            subst this
            exact making_all f j k i), hx⟩
          case measure => simp [intOf]; omega
        case pos =>
          have hlen : (making f n k j k).length = n := by rw [making_own, length_partRow]
          go_wp2
          obtain ⟨b1, c1, hrc, hro⟩ := hb.row (k0 := k) (by omega) hlt
          rw [hc, hlen] at hrc
          simp only [Option.some.injEq, Value.slice.injEq, Addr.mk.injEq, and_true, true_and] at hrc
          obtain ⟨rfl, rfl⟩ := hrc
          have r1 := hro.2.2.1 j (by rw [hlen]; exact hjl)
          have r2 := hro.2.2.2 j (by rw [hlen]; exact hjl)
          have r3 := hro.2.1
          rw [Nat.zero_add] at r1 r2
          generalize ix (making f n k j k) j = z at r1
          clear hro
          have HL := Lib.hid hlen
          clear hlen
          go_region_with (refine (HF.out _ k j hx.drew hlt hjl).mono ?_; rintro e w3 ⟨rfl, hx3⟩; have d0 := hx3.cell (show wr.drew.cell? _ = some _ from hc); have d1 := hx3.cell (show wr.drew.cell? _ = some _ from r1); have d2 := hx3.free (show wr.drew.frozen? _ = false from r2) r3)
          all_goals
            go_wp2
            go_roundw
            case rel => exact ⟨j + 1, by omega, by go_num, hb.store (k0 := k) (by omega) hlt (by rw [HL.out]; exact hc) ((Ext.drew (Ext.refl _)).trans hx3) j _ (by rw [HL.out]; exact hjl) (fun i hi => by rw [making_other _ _ _ _ _ hi, making_other _ _ _ _ _ hi]) (by rw [making_own, making_own, length_partRow, length_partRow]) (fun i hi hi2 => by
                rw [HL.out] at hi2
                rw [making_own, making_own, ix_partRow _ _ _ _ _ hi2, ix_partRow _ _ _ _ _ hi2]
                by_cases h : i < j
                · rw [if_pos h, if_pos (by omega)]
                · rw [if_neg h, if_neg (by omega)]) (by rw [making_own, ix_partRow _ _ _ _ _ hjl, if_pos (by omega)]), by rw [World.cell?_setCell_other _ _ _ _ (fun h => by have := congrArg Addr.block h; simp only [] at this; omega)]; exact d0, ((hx.drew).trans hx3).setNew (by simp only []; omega) _⟩
            case measure => simp [intOf]; omega
end Go.Proofs.YthlafeefjonkdaaGreatDoor


namespace Go.Proofs.YthlafeefjonkdaaGreatDoor
set_option linter.unusedVariables false
set_option linter.unusedSimpArgs false

@[irreducible] def tab (ts : List (List (List Int))) (k : Nat) : List (List Int) := ts.getD k []
theorem tab_eq (ts : List (List (List Int))) (k : Nat) : tab ts k = ts.getD k [] := by unfold tab; rfl
theorem tab_one (t : List (List Int)) : tab [t] 0 = t := by rw [tab_eq]; rfl
theorem tab_two0 (t u : List (List Int)) : tab [t, u] 0 = t := by rw [tab_eq]; rfl
theorem tab_two1 (t u : List (List Int)) : tab [t, u] 1 = u := by rw [tab_eq]; rfl
def TabsOk (n : Nat) (ts : List (List (List Int))) : Prop := ∀ k, k < ts.length → TableOk (tab ts k) ∧ (tab ts k).length = n
theorem TabsOk.bd {n : Nat} {ts : List (List (List Int))} (h : TabsOk n ts) {k x y : Nat} (hk : k < ts.length) (hx : x < n) (hy : y < n) : 0 ≤ ent (tab ts k) x y ∧ (ent (tab ts k) x y).toNat < n := by
  obtain ⟨h1, h2⟩ := h k hk
  have := h1.bd (x := x) (y := y) (by omega) (by omega)
  omega
theorem TabsOk.one {t : List (List Int)} (h : TableOk t) : TabsOk t.length [t] := fun k hk => by
  have : k = 0 := by simpa using hk
  subst this
  rw [tab_one]; exact ⟨h, rfl⟩
theorem TabsOk.two {t u : List (List Int)} (h : TableOk t) (h2 : TableOk u) (hl : u.length = t.length) : TabsOk t.length [t, u] := fun k hk => by
  have : k = 0 ∨ k = 1 := by have := hk; simp at this; omega
  rcases this with rfl | rfl
  · rw [tab_two0]; exact ⟨h, rfl⟩
  · rw [tab_two1]; exact ⟨h2, hl⟩

def IsoOk (n : Nat) (az bz : List (List (List Int))) (p : List Int) : Prop :=
  p.length = n ∧ PermOk p ∧ ∀ k, k < az.length → ∀ x, x < n → ∀ y, y < n → ix p (ent (tab az k) x y).toNat = ent (tab bz k) (ix p x).toNat (ix p y).toNat
theorem IsoOk.bd {n : Nat} {az bz : List (List (List Int))} {p : List Int} (h : IsoOk n az bz p) {x : Nat} (hx : x < n) : 0 ≤ ix p x ∧ (ix p x).toNat < n := by
  obtain ⟨h1, ⟨h2, _⟩, _⟩ := h
  have := h2 x (by omega)
  omega
theorem IsoOk.inj {n : Nat} {az bz : List (List (List Int))} {p : List Int} (h : IsoOk n az bz p) {x y : Nat} (hx : x < n) (hy : y < n) (e : ix p x = ix p y) : x = y := by
  obtain ⟨h1, ⟨_, h2⟩, _⟩ := h
  rcases Nat.lt_trichotomy x y with g | g | g
  · exact absurd e (h2 y (by omega) x g)
  · exact g
  · exact absurd e.symm (h2 x (by omega) y g)
theorem IsoOk.surj {n : Nat} {az bz : List (List (List Int))} {p : List Int} (h : IsoOk n az bz p) {y : Nat} (hy : y < n) : ∃ x, x < n ∧ ix p x = (y : Int) := by
  obtain ⟨h1, h2, _⟩ := h
  have := (permOk_iff_has p).1 h2 y (by omega)
  rcases indexOf_spec p y with ⟨e, _⟩ | ⟨i, hi, _, e, _⟩
  · omega
  · exact ⟨i, by omega, e⟩

def allL (n : Nat) : Nat → List (List Int)
  | 0 => [[]]
  | m + 1 => (intRange n).flatMap fun v => (allL n m).map (v :: ·)
theorem mem_allL (n : Nat) : ∀ (m : Nat) (p : List Int), p ∈ allL n m ↔ p.length = m ∧ ∀ i, i < m → 0 ≤ ix p i ∧ ix p i < n
  | 0, p => by
    unfold allL
    rw [List.mem_singleton]
    constructor
    · rintro rfl; exact ⟨rfl, fun i hi => by omega⟩
    · rintro ⟨h, _⟩; exact List.length_eq_zero_iff.1 h
  | m + 1, p => by
    unfold allL
    rw [List.mem_flatMap]
    constructor
    · rintro ⟨v, hv, hp⟩
      rw [List.mem_map] at hp
      obtain ⟨q, hq, rfl⟩ := hp
      obtain ⟨h1, h2⟩ := (mem_allL n m q).1 hq
      refine ⟨by simp [h1], fun i hi => ?_⟩
      cases i with
      | zero => rw [ix_eq]; simpa using mem_intRange.1 hv
      | succ i =>
        have := h2 i (by omega)
        rw [ix_eq] at this ⊢
        simpa using this
    · rintro ⟨h1, h2⟩
      cases p with
      | nil => simp at h1
      | cons v q =>
        refine ⟨v, ?_, ?_⟩
        · have := h2 0 (by omega)
          rw [ix_eq] at this
          exact mem_intRange.2 (by simpa using this)
        · rw [List.mem_map]
          refine ⟨q, (mem_allL n m q).2 ⟨by simpa using h1, fun i hi => ?_⟩, rfl⟩
          have := h2 (i + 1) (by omega)
          rw [ix_eq] at this ⊢
          simpa using this
def LexLt (p q : List Int) : Prop := ∃ d, (∀ i, i < d → ix p i = ix q i) ∧ ix p d < ix q d
theorem sorted_allL (n : Nat) : ∀ m, (allL n m).Pairwise LexLt
  | 0 => by unfold allL; exact List.pairwise_singleton _ _
  | m + 1 => by
    unfold allL
    rw [List.pairwise_flatMap]
    refine ⟨fun v _ => ?_, ?_⟩
    · rw [List.pairwise_map]
      refine (sorted_allL n m).imp ?_
      rintro p q ⟨d, h1, h2⟩
      refine ⟨d + 1, fun i hi => ?_, ?_⟩
      · cases i with
        | zero => rw [ix_eq, ix_eq]; rfl
        | succ i =>
          have := h1 i (by omega)
          rw [ix_eq, ix_eq] at this ⊢
          simpa using this
      · rw [ix_eq, ix_eq] at h2 ⊢
        simpa using h2
    · unfold intRange
      rw [List.pairwise_map]
      refine List.pairwise_lt_range.imp ?_
      intro a b hab x hx y hy
      rw [List.mem_map] at hx hy
      obtain ⟨p, _, rfl⟩ := hx
      obtain ⟨q, _, rfl⟩ := hy
      refine ⟨0, fun i hi => by omega, ?_⟩
      rw [ix_eq, ix_eq]
      simpa using hab

open Classical in
@[irreducible] noncomputable def isoL (n : Nat) (az bz : List (List (List Int))) : List (List Int) := (allL n n).filter fun p => decide (IsoOk n az bz p)
theorem mem_isoL {n : Nat} {az bz : List (List (List Int))} {p : List Int} : p ∈ isoL n az bz ↔ IsoOk n az bz p := by
  unfold isoL
  rw [List.mem_filter, mem_allL]
  constructor
  · rintro ⟨_, h⟩; simpa using h
  · intro h
    refine ⟨⟨h.1, fun i hi => ?_⟩, by simpa using h⟩
    have := h.bd hi
    omega
theorem sorted_isoL (n : Nat) (az bz : List (List (List Int))) : (isoL n az bz).Pairwise LexLt := by
  unfold isoL
  exact (sorted_allL n n).filter _

def ExtP (f p : List Int) : Prop := ∀ i, i < f.length → 0 ≤ ix f i → ix p i = ix f i
open Classical in
@[irreducible] noncomputable def extL (n : Nat) (az bz : List (List (List Int))) (f : List Int) : List (List Int) := (isoL n az bz).filter fun p => decide (ExtP f p)
theorem mem_extL {n : Nat} {az bz : List (List (List Int))} {f p : List Int} : p ∈ extL n az bz f ↔ IsoOk n az bz p ∧ ExtP f p := by
  unfold extL
  rw [List.mem_filter, mem_isoL]
  simp
theorem sorted_extL (n : Nat) (az bz : List (List (List Int))) (f : List Int) : (extL n az bz f).Pairwise LexLt := by
  unfold extL
  exact (sorted_isoL n az bz).filter _
theorem extL_nil {n : Nat} {az bz : List (List (List Int))} {f : List Int} (h : ∀ p, IsoOk n az bz p → ¬ ExtP f p) : extL n az bz f = [] := by
  rw [List.eq_nil_iff_forall_not_mem]
  intro p hp
  obtain ⟨h1, h2⟩ := mem_extL.1 hp
  exact h p h1 h2
theorem extL_all {n : Nat} {az bz : List (List (List Int))} {f : List Int} (h : ∀ p, IsoOk n az bz p → ExtP f p) : extL n az bz f = isoL n az bz := by
  unfold extL
  rw [List.filter_eq_self]
  intro p hp
  have := h p (mem_isoL.1 hp)
  simpa using this
theorem LexLt.irrefl (p : List Int) : ¬ LexLt p p := by
  rintro ⟨d, _, h⟩; omega
theorem nodup_extL (n : Nat) (az bz : List (List (List Int))) (f : List Int) : (extL n az bz f).Nodup := by
  rw [List.nodup_iff_pairwise_ne]
  refine (sorted_extL n az bz f).imp ?_
  intro a b h e
  subst e
  exact h.irrefl
theorem extL_one {n : Nat} {az bz : List (List (List Int))} {f : List Int} (h : IsoOk n az bz f) : extL n az bz f = [f] := by
  have hm : f ∈ extL n az bz f := mem_extL.2 ⟨h, fun _ _ _ => rfl⟩
  have hu : ∀ p, p ∈ extL n az bz f → p = f := fun p hp => by
    obtain ⟨h1, h2⟩ := mem_extL.1 hp
    refine ix_ext (by rw [h1.1, h.1]) fun i hi => h2 i (by rw [h.1, ← h1.1]; exact hi) (h.bd (by rw [← h1.1]; exact hi)).1
  have hn := nodup_extL n az bz f
  generalize extL n az bz f = L at hm hu hn
  rcases L with _ | ⟨x, _ | ⟨y, r⟩⟩
  · simp at hm
  · rw [hu x (by simp)]
  · have e1 := hu x (by simp)
    have e2 := hu y (by simp)
    rw [e1, e2] at hn
    simp at hn

@[irreducible] def below (M : List (List Int)) (x k : Nat) : List (List Int) := M.filter fun p => decide (ix p x < (k : Int))
theorem below_zero {M : List (List Int)} {x : Nat} (h : ∀ p, p ∈ M → 0 ≤ ix p x) : below M x 0 = [] := by
  unfold below
  rw [List.filter_eq_nil_iff]
  intro p hp
  have := h p hp
  simp; omega
theorem below_all {M : List (List Int)} {x n : Nat} (h : ∀ p, p ∈ M → ix p x < (n : Int)) : below M x n = M := by
  unfold below
  rw [List.filter_eq_self]
  intro p hp
  have := h p hp
  simpa using this
theorem below_succ {M : List (List Int)} {x : Nat} (k : Nat) (h : M.Pairwise fun p q => ix p x ≤ ix q x) : below M x (k + 1) = below M x k ++ M.filter fun p => decide (ix p x = (k : Int)) := by
  unfold below
  induction M with
  | nil => rfl
  | cons a M ih =>
    rw [List.pairwise_cons] at h
    have ih := ih h.2
    rcases Int.lt_trichotomy (ix a x) (k : Int) with g | g | g
    · rw [List.filter_cons_of_pos (by simp; omega), List.filter_cons_of_pos (by simpa using g), List.filter_cons_of_neg (by simp; omega), ih]; rfl
    · rw [List.filter_cons_of_pos (by simp; omega), List.filter_cons_of_neg (by simp; omega), List.filter_cons_of_pos (by simpa using g), ih]
      have : M.filter (fun p => decide (ix p x < (k : Int))) = [] := by
        rw [List.filter_eq_nil_iff]
        intro p hp
        have := h.1 p hp
        simp; omega
      rw [this]; rfl
    · have e1 : M.filter (fun p => decide (ix p x < ((k + 1 : Nat) : Int))) = [] := by
        rw [List.filter_eq_nil_iff]
        intro p hp
        have := h.1 p hp
        simp; omega
      rw [e1] at ih
      rw [List.filter_cons_of_neg (by simp; omega), List.filter_cons_of_neg (by simp; omega), List.filter_cons_of_neg (by simp; omega), e1, ← ih]
theorem extL_le {n : Nat} {az bz : List (List (List Int))} {f : List Int} {x : Nat} (hx : x ≤ f.length) (hf : ∀ i, i < x → 0 ≤ ix f i) : (extL n az bz f).Pairwise fun p q => ix p x ≤ ix q x := by
  have h := sorted_extL n az bz f
  rw [List.pairwise_iff_forall_sublist] at h ⊢
  intro p q hs
  obtain ⟨d, h1, h2⟩ := h hs
  have hp := (mem_extL.1 (hs.subset (show p ∈ [p, q] by simp))).2
  have hq := (mem_extL.1 (hs.subset (show q ∈ [p, q] by simp))).2
  rcases Nat.lt_trichotomy d x with g | g | g
  · have a1 := hp d (by omega) (hf d g)
    have a2 := hq d (by omega) (hf d g)
    omega
  · subst g; omega
  · have := h1 x g
    omega
theorem extL_at {n : Nat} {az bz : List (List (List Int))} {f g : List Int} {x : Nat} {v : Int} (h : ∀ p, IsoOk n az bz p → ((ExtP f p ∧ ix p x = v) ↔ ExtP g p)) : ((extL n az bz f).filter fun p => decide (ix p x = v)) = extL n az bz g := by
  unfold extL
  rw [List.filter_filter]
  refine List.filter_congr fun p hp => ?_
  have := h p (mem_isoL.1 hp)
  by_cases hg : ExtP g p
  · have := this.2 hg; simp [hg, this.1, this.2]
  · by_cases h1 : ix p x = v
    · have : ¬ ExtP f p := fun hf => hg (this.1 ⟨hf, h1⟩)
      simp [hg, h1, this]
    · simp [hg, h1]
theorem ix_app {f g : List Int} {i : Nat} (h : i < f.length) : ix (f ++ g) i = ix f i := by
  rw [ix_eq, ix_eq]; simp [List.getD, List.getElem?_append_left h]
theorem ix_snoc (f : List Int) (v : Int) : ix (f ++ [v]) f.length = v := by rw [ix_eq]; simp
theorem extP_snoc {f p : List Int} {v : Int} (hv : 0 ≤ v) : (ExtP f p ∧ ix p f.length = v) ↔ ExtP (f ++ [v]) p := by
  constructor
  · rintro ⟨h1, h2⟩ i hi h0
    rcases Nat.lt_or_ge i f.length with g | g
    · rw [ix_app g] at h0 ⊢
      exact h1 i g h0
    · have : i = f.length := by simp at hi; omega
      subst this
      rw [h2, ix_snoc]
  · intro h
    refine ⟨fun i hi h0 => ?_, ?_⟩
    · have e : ix (f ++ [v]) i = ix f i := ix_app hi
      have := h i (by simp; omega) (by rw [e]; exact h0)
      rw [this, e]
    · have e : ix (f ++ [v]) f.length = v := ix_snoc _ _
      have := h f.length (by simp) (by rw [e]; exact hv)
      rw [this, e]
end Go.Proofs.YthlafeefjonkdaaGreatDoor


namespace Go.Proofs.YthlafeefjonkdaaGreatDoor
set_option linter.unusedVariables false
set_option linter.unusedSimpArgs false

/-! ### the order of lists -/
@[irreducible] def lessB (l m : List Int) : Bool := decide (l < m)
theorem lessB_iff {l m : List Int} : lessB l m = true ↔ l < m := by unfold lessB; simp
theorem lessB_no {l m : List Int} : lessB l m = false ↔ ¬ l < m := by unfold lessB; simp
theorem lessB_at (l m : List Int) (i : Nat) (hl : i < l.length) (hm : i < m.length) : lessB (l.drop i) (m.drop i) = if ix l i = ix m i then lessB (l.drop (i + 1)) (m.drop (i + 1)) else decide (ix l i < ix m i) := by
  rw [drop_cons l i hl, drop_cons m i hm]
  unfold lessB
  by_cases h : ix l i = ix m i
  · rw [if_pos h]
    simp [List.cons_lt_cons_iff, h]
  · rw [if_neg h]
    simp [List.cons_lt_cons_iff, h]
theorem lessB_end (l m : List Int) (i : Nat) (hl : i ≤ l.length) (hm : i ≤ m.length) (h : ¬ (i < l.length ∧ i < m.length)) : lessB (l.drop i) (m.drop i) = decide (l.length < m.length) := by
  unfold lessB
  by_cases h1 : i < l.length
  · have : m.drop i = [] := List.drop_of_length_le (by omega)
    rw [this]
    have h2 : ¬ l.length < m.length := by omega
    simp [h2]
  · have : l.drop i = [] := List.drop_of_length_le (by omega)
    rw [this]
    by_cases h2 : i < m.length
    · rw [drop_cons m i h2]
      have h3 : l.length < m.length := by omega
      simp [h3]
    · have : m.drop i = [] := List.drop_of_length_le (by omega)
      rw [this]
      have h3 : ¬ l.length < m.length := by omega
      simp [h3]
theorem less_irrefl (l : List Int) : ¬ l < l := List.lt_irrefl l
theorem less_trans {a b c : List Int} (h : a < b) (k : b < c) : a < c := List.lt_trans h k
theorem less_tri : ∀ (a b : List Int), a < b ∨ a = b ∨ b < a
  | [], [] => .inr (.inl rfl)
  | [], _ :: _ => .inl (by simp)
  | _ :: _, [] => .inr (.inr (by simp))
  | x :: r, y :: s => by
    rcases Int.lt_trichotomy x y with g | g | g
    · exact .inl (List.cons_lt_cons_iff.2 (.inl g))
    · subst g
      rcases less_tri r s with h | h | h
      · exact .inl (List.cons_lt_cons_iff.2 (.inr ⟨rfl, h⟩))
      · exact .inr (.inl (by rw [h]))
      · exact .inr (.inr (List.cons_lt_cons_iff.2 (.inr ⟨rfl, h⟩)))
    · exact .inr (.inr (List.cons_lt_cons_iff.2 (.inl g)))

/-! ### sorted lists -/
theorem sorted_unique : ∀ {l m : List Int}, l.Pairwise (· ≤ ·) → m.Pairwise (· ≤ ·) → l.Perm m → l = m
  | [], m, _, _, h => (List.Perm.nil_eq h)
  | x :: r, [], _, _, h => by have := h.length_eq; simp at this
  | x :: r, y :: s, h1, h2, h => by
    rw [List.pairwise_cons] at h1 h2
    have hx : x ∈ y :: s := (h.mem_iff).1 (by simp)
    have hy : y ∈ x :: r := (h.mem_iff).2 (by simp)
    have e : x = y := by
      have a : y ≤ x := by
        rcases List.mem_cons.1 hx with e | e
        · omega
        · exact h2.1 x e
      have b : x ≤ y := by
        rcases List.mem_cons.1 hy with e | e
        · omega
        · exact h1.1 y e
      omega
    subst e
    rw [sorted_unique h1.2 h2.2 ((List.perm_cons x).1 h)]
@[irreducible] def sortI (l : List Int) : List Int := l.mergeSort (fun a b => decide (a ≤ b))
theorem sortI_perm (l : List Int) : (sortI l).Perm l := by unfold sortI; exact List.mergeSort_perm l _
theorem sortI_sorted (l : List Int) : (sortI l).Pairwise (· ≤ ·) := by
  unfold sortI
  have := List.pairwise_mergeSort (le := fun (a b : Int) => decide (a ≤ b)) (fun a b c h1 h2 => by simp at *; omega) (fun a b => by simp; omega) l
  exact this.imp (fun h => by simpa using h)
theorem sortI_eq {l r : List Int} (hp : r.Perm l) (hs : r.Pairwise (· ≤ ·)) : r = sortI l :=
  sorted_unique hs (sortI_sorted l) (hp.trans (sortI_perm l).symm)
theorem sortI_congr {l m : List Int} (h : l.Perm m) : sortI l = sortI m := sortI_eq ((sortI_perm l).trans h) (sortI_sorted l)
theorem length_sortI (l : List Int) : (sortI l).length = l.length := (sortI_perm l).length_eq

/-! ### marks -/
@[irreducible] def ownN (u v x y : Int) : Int := (if u = y then 1 else 0) + (if v = y then 2 else 0) + (if u = x then 4 else 0) + (if v = x then 8 else 0)
theorem ownN_bd (u v x y : Int) : 0 ≤ ownN u v x y ∧ ownN u v x y ≤ 15 := by
  unfold ownN
  split <;> split <;> split <;> split <;> omega
@[irreducible] def ent1 (ts : List (List (List Int))) (c : List Int) (k x y : Nat) : Int :=
  ((ix c y * 64 + ix c (ent (tab ts k) x y).toNat) * 64 + ix c (ent (tab ts k) y x).toNat) * 16 + ownN (ent (tab ts k) x y) (ent (tab ts k) y x) x y
@[irreducible] def cntN (ts : List (List (List Int))) (k x y m : Nat) : Nat := (List.range m).countP fun z => decide (ent (tab ts k) y z = (x : Int))
theorem cntN_zero (ts : List (List (List Int))) (k x y : Nat) : cntN ts k x y 0 = 0 := by unfold cntN; simp
theorem cntN_succ (ts : List (List (List Int))) (k x y m : Nat) : cntN ts k x y (m + 1) = cntN ts k x y m + (if ent (tab ts k) y m = (x : Int) then 1 else 0) := by
  unfold cntN
  rw [List.range_succ, List.countP_append]
  congr 1
  by_cases h : ent (tab ts k) y m = (x : Int) <;> simp [h]
theorem cntN_le (ts : List (List (List Int))) (k x y m : Nat) : cntN ts k x y m ≤ m := by
  unfold cntN
  have := List.countP_le_length (p := fun z => decide (ent (tab ts k) y z = (x : Int))) (l := List.range m)
  simpa using this
@[irreducible] def ent2 (ts : List (List (List Int))) (c : List Int) (n k x y : Nat) : Int := 1099511627776 + ix c y * 64 + (cntN ts k x y n : Nat)
@[irreducible] def entL (ts : List (List (List Int))) (c : List Int) (n k x : Nat) : List Int := mkL n (ent1 ts c k x) ++ mkL n (ent2 ts c n k x)
theorem length_entL (ts : List (List (List Int))) (c : List Int) (n k x : Nat) : (entL ts c n k x).length = 2 * n := by
  unfold entL; rw [List.length_append, length_mkL, length_mkL]; omega
def markL (ts : List (List (List Int))) (c : List Int) (n x : Nat) : Nat → List Int
  | 0 => [ix c x]
  | K + 1 => markL ts c n x K ++ sortI (entL ts c n K x)
theorem length_markL (ts : List (List (List Int))) (c : List Int) (n x : Nat) : ∀ K, (markL ts c n x K).length = 1 + K * (2 * n)
  | 0 => by simp [markL]
  | K + 1 => by
    unfold markL
    rw [List.length_append, length_markL ts c n x K, length_sortI, length_entL]
    have : (K + 1) * (2 * n) = K * (2 * n) + 2 * n := Nat.succ_mul _ _
    omega
theorem markL_head (ts : List (List (List Int))) (c : List Int) (n x : Nat) : ∀ K, ix (markL ts c n x K) 0 = ix c x
  | 0 => by unfold markL; rw [ix_eq]; rfl
  | K + 1 => by
    unfold markL
    rw [ix_app (by rw [length_markL]; omega)]
    exact markL_head ts c n x K

/-! ### what isomorphisms keep -/
def Resp (n : Nat) (c d p : List Int) : Prop := ∀ x, x < n → ix c x = ix d (ix p x).toNat
theorem perm_range {n : Nat} {p : List Int} (hl : p.length = n) (hp : PermOk p) : ((List.range n).map fun i => (ix p i).toNat).Perm (List.range n) := by
  have hnd : ((List.range n).map fun i => (ix p i).toNat).Nodup := by
    rw [List.nodup_iff_pairwise_ne, List.pairwise_map]
    refine List.Pairwise.imp_of_mem (R := (· < ·)) ?_ List.pairwise_lt_range
    intro a b ha hb hab e
    rw [List.mem_range] at ha hb
    have h1 := hp.1 a (by omega)
    have h2 := hp.1 b (by omega)
    exact hp.2 b (by omega) a hab (by omega)
  rw [List.perm_ext_iff_of_nodup hnd List.nodup_range]
  intro y
  rw [List.mem_map, List.mem_range]
  constructor
  · rintro ⟨i, hi, rfl⟩
    rw [List.mem_range] at hi
    have := hp.1 i (by omega)
    omega
  · intro hy
    have := (permOk_iff_has p).1 hp y (by omega)
    rcases indexOf_spec p y with ⟨e, _⟩ | ⟨i, hi, _, e, _⟩
    · omega
    · exact ⟨i, by rw [List.mem_range]; omega, by omega⟩
theorem mkL_perm {n : Nat} {p : List Int} (hl : p.length = n) (hp : PermOk p) {f g : Nat → Int} (h : ∀ y, y < n → f y = g (ix p y).toNat) : (mkL n f).Perm (mkL n g) := by
  have e : mkL n f = ((List.range n).map fun i => (ix p i).toNat).map g := by
    unfold mkL
    rw [List.map_map]
    refine List.map_congr_left fun y hy => ?_
    rw [List.mem_range] at hy
    exact h y hy
  rw [e]
  unfold mkL
  exact (perm_range hl hp).map g
theorem cnt_iso {n : Nat} {az bz : List (List (List Int))} {p : List Int} (hA : TabsOk n az) (h : IsoOk n az bz p) {k : Nat} (hk : k < az.length) {x y : Nat} (hx : x < n) (hy : y < n) :
    cntN az k x y n = cntN bz k (ix p x).toNat (ix p y).toNat n := by
  have hr := perm_range h.1 h.2.1
  have e : cntN bz k (ix p x).toNat (ix p y).toNat n = ((List.range n).map fun i => (ix p i).toNat).countP fun z => decide (ent (tab bz k) (ix p y).toNat z = (((ix p x).toNat : Nat) : Int)) := by
    unfold cntN; exact (hr.countP_eq _).symm
  rw [e, List.countP_map]
  unfold cntN
  refine List.countP_congr fun z hz => ?_
  rw [List.mem_range] at hz
  have h1 := h.2.2 k hk y hy z hz
  have hb := hA.bd hk hy hz
  have hpx := h.bd hx
  simp only [Function.comp, decide_eq_true_eq]
  rw [← h1, Int.toNat_of_nonneg hpx.1]
  constructor
  · intro e; rw [e, Int.toNat_natCast]
  · intro e
    have := h.inj hb.2 hx e
    omega
theorem ent1_iso {n : Nat} {az bz : List (List (List Int))} {c d p : List Int} (hA : TabsOk n az) (h : IsoOk n az bz p) (hr : Resp n c d p) {k : Nat} (hk : k < az.length) {x y : Nat} (hx : x < n) (hy : y < n) :
    ent1 az c k x y = ent1 bz d k (ix p x).toNat (ix p y).toNat := by
  have h1 := h.2.2 k hk x hx y hy
  have h2 := h.2.2 k hk y hy x hx
  have b1 := hA.bd hk hx hy
  have b2 := hA.bd hk hy hx
  have px := h.bd hx
  have py := h.bd hy
  have pu := h.bd b1.2
  have pv := h.bd b2.2
  unfold ent1
  rw [← h1, ← h2, hr y hy, hr _ b1.2, hr _ b2.2]
  congr 1
  unfold ownN
  have key : ∀ {a b : Nat} {u : Int}, 0 ≤ u → u.toNat < n → b < n → (u = (b : Int) ↔ ix p u.toNat = (((ix p b).toNat : Nat) : Int)) := by
    intro a b u hu hun hb
    have pb := h.bd hb
    rw [Int.toNat_of_nonneg pb.1]
    constructor
    · intro e; rw [e, Int.toNat_natCast]
    · intro e
      have := h.inj hun hb e
      omega
  simp only [key (a := 0) b1.1 b1.2 hy, key (a := 0) b2.1 b2.2 hy, key (a := 0) b1.1 b1.2 hx, key (a := 0) b2.1 b2.2 hx]
theorem entL_iso {n : Nat} {az bz : List (List (List Int))} {c d p : List Int} (hA : TabsOk n az) (h : IsoOk n az bz p) (hr : Resp n c d p) {k : Nat} (hk : k < az.length) {x : Nat} (hx : x < n) :
    (entL az c n k x).Perm (entL bz d n k (ix p x).toNat) := by
  unfold entL
  refine List.Perm.append (mkL_perm h.1 h.2.1 fun y hy => ent1_iso hA h hr hk hx hy) (mkL_perm h.1 h.2.1 fun y hy => ?_)
  unfold ent2
  rw [hr y hy, cnt_iso hA h hk hx hy]
theorem markL_iso {n : Nat} {az bz : List (List (List Int))} {c d p : List Int} (hA : TabsOk n az) (h : IsoOk n az bz p) (hr : Resp n c d p) {x : Nat} (hx : x < n) :
    ∀ K, K ≤ az.length → markL az c n x K = markL bz d n (ix p x).toNat K
  | 0, _ => by unfold markL; rw [hr x hx]
  | K + 1, hK => by
    unfold markL
    rw [markL_iso hA h hr hx K (by omega), sortI_congr (entL_iso hA h hr (by omega) hx)]

/-! ### the kinds of marks -/
theorem sub_len {α : Type} [DecidableEq α] : ∀ {a b : List α}, a.Nodup → (∀ x, x ∈ a → x ∈ b) → a.length ≤ b.length
  | [], b, _, _ => Nat.zero_le _
  | x :: r, b, hn, hs => by
    rw [List.nodup_cons] at hn
    have hx : x ∈ b := hs x (by simp)
    have := sub_len (a := r) (b := b.erase x) hn.2 (fun y hy => by
      have hne : y ≠ x := fun e => hn.1 (e ▸ hy)
      exact (List.mem_erase_of_ne hne).2 (hs y (by simp [hy])))
    rw [List.length_erase_of_mem hx] at this
    have := List.length_pos_of_mem hx
    simp; omega
def Kinds (M K : List (List Int)) : Prop := K.Pairwise (· < ·) ∧ (∀ m, m ∈ K → m ∈ M) ∧ (∀ m, m ∈ M → m ∈ K)
theorem Kinds.nil : Kinds [] [] := ⟨List.Pairwise.nil, fun _ h => h, fun _ h => h⟩
theorem Kinds.nodup {M K : List (List Int)} (h : Kinds M K) : K.Nodup := by
  rw [List.nodup_iff_pairwise_ne]
  refine h.1.imp ?_
  intro a b hab e
  subst e
  exact less_irrefl _ hab
theorem Kinds.le {M K : List (List Int)} (h : Kinds M K) : K.length ≤ M.length := sub_len h.nodup h.2.1
theorem Kinds.skip {M K : List (List Int)} (h : Kinds M K) {i : Nat} {m : List Int} (hi : i < K.length) (he : row K i = m) : Kinds (M ++ [m]) K := by
  refine ⟨h.1, fun x hx => List.mem_append_left _ (h.2.1 x hx), fun x hx => ?_⟩
  rcases List.mem_append.1 hx with g | g
  · exact h.2.2 x g
  · have : x = m := by simpa using g
    subst this
    rw [← he, row_eq]
    simp [List.getD, hi]
theorem Kinds.insert {M K : List (List Int)} (h : Kinds M K) {i : Nat} {m : List Int} (hi : i ≤ K.length) (h1 : ∀ j, j < i → row K j < m) (h2 : i < K.length → ¬ row K i < m ∧ row K i ≠ m) :
    Kinds (M ++ [m]) (K.take i ++ ([m] ++ K.drop i)) := by
  have hsplit : K = K.take i ++ K.drop i := (List.take_append_drop i K).symm
  have hp := h.1
  rw [hsplit, List.pairwise_append] at hp
  obtain ⟨p1, p2, p3⟩ := hp
  have ht : ∀ x, x ∈ K.take i → x < m := by
    intro x hx
    obtain ⟨j, hj, rfl⟩ := List.mem_iff_getElem.1 hx
    have hj' : j < i ∧ j < K.length := by rw [List.length_take] at hj; omega
    have := h1 j hj'.1
    rw [row_eq] at this
    simpa [List.getD, hj'.2] using this
  have hd : ∀ x, x ∈ K.drop i → m < x := by
    intro x hx
    have hlt : i < K.length := by
      apply Classical.byContradiction
      intro g
      rw [List.drop_of_length_le (by omega)] at hx
      simp at hx
    obtain ⟨a, b⟩ := h2 hlt
    have hm : m < row K i := by
      rcases less_tri (row K i) m with g | g | g
      · exact absurd g a
      · exact absurd g b
      · exact g
    rw [row_drop K i hlt] at hx p2
    rw [List.pairwise_cons] at p2
    rcases List.mem_cons.1 hx with g | g
    · rw [g]; exact hm
    · exact less_trans hm (p2.1 x g)
  refine ⟨?_, ?_, ?_⟩
  · rw [List.pairwise_append]
    refine ⟨p1, ?_, ?_⟩
    · rw [List.singleton_append, List.pairwise_cons]
      exact ⟨hd, p2⟩
    · intro x hx y hy
      rw [List.singleton_append] at hy
      rcases List.mem_cons.1 hy with g | g
      · rw [g]; exact ht x hx
      · exact p3 x hx y g
  · intro x hx
    rcases List.mem_append.1 hx with g | g
    · exact List.mem_append_left _ (h.2.1 x (List.mem_of_mem_take g))
    · rw [List.singleton_append] at g
      rcases List.mem_cons.1 g with g | g
      · exact List.mem_append_right _ (by simp [g])
      · exact List.mem_append_left _ (h.2.1 x (List.mem_of_mem_drop g))
  · intro x hx
    rcases List.mem_append.1 hx with g | g
    · have := h.2.2 x g
      rw [hsplit] at this
      rcases List.mem_append.1 this with g | g
      · exact List.mem_append_left _ g
      · exact List.mem_append_right _ (List.mem_append_right _ g)
    · have : x = m := by simpa using g
      exact List.mem_append_right _ (List.mem_append_left _ (by simp [this]))
@[irreducible] def placeL (K : List (List Int)) (m : List Int) : Nat := K.findIdx (fun x => decide (x = m))
theorem placeL_lt {K : List (List Int)} {m : List Int} (h : m ∈ K) : placeL K m < K.length := by
  unfold placeL
  exact List.findIdx_lt_length_of_exists ⟨m, h, by simp⟩
theorem placeL_at {K : List (List Int)} {m : List Int} (h : m ∈ K) : row K (placeL K m) = m := by
  have hl := placeL_lt h
  rw [row_eq]
  unfold placeL at hl ⊢
  have := List.findIdx_getElem (w := hl)
  simp [List.getD, hl] at this ⊢
  exact this
theorem placeL_ahead {K : List (List Int)} {m : List Int} {j : Nat} (h : j < placeL K m) : row K j ≠ m := by
  intro e
  unfold placeL at h
  have h1 := List.not_of_lt_findIdx h
  rw [row_eq] at e
  have hj : j < K.length := Nat.lt_of_lt_of_le h (List.findIdx_le_length)
  simp [List.getD, hj] at e h1
  exact h1 e
theorem Kinds.more {M K : List (List Int)} (h : Kinds M K) {number : Nat} (hc : ∀ c : Nat, c < number → ∃ i, i < M.length ∧ ix (row M i) 0 = (c : Int)) : number ≤ K.length := by
  have := sub_len (a := intRange number) (b := K.map fun m => ix m 0) (nodup_intRange _) (fun x hx => by
    have hx' := mem_intRange.1 hx
    obtain ⟨i, hi, e⟩ := hc x.toNat (by omega)
    rw [List.mem_map]
    refine ⟨row M i, h.2.2 _ ?_, by omega⟩
    rw [row_eq]; simp [List.getD, hi])
  rw [length_intRange] at this
  simpa using this
theorem Kinds.used {M K : List (List Int)} (h : Kinds M K) {c : Nat} (hc : c < K.length) : ∃ i, i < M.length ∧ placeL K (row M i) = c := by
  have hm : row K c ∈ K := by rw [row_eq]; simp [List.getD, hc]
  obtain ⟨i, hi, e⟩ := List.mem_iff_getElem.1 (h.2.1 _ hm)
  refine ⟨i, hi, ?_⟩
  have er : row M i = row K c := by rw [row_eq]; simp [List.getD, hi, e]
  rw [er]
  have hp := placeL_at hm
  have hl := placeL_lt hm
  rcases Nat.lt_trichotomy (placeL K (row K c)) c with g | g | g
  · have hn := h.nodup
    rw [List.nodup_iff_pairwise_ne, List.pairwise_iff_getElem] at hn
    have := hn _ _ hl hc g
    have e1 : K[placeL K (row K c)] = row K (placeL K (row K c)) := by rw [row_eq K (placeL K (row K c))]; simp [List.getD, hl]
    have e2 : K[c] = row K c := by rw [row_eq]; simp [List.getD, hc]
    rw [e1, e2] at this
    exact absurd hp this
  · exact g
  · exact absurd rfl (placeL_ahead g)
end Go.Proofs.YthlafeefjonkdaaGreatDoor


namespace Go.Proofs.YthlafeefjonkdaaGreatDoor
set_option linter.unusedVariables false
set_option linter.unusedSimpArgs false

theorem isoOk_plain {n : Nat} {p : List Int} : IsoOk n [] [] p ↔ p.length = n ∧ PermOk p := by
  constructor
  · intro h; exact ⟨h.1, h.2.1⟩
  · rintro ⟨h1, h2⟩; exact ⟨h1, h2, fun k hk => by simp at hk⟩
def Falls (p : List Int) (i : Nat) : Prop := ∀ j, i ≤ j → j + 1 < p.length → ix p (j + 1) < ix p j
def Rises (p : List Int) (i : Nat) : Prop := ∀ j, i ≤ j → j + 1 < p.length → ix p j < ix p (j + 1)
theorem Falls.le {p : List Int} {i : Nat} (h : Falls p i) {a : Nat} (ha : i ≤ a) : ∀ (k : Nat), a + k < p.length → ix p (a + k) ≤ ix p a
  | 0, _ => Int.le_refl _
  | k + 1, hk => by
    have := Falls.le h ha k (by omega)
    have := h (a + k) (by omega) (by omega)
    rw [show a + (k + 1) = a + k + 1 by omega]; omega
theorem Rises.le {p : List Int} {i : Nat} (h : Rises p i) {a : Nat} (ha : i ≤ a) : ∀ (k : Nat), a + k < p.length → ix p a ≤ ix p (a + k)
  | 0, _ => Int.le_refl _
  | k + 1, hk => by
    have := Rises.le h ha k (by omega)
    have := h (a + k) (by omega) (by omega)
    rw [show a + (k + 1) = a + k + 1 by omega]; omega
theorem perm_rest {n : Nat} {p r : List Int} (hp : IsoOk n [] [] p) (hr : IsoOk n [] [] r) {d : Nat} (he : ∀ i, i < d → ix p i = ix r i) {e : Nat} (hd : d ≤ e) (hen : e < n) : ∃ j, d ≤ j ∧ j < n ∧ ix p j = ix r e := by
  obtain ⟨y, hy⟩ : ∃ y : Nat, ix r e = (y : Int) := ⟨_, (Int.toNat_of_nonneg (hr.bd hen).1).symm⟩
  obtain ⟨j, hj, e2⟩ := hp.surj (y := y) (by have := hr.bd hen; omega)
  refine ⟨j, ?_, hj, by omega⟩
  apply Classical.byContradiction
  intro hlt
  have h1 := he j (by omega)
  have := hr.inj (x := j) (y := e) (by omega) hen (by omega)
  omega
theorem lex_first {n : Nat} {p r : List Int} (hp : p.length = n) (hr : r.length = n) (h : p ≠ r) : ∃ d, d < n ∧ (∀ i, i < d → ix p i = ix r i) ∧ ix p d ≠ ix r d := by
  apply Classical.byContradiction
  intro hno
  refine h (ix_ext (by omega) fun i hi => ?_)
  have : ∀ k, k ≤ n → ∀ i, i < k → ix p i = ix r i := by
    intro k
    induction k with
    | zero => intro _ i hi; omega
    | succ k ih =>
      intro hk i hi
      by_cases e : i < k
      · exact ih (by omega) i e
      · have : i = k := by omega
        subst this
        apply Classical.byContradiction
        intro hne
        exact hno ⟨i, by omega, ih (by omega), hne⟩
  exact this n (Nat.le_refl _) i (by omega)
theorem rises_least {n : Nat} {q r : List Int} (hq : IsoOk n [] [] q) (hr : IsoOk n [] [] r) {i : Nat} (hR : Rises q i) (he : ∀ j, j < i → ix q j = ix r j) (hne : q ≠ r) : LexLt q r := by
  obtain ⟨d, hd, h1, h2⟩ := lex_first hq.1 hr.1 hne
  have hid : i ≤ d := by
    apply Classical.byContradiction
    intro h
    exact h2 (he d (by omega))
  obtain ⟨j, hj, hjn, e⟩ := perm_rest hq hr h1 (Nat.le_refl d) hd
  have := hR.le hid (j - d) (by have := hq.1; omega)
  rw [show d + (j - d) = j by omega] at this
  exact ⟨d, h1, by omega⟩
theorem falls_greatest {n : Nat} {p r : List Int} (hp : IsoOk n [] [] p) (hr : IsoOk n [] [] r) {i : Nat} (hF : Falls p i) {d : Nat} (hd : d < n) (hid : i ≤ d) (h1 : ∀ j, j < d → ix p j = ix r j) : ix r d ≤ ix p d := by
  obtain ⟨j, hj, hjn, e⟩ := perm_rest hp hr h1 (Nat.le_refl d) hd
  have := hF.le hid (j - d) (by have := hp.1; omega)
  rw [show d + (j - d) = j by omega] at this
  omega
theorem lex_lt_len {n : Nat} {p r : List Int} (hp : p.length = n) (hr : r.length = n) (h : LexLt p r) : ∃ d, d < n ∧ (∀ i, i < d → ix p i = ix r i) ∧ ix p d < ix r d := by
  obtain ⟨d, h1, h2⟩ := h
  refine ⟨d, ?_, h1, h2⟩
  apply Classical.byContradiction
  intro hn
  have e1 : ix p d = 0 := by rw [ix_eq]; simp [List.getD, show p.length ≤ d by omega]
  have e2 : ix r d = 0 := by rw [ix_eq]; simp [List.getD, show r.length ≤ d by omega]
  omega
structure NextP (n : Nat) (p q : List Int) (i : Nat) : Prop where
  hin : i < n
  falls : Falls p (i + 1)
  same : ∀ j, j < i → ix q j = ix p j
  more : ix p i < ix q i
  least : ∀ j, i < j → j < n → ix p i < ix p j → ix q i ≤ ix p j
  rises : Rises q (i + 1)
theorem next_least {n i : Nat} {p q r : List Int} (hp : IsoOk n [] [] p) (hq : IsoOk n [] [] q) (hr : IsoOk n [] [] r) (h : NextP n p q i) (hlt : LexLt p r) : q = r ∨ LexLt q r := by
  obtain ⟨d, hd, h1, h2⟩ := lex_lt_len hp.1 hr.1 hlt
  have hdi : d ≤ i := by
    apply Classical.byContradiction
    intro hn
    have := falls_greatest hp hr h.falls hd (by omega) h1
    omega
  by_cases e : d = i
  · subst e
    obtain ⟨j, hj, hjn, e⟩ := perm_rest hp hr h1 (Nat.le_refl d) hd
    have hjd : d < j := by
      apply Classical.byContradiction
      intro hn
      have : j = d := by omega
      subst this
      omega
    have := h.least j hjd hjn (by omega)
    by_cases e2 : ix q d = ix r d
    · by_cases e3 : q = r
      · exact .inl e3
      · refine .inr (rises_least hq hr h.rises (fun k hk => ?_) e3)
        by_cases e4 : k = d
        · subst e4; exact e2
        · rw [h.same k (by omega)]; exact h1 k (by omega)
    · exact .inr ⟨d, fun k hk => by rw [h.same k hk]; exact h1 k hk, by omega⟩
  · exact .inr ⟨d, fun k hk => by rw [h.same k (by omega)]; exact h1 k hk, by rw [h.same d (by omega)]; exact h2⟩
theorem LexLt.trans {p q r : List Int} (h : LexLt p q) (k : LexLt q r) : LexLt p r := by
  obtain ⟨d, h1, h2⟩ := h
  obtain ⟨e, k1, k2⟩ := k
  rcases Nat.lt_trichotomy d e with g | g | g
  · exact ⟨d, fun i hi => (h1 i hi).trans (k1 i (by omega)), by rw [← k1 d g]; exact h2⟩
  · subst g; exact ⟨d, fun i hi => (h1 i hi).trans (k1 i hi), by omega⟩
  · exact ⟨e, fun i hi => (h1 i (by omega)).trans (k1 i hi), by rw [h1 e g]; exact k2⟩
theorem sorted_next {L : List (List Int)} {pre rest : List (List Int)} {p q : List Int} (hs : L.Pairwise LexLt) (hL : L = pre ++ p :: rest) (hq : q ∈ L) (hpq : LexLt p q) (hmin : ∀ r, r ∈ L → LexLt p r → q = r ∨ LexLt q r) : ∃ rest', rest = q :: rest' := by
  subst hL
  have h2 := (List.pairwise_append.1 hs)
  have h3 := List.pairwise_cons.1 h2.2.1
  have hqr : q ∈ rest := by
    rcases List.mem_append.1 hq with h | h
    · exact absurd (hpq.trans (h2.2.2 q h p (by simp))) (LexLt.irrefl p)
    · rcases List.mem_cons.1 h with h | h
      · subst h; exact absurd hpq (LexLt.irrefl q)
      · exact h
  cases rest with
  | nil => simp at hqr
  | cons a rest =>
    rcases hmin a (by simp) (h3.1 a (by simp)) with e | e
    · subst e; exact ⟨rest, rfl⟩
    · rcases List.mem_cons.1 hqr with e2 | e2
      · subst e2; exact ⟨rest, rfl⟩
      · exact absurd (e.trans ((List.pairwise_cons.1 h3.2).1 q e2)) (LexLt.irrefl q)
theorem sorted_last {L : List (List Int)} {pre rest : List (List Int)} {p : List Int} (hs : L.Pairwise LexLt) (hL : L = pre ++ p :: rest) (hmax : ∀ r, r ∈ L → ¬ LexLt p r) : rest = [] := by
  subst hL
  cases rest with
  | nil => rfl
  | cons a rest =>
    have h2 := (List.pairwise_append.1 hs)
    exact absurd ((List.pairwise_cons.1 h2.2.1).1 a (by simp)) (hmax a (by simp))
theorem sorted_first {L : List (List Int)} {p : List Int} (hs : L.Pairwise LexLt) (hp : p ∈ L) (hmin : ∀ r, r ∈ L → p = r ∨ LexLt p r) : ∃ rest, L = p :: rest := by
  cases L with
  | nil => simp at hp
  | cons a rest =>
    have h3 := List.pairwise_cons.1 hs
    rcases hmin a (by simp) with e | e
    · subst e; exact ⟨rest, rfl⟩
    · rcases List.mem_cons.1 hp with e2 | e2
      · subst e2; exact ⟨rest, rfl⟩
      · exact absurd (e.trans (h3.1 p e2)) (LexLt.irrefl p)
def swapC (c : Nat → Int) (i k x : Nat) : Int := if x = i then c k else if x = k then c i else c x
def turnC (c : Nat → Int) (i n x : Nat) : Int := if x ≤ i then c x else c (n + i - x)
def nextC (c : Nat → Int) (i k n : Nat) : Nat → Int := turnC (swapC c i k) i n
def listC (c : Nat → Int) (n : Nat) : List Int := (List.range n).map c
theorem length_listC (c : Nat → Int) (n : Nat) : (listC c n).length = n := by simp [listC]
theorem ix_listC (c : Nat → Int) (n i : Nat) (h : i < n) : ix (listC c n) i = c i := by rw [ix_eq]; simp [listC, List.getD, h]
theorem swapC_swap (c : Nat → Int) (i k x : Nat) : swapC c i k x = c (if x = i then k else if x = k then i else x) := by
  unfold swapC
  by_cases h1 : x = i
  · rw [if_pos h1, if_pos h1]
  · rw [if_neg h1, if_neg h1]
    by_cases h2 : x = k
    · rw [if_pos h2, if_pos h2]
    · rw [if_neg h2, if_neg h2]
theorem perm_places {n : Nat} {p : List Int} (hp : IsoOk n [] [] p) (g : Nat → Nat) (hg : ∀ x, x < n → g x < n) (hi : ∀ x y, x < n → y < n → g x = g y → x = y) : IsoOk n [] [] (listC (fun x => ix p (g x)) n) := by
  refine isoOk_plain.2 ⟨length_listC _ _, ⟨fun i h => ?_, fun i h j hj e => ?_⟩⟩
  · rw [length_listC] at h ⊢
    rw [ix_listC _ _ _ h]
    have := hp.bd (hg i h)
    omega
  · rw [length_listC] at h
    rw [ix_listC _ _ _ h, ix_listC _ _ _ (by omega)] at e
    have := hp.inj (hg j (by omega)) (hg i h) e
    have := hi j i (by omega) h this
    omega
theorem nextC_perm {n i k : Nat} {p : List Int} (hp : IsoOk n [] [] p) (hi : i < n) (hk : k < n) (hik : i < k) : IsoOk n [] [] (listC (nextC (ix p) i k n) n) := by
  have h := perm_places hp (fun x => (fun y => if y = i then k else if y = k then i else y) (if x ≤ i then x else n + i - x)) (fun x hx => by
    simp only []
    repeat' split
    all_goals omega) (fun x y hx hy => by
    simp only []
    repeat' split
    all_goals omega)
  have e : (fun x => ix p ((fun y => if y = i then k else if y = k then i else y) (if x ≤ i then x else n + i - x))) = nextC (ix p) i k n := by
    funext x
    unfold nextC turnC
    simp only []
    by_cases hx : x ≤ i
    · rw [if_pos hx, if_pos hx, swapC_swap]
    · rw [if_neg hx, if_neg hx, swapC_swap]
  rw [e] at h
  exact h
theorem nextC_next {n i k : Nat} {p : List Int} (hp : IsoOk n [] [] p) (hi : i + 1 < n) (hk : k < n) (hik : i < k) (hF : Falls p (i + 1)) (hup : ix p i < ix p k) (hlow : ∀ j, k < j → j < n → ix p j < ix p i) : NextP n p (listC (nextC (ix p) i k n) n) i where
  hin := by omega
  falls := hF
  same j hj := by
    rw [ix_listC _ _ _ (by omega)]
    unfold nextC turnC swapC
    rw [if_pos (by omega), if_neg (by omega), if_neg (by omega)]
  more := by
    rw [ix_listC _ _ _ (by omega)]
    unfold nextC turnC swapC
    rw [if_pos (Nat.le_refl _), if_pos rfl]
    exact hup
  least j hj hjn hlt := by
    rw [ix_listC _ _ _ (by omega)]
    unfold nextC turnC swapC
    rw [if_pos (Nat.le_refl _), if_pos rfl]
    have hjk : j ≤ k := by
      apply Classical.byContradiction
      intro hn
      have := hlow j (by omega) hjn
      omega
    have := hF.le (a := j) (by omega) (k - j) (by have := hp.1; omega)
    rw [show j + (k - j) = k by omega] at this
    exact this
  rises j hj hjl := by
    rw [length_listC] at hjl
    rw [ix_listC _ _ _ (by omega), ix_listC _ _ _ hjl]
    have hpl := hp.1
    -- places y = n + i - j and y - 1 of the swapped list
    obtain ⟨y, hy⟩ : ∃ y, y = n + i - (j + 1) := ⟨_, rfl⟩
    have hy2 : n + i - j = y + 1 := by omega
    unfold nextC turnC
    rw [if_neg (by omega), if_neg (by omega), hy2, ← hy]
    have hyi : i < y := by omega
    have hyn : y + 1 < n := by omega
    have h1 := hF y (by omega) (by omega)
    unfold swapC
    rw [if_neg (by omega), if_neg (show ¬ y = i by omega)]
    by_cases e1 : y + 1 = k
    · rw [if_pos e1, if_neg (by omega)]
      rw [e1] at h1
      omega
    · rw [if_neg e1]
      by_cases e2 : y = k
      · rw [if_pos e2]
        exact hlow (y + 1) (by omega) hyn
      · rw [if_neg e2]; exact h1
theorem NextP.lt {n i : Nat} {p q : List Int} (h : NextP n p q i) : LexLt p q := ⟨i, fun j hj => (h.same j hj).symm, h.more⟩
theorem first_perm {n : Nat} {p : List Int} (hp : IsoOk n [] [] p) (hr : ∀ x, x < n → ix p x = (x : Int)) : ∀ r, r ∈ isoL n [] [] → p = r ∨ LexLt p r := fun r h => by
  by_cases e : p = r
  · exact .inl e
  · exact .inr (rises_least hp (mem_isoL.1 h) (i := 0) (fun j _ hj => by rw [hr j (by have := hp.1; omega), hr (j + 1) (by have := hp.1; omega)]; omega) (fun j hj => by omega) e)
theorem perms_next {n i : Nat} {p q : List Int} {pre rest : List (List Int)} (hp : IsoOk n [] [] p) (hq : IsoOk n [] [] q) (h : NextP n p q i) (hL : isoL n [] [] = pre ++ p :: rest) : ∃ rest', rest = q :: rest' :=
  sorted_next (sorted_isoL n [] []) hL (mem_isoL.2 hq) h.lt fun r hr hlt => next_least hp hq (mem_isoL.1 hr) h hlt
theorem perms_last {n : Nat} {p : List Int} {pre rest : List (List Int)} (hp : IsoOk n [] [] p) (hF : Falls p 0) (hL : isoL n [] [] = pre ++ p :: rest) : rest = [] :=
  sorted_last (sorted_isoL n [] []) hL fun r hr hlt => by
    have hri := mem_isoL.1 hr
    obtain ⟨d, hd, h1, h2⟩ := lex_lt_len hp.1 hri.1 hlt
    have := falls_greatest hp hri hF hd (Nat.zero_le _) h1
    omega
end Go.Proofs.YthlafeefjonkdaaGreatDoor
