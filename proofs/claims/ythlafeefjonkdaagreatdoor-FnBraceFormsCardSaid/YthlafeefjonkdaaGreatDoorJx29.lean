/-
  How the library parts texts, against how the reference does: plain.
-/
import Derived.Lib.SplitLaws
import Derived.Test.YthlafeefjonkdaaGreatDoorJx28
namespace Go.Proofs.YthlafeefjonkdaaGreatDoor
set_option linter.unusedVariables false
set_option linter.unusedSimpArgs false

theorem index_first_eq (b : UInt8) (l : List UInt8) : Lib.index (b :: l) [b] = 0 := by
  rw [Lib.index]; simp [List.isPrefixOf]
theorem index_first_ne {b c : UInt8} (h : c ≠ b) (l : List UInt8) : Lib.index (c :: l) [b] = if Lib.index l [b] == -1 then -1 else Lib.index l [b] + 1 := by
  have hp : ([b] : List UInt8).isPrefixOf (c :: l) = false := by simp [List.isPrefixOf, Ne.symm h]
  rw [Lib.index, hp]; simp

theorem splitK_cons {b c : UInt8} (h : c ≠ b) (r : List UInt8) : ∀ k, ∃ x t, Lib.splitK [b] 0 k r = x :: t ∧ Lib.splitK [b] 0 k (c :: r) = (c :: x) :: t := by
  intro k
  cases k with
  | zero => exact ⟨r, [], rfl, rfl⟩
  | succ k =>
    rw [Lib.splitK, Lib.splitK, index_first_ne h]
    by_cases hm : Lib.index r [b] = -1
    · rw [hm]
      exact ⟨r, [], rfl, rfl⟩
    · have hge := Lib.index_ge r [b]
      obtain ⟨j, hj⟩ : ∃ j : Nat, Lib.index r [b] = j := ⟨(Lib.index r [b]).toNat, by omega⟩
      rw [hj]
      have e1 : ((j : Int) == -1) = false := beq_eq_false_iff_ne.2 (by omega)
      have e2 : (((j : Int) + 1) == -1) = false := beq_eq_false_iff_ne.2 (by omega)
      have e3 : ((j : Int) + 1).toNat = j + 1 := by omega
      simp only [e1, e2, e3, Bool.false_eq_true, if_false, Int.toNat_natCast, Nat.add_zero, List.length_cons, List.length_nil, Nat.zero_add, List.take_succ_cons, List.drop_succ_cons]
      exact ⟨_, _, rfl, rfl⟩

theorem splitK_eq (b : UInt8) : ∀ l : List UInt8, Lib.splitK [b] 0 (Lib.count l [b]) l = splitL b l := by
  intro l
  induction l with
  | nil => rw [Lib.count_miss (by simp [Lib.index])]; rfl
  | cons c r ih =>
    by_cases e : c = b
    · subst e
      rw [Lib.count_cons_eq, splitL_hit, Nat.add_comm, Lib.splitK, index_first_eq]
      simp only [Int.toNat_zero, Nat.zero_add, List.take_zero, List.length_cons, List.length_nil, List.drop_succ_cons, List.drop_zero]
      rw [ih]
      rfl
    · rw [Lib.count_cons_ne c b r e]
      obtain ⟨x, t, e1, e2⟩ := splitK_cons e r (Lib.count r [b])
      obtain ⟨y, u, e3, e4⟩ := splitL_miss e r
      rw [e2, e4]
      rw [ih, e3] at e1
      simp only [List.cons.injEq] at e1
      rw [e1.1, e1.2]

theorem splitB_eq (b : UInt8) (s : ByteArray) : (Lib.splitB ⟨#[b]⟩ 0 (Lib.countB s ⟨#[b]⟩) s).map (·.data.toList) = splitL b s.data.toList := by
  rw [Lib.splitB_data]
  exact splitK_eq b _

theorem splitB_len (b : UInt8) (s : ByteArray) : Lib.countB s ⟨#[b]⟩ + 1 = (splitL b s.data.toList).length := by
  rw [← splitB_eq, List.length_map, Lib.splitB_all ⟨#[b]⟩ (Nat.le_refl 1) 0 _ s rfl]

theorem index_none {b : UInt8} : ∀ {l : List UInt8}, b ∉ l → Lib.index l [b] = -1 := by
  intro l
  induction l with
  | nil => intro _; simp [Lib.index]
  | cons c r ih =>
    intro h
    have h1 : c ≠ b := fun e => h (by rw [e]; exact List.mem_cons_self)
    rw [index_first_ne h1, ih (fun e => h (List.mem_cons_of_mem _ e))]
    rfl
theorem index_at {b : UInt8} : ∀ {p : List UInt8} (_ : b ∉ p) (r : List UInt8), Lib.index (p ++ b :: r) [b] = p.length := by
  intro p
  induction p with
  | nil => intro _ r; rw [List.nil_append, index_first_eq]; rfl
  | cons c q ih =>
    intro h r
    have h1 : c ≠ b := fun e => h (by rw [e]; exact List.mem_cons_self)
    rw [List.cons_append, index_first_ne h1, ih (fun e => h (List.mem_cons_of_mem _ e)), List.length_cons]
    have e1 : ((q.length : Int) == -1) = false := beq_eq_false_iff_ne.2 (by omega)
    rw [e1]
    simp

theorem cut_none {b : UInt8} {l : List UInt8} (h : b ∉ l) : Lib.cut l [b] = (l, [], false) := by
  unfold Lib.cut
  rw [index_none h, if_neg (by omega)]
theorem cut_at {b : UInt8} {p : List UInt8} (h : b ∉ p) (r : List UInt8) : Lib.cut (p ++ b :: r) [b] = (p, r, true) := by
  unfold Lib.cut
  rw [index_at h, if_pos (by omega)]
  simp

theorem part_first {b : UInt8} : ∀ {l : List UInt8}, b ∈ l → ∃ p r, l = p ++ b :: r ∧ b ∉ p := by
  intro l
  induction l with
  | nil => intro h; cases h
  | cons c q ih =>
    intro h
    by_cases e : c = b
    · subst e
      exact ⟨[], q, rfl, by simp⟩
    · rcases List.mem_cons.1 h with e2 | e2
      · exact absurd e2.symm e
      · obtain ⟨p, r, rfl, h2⟩ := ih e2
        exact ⟨c :: p, r, rfl, fun e3 => by
          rcases List.mem_cons.1 e3 with e4 | e4
          · exact e e4.symm
          · exact h2 e4⟩

@[irreducible] def fstP (l : List UInt8) : List UInt8 := (Lib.cut l [124]).1
@[irreducible] def sndP (l : List UInt8) : List UInt8 := (Lib.cut l [124]).2.1
@[irreducible] noncomputable def parT (l : List UInt8) : List (List Int) := if okPB l = true then tabL (fstP l) else []
@[irreducible] noncomputable def parU (l : List UInt8) : List (List Int) := if okPB l = true then tabL (sndP l) else []
@[irreducible] noncomputable def parC (l : List UInt8) : Int := if okPB l = true then 0 else 6
theorem par_yes {l : List UInt8} (h : okPB l = true) : parT l = tabL (fstP l) ∧ parU l = tabL (sndP l) ∧ parC l = 0 := by
  unfold parT parU parC; simp [h]
theorem par_no {l : List UInt8} (h : okPB l = false) : parT l = [] ∧ parU l = [] ∧ parC l = 6 := by
  unfold parT parU parC; simp [h]

theorem okP_cut (l : List UInt8) : okPB l = (readB (fstP l) && readB (sndP l) && braceB (tabL (fstP l)) (tabL (sndP l))) := by
  unfold fstP sndP
  by_cases h : (124 : UInt8) ∈ l
  · obtain ⟨p, r, rfl, hp⟩ := part_first h
    rw [cut_at hp, okP_hit hp]
  · rw [cut_none h, okP_none h]
theorem two_parts {l a c : List UInt8} (h : splitL 124 l = [a, c]) : fstP l = a ∧ sndP l = c := by
  unfold fstP sndP
  by_cases h1 : (124 : UInt8) ∈ l
  · obtain ⟨p, r, rfl, hp⟩ := part_first h1
    rw [splitL_cut hp] at h
    rw [cut_at hp]
    simp only [List.cons.injEq] at h
    obtain ⟨rfl, h⟩ := h
    refine ⟨rfl, ?_⟩
    by_cases h2 : (124 : UInt8) ∈ r
    · have := splitL_two h2
      rw [h] at this
      simp at this
    · rw [splitL_none h2] at h
      simpa using h
  · rw [splitL_none h1] at h
    simp at h
theorem fst_len (l : List UInt8) : (fstP l).length ≤ l.length := by
  unfold fstP Lib.cut
  split
  · simp only [List.length_take]; omega
  · exact Nat.le_refl _
theorem snd_len (l : List UInt8) : (sndP l).length ≤ l.length := by
  unfold sndP Lib.cut
  split
  · simp only [List.length_drop]; omega
  · simp

theorem lookup_all : ∀ n : Fin 256, Lib.indexByte [48, 49, 50, 51, 52, 53, 54, 55, 56, 57, 97, 98] (UInt8.ofNat n) = if 48 ≤ n.val ∧ n.val ≤ 57 then (n.val : Int) - 48 else if 97 ≤ n.val ∧ n.val ≤ 98 then (n.val : Int) - 97 + 10 else -1 := by decide +kernel
theorem lookup_dig (c : UInt8) : Lib.indexByte [48, 49, 50, 51, 52, 53, 54, 55, 56, 57, 97, 98] c = digV c := by
  have := lookup_all ⟨c.toNat, c.toNat_lt⟩
  simp only [UInt8.ofNat_toNat] at this
  rw [this]
  unfold digV
  rfl
theorem digV_le (c : UInt8) : -1 ≤ digV c ∧ digV c ≤ 11 := by
  unfold digV
  split
  · omega
  · split <;> omega
theorem tabL_len (l : List UInt8) : (tabL l).length = (splitL 47 l).length := by unfold tabL; simp
theorem row_tabL {l : List UInt8} {k : Nat} (h : k < (splitL 47 l).length) : row (tabL l) k = digsL ((splitL 47 l)[k]) := by
  rw [row_eq]; unfold tabL; simp [List.getD, h]
theorem le_sum : ∀ {L : List Nat} {x : Nat}, x ∈ L → x ≤ L.sum := by
  intro L
  induction L with
  | nil => intro x h; cases h
  | cons a r ih =>
    intro x h
    rw [List.sum_cons]
    rcases List.mem_cons.1 h with rfl | h
    · omega
    · have := ih h; omega
theorem part_len {b : UInt8} {l : List UInt8} {k : Nat} (h : k < (splitL b l).length) : ((splitL b l)[k]).length ≤ l.length := by
  have h1 := splitL_length b l
  have h2 : ((splitL b l)[k]).length ≤ ((splitL b l).map List.length).sum := le_sum (List.mem_map.2 ⟨_, List.getElem_mem h, rfl⟩)
  have h3 := List.length_pos_iff.2 (splitL_ne b l)
  omega
theorem parts_len (b : UInt8) (l : List UInt8) : (splitL b l).length ≤ l.length + 1 := by
  have h1 := splitL_length b l
  omega
@[irreducible] def goodTo (ps : List (List UInt8)) (k : Nat) : Bool := (ps.take k).all goodL
theorem goodTo_zero (ps : List (List UInt8)) : goodTo ps 0 = true := by unfold goodTo; simp
theorem goodTo_succ {ps : List (List UInt8)} {k : Nat} (h : k < ps.length) : goodTo ps (k + 1) = (goodTo ps k && goodL ps[k]) := by
  unfold goodTo
  rw [List.take_succ_eq_append_getElem h, List.all_append]
  simp
theorem goodTo_all (ps : List (List UInt8)) : goodTo ps ps.length = ps.all goodL := by unfold goodTo; rw [List.take_length]
theorem all_no {ps : List (List UInt8)} {k : Nat} (h : k < ps.length) (hg : goodL ps[k] = false) : ps.all goodL = false := by
  rw [List.all_eq_false]
  exact ⟨_, List.getElem_mem h, by rw [hg]; simp⟩
theorem readB_eq (l : List UInt8) : readB l = ((splitL 47 l).all goodL && tableB (tabL l)) := by unfold readB; rfl
end Go.Proofs.YthlafeefjonkdaaGreatDoor
