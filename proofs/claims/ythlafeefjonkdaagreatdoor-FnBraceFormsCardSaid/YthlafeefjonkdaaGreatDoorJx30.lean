/-
  Texts of lists and of tables: plain.
-/
import Derived.Lib.Join
import Derived.Test.YthlafeefjonkdaaGreatDoorJx29
namespace Go.Proofs.YthlafeefjonkdaaGreatDoor
set_option linter.unusedVariables false
set_option linter.unusedSimpArgs false
open Go.RowKit

@[irreducible] def digB (x : Int) : UInt8 := if x < 10 then UInt8.ofNat (48 + x.toNat) else UInt8.ofNat (87 + x.toNat)
theorem digB_lo {x : Nat} (h : x < 10) : ((digB x).toNat : Int) = 48 + (x : Int) := by
  unfold digB
  rw [if_pos (by omega), UInt8.toNat_ofNat', Int.toNat_natCast]
  omega
theorem digB_hi {x : Nat} (h : 10 ≤ x) (h2 : x < 12) : ((digB x).toNat : Int) = 97 + (x : Int) - 10 := by
  unfold digB
  rw [if_neg (by omega), UInt8.toNat_ofNat', Int.toNat_natCast]
  omega
@[irreducible] def lineL (l : List Int) : List UInt8 := l.map digB
theorem length_lineL (l : List Int) : (lineL l).length = l.length := by unfold lineL; simp
theorem lineL_snoc (l : List Int) (x : Int) : lineL (l ++ [x]) = lineL l ++ [digB x] := by unfold lineL; simp
theorem lineL_nil : lineL [] = [] := by unfold lineL; rfl
theorem lineL_at (l : List Int) (i : Nat) (h : i < (lineL l).length) : (lineL l)[i] = digB (ix l i) := by
  have h' : i < l.length := by rwa [length_lineL] at h
  have e : lineL l = l.map digB := by unfold lineL; rfl
  simp only [e, List.getElem_map]
  rw [ix_eq]
  simp [List.getD, h']
@[irreducible] def textL (t : List (List Int)) : List UInt8 := Lib.join (t.map lineL) [47]
theorem textL_def (t : List (List Int)) : Lib.join (t.map lineL) [47] = textL t := by unfold textL; rfl
theorem textL_nil : textL [] = [] := by unfold textL; rfl
theorem textL_one (l : List Int) : textL [l] = lineL l := by unfold textL; exact Lib.join_one _ _
theorem textL_snoc (t : List (List Int)) (l : List Int) (h : t ≠ []) : textL (t ++ [l]) = textL t ++ [47] ++ lineL l := by
  obtain ⟨x, r, rfl⟩ := List.exists_cons_of_ne_nil h
  unfold textL
  rw [List.map_append, List.map_cons, List.cons_append, Lib.join_cons, Lib.join_cons]
  unfold Lib.joinTail
  simp [List.append_assoc]
theorem length_textL_le (t : List (List Int)) (n : Nat) (h : ∀ i, i < t.length → (row t i).length ≤ n) : (textL t).length ≤ t.length * (n + 1) := by
  cases t with
  | nil => rw [textL_nil]; simp
  | cons x r =>
    unfold textL
    rw [List.map_cons, Lib.join_length]
    have : Lib.lens ((x :: r).map lineL) ≤ (x :: r).length * n := by
      generalize x :: r = s at h
      induction s with
      | nil => simp [Lib.lens]
      | cons y s ih =>
        have i1 := ih (fun i hi => by
          have := h (i + 1) (by simpa using hi)
          rw [row_eq] at this ⊢
          simpa using this)
        have i2 := h 0 (by simp)
        rw [row_eq] at i2
        simp only [Lib.lens, List.map_cons, List.sum_cons, List.length_cons] at i1 ⊢
        rw [length_lineL, Nat.succ_mul]
        simp at i2
        omega
    simp only [List.map_cons] at this
    simp only [List.length_cons, List.length_map, List.length_nil, Nat.mul_add, Nat.add_mul] at this ⊢
    omega
@[irreducible] def barL (a : List UInt8) : List UInt8 := a ++ [124]
theorem barL_def (a : List UInt8) : a ++ [124] = barL a := by unfold barL; rfl
theorem length_barL (a : List UInt8) : (barL a).length = a.length + 1 := by unfold barL; simp
@[irreducible] def twoL (a b : List UInt8) : List UInt8 := barL a ++ b
theorem twoL_def (a b : List UInt8) : barL a ++ b = twoL a b := by unfold twoL; rfl
theorem length_twoL (a b : List UInt8) : (twoL a b).length = a.length + 1 + b.length := by unfold twoL; rw [List.length_append, length_barL]
@[irreducible] noncomputable def btL (t u : List (List Int)) : List UInt8 := if braceB t u = true then twoL (textL t) (textL u) else []
theorem btL_yes {t u : List (List Int)} (h : braceB t u = true) : btL t u = twoL (textL t) (textL u) := by unfold btL; rw [if_pos h]
theorem btL_no {t u : List (List Int)} (h : braceB t u = false) : btL t u = [] := by unfold btL; rw [if_neg (by rw [h]; simp)]
theorem bytes_add (a b : List UInt8) : (ByteArray.mk a.toArray) ++ (ByteArray.mk b.toArray) = ⟨(a ++ b).toArray⟩ := by
  rw [ByteArray.mk_append_mk]; try simp
theorem bytes_size (a : List UInt8) : (ByteArray.mk a.toArray).size = a.length := by show a.toArray.size = _; simp
end Go.Proofs.YthlafeefjonkdaaGreatDoor


namespace Go.Proofs.YthlafeefjonkdaaGreatDoor
set_option linter.unusedVariables false
set_option linter.unusedSimpArgs false

theorem digB_digV {c : UInt8} (h : 0 ≤ digV c) : digB (digV c) = c := by
  unfold digV at h ⊢
  split
  · rename_i h1
    unfold digB
    rw [if_pos (by omega)]
    have e : 48 + ((c.toNat : Int) - 48).toNat = c.toNat := by omega
    rw [e, UInt8.ofNat_toNat]
  · rename_i h1
    split
    · rename_i h2
      unfold digB
      rw [if_neg (by omega)]
      have e : 87 + ((c.toNat : Int) - 97 + 10).toNat = c.toNat := by omega
      rw [e, UInt8.ofNat_toNat]
    · rename_i h2
      rw [if_neg h1, if_neg h2] at h
      omega
theorem lineL_digsL {p : List UInt8} (h : goodL p = true) : lineL (digsL p) = p := by
  have hm : ∀ c, c ∈ p → 0 ≤ digV c := fun c hc => goodL_mem h hc
  unfold lineL digsL
  rw [List.map_map]
  conv => rhs; rw [← List.map_id p]
  exact List.map_congr_left fun c hc => digB_digV (hm c hc)
theorem join_splitL (b : UInt8) (l : List UInt8) : Lib.join (splitL b l) [b] = l := by
  induction l with
  | nil => rw [splitL]; exact Lib.join_one _ _
  | cons c r ih =>
    by_cases e : c = b
    · subst e
      rw [splitL_hit, Lib.join_cons]
      obtain ⟨x, t, e1⟩ := List.exists_cons_of_ne_nil (splitL_ne c r)
      rw [e1] at ih ⊢
      rw [Lib.join_cons] at ih
      rw [← ih]
      simp [Lib.joinTail]
    · obtain ⟨x, t, e1, e2⟩ := splitL_miss e r
      rw [e1, Lib.join_cons] at ih
      rw [e2, Lib.join_cons, List.cons_append, ih]
theorem textL_tabL {l : List UInt8} (h : readB l = true) : textL (tabL l) = l := by
  rw [readB_eq, Bool.and_eq_true, List.all_eq_true] at h
  rw [← textL_def]
  have e : (tabL l).map lineL = splitL 47 l := by
    unfold tabL
    rw [List.map_map]
    conv => rhs; rw [← List.map_id (splitL 47 l)]
    exact List.map_congr_left fun p hp => lineL_digsL (h.1 p hp)
  rw [e, join_splitL]
theorem parse_text {l : List UInt8} (h : okPB l = true) : btL (parT l) (parU l) = l := by
  obtain ⟨h1, h2, -⟩ := par_yes h
  rw [h1, h2]
  have hk := h
  rw [okP_cut, Bool.and_eq_true, Bool.and_eq_true] at hk
  rw [btL_yes hk.2, textL_tabL hk.1.1, textL_tabL hk.1.2, ← twoL_def, ← barL_def]
  by_cases hm : (124 : UInt8) ∈ l
  · obtain ⟨p, r, rfl, hp⟩ := part_first hm
    unfold fstP sndP
    rw [cut_at hp]
    simp
  · rw [okP_none hm, readB_nil] at h
    simp at h
end Go.Proofs.YthlafeefjonkdaaGreatDoor
