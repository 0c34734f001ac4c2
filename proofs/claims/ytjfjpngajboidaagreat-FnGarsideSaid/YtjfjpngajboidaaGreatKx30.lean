/-
  Contracts of the program's isNondegenerate, tupleOf, numberOf.
-/
import Derived.Test.YtjfjpngajboidaaGreatKx29
namespace Go.Proofs.YtjfjpngajboidaaGreat
set_option linter.unusedVariables false
set_option linter.unusedSimpArgs false
open Go.RowKit
attribute [local go_sem ↓] Go.wp_at_zero Go.wp_at_succ
open Go.Deep

theorem table_smallG {t : List (List Int)} (h : TableOk t) : Small t := ⟨by have := h.2.1; omega, fun i => by
  by_cases hi : i < t.length
  · rw [h.len hi]; have := h.2.1; omega
  · rw [row_eq]; simp [List.getD, hi]⟩
theorem own_rowsG {lo hi : Nat} {w : World} {b : Nat} {t : List (List Int)} (h : OwnT lo hi w b 0 t) (hT : TableOk t) (c : Nat) : Rows w (.slice (some ⟨b, 0, none⟩) t.length c) t := (h.rowsAt (table_smallG hT)).rows (table_smallG hT).1 c

set_option maxRecDepth 100000 in
set_option maxHeartbeats 1000000 in
theorem isNondegenerate_any (L S : List (List Int)) (v y : Value) (w : World) (hv : Rows w v L) (hy : Rows w y S) (hP : PairOk L S) :
    Calls Tryz.prog 47 #[.agg #[v, y]] w fun e w' => e = .returned (.bool (goodB L S)) ∧ Ext w w' := by
  obtain ⟨-, b, o, c, rfl, -⟩ := id hv
  obtain ⟨-, b2, o2, c2, rfl, -⟩ := id hy
  have hx0 : Ext w (w.alloc (.cells #[.slice (some ⟨b, o, none⟩) L.length c, .slice (some ⟨b2, o2, none⟩) S.length c2] 26)) := (Ext.refl _).alloc _
  have k0 := cell_new2a w (.slice (some ⟨b, o, none⟩) L.length c) (.slice (some ⟨b2, o2, none⟩) S.length c2) 26
  have k1 := cell_new2b w (.slice (some ⟨b, o, none⟩) L.length c) (.slice (some ⟨b2, o2, none⟩) S.length c2) 26
  have HV := Lib.hid hv
  have HY := Lib.hid hy
  have HP := Lib.hid hP
  clear hv hy hP
  rw [goodB_def]
  go_enter Tryz.func47, Tryz.ntmps47
  go_wp2_with fail
  generalize (w.alloc (.cells #[.slice (some ⟨b, o, none⟩) L.length c, .slice (some ⟨b2, o2, none⟩) S.length c2] 26)) = w1 at *
  refine (permutationRows_any L _ _ (HV.out.ext hx0)).mono ?_
  rintro e w2 ⟨rfl, hx⟩
  replace k0 := hx.cell k0
  replace k1 := hx.cell k1
  cases hB : permRowsB L with
  | false =>
    go_wp2
    go_ret
    exact ⟨ret_bool (by rw [hB]; rfl), hx0.trans hx⟩
  | true =>
    go_wp2_with fail
    refine (transposed_any S _ _ (HY.out.ext (hx0.trans hx)) HP.out.s).mono ?_
    rintro e w3 ⟨bA, cA, rfl, hoA, hxA⟩
    have HO := Lib.hid (own_rowsG hoA (turn_ok HP.out.s) cA)
    clear hoA
    go_wp2_with fail
    refine (permutationRows_any (turnT S) _ _ HO.out).mono ?_
    rintro e w4 ⟨rfl, hz⟩
    go_wp2
    go_ret
    exact ⟨ret_bool (by rw [hB]; rfl), ((hx0.trans hx).trans hxA).trans hz⟩

def NewTup (n k j : Nat) (w : World) (e : Ending) (w' : World) : Prop := ∃ b, e = .returned (.slice (some ⟨b, 0, none⟩) k k) ∧ RK w.heap.size (fun _ => False) w' (.slice (some ⟨b, 0, none⟩) k k) (tupL n k j) ∧ Ext w w'

set_option maxRecDepth 100000 in
set_option maxHeartbeats 1000000 in
theorem tupleOf_any (n k j : Nat) (w : World) (h1 : 1 ≤ n) (h12 : n ≤ 12) (hk : k ≤ 12) (hj : j ≤ 1000000) :
    Calls Tryz.prog 87 #[.int .i64 n, .int .i64 k, .int .i64 j] w (NewTup n k j w) := by
  have hmk := run_make_row' (P := Tryz.prog) 27 2 (.int .i64 0) 8 Tryz.underlying27 infoInt rfl .i64 .i64 k (by omega) (by omega)
  have hn0 : (n : Int) ≠ 0 := by omega
  go_enter Tryz.func87, Tryz.ntmps87
  go_wp2_with fail
  clear hmk
  have hx0 : Ext w (w.alloc (.cells (madeCells #[Value.int .i64 0] k) 2)) := (Ext.refl _).alloc _
  have hr0 := World.rowIs_made w (.int .i64 0) k 2
  go_loopw [2, 8] (fun vq vi wr => ∃ (c q : Nat) (f : Nat → Int), c ≤ k ∧ q ≤ 1000000 ∧ vq = .int .i64 q ∧ vi = .int .i64 ((c : Int) - 1) ∧ wr.rowIs w.heap.size 2 k (fun i => .int .i64 (f i)) ∧ tupL n c q ++ restF c k f = tupL n k j ∧ Ext w wr) (fun _ vi _ => (intOf vi + 1).toNat)
  case atStart => exact ⟨k, j, fun _ => 0, Nat.le_refl _, hj, rfl, rfl, hr0, by rw [restF_all, List.append_nil], hx0⟩
  case round =>
    clear hx0 hr0
    obtain ⟨c, q, f, hc, hq, rfl, rfl, hrow, ht, hx⟩ := hrel
    have HT := Lib.hid ht
    clear ht
    by_cases hc0 : 0 < c
    case pos =>
      obtain ⟨d, rfl⟩ : ∃ d, c = d + 1 := ⟨c - 1, by omega⟩
      have hdi : ((d + 1 : Nat) : Int) - 1 = (d : Int) := by omega
      rw [hdi]
      have hge : (0 : Int) ≤ (d : Int) := by omega
      have hdk : d < k := by omega
      have hdki : (d : Int) < (k : Int) := by omega
      have e1 : (q : Int).tmod (n : Int) = ((q % n : Nat) : Int) := by rw [Int.tmod_eq_emod_of_nonneg (by omega)]; push_cast; rfl
      have e2 : (q : Int) % (n : Int) = ((q % n : Nat) : Int) := by push_cast; rfl
      have e3 : (q : Int).tdiv (n : Int) = ((q / n : Nat) : Int) := by rw [Int.tdiv_eq_ediv_of_nonneg (by omega)]; push_cast; rfl
      have e4 : (q : Int) / (n : Int) = ((q / n : Nat) : Int) := by push_cast; rfl
      have hq2 : q / n ≤ 1000000 := Nat.le_trans (Nat.div_le_self _ _) hq
      have hq3 : q % n ≤ 1000000 := Nat.le_trans (Nat.mod_le _ _) hq
      have HST := Lib.hid (tup_step (n := n) (q := q) (f := f) hdk)
      obtain ⟨r, hr⟩ : ∃ r, r = q % n := ⟨_, rfl⟩
      obtain ⟨s, hs⟩ : ∃ s, s = q / n := ⟨_, rfl⟩
      rw [← hr] at e1 e2 hq3 HST
      rw [← hs] at e3 e4 hq2 HST
      have hw1 : IntKind.i64.wrap (r : Int) = (r : Int) := IntWalk.i64_in _ (by omega)
      have hw2 : IntKind.i64.wrap (s : Int) = (s : Int) := IntWalk.i64_in _ (by omega)
      have c1 := hrow.cell hdk
      have c2 := hrow.frozen d
      clear hr hs
      go_wp2_with fail
      go_roundw
      case rel => exact ⟨d, s, _, by omega, hq2, rfl, by first | rfl | go_num, (hrow.set d _).congr (g := fun i => .int .i64 (if i = d then (r : Int) else f i)) (fun i hi => by by_cases e : i = d <;> simp [e]), by rw [HST.out]; exact HT.out, hx.setNew (Nat.le_refl _) _⟩
      case measure => simp [intOf] <;> omega
    case neg =>
      have hce : c = 0 := by omega
      subst hce
      have hge : ¬ (0 : Int) ≤ ((0 : Nat) : Int) - 1 := by omega
      have hml := HT.out
      rw [restF_zero] at hml
      simp only [tupL, List.nil_append] at hml
      have HML := Lib.hid hml
      clear hml HT hc0
      go_wp2_with fail
      go_ret
      exact ⟨w.heap.size, rfl, rk_of_row hrow HML.out (by omega) (Nat.le_refl _), hx⟩

theorem wnL_take {n : Nat} {l : List Int} {t : Nat} (ht : t < l.length) : wnL n (l.take (t + 1)) = wnL n (l.take t) * n + (ix l t).toNat := by
  have e : l.take (t + 1) = l.take t ++ [ix l t] := by
    rw [List.take_succ_eq_append_getElem ht, ix_eq]; simp [List.getD, ht]
  rw [e, wnL_app]
theorem word_take {n : Nat} {l : List Int} (h : WordOk n l) (t : Nat) : WordOk n (l.take t) := fun i hi => by
  have e := List.take_append_drop t l
  rw [← e] at h
  exact h.left i hi
theorem wnL_bd {n B : Nat} {l : List Int} (h1 : 1 ≤ n) (h : WordOk n l) (hB : n ^ l.length ≤ B) (t : Nat) : wnL n (l.take t) < B := by
  have h2 := num_lt (word_take h t) rfl
  refine Nat.lt_of_lt_of_le h2 (Nat.le_trans (Nat.pow_le_pow_right h1 ?_) hB)
  rw [List.length_take]
  exact Nat.min_le_right _ _

set_option maxRecDepth 100000 in
set_option maxHeartbeats 1000000 in
theorem numberOf_any (n : Nat) (l : List Int) (v : Value) (w : World) (hv : Ints w v l) (h1 : 1 ≤ n) (h12 : n ≤ 12) (hw : WordOk n l) (hB : n ^ l.length ≤ 100000) :
    Calls Tryz.prog 88 #[.int .i64 n, v] w fun e w' => e = .returned (.int .i64 (wnL n l)) ∧ w = w' := by
  obtain ⟨hl, b, o, c, rfl, hc⟩ := hv
  have HW := Lib.hid hw
  have HBD := Lib.hid (fun t => wnL_bd (B := 100000) h1 hw hB t)
  clear hw hB
  go_enter Tryz.func88, Tryz.ntmps88
  go_wp2
  go_loop [5, 10] (fun vq vi => ∃ t : Nat, t ≤ l.length ∧ vi = .int .i64 t ∧ vq = .int .i64 (wnL n (l.take t))) (fun _ vi => l.length - (intOf vi).toNat)
  case atStart => exact ⟨0, Nat.zero_le _, rfl, rfl⟩
  case round =>
    obtain ⟨t, ht, rfl, rfl⟩ := hrel
    by_cases htl : t < l.length
    case pos =>
      have hti : (t : Int) < (l.length : Int) := by omega
      have e1 := hc t htl
      have hx := HW.out.nat htl
      have HE := Lib.hid (wnL_take (n := n) htl)
      have hb2 := HBD.out (t + 1)
      have hb1 := HBD.out t
      rw [HE.out] at hb2
      obtain ⟨z, hz⟩ : ∃ z, z = (ix l t).toNat := ⟨_, rfl⟩
      rw [← hz] at hx hb2 HE
      rw [hx.1] at e1
      obtain ⟨q, hq⟩ : ∃ q, q = wnL n (l.take t) := ⟨_, rfl⟩
      rw [← hq] at hb1 hb2 HE ⊢
      obtain ⟨m, hm⟩ : ∃ m, m = q * n := ⟨_, rfl⟩
      rw [← hm] at hb2 HE
      have hmi : (q : Int) * (n : Int) = (m : Int) := by rw [hm]; push_cast; rfl
      have hw1 : IntKind.i64.wrap ((q : Int) * (n : Int)) = (m : Int) := by rw [hmi]; exact IntWalk.i64_in _ (by omega)
      have hw2 : IntKind.i64.wrap ((m : Int) + (z : Int)) = (m : Int) + (z : Int) := IntWalk.i64_in _ (by omega)
      clear hx hz hq hm
      go_wp2
      go_round
      case rel => exact ⟨t + 1, by omega, by go_num, by rw [HE.out]; push_cast; first | rfl | (rw [hmi])⟩
      case measure => simp [intOf]; omega
    case neg =>
      have htt : t = l.length := by omega
      have hti : ¬ (t : Int) < (l.length : Int) := by omega
      have HE := Lib.hid (show wnL n (l.take t) = wnL n l by rw [htt, List.take_length])
      clear htt
      go_wp2
      go_ret
      exact ⟨by rw [HE.out]; rfl, rfl⟩
end Go.Proofs.YtjfjpngajboidaaGreat


namespace Go.Proofs.YtjfjpngajboidaaGreat
set_option linter.unusedVariables false
set_option linter.unusedSimpArgs false

def mvJ (f g fi gi : Nat → Nat → Nat) (v : List Int) (k j : Nat) : List Int := if j = 0 then moveL f g v k else moveL fi gi v k
structure BfsI (f g fi gi : Nat → Nat → Nat) (w : List Int) (F : List (List Int)) (i k j : Nat) : Prop where
  head : w ∈ F
  nd : F.Nodup
  eq : ∀ v, v ∈ F → Eqv f g fi gi w v
  old : ∀ a, a < i → ∀ q, q + 1 < w.length → ∀ h, h < 2 → mvJ f g fi gi (row F a) q h ∈ F
  cur : ∀ q, q < k → q + 1 < w.length → ∀ h, h < 2 → mvJ f g fi gi (row F i) q h ∈ F
  now : k + 1 < w.length → ∀ h, h < j → mvJ f g fi gi (row F i) k h ∈ F
section
variable {n : Nat} {f g fi gi : Nat → Nat → Nat} {w : List Int} {F : List (List Int)} {i k j : Nat}
theorem BfsI.start (f g fi gi : Nat → Nat → Nat) (w : List Int) : BfsI f g fi gi w [w] 0 0 0 :=
  ⟨List.mem_cons_self, by simp, fun v hv => by rw [List.mem_singleton.1 hv]; exact .refl, fun a ha => by omega, fun q hq => by omega, fun _ h hh => by omega⟩
theorem rowB_app {F : List (List Int)} {x : List Int} {i : Nat} (h : i < F.length) : row (F ++ [x]) i = row F i := by
  rw [row_eq, row_eq]; simp [List.getD, List.getElem?_append_left h]
theorem rowB_mem {F : List (List Int)} {i : Nat} (h : i < F.length) : row F i ∈ F := by
  rw [row_eq]; simp [List.getD, h]
theorem mvJ_eqv {v : List Int} {q h : Nat} (hq : q + 1 < v.length) (hv : Eqv f g fi gi w v) : Eqv f g fi gi w (mvJ f g fi gi v q h) := by
  refine .step v _ hv ⟨q, hq, ?_⟩
  unfold mvJ
  split
  · exact .inl rfl
  · exact .inr rfl
theorem BfsI.skip (h : BfsI f g fi gi w F i k j) (hx : mvJ f g fi gi (row F i) k j ∈ F) : BfsI f g fi gi w F i k (j + 1) :=
  ⟨h.head, h.nd, h.eq, h.old, h.cur, fun hk q hq => by
    by_cases e : q = j
    · subst e; exact hx
    · exact h.now hk q (by omega)⟩
theorem BfsI.add (h : BfsI f g fi gi w F i k j) (hi : i < F.length) (hk : k + 1 < w.length) (hx : mvJ f g fi gi (row F i) k j ∉ F) : BfsI f g fi gi w (F ++ [mvJ f g fi gi (row F i) k j]) i k (j + 1) := by
  have hm : ∀ {x : List Int}, x ∈ F → x ∈ F ++ [mvJ f g fi gi (row F i) k j] := fun hx => List.mem_append_left _ hx
  have hlen := (h.eq _ (rowB_mem hi)).len
  refine ⟨hm h.head, ?_, ?_, ?_, ?_, ?_⟩
  · rw [List.nodup_append]
    refine ⟨h.nd, by simp, fun a ha b hb => ?_⟩
    rw [List.mem_singleton.1 hb]
    intro e
    subst e
    exact hx ha
  · intro v hv
    rcases List.mem_append.1 hv with e | e
    · exact h.eq v e
    · rw [List.mem_singleton.1 e]
      exact mvJ_eqv (by omega) (h.eq _ (rowB_mem hi))
  · intro a ha q hq c hc
    rw [rowB_app (by omega)]
    exact hm (h.old a ha q hq c hc)
  · intro q hq hq2 c hc
    rw [rowB_app hi]
    exact hm (h.cur q hq hq2 c hc)
  · intro hk2 c hc
    rw [rowB_app hi]
    by_cases e : c = j
    · subst e; simp
    · exact hm (h.now hk2 c (by omega))
theorem BfsI.nextK (h : BfsI f g fi gi w F i k 2) : BfsI f g fi gi w F i (k + 1) 0 :=
  ⟨h.head, h.nd, h.eq, h.old, fun q hq hq2 c hc => by
    by_cases e : q = k
    · subst e; exact h.now hq2 c hc
    · exact h.cur q (by omega) hq2 c hc, fun _ c hc => by omega⟩
theorem BfsI.nextI (h : BfsI f g fi gi w F i k 0) (hk : ¬ k + 1 < w.length) : BfsI f g fi gi w F (i + 1) 0 0 :=
  ⟨h.head, h.nd, h.eq, fun a ha q hq c hc => by
    by_cases e : a = i
    · subst e; exact h.cur q (by omega) hq c hc
    · exact h.old a (by omega) q hq c hc, fun q hq => by omega, fun _ c hc => by omega⟩
theorem BfsI.done (hm : Mv n f g fi gi) (hw : WordOk n w) (h : BfsI f g fi gi w F i 0 0) (hi : F.length ≤ i) : ∀ x, x ∈ F ↔ x ∈ wclL n f g fi gi w :=
  wclL_closed hm hw h.head h.eq fun v hv q hq => by
    obtain ⟨a, ha, rfl⟩ := List.getElem_of_mem hv
    have e : F[a] = row F a := by rw [row_eq]; simp [List.getD, ha]
    rw [e]
    have h0 := h.old a (by omega) q hq 0 (by omega)
    have h1 := h.old a (by omega) q hq 1 (by omega)
    exact ⟨h0, h1⟩
theorem BfsI.few (hm : Mv n f g fi gi) (hw : WordOk n w) (h : BfsI f g fi gi w F i k j) : F.length ≤ (wclL n f g fi gi w).length :=
  nodup_le _ _ h.nd fun x hx => (mem_wclL hm hw).2 (h.eq x hx)
theorem BfsI.all (hm : Mv n f g fi gi) (hw : WordOk n w) (h : BfsI f g fi gi w F i 0 0) (hi : F.length ≤ i) : F.length = (wclL n f g fi gi w).length :=
  Nat.le_antisymm (h.few hm hw) (nodup_le _ _ (nodup_wclL _ _ _ _ _ _) fun x hx => (h.done hm hw hi x).2 hx)
theorem BfsI.sorted (hm : Mv n f g fi gi) (hw : WordOk n w) (h : BfsI f g fi gi w F i 0 0) (hi : F.length ≤ i) {G : List (List Int)} (hs : G.Pairwise LexLt) (hG : ∀ x, x ∈ G ↔ x ∈ F) : G = wclL n f g fi gi w :=
  lex_same hs (sorted_wclL _ _ _ _ _ _) fun x => (hG x).trans (h.done hm hw hi x)
theorem mvJ_ok (hm : Mv n f g fi gi) {v : List Int} (hv : WordOk n v) {q : Nat} (hq : q + 1 < v.length) (c : Nat) : WordOk n (mvJ f g fi gi v q c) := by
  unfold mvJ
  split
  · exact hv.move hm hq
  · exact hv.move hm.inv hq
theorem length_mvJ (f g fi gi : Nat → Nat → Nat) (v : List Int) (q c : Nat) : (mvJ f g fi gi v q c).length = v.length := by
  unfold mvJ
  split <;> exact length_moveL _ _ _ _
end
end Go.Proofs.YtjfjpngajboidaaGreat
