/-
  Contracts of the texts of lists: reference and program.
-/
import Derived.Laws.IdiomStrings
import Derived.Laws.Concat
import Derived.Test.YthlafeefjonkdaaGreatDoorJx30
import Derived.Test.YthlafeefjonkdaaGreatDoorJoin
namespace Go.Proofs.YthlafeefjonkdaaGreatDoor
set_option linter.unusedVariables false
set_option linter.unusedSimpArgs false
open Go.RowKit
attribute [local go_sem ↓] Go.wp_at_zero Go.wp_at_succ

theorem bytes_one {W : World} {b : UInt8} {v : Int} (hv : (b.toNat : Int) = v) :
    (Go.convert 22 9 (.slice (some ⟨W.heap.size, 0, none⟩) 1 1)).run Tryz.prog (W.alloc (.cells #[.int .u8 v] 5)) = .ok (.string ⟨#[b]⟩) (W.alloc (.cells #[.int .u8 v] 5)) := by
  have := run_convert_bytes_back (P := Tryz.prog) (W.alloc (.cells #[.int .u8 v] 5)) 22 9 5 ⟨W.heap.size, 0, none⟩ 1 [b] Tryz.underlying22 Tryz.underlying5 Tryz.underlying9 (by
    intro j hj
    match j, hj with
    | 0, _ => simp [Addr.add, hv])
  exact this

theorem l01Digit_any (x : Nat) (w : World) (hx : x < 12) :
    Calls Tryz.prog 118 #[.int .i64 x] w fun e w' => e = .returned (.string ⟨#[digB x]⟩) ∧ Ext w w' := by
  by_cases h : x < 10
  · have hc := fun (W : World) => bytes_one (W := W) (digB_lo h)
    go_enter Tryz.func118, Tryz.ntmps118
    go_wp2
    go_ret
    exact ⟨rfl, (Ext.refl _).alloc _⟩
  · have hc := fun (W : World) => bytes_one (W := W) (digB_hi (x := x) (by omega) hx)
    go_enter Tryz.func118, Tryz.ntmps118
    go_wp2
    go_ret
    exact ⟨rfl, (Ext.refl _).alloc _⟩

def strB (l : List UInt8) : ByteArray := ⟨l.toArray⟩
theorem strB_size (l : List UInt8) : (strB l).size = l.length := bytes_size l
theorem str_add {a b : List UInt8} {c : List UInt8} (h : a ++ b = c) (h2 : c.length ≤ 1048576) (w : World) : (Op.stringOp .add (strB a) (strB b)).run Tryz.prog w = .ok (.string (strB c)) w := by
  subst h
  rw [run_string_add_sum w _ _ (by rw [strB_size, strB_size]; simp at h2; omega)]
  unfold strB
  rw [bytes_add]

theorem ret_str {a b : ByteArray} (h : a = b) : Ending.returned (.string a) = .returned (.string b) := by rw [h]

theorem l01Line_any (l : List Int) (v : Value) (w : World) (hv : Ints w v l) (h12 : l.length ≤ 12) (hb : ∀ i, i < l.length → 0 ≤ ix l i ∧ ix l i < 12) :
    Calls Tryz.prog 90 #[v] w fun e w' => e = .returned (.string (strB (lineL l))) ∧ Ext w w' := by
  obtain ⟨hlen, b, o, c, rfl, hc⟩ := id hv
  have HB := Lib.hid hb
  clear hb
  go_enter Tryz.func90, Tryz.ntmps90
  go_wp2
  go_loopw [3, 4] (fun s i wr => ∃ k : Nat, k ≤ l.length ∧ i = .int .i64 k ∧ s = .string (strB (lineL (l.take k))) ∧ Ext w wr) (fun _ i _ => l.length - (intOf i).toNat)
  case atStart => exact ⟨0, Nat.zero_le _, rfl, by rw [List.take_zero, lineL_nil]; rfl, Ext.refl _⟩
  case round =>
    obtain ⟨k, hk, rfl, rfl, hx⟩ := hrel
    by_cases hlt : k < l.length
    · obtain ⟨b0, b1⟩ := HB.out k hlt
      obtain ⟨y, hy⟩ := Int.eq_ofNat_of_zero_le b0
      have hcell := (hc.ext hx) k hlt
      rw [hy] at hcell b1
      have hy12 : y < 12 := by omega
      have hadd := fun (W : World) => str_add (a := lineL (l.take k)) (b := [digB (y : Int)]) (c := lineL (l.take (k + 1))) (by rw [take_ix _ _ hlt, lineL_snoc, hy]) (by rw [length_lineL, List.length_take]; omega) W
      have HL := Lib.hid hy
      clear hy b0 b1
      go_wp2_with fail
      refine (l01Digit_any y _ hy12).mono ?_
      rintro e w1 ⟨rfl, hx1⟩
      have e0 : (ByteArray.mk #[digB (y : Int)]) = strB [digB (y : Int)] := rfl
      rw [e0]
      clear e0
      go_wp2
      go_roundw
      case rel => exact ⟨k + 1, by omega, by go_num, rfl, hx.trans hx1⟩
      case measure => simp [intOf]; omega
    · go_wp2
      go_ret
      refine ⟨ret_str (by rw [List.take_of_length_le (by omega)]), hx⟩

/-! ### the program -/
set_option maxRecDepth 100000 in
theorem elem_digit {x : Nat} (h : x < 12) (w : World) : (Instr.index 9 (.string ⟨#[48, 49, 50, 51, 52, 53, 54, 55, 56, 57, 97, 98]⟩) (.int .i64 x)).run Tryz.prog w = .ok (.int .u8 ((digB x).toNat : Int)) w := by
  by_cases h10 : x < 10
  · rw [digB_lo h10]
    rcases (show x = 0 ∨ x = 1 ∨ x = 2 ∨ x = 3 ∨ x = 4 ∨ x = 5 ∨ x = 6 ∨ x = 7 ∨ x = 8 ∨ x = 9 by omega) with rfl | rfl | rfl | rfl | rfl | rfl | rfl | rfl | rfl | rfl <;> kernel_rfl
  · rw [digB_hi (by omega) h]
    rcases (show x = 10 ∨ x = 11 by omega) with rfl | rfl <;> kernel_rfl

theorem infoByte : (Tryz.prog.info? 5).map (fun i => (i.zero, i.size, i.bytes)) = some (some (.int .u8 0), 1, 1) := by kernel_rfl

theorem infoStr : (Tryz.prog.info? 9).map (fun i => (i.zero, i.size, i.bytes)) = some (some (.string ByteArray.empty), 1, 16) := by kernel_rfl

@[irreducible] def digTo (l : List Int) (k i : Nat) : Value := if i < k then .int .u8 ((digB (ix l i)).toNat : Int) else .int .u8 0
theorem digTo_zero (l : List Int) (i : Nat) : digTo l 0 i = .int .u8 0 := by unfold digTo; simp
theorem digTo_in (l : List Int) (k i : Nat) (h : i < k) : digTo l k i = .int .u8 ((digB (ix l i)).toNat : Int) := by unfold digTo; rw [if_pos h]
theorem digTo_succ (l : List Int) (k i : Nat) : digTo l (k + 1) i = if i = k then .int .u8 ((digB (ix l k)).toNat : Int) else digTo l k i := by
  unfold digTo
  by_cases h : i = k
  · subst h; simp
  · rw [if_neg h]
    by_cases h2 : i < k
    · rw [if_pos h2, if_pos (by omega)]
    · rw [if_neg h2, if_neg (by omega)]

theorem digitsText_any (l : List Int) (v : Value) (w : World) (hv : Ints w v l) (h12 : l.length ≤ 12) (hb : ∀ i, i < l.length → 0 ≤ ix l i ∧ ix l i < 12) :
    Calls Tryz.prog 68 #[v] w fun e w' => e = .returned (.string (strB (lineL l))) ∧ Ext w w' := by
  obtain ⟨hlen, b, o, c, rfl, hc⟩ := id hv
  have HB := Lib.hid hb
  clear hb
  have hmk := run_make_row' (P := Tryz.prog) 22 5 (.int .u8 0) 1 Tryz.underlying22 infoByte rfl .i64 .i64 l.length (by omega) (by omega)
  go_enter Tryz.func68, Tryz.ntmps68
  go_wp2_with fail
  clear hmk
  have hx0 : Ext w (w.alloc (.cells (madeCells #[Value.int .u8 0] l.length) 5)) := (Ext.refl _).alloc _
  have hr0 := World.rowIs_made w (.int .u8 0) l.length 5
  go_loopw [11] (fun i wr => ∃ k : Nat, k ≤ l.length ∧ i = .int .i64 k ∧ wr.rowIs w.heap.size 5 l.length (digTo l k) ∧ Ext w wr) (fun i _ => l.length - (intOf i).toNat)
  case atStart => exact ⟨0, Nat.zero_le _, rfl, hr0.congr (fun i hi => by rw [digTo_zero]), hx0⟩
  case round =>
    clear hx0 hr0
    obtain ⟨k, hk, rfl, hrow, hx⟩ := hrel
    by_cases hlt : k < l.length
    · obtain ⟨b0, b1⟩ := HB.out k hlt
      obtain ⟨y, hy⟩ := Int.eq_ofNat_of_zero_le b0
      have hcell := (hc.ext hx) k hlt
      rw [hy] at hcell b1
      have hy12 : y < 12 := by omega
      have hdig := fun (W : World) => elem_digit hy12 W
      have HY := Lib.hid hy
      clear hy b0 b1
      have e2 := hrow.cell hlt
      have e3 := hrow.frozen k
      go_wp2
      go_roundw
      case rel => exact ⟨k + 1, by omega, by go_num, (hrow.set k (.int .u8 ((digB (y : Int)).toNat : Int))).congr (fun i hi => by rw [digTo_succ, HY.out]), hx.setNew (Nat.le_refl _) _⟩
      case measure => simp [intOf]; omega
    · have hkk : k = l.length := by omega
      subst hkk
      have hcv := fun (cap : Nat) => run_convert_bytes_back (P := Tryz.prog) wr 22 9 5 ⟨w.heap.size, 0, none⟩ cap (lineL l) Tryz.underlying22 Tryz.underlying5 Tryz.underlying9 (by
        intro j hj
        have hj' : j < l.length := by rw [length_lineL] at hj; exact hj
        have hcj := hrow.cell hj'
        rw [digTo_in _ _ _ hj'] at hcj
        rw [lineL_at]
        have e : (Addr.add ⟨w.heap.size, 0, none⟩ j) = ⟨w.heap.size, j, none⟩ := by
          unfold Addr.add
          by_cases hj0 : j = 0
          · subst hj0; rfl
          · simp [hj0]
        rw [e]
        exact hcj)
      rw [length_lineL] at hcv
      go_wp2
      go_ret
      exact ⟨rfl, hx⟩

end Go.Proofs.YthlafeefjonkdaaGreatDoor


namespace Go.Proofs.YthlafeefjonkdaaGreatDoor
set_option linter.unusedVariables false
set_option linter.unusedSimpArgs false
open Go.RowKit
attribute [local go_sem ↓] Go.wp_at_zero Go.wp_at_succ

theorem row_digits {t : List (List Int)} (hT : TableOk t) {k : Nat} (hk : k < t.length) : (row t k).length ≤ 12 ∧ ∀ i, i < (row t k).length → 0 ≤ ix (row t k) i ∧ ix (row t k) i < 12 := by
  have h1 := hT.len hk
  have h2 := hT.2.1
  refine ⟨by omega, fun i hi => ?_⟩
  have := hT.bd hk (y := i) (by omega)
  rw [← ent_def] at this
  omega

theorem text_le {t : List (List Int)} (hT : TableOk t) (k : Nat) : (textL (t.take k)).length ≤ 156 := by
  have h2 := hT.2.1
  have := length_textL_le (t.take k) 12 (fun i hi => by
    have hk : i < t.length := by rw [List.length_take] at hi; omega
    have e : row (t.take k) i = row t i := by
      rw [List.length_take] at hi
      rw [row_eq, row_eq, List.getD_eq_getElem?_getD, List.getD_eq_getElem?_getD, List.getElem?_take, if_pos (by omega)]
    rw [e]
    exact (row_digits hT hk).1)
  rw [List.length_take] at this
  have h3 : min k t.length ≤ 12 := by omega
  have := Nat.mul_le_mul_right 13 h3
  omega

theorem text_le' {t : List (List Int)} (hT : TableOk t) : (textL t).length ≤ 156 := by
  have := text_le hT t.length
  rwa [List.take_length] at this

theorem l01Text_any (t : List (List Int)) (v : Value) (w : World) (hv : Rows w v t) (hT : TableOk t) :
    Calls Tryz.prog 56 #[v] w fun e w' => e = .returned (.string (strB (textL t))) ∧ Ext w w' := by
  obtain ⟨hlen, b, o, c, rfl, hc⟩ := id hv
  have HT := Lib.hid hT
  have h12 := hT.2.1
  clear hT
  go_enter Tryz.func56, Tryz.ntmps56
  go_wp2
  go_loopw [3, 4] (fun s i wr => ∃ k : Nat, k ≤ t.length ∧ i = .int .i64 k ∧ s = .string (strB (textL (t.take k))) ∧ Ext w wr) (fun _ i _ => t.length - (intOf i).toNat)
  case atStart => exact ⟨0, Nat.zero_le _, rfl, by rw [List.take_zero, textL_nil]; rfl, Ext.refl _⟩
  case round =>
    obtain ⟨k, hk, rfl, rfl, hx⟩ := hrel
    by_cases hlt : k < t.length
    · obtain ⟨b1, o1, c1, x1, l1, hl1⟩ := (hc.ext hx).get hlt
      obtain ⟨r1, r2⟩ := row_digits HT.out hlt
      have tl := text_le HT.out k
      have tl2 := text_le HT.out (k + 1)
      have HR := Lib.hid r2
      clear r2
      by_cases hk0 : k = 0
      · have hadd := fun (W : World) => str_add (a := textL (t.take k)) (b := lineL (row t k)) (c := textL (t.take (k + 1))) (by subst hk0; rw [take_row _ _ hlt, List.take_zero, textL_nil, List.nil_append, List.nil_append, textL_one]) (by omega) W
        have hk1 : ¬ (0 : Int) < (k : Int) := by omega
        clear hk0
        go_wp2_with fail
        refine (l01Line_any (row t k) _ _ (l1.ints hl1 c1) r1 HR.out).mono ?_
        rintro e w1 ⟨rfl, hx1⟩
        go_wp2
        go_roundw
        case rel => exact ⟨k + 1, by omega, by go_num, rfl, hx.trans hx1⟩
        case measure => simp [intOf]; omega
      · have hadd1 : ∀ (W : World), (Op.stringOp .add (strB (textL (t.take k))) ⟨#[47]⟩).run Tryz.prog W = .ok (.string (strB (textL (t.take k) ++ [47]))) W := fun W => str_add (b := [47]) rfl (by rw [List.length_append]; simp only [List.length_cons, List.length_nil]; omega) W
        have hadd := fun (W : World) => str_add (a := textL (t.take k) ++ [47]) (b := lineL (row t k)) (c := textL (t.take (k + 1))) (by rw [take_row _ _ hlt, textL_snoc _ _ (ne_nil_of_lt (k := 0) (by rw [List.length_take]; omega))]) (by omega) W
        have hk1 : (0 : Int) < (k : Int) := by omega
        clear hk0
        go_wp2_with fail
        refine (l01Line_any (row t k) _ _ (l1.ints hl1 c1) r1 HR.out).mono ?_
        rintro e w1 ⟨rfl, hx1⟩
        go_wp2
        go_roundw
        case rel => exact ⟨k + 1, by omega, by go_num, rfl, hx.trans hx1⟩
        case measure => simp [intOf]; omega
    · go_wp2
      go_ret
      refine ⟨ret_str (by rw [List.take_of_length_le (by omega)]), hx⟩

@[irreducible] def linTo (t : List (List Int)) (k i : Nat) : Value := if i < k then .string (strB (lineL (row t i))) else .string ByteArray.empty
theorem linTo_zero (t : List (List Int)) (i : Nat) : linTo t 0 i = .string ByteArray.empty := by unfold linTo; simp
theorem linTo_in (t : List (List Int)) (k i : Nat) (h : i < k) : linTo t k i = .string (strB (lineL (row t i))) := by unfold linTo; rw [if_pos h]
theorem linTo_succ (t : List (List Int)) (k i : Nat) : linTo t (k + 1) i = if i = k then .string (strB (lineL (row t k))) else linTo t k i := by
  unfold linTo
  by_cases h : i = k
  · subst h; simp
  · rw [if_neg h]
    by_cases h2 : i < k
    · rw [if_pos h2, if_pos (by omega)]
    · rw [if_neg h2, if_neg (by omega)]

theorem join_lines (t : List (List Int)) : Lib.join ((t.map fun r => strB (lineL r)).map (·.data.toList)) [47] = textL t := by
  rw [← textL_def, List.map_map]
  congr 1

theorem tableText_any (t : List (List Int)) (v : Value) (w : World) (hv : Rows w v t) (hT : TableOk t) :
    Calls Tryz.prog 40 #[v] w fun e w' => e = .returned (.string (strB (textL t))) ∧ Ext w w' := by
  obtain ⟨hlen, b, o, c, rfl, hc⟩ := id hv
  have HT := Lib.hid hT
  have h12 := hT.2.1
  clear hT
  have hmk := run_make_row' (P := Tryz.prog) 69 9 (.string ByteArray.empty) 16 Tryz.underlying69 infoStr rfl .i64 .i64 t.length (by omega) (by omega)
  go_enter Tryz.func40, Tryz.ntmps40
  go_wp2_with fail
  clear hmk
  have hx0 : Ext w (w.alloc (.cells (madeCells #[Value.string ByteArray.empty] t.length) 9)) := (Ext.refl _).alloc _
  have hr0 := World.rowIs_made w (.string ByteArray.empty) t.length 9
  go_loopw [11] (fun i wr => ∃ k : Nat, k ≤ t.length ∧ i = .int .i64 k ∧ wr.rowIs w.heap.size 9 t.length (linTo t k) ∧ Ext w wr) (fun i _ => t.length - (intOf i).toNat)
  case atStart => exact ⟨0, Nat.zero_le _, rfl, hr0.congr (fun i hi => by rw [linTo_zero]), hx0⟩
  case round =>
    clear hx0 hr0
    obtain ⟨k, hk, rfl, hrow, hx⟩ := hrel
    by_cases hlt : k < t.length
    · obtain ⟨b1, o1, c1, x1, l1, hl1⟩ := (hc.ext hx).get hlt
      obtain ⟨r1, r2⟩ := row_digits HT.out hlt
      have HR := Lib.hid r2
      clear r2
      go_wp2_with fail
      refine (digitsText_any (row t k) _ _ (l1.ints hl1 c1) r1 HR.out).mono ?_
      rintro e w1 ⟨rfl, hx1⟩
      have hrow1 := hrow.of_block (hx1.block _ hrow.lt)
      have e2 := hrow1.cell hlt
      have e3 := hrow1.frozen k
      go_wp2
      go_roundw
      case rel => exact ⟨k + 1, by omega, by go_num, (hrow1.set k (.string (strB (lineL (row t k))))).congr (fun i hi => by rw [linTo_succ]), (hx.trans hx1).setNew (Nat.le_refl _) _⟩
      case measure => simp [intOf]; omega
    · have hkk : k = t.length := by omega
      subst hkk
      have hJ := sh_strings_Join w.heap.size 0 t.length (t.map fun r => strB (lineL r)) ⟨#[47]⟩ wr (by
        intro j x hj
        have hjl : j < t.length := by
          have := (List.getElem?_eq_some_iff.1 hj).1
          simpa using this
        have := hrow.cell hjl
        rw [linTo_in _ _ _ hjl] at this
        rw [Nat.zero_add, this, row_eq]
        simp [hjl] at hj
        simp [List.getD, hjl, hj]) hrow.lt (by rw [List.length_map]; omega) (by rw [List.length_map]; exact Nat.le_refl _) (by
        have e : Lib.join ((t.map fun r => strB (lineL r)).map (·.data.toList)) (ByteArray.mk #[47]).data.toList = textL t := join_lines t
        rw [e]
        have := text_le' HT.out
        omega)
      rw [List.length_map] at hJ
      have e : Lib.join ((t.map fun r => strB (lineL r)).map (·.data.toList)) (ByteArray.mk #[47]).data.toList = textL t := join_lines t
      rw [e] at hJ
      have HJ := Lib.hid hJ
      clear e hJ
      go_wp2_with fail
      refine HJ.out.mono ?_
      rintro e w1 ⟨rfl, hx1⟩
      have HX1 := Lib.hid (show Ext wr w1 from hx1)
      clear hx1
      go_wp2
      go_ret
      exact ⟨rfl, hx.trans HX1.out⟩

set_option maxRecDepth 100000 in
set_option maxHeartbeats 1000000 in
theorem l11Text_any (t u : List (List Int)) (v y : Value) (w : World) (hv : Rows w v t) (hy : Rows w y u) (hG : TableOk t) (hU : TableOk u) :
    Calls Tryz.prog 33 #[.agg #[v, y]] w fun e w' => e = .returned (.string (strB (twoL (textL t) (textL u)))) ∧ Ext w w' := by
  obtain ⟨hlen, b, o, c, rfl, hc⟩ := id hv
  obtain ⟨hlen2, b2, o2, c2, rfl, hc2⟩ := id hy
  have hX := ext_boxB w (.slice (some ⟨b, o, none⟩) t.length c) (.slice (some ⟨b2, o2, none⟩) u.length c2) 26
  have k0 := cell_new2a w (.slice (some ⟨b, o, none⟩) t.length c) (.slice (some ⟨b2, o2, none⟩) u.length c2) 26
  have k1 := cell_new2b w (.slice (some ⟨b, o, none⟩) t.length c) (.slice (some ⟨b2, o2, none⟩) u.length c2) 26
  have HG := Lib.hid hG
  have HU := Lib.hid hU
  have a1 := text_le' hG
  have a2 := text_le' hU
  clear hG hU hc hc2
  have hadd1 : ∀ (W : World), (Op.stringOp .add (strB (textL t)) ⟨#[124]⟩).run Tryz.prog W = .ok (.string (strB (barL (textL t)))) W := fun W => str_add (b := [124]) (barL_def _) (by rw [length_barL]; omega) W
  have hadd := fun (W : World) => str_add (a := barL (textL t)) (b := textL u) (twoL_def _ _) (by rw [length_twoL]; omega) W
  go_enter Tryz.func33, Tryz.ntmps33
  go_wp2_with fail
  generalize (w.alloc (.cells #[.slice (some ⟨b, o, none⟩) t.length c, .slice (some ⟨b2, o2, none⟩) u.length c2] 26)) = A at *
  go_region_held3 (fun w' => w'.cell? ⟨w.heap.size, 0, none⟩ = some (.slice (some ⟨b, o, none⟩) t.length c) ∧ w'.cell? ⟨w.heap.size, 1, none⟩ = some (.slice (some ⟨b2, o2, none⟩) u.length c2))
    ((refine ⟨?_, ?_⟩ <;> (first | (focus ((repeat first | (with_reducible assumption) | (with_reducible refine Ext.cell hxF ?_) | (with_reducible refine Ext.cell hxG ?_) |  (with_reducible exact kc_new) | ((with_reducible refine kc_newE ?_); (simp; done)) | ((with_reducible refine kc_newEa ?_); (simp; done)) | ((with_reducible refine kc_newEb ?_); (simp; done)) | (with_reducible apply kc_alloc) | (with_reducible apply kc_drewN) | (with_reducible apply kc_drew) | ((with_reducible refine kc_set ?_ ?_); (first | (simp only []; omega) | (simp; omega) | (focus (simp; done)))) | ((with_reducible refine kc_set2 ?_ ?_); (focus (simp; done))) | (with_reducible refine kc_same (v := .slice none 0 0) ?_)); done)) | (focus ((repeat first | (with_reducible assumption) | (with_reducible refine Ext.cell hxG ?_) | (with_reducible refine Ext.cell hxF ?_) |  (with_reducible exact kc_new) | ((with_reducible refine kc_newE ?_); (simp; done)) | ((with_reducible refine kc_newEa ?_); (simp; done)) | ((with_reducible refine kc_newEb ?_); (simp; done)) | (with_reducible apply kc_alloc) | (with_reducible apply kc_drewN) | (with_reducible apply kc_drew) | ((with_reducible refine kc_set ?_ ?_); (first | (simp only []; omega) | (simp; omega) | (focus (simp; done)))) | ((with_reducible refine kc_set2 ?_ ?_); (focus (simp; done))) | (with_reducible refine kc_same (v := .slice none 0 0) ?_)); done)))))
    (first
      | (go_at_call 56; (with_reducible refine (l01Text_any t (.slice (some ⟨b, o, none⟩) t.length c) _ (hv.ext (hX.trans (by (repeat first | (with_reducible exact Ext.refl _) | (with_reducible assumption) | (with_reducible apply Ext.drew) | (with_reducible apply kx_drewN) | (with_reducible apply kx_alloc) | ((with_reducible refine kx_set ?_ ?_); (first | (simp only []; omega) | (simp; omega) | (focus (simp; done)))) | (with_reducible refine Ext.trans ?_ hxG) )))) HG.out).mono ?_); rintro e wF ⟨rfl, hxF⟩)
      | (go_at_call 56; (with_reducible refine (l01Text_any u (.slice (some ⟨b2, o2, none⟩) u.length c2) _ (hy.ext (hX.trans (by (repeat first | (with_reducible exact Ext.refl _) | (with_reducible assumption) | (with_reducible apply Ext.drew) | (with_reducible apply kx_drewN) | (with_reducible apply kx_alloc) | ((with_reducible refine kx_set ?_ ?_); (first | (simp only []; omega) | (simp; omega) | (focus (simp; done)))) | (with_reducible refine Ext.trans ?_ hxF) )))) HU.out).mono ?_); rintro e wG ⟨rfl, hxG⟩))
  all_goals
    go_wp2
    go_ret
    first
      | exact ⟨rfl, ((hX.drew).trans hxF).trans hxG⟩
      | exact ⟨rfl, ((hX.drew).trans hxG).trans hxF⟩

set_option maxRecDepth 100000 in
set_option maxHeartbeats 1000000 in
theorem BraceText_impl (t u : List (List Int)) (v y : Value) (w : World) (hv : Rows w v t) (hy : Rows w y u) :
    Calls Tryz.prog 18 #[.agg #[v, y]] w (fun e w' => e = .returned (.tuple #[.string (strB (btL t u)), .int .i64 (codeB t u)]) ∧ Ext w w') := by
  obtain ⟨hlen, b, o, c, rfl, hc⟩ := id hv
  obtain ⟨hlen2, b2, o2, c2, rfl, hc2⟩ := id hy
  have hX := ext_boxB w (.slice (some ⟨b, o, none⟩) t.length c) (.slice (some ⟨b2, o2, none⟩) u.length c2) 26
  have k0 := cell_new2a w (.slice (some ⟨b, o, none⟩) t.length c) (.slice (some ⟨b2, o2, none⟩) u.length c2) 26
  have k1 := cell_new2b w (.slice (some ⟨b, o, none⟩) t.length c) (.slice (some ⟨b2, o2, none⟩) u.length c2) 26
  cases hb : braceB t u with
  | false =>
    rw [btL_no hb, codeB_no hb]
    clear hc hc2
    go_enter Tryz.func18, Tryz.ntmps18
    go_wp2_with fail
    refine (IsBrace_impl t u _ _ _ (hv.ext hX) (hy.ext hX)).mono ?_
    rintro e wn ⟨rfl, hx⟩
    replace hX := hX.trans hx
    replace k0 := hx.cell k0
    replace k1 := hx.cell k1
    clear hx
    rw [hb]
    go_wp2
    go_ret2
    exact ⟨rfl, hX⟩
  | true =>
    rw [btL_yes hb, codeB_yes hb]
    obtain ⟨hG, hU, hL⟩ := braceB_ok hb
    have HG := Lib.hid hG.1
    have HU := Lib.hid hU.1
    have a1 := text_le' hG.1
    have a2 := text_le' hU.1
    clear hL hG hU hc hc2
    have hadd1 : ∀ (W : World), (Op.stringOp .add (strB (textL t)) ⟨#[124]⟩).run Tryz.prog W = .ok (.string (strB (barL (textL t)))) W := fun W => str_add (b := [124]) (barL_def _) (by rw [length_barL]; omega) W
    have hadd := fun (W : World) => str_add (a := barL (textL t)) (b := textL u) (twoL_def _ _) (by rw [length_twoL]; omega) W
    go_enter Tryz.func18, Tryz.ntmps18
    go_wp2_with fail
    refine (IsBrace_impl t u _ _ _ (hv.ext hX) (hy.ext hX)).mono ?_
    rintro e wn ⟨rfl, hx⟩
    replace hX := hX.trans hx
    replace k0 := hx.cell k0
    replace k1 := hx.cell k1
    clear hx
    rw [hb]
    clear hb
    go_wp2_with fail
    go_region_held3 (fun w' => w'.cell? ⟨w.heap.size, 0, none⟩ = some (.slice (some ⟨b, o, none⟩) t.length c) ∧ w'.cell? ⟨w.heap.size, 1, none⟩ = some (.slice (some ⟨b2, o2, none⟩) u.length c2))
      ((refine ⟨?_, ?_⟩ <;> (first | (focus ((repeat first | (with_reducible assumption) | (with_reducible refine Ext.cell hxF ?_) | (with_reducible refine Ext.cell hxG ?_) |  (with_reducible exact kc_new) | ((with_reducible refine kc_newE ?_); (simp; done)) | ((with_reducible refine kc_newEa ?_); (simp; done)) | ((with_reducible refine kc_newEb ?_); (simp; done)) | (with_reducible apply kc_alloc) | (with_reducible apply kc_drewN) | (with_reducible apply kc_drew) | ((with_reducible refine kc_set ?_ ?_); (first | (simp only []; omega) | (simp; omega) | (focus (simp; done)))) | ((with_reducible refine kc_set2 ?_ ?_); (focus (simp; done))) | (with_reducible refine kc_same (v := .slice none 0 0) ?_)); done)) | (focus ((repeat first | (with_reducible assumption) | (with_reducible refine Ext.cell hxG ?_) | (with_reducible refine Ext.cell hxF ?_) |  (with_reducible exact kc_new) | ((with_reducible refine kc_newE ?_); (simp; done)) | ((with_reducible refine kc_newEa ?_); (simp; done)) | ((with_reducible refine kc_newEb ?_); (simp; done)) | (with_reducible apply kc_alloc) | (with_reducible apply kc_drewN) | (with_reducible apply kc_drew) | ((with_reducible refine kc_set ?_ ?_); (first | (simp only []; omega) | (simp; omega) | (focus (simp; done)))) | ((with_reducible refine kc_set2 ?_ ?_); (focus (simp; done))) | (with_reducible refine kc_same (v := .slice none 0 0) ?_)); done)))))
      (first
        | (go_at_call 40; (with_reducible refine (tableText_any t (.slice (some ⟨b, o, none⟩) t.length c) _ (hv.ext (hX.trans (by (repeat first | (with_reducible exact Ext.refl _) | (with_reducible assumption) | (with_reducible apply Ext.drew) | (with_reducible apply kx_drewN) | (with_reducible apply kx_alloc) | ((with_reducible refine kx_set ?_ ?_); (first | (simp only []; omega) | (simp; omega) | (focus (simp; done)))) | (with_reducible refine Ext.trans ?_ hxG) )))) HG.out).mono ?_); rintro e wF ⟨rfl, hxF⟩)
        | (go_at_call 40; (with_reducible refine (tableText_any u (.slice (some ⟨b2, o2, none⟩) u.length c2) _ (hy.ext (hX.trans (by (repeat first | (with_reducible exact Ext.refl _) | (with_reducible assumption) | (with_reducible apply Ext.drew) | (with_reducible apply kx_drewN) | (with_reducible apply kx_alloc) | ((with_reducible refine kx_set ?_ ?_); (first | (simp only []; omega) | (simp; omega) | (focus (simp; done)))) | (with_reducible refine Ext.trans ?_ hxF) )))) HU.out).mono ?_); rintro e wG ⟨rfl, hxG⟩))
    all_goals
      go_wp2
      go_ret2
      first
        | exact ⟨rfl, ((hX.drew).trans hxF).trans hxG⟩
        | exact ⟨rfl, ((hX.drew).trans hxG).trans hxF⟩

end Go.Proofs.YthlafeefjonkdaaGreatDoor
