/-
  Contracts: texts are parted and read: reference.
-/
import Derived.PlainAid
import Derived.Test.YthlafeefjonkdaaGreatDoorJx31
import Derived.Test.YthlafeefjonkdaaGreatDoorShB
namespace Go.Proofs.YthlafeefjonkdaaGreatDoor
set_option linter.unusedVariables false
set_option linter.unusedSimpArgs false
open Go.RowKit Go.PlainAid

theorem len_data (s : ByteArray) : s.data.toList.length = s.size := by
  cases s with | mk d => simp [ByteArray.size]
theorem bt_data (s : ByteArray) (k : Nat) (h : k < s.size) : bt s k = ((s.data.toList[k]'(by rw [len_data]; exact h)).toNat : Int) := by
  rw [← get_bt s k h]
  cases s with | mk d => rfl
theorem take_data (s : ByteArray) (k : Nat) (h : k < s.size) : s.data.toList.take (k + 1) = s.data.toList.take k ++ [s.data.toList[k]'(by rw [len_data]; exact h)] :=
  List.take_succ_eq_append_getElem (by rw [len_data]; exact h)
theorem txt_cut (s : ByteArray) (a k : Nat) (hk : k ≤ s.size) (ha : a ≤ k) : Value.string (s.extract a k) = txtV ((s.data.toList.take k).drop a) := by
  rw [← txtV_eq, Lib.extract_eq, List.drop_take]

/-! ### the byte against the digits -/
theorem dig_lo {c : UInt8} {z : Int} (hz : z = (c.toNat : Int)) (h1 : 48 ≤ z) (h2 : z ≤ 57) : digV c = z - 48 := by
  unfold digV; rw [if_pos (by omega), hz]
theorem dig_hi {c : UInt8} {z : Int} (hz : z = (c.toNat : Int)) (h1 : 97 ≤ z) (h2 : z ≤ 98) : digV c = z - 97 + 10 := by
  unfold digV; rw [if_neg (by omega), if_pos (by omega), hz]
theorem dig_no {c : UInt8} {z : Int} (hz : z = (c.toNat : Int)) (h1 : ¬ (48 ≤ z ∧ z ≤ 57)) (h2 : ¬ (97 ≤ z ∧ z ≤ 98)) : digV c = -1 := by
  unfold digV; rw [if_neg (by omega), if_neg (by omega)]

def ReadL (l : List UInt8) (w : World) (e : Ending) (w' : World) : Prop := Ext w w' ∧ if goodL l = true then ∃ br cr, e = .returned (.tuple #[.slice (some ⟨br, 0, none⟩) (digsL l).length cr, .bool true]) ∧ IntsAt w' br 0 (digsL l) ∧ w.heap.size ≤ br ∧ br < w'.heap.size
      else e = .returned (.tuple #[.slice none 0 0, .bool false])
theorem ReadL.yes {l : List UInt8} {w w' : World} {br cr n : Nat} (h : goodL l = true) (hx : Ext w w') (hr : IntsAt w' br 0 (digsL l)) (h1 : w.heap.size ≤ br) (h2 : br < w'.heap.size) (hn : n = (digsL l).length) : ReadL l w (.returned (.tuple #[.slice (some ⟨br, 0, none⟩) n cr, .bool true])) w' :=
  ⟨hx, by rw [if_pos h]; exact ⟨br, cr, by rw [hn], hr, h1, h2⟩⟩
theorem ReadL.no {l : List UInt8} {w w' : World} (h : goodL l = false) (hx : Ext w w') : ReadL l w (.returned (.tuple #[.slice none 0 0, .bool false])) w' :=
  ⟨hx, by rw [if_neg (by rw [h]; simp)]⟩

set_option maxRecDepth 100000 in
theorem l01Read_any (s : ByteArray) (w : World) (hs : s.size ≤ 1048576) :
    Calls Tryz.prog 66 #[.string s] w (ReadL s.data.toList w) := by
  have hll := len_data s
  go_enter Tryz.func66, Tryz.ntmps66
  go_wp2
  have hx0 : Ext w (w.alloc (.cells #[] 2)) := (Ext.refl _).alloc _
  have hg0 := GrowI.lit (e := 2) (base := w.heap.size) (w := w) (Nat.le_refl _)
  go_loopw [4, 5] (fun v i wr => ∃ k : Nat, k ≤ s.size ∧ i = .int .i64 k ∧ GrowI 2 w.heap.size wr v (digsL (s.data.toList.take k)) ∧ goodL (s.data.toList.take k) = true ∧ v ≠ .slice none 0 0 ∧ Ext w wr) (fun _ i _ => s.size - (intOf i).toNat)
  case atStart => exact ⟨0, Nat.zero_le _, rfl, by rw [List.take_zero, digsL_nil]; exact hg0, by rw [List.take_zero, goodL_nil], by simp, hx0⟩
  case round =>
    clear hx0 hg0
    obtain ⟨k, hk, rfl, hg, hgood, hv, hx⟩ := hrel
    have HV := Lib.hid hv
    have HG := Lib.hid hgood
    clear hv hgood
    by_cases hkl : k < s.size
    case neg =>
      have hta : s.data.toList.take k = s.data.toList := List.take_of_length_le (by omega)
      rw [hta] at hg
      have hgd := HG.out
      rw [hta] at hgd
      obtain ⟨br, cr, rfl, hri, hrb, hrb2⟩ := hg.row HV.out
      go_wp2
      go_ret2
      exact ReadL.yes hgd hx hri hrb hrb2 rfl
    case pos =>
      have hb := get_bt s k hkl
      have hz := bt_data s k hkl
      have htk := take_data s k hkl
      generalize hcd : s.data.toList[k]'(by rw [len_data]; exact hkl) = c at hz htk
      have b0 := bt_nonneg s k
      have b1 := bt_le s k
      generalize bt s k = z at hb hz b0 b1
      have HT := Lib.hid htk
      have HZ := Lib.hid hz
      clear htk hz
      have hlk : (digsL (s.data.toList.take k)).length = k := by rw [length_digsL, List.length_take]; omega
      have HLK := Lib.hid hlk
      clear hlk
      by_cases h1 : 48 ≤ z ∧ z ≤ 57
      · obtain ⟨h1a, h1b⟩ := h1
        have hd := dig_lo HZ.out h1a h1b
        have e1 : inR z 48 57 = true := inR_iff.2 ⟨h1a, h1b⟩
        have e2 := e1
        have HD := Lib.hid hd
        clear hd
        go_wp2_with (first | (go_at_call 79; refine (l01In_any _ _ _ _).mono ?_; rintro e w' ⟨rfl, rfl⟩; first | rw [e1] | rw [e2]) | (at_builtin; refine wpList_append_int rfl _ _ 29 2 rfl Tryz.underlying29 infoInt w.heap.size _ _ rfl (hg.alloc _) _ _ rfl (cell_new _ _ _) (by rw [HLK.out]; omega) (by have := hx.size; simp; omega) ?_))
        intro v' w3 hi3 hgr hv3
        have hx3 : Ext w w3 := (hx.trans (ext_box _ _ _)).grown hgr (hg.alloc _) (Nat.le_refl _)
        clear hgr
        go_wp2
        go_roundw
        case rel => exact ⟨k + 1, by omega, by go_num, by rw [HT.out, digsL_snoc, HD.out]; exact hi3, by rw [HT.out, goodL_snoc, HG.out, HD.out]; simp; omega, hv3, hx3⟩
        case measure => simp [intOf]; omega
      · by_cases h2 : 97 ≤ z ∧ z ≤ 98
        · obtain ⟨h2a, h2b⟩ := h2
          have hd := dig_hi HZ.out h2a h2b
          have e1 : inR z 48 57 = false := by rw [← Bool.not_eq_true, inR_iff]; exact h1
          have e2 : inR z 97 98 = true := inR_iff.2 ⟨h2a, h2b⟩
          have HD := Lib.hid hd
          clear hd h1
          go_wp2_with (first | (go_at_call 79; refine (l01In_any _ _ _ _).mono ?_; rintro e w' ⟨rfl, rfl⟩; first | rw [e1] | rw [e2]) | (at_builtin; refine wpList_append_int rfl _ _ 29 2 rfl Tryz.underlying29 infoInt w.heap.size _ _ rfl (hg.alloc _) _ _ rfl (cell_new _ _ _) (by rw [HLK.out]; omega) (by have := hx.size; simp; omega) ?_))
          intro v' w3 hi3 hgr hv3
          have hx3 : Ext w w3 := (hx.trans (ext_box _ _ _)).grown hgr (hg.alloc _) (Nat.le_refl _)
          clear hgr
          go_wp2
          go_roundw
          case rel => exact ⟨k + 1, by omega, by go_num, by rw [HT.out, digsL_snoc, HD.out]; exact hi3, by rw [HT.out, goodL_snoc, HG.out, HD.out]; simp; omega, hv3, hx3⟩
          case measure => simp [intOf]; omega
        · have hd := dig_no HZ.out h1 h2
          have hno : goodL s.data.toList = false := by
            rw [← Bool.not_eq_true]
            intro e
            have := goodL_mem e (c := c) (by rw [← hcd]; exact List.getElem_mem _)
            omega
          have HNO := Lib.hid hno
          clear hd hno
          have e1 : inR z 48 57 = false := by rw [← Bool.not_eq_true, inR_iff]; exact h1
          have e2 : inR z 97 98 = false := by rw [← Bool.not_eq_true, inR_iff]; exact h2
          clear h1 h2
          go_wp2_with (go_at_call 79; refine (l01In_any _ _ _ _).mono ?_; rintro e w' ⟨rfl, rfl⟩; first | rw [e1] | rw [e2])
          go_ret2
          exact ReadL.no HNO.out hx

set_option maxRecDepth 100000 in
theorem l01Split_any (s : ByteArray) (c : UInt8) (w : World) (hs : s.size ≤ 1048576) :
    Calls Tryz.prog 38 #[.string s, .int .u8 (c.toNat : Int)] w fun e w' => ∃ v, e = .returned v ∧ Strs w' v (splitL c s.data.toList) ∧ Ext w w' := by
  have hll := len_data s
  have hc0 := Int.natCast_nonneg c.toNat
  have hc1 : (c.toNat : Int) ≤ 255 := by have := c.toNat_lt; omega
  obtain ⟨y, hy⟩ : ∃ y : Int, y = (c.toNat : Int) := ⟨_, rfl⟩
  rw [← hy] at hc0 hc1 ⊢
  have HY := Lib.hid hy
  clear hy
  go_enter Tryz.func38, Tryz.ntmps38
  go_wp2
  have hx0 : Ext w (w.alloc (.cells #[] 9)) := (Ext.refl _).alloc _
  have hg0 := GrowS.lit (e := 9) (base := w.heap.size) (w := w) (Nat.le_refl _)
  go_loopw [5, 6, 7] (fun v m i wr => ∃ (k a : Nat) (out : List (List UInt8)), k ≤ s.size ∧ a ≤ k ∧ out.length ≤ a ∧ i = .int .i64 k ∧ m = .int .i64 a ∧ GrowS 9 w.heap.size wr v out ∧ splitL c (s.data.toList.take k) = out ++ [(s.data.toList.take k).drop a] ∧ v ≠ .slice none 0 0 ∧ Ext w wr) (fun _ _ i _ => s.size - (intOf i).toNat)
  case atStart => exact ⟨0, 0, [], Nat.zero_le _, Nat.le_refl _, Nat.le_refl _, rfl, rfl, hg0, by rw [List.take_zero]; rfl, by simp, hx0⟩
  case round =>
    clear hx0 hg0
    obtain ⟨k, a, out, hk, ha, hoa, rfl, rfl, hg, hsp, hv, hx⟩ := hrel
    have HV := Lib.hid hv
    have HS := Lib.hid hsp
    clear hv hsp
    by_cases hkl : k < s.size
    case neg =>
      have hcut := txt_cut s a s.size (Nat.le_refl _) (by omega)
      have hta : s.data.toList.take s.size = s.data.toList := List.take_of_length_le (by omega)
      have hke : s.data.toList.take k = s.data.toList := List.take_of_length_le (by omega)
      rw [hta] at hcut
      have HC := Lib.hid hcut
      have HK := Lib.hid hke
      clear hcut hta hke hll
      have haz : a ≤ s.size := by omega
      go_wp2_with (at_builtin; refine wpList_append_str rfl _ _ 69 9 rfl Tryz.underlying69 infoStr w.heap.size _ out rfl (hg.ext (ext_box _ _ _)) _ (s.data.toList.drop a) rfl (by rw [← HC.out]; exact cell_new _ _ _) (by omega) (by have := hx.size; simp; omega) ?_)
      intro v' w3 hi3 hgr hv3
      have hx3 : Ext w w3 := (hx.trans (ext_box _ _ _)).grown hgr (hg.ext (ext_box _ _ _)) (Nat.le_refl _)
      clear hgr
      have hst := hi3.strs hv3
      have hfin := HS.out
      rw [HK.out] at hfin
      rw [← hfin] at hst
      go_wp2
      go_ret
      exact ⟨_, rfl, hst, hx3⟩
    case pos =>
      have hb := get_bt s k hkl
      have hz := bt_data s k hkl
      have htk := take_data s k hkl
      generalize hcd : s.data.toList[k]'(by rw [len_data]; exact hkl) = d at hz htk
      have b0 := bt_nonneg s k
      have b1 := bt_le s k
      generalize bt s k = z at hb hz b0 b1
      have hstep := splitL_step c d _ _ _ HS.out
      rw [← htk] at hstep
      have hdr : (s.data.toList.take (k + 1)).drop a = (s.data.toList.take k).drop a ++ [d] := by
        rw [htk, List.drop_append_of_le_length (by rw [List.length_take]; omega)]
      have hdr2 : (s.data.toList.take (k + 1)).drop (k + 1) = [] := List.drop_of_length_le (by rw [List.length_take]; omega)
      by_cases h1 : z = y
      · have hdc : d = c := UInt8.toNat_inj.1 (by have := HY.out; omega)
        rw [if_pos hdc, ← hdr2] at hstep
        have HST := Lib.hid hstep
        have hcut := txt_cut s a k hk ha
        clear hstep hdr hdr2 htk hz hdc hcd
        subst h1
        have HC := Lib.hid hcut
        clear hcut
        go_wp2_with (at_builtin; refine wpList_append_str rfl _ _ 69 9 rfl Tryz.underlying69 infoStr w.heap.size _ out rfl (hg.ext (ext_box _ _ _)) _ ((s.data.toList.take k).drop a) rfl (by rw [← HC.out]; exact cell_new _ _ _) (by omega) (by have := hx.size; simp; omega) ?_)
        intro v' w3 hi3 hgr hv3
        have hx3 : Ext w w3 := (hx.trans (ext_box _ _ _)).grown hgr (hg.ext (ext_box _ _ _)) (Nat.le_refl _)
        clear hgr
        go_wp2
        go_roundw
        case rel => exact ⟨k + 1, k + 1, _, by omega, Nat.le_refl _, by rw [List.length_append]; simp; omega, by go_num, by go_num, hi3, HST.out, hv3, hx3⟩
        case measure => simp [intOf]; omega
      · have hdc : ¬ d = c := fun e => h1 (by rw [hz, e, HY.out])
        rw [if_neg hdc, ← hdr] at hstep
        have HST := Lib.hid hstep
        clear hstep hdr hdr2 htk hz hdc hcd
        go_wp2
        go_roundw
        case rel => exact ⟨k + 1, a, out, by omega, by omega, hoa, by go_num, rfl, hg, HST.out, HV.out, hx⟩
        case measure => simp [intOf]; omega
end Go.Proofs.YthlafeefjonkdaaGreatDoor


namespace Go.Proofs.YthlafeefjonkdaaGreatDoor
set_option linter.unusedVariables false
set_option linter.unusedSimpArgs false
open Go.RowKit Go.PlainAid

theorem l01Table_long {n : Nat} (a : Option Addr) (c : Nat) (w : World) (h : 12 < n) (hn : n ≤ 1048600) : Calls Tryz.prog 67 #[.slice a n c] w fun e w' => e = .returned (.bool false) ∧ w = w' := by
  have e1 : inR (n : Int) 1 12 = false := by rw [← Bool.not_eq_true, inR_iff]; omega
  go_enter Tryz.func67, Tryz.ntmps67
  go_wp2_with (go_at_call 79; refine (l01In_any _ _ _ _).mono ?_; rintro e w' ⟨rfl, rfl⟩; rw [e1])
  go_ret
  exact ⟨rfl, rfl⟩

theorem tabL_bd (l : List UInt8) (h : l.length ≤ 1048576) (k : Nat) : (row (tabL l) k).length ≤ 1048576 := by
  by_cases hk : k < (splitL 47 l).length
  · rw [row_tabL hk, length_digsL]
    have := part_len hk
    omega
  · rw [row_eq]
    have : (tabL l).length ≤ k := by rw [tabL_len]; omega
    simp [List.getD, List.getElem?_eq_none this]

theorem tabL_take {l : List UInt8} {k : Nat} (h : k < (splitL 47 l).length) : (tabL l).take (k + 1) = (tabL l).take k ++ [digsL ((splitL 47 l)[k])] := by
  rw [take_row _ _ (by rw [tabL_len]; exact h), row_tabL h]

theorem txt_data (p : List UInt8) : (⟨p.toArray⟩ : ByteArray).data.toList = p := by simp

def ParseL (l : List UInt8) (w : World) (e : Ending) (w' : World) : Prop := Ext w w' ∧ if readB l = true then ∃ v, e = .returned (.tuple #[v, .bool true]) ∧ Rows w' v (tabL l)
      else e = .returned (.tuple #[.slice none 0 0, .bool false])
theorem ParseL.yes {l : List UInt8} {w w' : World} {v : Value} (h : readB l = true) (hx : Ext w w') (hr : Rows w' v (tabL l)) : ParseL l w (.returned (.tuple #[v, .bool true])) w' :=
  ⟨hx, by rw [if_pos h]; exact ⟨v, rfl, hr⟩⟩
theorem ParseL.no {l : List UInt8} {w w' : World} (h : readB l = false) (hx : Ext w w') : ParseL l w (.returned (.tuple #[.slice none 0 0, .bool false])) w' :=
  ⟨hx, by rw [if_neg (by rw [h]; simp)]⟩
theorem readB_part {l : List UInt8} {k : Nat} (h : k < (splitL 47 l).length) (hg : goodL ((splitL 47 l)[k]) = false) : readB l = false := by
  rw [readB_eq, all_no h hg, Bool.false_and]
theorem readB_all {l : List UInt8} (hg : goodTo (splitL 47 l) (splitL 47 l).length = true) : readB l = tableB (tabL l) := by
  rw [readB_eq, ← goodTo_all, hg, Bool.true_and]

set_option maxRecDepth 100000 in
set_option maxHeartbeats 2000000 in
theorem l01Parse_any (s : ByteArray) (w : World) (hs : s.size ≤ 1048576) :
    Calls Tryz.prog 39 #[.string s] w (ParseL s.data.toList w) := by
  have hll := len_data s
  have hpl := parts_len 47 s.data.toList
  have HTL := Lib.hid (tabL_len s.data.toList)
  have HBD := Lib.hid (tabL_bd s.data.toList (by omega))
  obtain ⟨n, hn⟩ : ∃ n : Nat, n = (splitL 47 s.data.toList).length := ⟨_, rfl⟩
  go_enter Tryz.func39, Tryz.ntmps39
  go_wp2_with fail
  refine (l01Split_any s 47 _ hs).mono ?_
  rintro e w1 ⟨v1, rfl, hp, hx1⟩
  obtain ⟨pb, pc, rfl, hpc⟩ := hp
  rw [← hn] at hpl ⊢
  have HN := Lib.hid hn
  have HPC := Lib.hid hpc
  clear hn hpc
  go_wp2
  have hx0 : Ext w (w1.alloc (.cells #[] 29)) := hx1.alloc _
  have hg0 := GrowT.lit (e := 29) (base := w1.heap.size) (w := w1) (Nat.le_refl _)
  have hy0 : Ext w1 (w1.alloc (.cells #[] 29)) := (Ext.refl _).alloc _
  go_loopw [5, 6] (fun v x wr => ∃ k : Nat, k ≤ n ∧ x = .int .i64 k ∧ GrowT 29 w1.heap.size wr v ((tabL s.data.toList).take k) ∧ goodTo (splitL 47 s.data.toList) k = true ∧ v ≠ .slice none 0 0 ∧ Ext w1 wr) (fun _ x _ => n - (intOf x).toNat)
  case atStart => exact ⟨0, Nat.zero_le _, rfl, hg0, goodTo_zero _, by simp, hy0⟩
  case round =>
    clear hx0 hg0 hy0
    obtain ⟨k, hk, rfl, hg, hgood, hv, hx⟩ := hrel
    have HV := Lib.hid hv
    have HG := Lib.hid hgood
    clear hv hgood
    by_cases hkl : k < n
    case neg =>
      have hke : k = n := by omega
      subst hke
      have hta : (tabL s.data.toList).take k = tabL s.data.toList := List.take_of_length_le (by rw [HTL.out, ← HN.out]; exact Nat.le_refl _)
      rw [hta] at hg
      have hgd := HG.out
      rw [HN.out] at hgd
      have hrb := Lib.hid (readB_all hgd)
      obtain ⟨ga, gc, rfl⟩ := hg.slice
      have hlen := HTL.out
      rw [← HN.out] at hlen
      rw [hlen]
      have HL := Lib.hid hlen
      clear hlen
      by_cases h12 : 12 < k
      · have hno : readB s.data.toList = false := by
          rw [hrb.out, ← Bool.not_eq_true, tableB_iff]
          intro h
          have := h.2.1
          have := HL.out
          omega
        have HNO := Lib.hid hno
        clear hno hgd hta
        go_wp2_with (go_at_call 67; refine (l01Table_long _ _ _ h12 (by omega)).mono ?_; rintro e w' ⟨rfl, rfl⟩)
        go_ret2
        exact ParseL.no HNO.out (hx1.trans hx)
      · have hr := hg.rows (by rw [HL.out]; omega) HV.out
        rw [HL.out] at hr
        have HR := Lib.hid hr
        cases hb : tableB (tabL s.data.toList) with
        | false =>
          rw [hb] at hrb
          clear hgd hta hr
          go_wp2_with (go_at_call 67; refine (l01Table_any (tabL s.data.toList) _ _ HR.out).mono ?_; rintro e w' ⟨rfl, rfl⟩; rw [hb])
          go_ret2
          exact ParseL.no hrb.out (hx1.trans hx)
        | true =>
          rw [hb] at hrb
          clear hgd hta hr
          go_wp2_with (go_at_call 67; refine (l01Table_any (tabL s.data.toList) _ _ HR.out).mono ?_; rintro e w' ⟨rfl, rfl⟩; rw [hb])
          go_ret2
          exact ParseL.yes hrb.out (hx1.trans hx) HR.out
    case pos =>
      have hkl2 : k < (splitL 47 s.data.toList).length := by rw [← HN.out]; exact hkl
      have hcell : wr.cell? ⟨pb, k, none⟩ = some (.string ⟨((splitL 47 s.data.toList)[k]).toArray⟩) := by
        rw [txtV_eq]
        exact hx.cell (HPC.out k _ (List.getElem?_eq_getElem hkl2))
      have hpk := part_len hkl2
      have htk := tabL_take hkl2
      have hgt := goodTo_succ hkl2
      rw [HG.out, Bool.true_and] at hgt
      have hno := fun h => readB_part hkl2 h
      have hrow := row_tabL hkl2
      generalize (splitL 47 s.data.toList)[k] = p at hcell hpk htk hgt hno hrow
      have hps : (⟨p.toArray⟩ : ByteArray).size ≤ 1048576 := by rw [bytes_size]; omega
      have HT := Lib.hid htk
      have HGT := Lib.hid hgt
      have HNO := Lib.hid hno
      clear htk hgt hno hrow
      go_wp2_with fail
      refine (l01Read_any _ _ hps).mono ?_
      rintro e w2 ⟨hx2, hread⟩
      rw [txt_data] at hread
      cases hgp : goodL p with
      | false =>
        rw [if_neg (by rw [hgp]; simp)] at hread
        subst hread
        go_wp2
        go_ret2
        exact ParseL.no (HNO.out hgp) (hx1.trans (hx.trans hx2))
      | true =>
        rw [if_pos hgp] at hread
        obtain ⟨br, cr, rfl, hri, hrb, hrb2⟩ := hread
        have hgw := hg.ext hx2
        have hout := hg.lt
        have hne : some br ≠ u5.ownBlock := fun e => by have := hout br e.symm; omega
        have htl : ((tabL s.data.toList).take k).length = k := by rw [List.length_take, HTL.out, ← HN.out]; omega
        have HTK := Lib.hid htl
        have HO := Lib.hid hout
        have hdl : (digsL p).length ≤ 1048576 := by rw [length_digsL]; omega
        clear htl hg hout
        go_wp2_with (at_builtin; refine wpList_append_row rfl _ _ 24 29 rfl Tryz.underlying24 infoSl w1.heap.size _ _ rfl (hgw.ext (ext_box _ _ _)) _ br cr _ rfl (cell_new _ _ _) (hri.ext (ext_box _ _ _)) hdl hne (by rw [HTK.out]; omega) (by have := hx.size; have := hx2.size; simp; omega) ?_)
        intro v' w3 hg3 hgr hv3
        have hx3 : Ext w1 w3 := (hx.trans (hx2.trans (ext_box _ _ _))).grown hgr (hgw.ext (ext_box _ _ _)).own.choose_spec (Nat.le_refl _)
        clear hgr hne hgw
        go_wp2
        go_roundw
        case rel => exact ⟨k + 1, by omega, by go_num, by rw [HT.out]; exact hg3, by rw [HGT.out]; exact hgp, hv3, hx3⟩
        case measure => simp [intOf]; omega

theorem retB_no {l : List UInt8} {w w' : World} (h : okPB l = false) (hx : Ext w w') : RetB (parT l) (parU l) (parC l) w (.returned (.tuple #[.agg #[.slice none 0 0, .slice none 0 0], .int .i64 6])) w' := by
  obtain ⟨e1, e2, e3⟩ := par_no h
  rw [e1, e2, e3]
  exact ⟨_, _, rfl, ⟨RowsR.nil _ _, RowsR.nil _ _⟩, hx⟩
def Var2 (B : Nat) (W : World) (v y : Value) : Prop := W.cell? ⟨B, 0, none⟩ = some v ∧ W.cell? ⟨B, 1, none⟩ = some y ∧ W.frozen? ⟨B, 0, none⟩ = false ∧ W.frozen? ⟨B, 1, none⟩ = false
theorem Var2.new (w : World) (v y : Value) (T : TypeId) : Var2 w.heap.size (w.alloc (.cells #[v, y] T)) v y := ⟨by simp [go_sem], by simp [go_sem], by simp [go_sem], by simp [go_sem]⟩
theorem Var2.ext {B : Nat} {W W' : World} {v y : Value} (h : Var2 B W v y) (m : Ext W W') (hB : B < W.heap.size) : Var2 B W' v y := ⟨m.cell h.1, m.cell h.2.1, m.free h.2.2.1 hB, m.free h.2.2.2 hB⟩
theorem two_list {α : Type} {l : List α} (h : l.length = 2) : ∃ a c, l = [a, c] := by
  match l, h with
  | [a, c], _ => exact ⟨a, c, rfl⟩
theorem Rows.set2 {w : World} {v : Value} {t : List (List Int)} (h : Rows w v t) {B : Nat} (h0 : Var2 B w (.slice none 0 0) (.slice none 0 0)) (p q : Value) : Rows ((w.setCell ⟨B, 0, none⟩ p).setCell ⟨B, 1, none⟩ q) v t :=
  (h.setNil h0.1 p).setNil (by rw [World.cell?_setCell_other _ _ _ _ (by simp)]; exact h0.2.1) q

set_option maxRecDepth 100000 in
set_option maxHeartbeats 4000000 in
theorem ParseBrace_spec (s : ByteArray) (w : World) (hs : s.size ≤ 1048576) :
    Calls Tryz.prog 17 #[.string s] w (RetB (parT s.data.toList) (parU s.data.toList) (parC s.data.toList) w) := by
  have hll := len_data s
  have hx0 : Ext w (w.alloc (.cells #[.slice none 0 0, .slice none 0 0] 26)) := (Ext.refl _).alloc _
  have HV0 := Lib.hid (Var2.new w (.slice none 0 0) (.slice none 0 0) 26)
  go_enter Tryz.func17, Tryz.ntmps17
  go_wp2_with fail
  refine (l01Split_any s 124 _ hs).mono ?_
  rintro e w1 ⟨v1, rfl, hp, hx1⟩
  obtain ⟨pb, pc, rfl, hpc⟩ := hp
  have HV1 := Lib.hid (HV0.out.ext hx1 (by simp))
  have hX1 := hx0.trans hx1
  have z1 := hX1.size
  have z1' := hx1.size
  simp only [World.size_alloc] at z1'
  clear HV0 hx0
  by_cases h2 : (splitL 124 s.data.toList).length = 2
  case neg =>
    have hno := okP_no h2
    have HNO := Lib.hid hno
    obtain ⟨n, hn⟩ : ∃ n : Nat, n = (splitL 124 s.data.toList).length := ⟨_, rfl⟩
    rw [← hn] at h2 ⊢
    clear hno hpc hn
    have g0 := HV1.out.1
    have g1 := HV1.out.2.1
    have g2 := HV1.out.2.2.1
    have g3 := HV1.out.2.2.2
    have hn2 : ¬ ((n : Nat) : Int) = 2 := by omega
    go_wp2
    exact bodyPost_ret (v := .tuple #[.agg #[.slice none 0 0, .slice none 0 0], .int .i64 6]) (by simp [results, Tryz.results17, go_sem, g0, g1]) rfl (retB_no HNO.out ((hX1.setNew (Nat.le_refl _) _).setNew (Nat.le_refl _) _))
  case pos =>
    obtain ⟨pa, pd, hpq⟩ := two_list h2
    rw [hpq] at hpc ⊢
    have c0 := hpc 0 pa rfl
    have c1 := hpc 1 pd rfl
    rw [← txtV_eq] at c0 c1
    have hl0 : pa.length ≤ s.data.toList.length := by have := part_len (b := 124) (l := s.data.toList) (k := 0) (by omega); simpa [hpq] using this
    have hl1 : pd.length ≤ s.data.toList.length := by have := part_len (b := 124) (l := s.data.toList) (k := 1) (by omega); simpa [hpq] using this
    have hps0 : (⟨pa.toArray⟩ : ByteArray).size ≤ 1048576 := by rw [bytes_size]; omega
    have hps1 : (⟨pd.toArray⟩ : ByteArray).size ≤ 1048576 := by rw [bytes_size]; omega
    have HOK := Lib.hid (okP_two hpq)
    have HPT := Lib.hid (two_parts hpq)
    clear hpq h2 hpc hl0 hl1 hll
    rw [show [pa, pd].length = 2 from rfl]
    go_wp2_with fail
    refine (l01Parse_any _ _ hps0).mono ?_
    rintro e w2 ⟨hx2, hr0⟩
    rw [txt_data] at hr0
    have HV2 := Lib.hid (HV1.out.ext hx2 (by omega))
    have z2 := hx2.size
    have c1' := hx2.cell c1
    clear HV1 c0
    cases h0 : readB pa with
    | false =>
      rw [if_neg (by rw [h0]; simp)] at hr0
      subst hr0
      go_wp2_with fail
      refine (l01Parse_any _ _ hps1).mono ?_
      rintro e w3 ⟨hx3, hr1⟩
      rw [txt_data] at hr1
      have hno : okPB s.data.toList = false := by rw [HOK.out, h0]; rfl
      have HNO := Lib.hid hno
      have HV3 := Lib.hid (HV2.out.ext hx3 (by omega))
      have z3 := hx3.size
      have hX3 := hX1.trans (hx2.trans hx3)
      obtain ⟨sa, sn, sc, bo, rfl⟩ : ∃ a n c bo, e = .returned (.tuple #[.slice a n c, .bool bo]) := by
        by_cases h1 : readB pd = true
        · rw [if_pos h1] at hr1
          obtain ⟨v, rfl, -, b, o, c, rfl, -⟩ := hr1
          exact ⟨_, _, _, _, rfl⟩
        · rw [if_neg h1] at hr1
          exact ⟨_, _, _, _, hr1⟩
      clear hno hr1 HV2 HOK
      have hxb : Ext w3 (w3.alloc (.cells #[.slice none 0 0, .slice sa sn sc] 26)) := (Ext.refl w3).alloc _
      have HV4 := Lib.hid (HV3.out.ext hxb (by omega))
      have hX4 := hX3.trans hxb
      clear hxb HV3
      go_upto_region 7 with fail
      generalize (w3.alloc (.cells #[.slice none 0 0, .slice sa sn sc] 26)) = w4 at *
      have g0 := HV4.out.1
      have g1 := HV4.out.2.1
      have g2 := HV4.out.2.2.1
      have g3 := HV4.out.2.2.2
      go_wp2
      exact bodyPost_ret (v := .tuple #[.agg #[.slice none 0 0, .slice none 0 0], .int .i64 6]) (by simp [results, Tryz.results17, go_sem, g0, g1]) rfl (retB_no HNO.out ((hX4.setNew (Nat.le_refl _) _).setNew (Nat.le_refl _) _))
    | true =>
      rw [if_pos h0] at hr0
      obtain ⟨va, rfl, hra⟩ := hr0
      obtain ⟨-, ba, oa, ca, rfl, -⟩ := id hra
      go_wp2_with fail
      refine (l01Parse_any _ _ hps1).mono ?_
      rintro e w3 ⟨hx3, hr1⟩
      rw [txt_data] at hr1
      have HV3 := Lib.hid (HV2.out.ext hx3 (by omega))
      have z3 := hx3.size
      have hX3 := hX1.trans (hx2.trans hx3)
      have hra3 := hra.ext hx3
      clear HV2 hra
      cases h1 : readB pd with
      | false =>
        rw [if_neg (by rw [h1]; simp)] at hr1
        subst hr1
        have hno : okPB s.data.toList = false := by rw [HOK.out, h1]; simp
        have HNO := Lib.hid hno
        clear hno HOK hra3
        have hxb : Ext w3 (w3.alloc (.cells #[.slice (some ⟨ba, oa, none⟩) (tabL pa).length ca, .slice none 0 0] 26)) := (Ext.refl w3).alloc _
        have HV4 := Lib.hid (HV3.out.ext hxb (by omega))
        have hX4 := hX3.trans hxb
        clear hxb HV3
        go_upto_region 7 with fail
        generalize (w3.alloc (.cells #[.slice (some ⟨ba, oa, none⟩) (tabL pa).length ca, .slice none 0 0] 26)) = w4 at *
        have g0 := HV4.out.1
        have g1 := HV4.out.2.1
        have g2 := HV4.out.2.2.1
        have g3 := HV4.out.2.2.2
        go_wp2
        exact bodyPost_ret (v := .tuple #[.agg #[.slice none 0 0, .slice none 0 0], .int .i64 6]) (by simp [results, Tryz.results17, go_sem, g0, g1]) rfl (retB_no HNO.out ((hX4.setNew (Nat.le_refl _) _).setNew (Nat.le_refl _) _))
      | true =>
        rw [if_pos h1] at hr1
        obtain ⟨vd, rfl, hrd⟩ := hr1
        obtain ⟨-, bd, od, cd, rfl, -⟩ := id hrd
        have hxb : Ext w3 (w3.alloc (.cells #[.slice (some ⟨ba, oa, none⟩) (tabL pa).length ca, .slice (some ⟨bd, od, none⟩) (tabL pd).length cd] 26)) := (Ext.refl w3).alloc _
        have HV4 := Lib.hid (HV3.out.ext hxb (by omega))
        have HB4 := Lib.hid (Var2.new w3 (.slice (some ⟨ba, oa, none⟩) (tabL pa).length ca) (.slice (some ⟨bd, od, none⟩) (tabL pd).length cd) 26)
        have HRA := Lib.hid (hra3.ext hxb)
        have HRD := Lib.hid (hrd.ext hxb)
        have hX4 := hX3.trans hxb
        have z4 : w3.heap.size ≤ (w3.alloc (.cells #[.slice (some ⟨ba, oa, none⟩) (tabL pa).length ca, .slice (some ⟨bd, od, none⟩) (tabL pd).length cd] 26)).heap.size := hxb.size
        rw [h0, h1, Bool.true_and, Bool.true_and] at HOK
        clear hra3 hrd HV3 hxb
        go_upto_region 7 with fail
        generalize (w3.alloc (.cells #[.slice (some ⟨ba, oa, none⟩) (tabL pa).length ca, .slice (some ⟨bd, od, none⟩) (tabL pd).length cd] 26)) = w4 at *
        have g0 := HV4.out.1
        have g1 := HV4.out.2.1
        have g2 := HV4.out.2.2.1
        have g3 := HV4.out.2.2.2
        have b0 := HB4.out.1
        have b1 := HB4.out.2.1
        cases hb : braceB (tabL pa) (tabL pd) with
        | false =>
          have hno : okPB s.data.toList = false := by rw [HOK.out, hb]
          have HNO := Lib.hid hno
          clear hno HOK
          clear g0 g1 g2 g3
          go_wp2_with fail
          refine (l11Is_any (tabL pa) (tabL pd) _ _ _ HRA.out HRD.out).mono ?_
          rintro e w5 ⟨rfl, hx5⟩
          rw [hb]
          have HV5 := Lib.hid (HV4.out.ext hx5 (by omega))
          have hX5 := hX4.trans hx5
          have b0' := hx5.cell b0
          have b1' := hx5.cell b1
          have HRA5 := Lib.hid (HRA.out.ext hx5)
          have HRD5 := Lib.hid (HRD.out.ext hx5)
          clear hx5
          have g0 := HV5.out.1
          have g1 := HV5.out.2.1
          have g2 := HV5.out.2.2.1
          have g3 := HV5.out.2.2.2
          go_wp2
          exact bodyPost_ret (v := .tuple #[.agg #[.slice none 0 0, .slice none 0 0], .int .i64 6]) (by simp [results, Tryz.results17, go_sem, g0, g1]) rfl (retB_no HNO.out ((hX5.setNew (Nat.le_refl _) _).setNew (Nat.le_refl _) _))
        | true =>
          have hyes : okPB s.data.toList = true := by rw [HOK.out, hb]
          have hpar := par_yes hyes
          rw [HPT.out.1, HPT.out.2] at hpar
          have HP := Lib.hid hpar
          clear hyes HOK hpar
          clear g0 g1 g2 g3
          go_wp2_with fail
          refine (l11Is_any (tabL pa) (tabL pd) _ _ _ HRA.out HRD.out).mono ?_
          rintro e w5 ⟨rfl, hx5⟩
          rw [hb]
          have HV5 := Lib.hid (HV4.out.ext hx5 (by omega))
          have hX5 := hX4.trans hx5
          have b0' := hx5.cell b0
          have b1' := hx5.cell b1
          have HRA5 := Lib.hid (HRA.out.ext hx5)
          have HRD5 := Lib.hid (HRD.out.ext hx5)
          clear hx5
          have g0 := HV5.out.1
          have g1 := HV5.out.2.1
          have g2 := HV5.out.2.2.1
          have g3 := HV5.out.2.2.2
          go_wp2
          refine bodyPost_ret (v := .tuple #[.agg #[.slice (some ⟨ba, oa, none⟩) (tabL pa).length ca, .slice (some ⟨bd, od, none⟩) (tabL pd).length cd], .int .i64 0]) (by simp [results, Tryz.results17, go_sem, g0, g1]) rfl ?_
          rw [HP.out.1, HP.out.2.1, HP.out.2.2]
          exact ⟨_, _, rfl, ⟨(HRA5.out.set2 HV5.out _ _).toR, (HRD5.out.set2 HV5.out _ _).toR⟩, (hX5.setNew (Nat.le_refl _) _).setNew (Nat.le_refl _) _⟩
end Go.Proofs.YthlafeefjonkdaaGreatDoor


namespace Go.Proofs.YthlafeefjonkdaaGreatDoor
set_option linter.unusedVariables false
set_option linter.unusedSimpArgs false
open Go.RowKit Go.PlainAid

@[irreducible] def rdTo (l : List UInt8) (k i : Nat) : Value := if i < k then .int .i64 (digV (l.getD i 0)) else .int .i64 0
theorem rdTo_zero (l : List UInt8) (i : Nat) : rdTo l 0 i = .int .i64 0 := by unfold rdTo; simp
theorem rdTo_in (l : List UInt8) (k i : Nat) (h : i < k) : rdTo l k i = .int .i64 (digV (l.getD i 0)) := by unfold rdTo; rw [if_pos h]
theorem rdTo_succ (l : List UInt8) (k i : Nat) : rdTo l (k + 1) i = if i = k then .int .i64 (digV (l.getD k 0)) else rdTo l k i := by
  unfold rdTo
  by_cases h : i = k
  · subst h; simp
  · rw [if_neg h]
    by_cases h2 : i < k
    · rw [if_pos h2, if_pos (by omega)]
    · rw [if_neg h2, if_neg (by omega)]
theorem ix_digsL (l : List UInt8) {i : Nat} (h : i < l.length) : ix (digsL l) i = digV (l.getD i 0) := by
  rw [ix_eq]; unfold digsL; simp [List.getD, h]
def DigsP (l : List UInt8) (w : World) (e : Ending) (w' : World) : Prop := Ext w w' ∧ if goodL l = true then ∃ b c, e = .returned (.tuple #[.slice (some ⟨b, 0, none⟩) (digsL l).length c, .bool true]) ∧ OwnI w.heap.size w'.heap.size w' b 0 (digsL l)
      else e = .returned (.tuple #[.slice none 0 0, .bool false])
theorem DigsP.yes {l : List UInt8} {w w' : World} {b c n : Nat} (h : goodL l = true) (hx : Ext w w') (hr : OwnI w.heap.size w'.heap.size w' b 0 (digsL l)) (hn : n = (digsL l).length) : DigsP l w (.returned (.tuple #[.slice (some ⟨b, 0, none⟩) n c, .bool true])) w' :=
  ⟨hx, by rw [if_pos h]; exact ⟨b, c, by rw [hn], hr⟩⟩
theorem DigsP.no {l : List UInt8} {w w' : World} (h : goodL l = false) (hx : Ext w w') : DigsP l w (.returned (.tuple #[.slice none 0 0, .bool false])) w' :=
  ⟨hx, by rw [if_neg (by rw [h]; simp)]⟩
theorem byte_back (c : UInt8) : (c.toNat : Int).toNat.toUInt8 = c := by rw [Int.toNat_natCast]; exact UInt8.ofNat_toNat
theorem lookup_at (c : UInt8) : Lib.indexByte (⟨#[48, 49, 50, 51, 52, 53, 54, 55, 56, 57, 97, 98]⟩ : ByteArray).data.toList (c.toNat : Int).toNat.toUInt8 = digV c := by
  rw [byte_back]; exact lookup_dig c
theorem goodL_take {l : List UInt8} {k : Nat} {c : UInt8} (htk : l.take (k + 1) = l.take k ++ [c]) (h : goodL (l.take k) = true) (hc : 0 ≤ digV c) : goodL (l.take (k + 1)) = true := by
  rw [htk, goodL_snoc, h]; simpa using hc

set_option maxRecDepth 100000 in
set_option maxHeartbeats 1000000 in
theorem readDigits_any (s : ByteArray) (w : World) (hs : s.size ≤ 1000) :
    Calls Tryz.prog 64 #[.string s] w (DigsP s.data.toList w) := by
  have hll := len_data s
  have hmk := run_make_row' (P := Tryz.prog) 29 2 (.int .i64 0) 8 Tryz.underlying29 infoInt rfl .i64 .i64 s.size (by omega) (by omega)
  go_enter Tryz.func64, Tryz.ntmps64
  go_wp2_with fail
  clear hmk
  have hx0 : Ext w (w.alloc (.cells (madeCells #[Value.int .i64 0] s.size) 2)) := (Ext.refl _).alloc _
  have hr0 := World.rowIs_made w (.int .i64 0) s.size 2
  go_loopw [12] (fun i wr => ∃ k : Nat, k ≤ s.size ∧ i = .int .i64 k ∧ wr.rowIs w.heap.size 2 s.size (rdTo s.data.toList k) ∧ goodL (s.data.toList.take k) = true ∧ Ext w wr) (fun i _ => s.size - (intOf i).toNat)
  case atStart => exact ⟨0, Nat.zero_le _, rfl, hr0.congr (fun i hi => by rw [rdTo_zero]), by rw [List.take_zero, goodL_nil], hx0⟩
  case round =>
    clear hx0 hr0
    obtain ⟨k, hk, rfl, hrow, hgood, hx⟩ := hrel
    have HG := Lib.hid hgood
    clear hgood
    by_cases hkl : k < s.size
    · have hb := get_bt s k hkl
      have hz := bt_data s k hkl
      have htk := take_data s k hkl
      have hget : s.data.toList.getD k 0 = s.data.toList[k]'(by rw [len_data]; exact hkl) := by
        rw [List.getD_eq_getElem?_getD, List.getElem?_eq_getElem (by rw [len_data]; exact hkl)]; rfl
      generalize hcd : s.data.toList[k]'(by rw [len_data]; exact hkl) = c at hz htk hget
      have b0 := bt_nonneg s k
      have b1 := bt_le s k
      have hlk := lookup_at c
      rw [← hz] at hlk
      generalize bt s k = z at hb hz b0 b1 hlk
      obtain ⟨d0, d1⟩ := digV_le c
      have hgt := fun h => goodL_take htk HG.out (c := c) h
      have hrs := fun i => rdTo_succ s.data.toList k i
      rw [hget] at hrs
      have hno : digV c < 0 → goodL s.data.toList = false := fun h => by
        rw [← Bool.not_eq_true]
        intro e
        have := goodL_mem e (c := c) (by rw [← hcd]; exact List.getElem_mem _)
        omega
      have HGT := Lib.hid hgt
      have HRS := Lib.hid hrs
      have HNO := Lib.hid hno
      clear hgt hrs hno htk hget hcd hz
      generalize hdd : digV c = d at hlk d0 d1 HGT HRS HNO
      clear hdd
      have e2 := hrow.cell hkl
      have e3 := hrow.frozen k
      by_cases hd : d < 0
      · go_wp2_with (go_at_call 99; refine (sh_strings_IndexByte _ _ _).mono ?_; rintro e w' ⟨rfl, rfl⟩; rw [hlk])
        go_ret2
        exact DigsP.no (HNO.out hd) hx
      · go_wp2_with (go_at_call 99; refine (sh_strings_IndexByte _ _ _).mono ?_; rintro e w' ⟨rfl, rfl⟩; rw [hlk])
        go_roundw
        case rel => exact ⟨k + 1, by omega, by go_num, (hrow.set k (.int .i64 d)).congr (fun i hi => by rw [HRS.out]), HGT.out (by omega), hx.setNew (Nat.le_refl _) _⟩
        case measure => simp [intOf]; omega
    · have hkk : k = s.size := by omega
      have hta : s.data.toList.take k = s.data.toList := List.take_of_length_le (by omega)
      have hgd := HG.out
      rw [hta] at hgd
      have hlt := hrow.lt
      have ho := ownI_of_row (lo := w.heap.size) (hi := wr.heap.size) (l := digsL s.data.toList) hrow (by rw [length_digsL, hll]; exact Nat.le_refl _) (fun i hi => by
        rw [length_digsL] at hi
        rw [rdTo_in _ _ _ (by omega), ix_digsL _ hi]) (Nat.le_refl _) hlt
      have HO := Lib.hid ho
      clear ho hta
      go_wp2
      go_ret2
      exact DigsP.yes hgd hx HO.out (by rw [length_digsL]; omega)

/-! ### tables -/
def TabP (l : List UInt8) (w : World) (e : Ending) (w' : World) : Prop := Ext w w' ∧ if readB l = true then ∃ b c, e = .returned (.tuple #[.slice (some ⟨b, 0, none⟩) (tabL l).length c, .bool true]) ∧ OwnT w.heap.size w'.heap.size w' b 0 (tabL l)
      else ∃ a n c, e = .returned (.tuple #[.slice a n c, .bool false])
theorem TabP.yes {l : List UInt8} {w w' : World} {b c : Nat} (h : readB l = true) (hx : Ext w w') (hr : OwnT w.heap.size w'.heap.size w' b 0 (tabL l)) : TabP l w (.returned (.tuple #[.slice (some ⟨b, 0, none⟩) (tabL l).length c, .bool true])) w' :=
  ⟨hx, by rw [if_pos h]; exact ⟨b, c, rfl, hr⟩⟩
theorem TabP.no {l : List UInt8} {w w' : World} {a : Option Addr} {n c : Nat} (h : readB l = false) (hx : Ext w w') : TabP l w (.returned (.tuple #[.slice a n c, .bool false])) w' :=
  ⟨hx, by rw [if_neg (by rw [h]; simp)]; exact ⟨a, n, c, rfl⟩⟩
theorem split_cell (s : ByteArray) (w : World) (T : TypeId) {k : Nat} (h : k < (splitL 47 s.data.toList).length) :
    (w.alloc (.cells ((Lib.splitB ⟨#[47]⟩ 0 (Lib.countB s ⟨#[47]⟩) s).map Value.string).toArray T)).cell? ⟨w.heap.size, k, none⟩ = some (.string ⟨((splitL 47 s.data.toList)[k]).toArray⟩) := by
  have e := splitB_eq 47 s
  have hk : k < (Lib.splitB ⟨#[47]⟩ 0 (Lib.countB s ⟨#[47]⟩) s).length := by
    have := congrArg List.length e
    rw [List.length_map] at this
    omega
  have e2 : (splitL 47 s.data.toList)[k]? = some ((Lib.splitB ⟨#[47]⟩ 0 (Lib.countB s ⟨#[47]⟩) s)[k]).data.toList := by
    rw [← e, List.getElem?_map, List.getElem?_eq_getElem hk]; rfl
  rw [List.getElem?_eq_getElem h] at e2
  have e3 := Option.some.inj e2
  rw [World.cell?_alloc_mark, List.getElem?_toArray, List.getElem?_map, List.getElem?_eq_getElem hk, e3]
  simp

set_option maxRecDepth 100000 in
set_option maxHeartbeats 4000000 in
theorem readTable_any (s : ByteArray) (m : Int) (w : World) (hm : w.cell? ⟨0, 0, none⟩ = some (.int .i64 m)) (hs : s.size ≤ 1048576) :
    Calls Tryz.prog 37 #[.string s] w (TabP s.data.toList w) := by
  have hll := len_data s
  by_cases h156 : 156 < s.size
  · have hno := readB_long (l := s.data.toList) (by omega)
    go_enter Tryz.func37, Tryz.ntmps37
    go_wp2
    go_ret2
    exact TabP.no hno (Ext.refl _)
  have hpl := parts_len 47 s.data.toList
  have HTL := Lib.hid (tabL_len s.data.toList)
  have hsl := splitB_len 47 s
  obtain ⟨n, hn⟩ : ∃ n : Nat, n = (splitL 47 s.data.toList).length := ⟨_, rfl⟩
  have HCL := Lib.hid (fun (k : Nat) (hk : k < (splitL 47 s.data.toList).length) => split_cell s w 9 hk)
  have hS := sh_strings_Split s ⟨#[47]⟩ m w (by omega) hm (by decide)
  rw [hsl, ← hn] at hS
  have HN := Lib.hid hn
  rw [← hn] at hpl
  clear hsl hn
  have hxw : Ext w (w.alloc (.cells ((Lib.splitB ⟨#[47]⟩ 0 (Lib.countB s ⟨#[47]⟩) s).map Value.string).toArray 9)) := (Ext.refl w).alloc _
  have hzw : w.heap.size + 1 ≤ (w.alloc (.cells ((Lib.splitB ⟨#[47]⟩ 0 (Lib.countB s ⟨#[47]⟩) s).map Value.string).toArray 9)).heap.size := by simp
  generalize (w.alloc (.cells ((Lib.splitB ⟨#[47]⟩ 0 (Lib.countB s ⟨#[47]⟩) s).map Value.string).toArray 9)) = w1 at *
  go_enter Tryz.func37, Tryz.ntmps37
  go_wp2_with fail
  refine hS.mono ?_
  rintro e w1' ⟨rfl, rfl⟩
  clear hS hm
  go_wp2_with fail
  go_loopw [4, 15] (fun v x wr => ∃ k : Nat, k ≤ n ∧ x = .int .i64 k ∧ MineT w1'.heap.size NoO wr v ((tabL s.data.toList).take k) ∧ goodTo (splitL 47 s.data.toList) k = true ∧ (v = .slice none 0 0 → k = 0) ∧ Ext w1' wr) (fun _ x _ => n - (intOf x).toNat)
  case atStart => exact ⟨0, Nat.zero_le _, rfl, MineT.nil _ _ _, goodTo_zero _, fun _ => rfl, Ext.refl _⟩
  case round =>
    obtain ⟨k, hk, rfl, hg, hgood, hv, hx⟩ := hrel
    have HV := Lib.hid hv
    have HG := Lib.hid hgood
    clear hv hgood
    have zx := hx.size
    by_cases hkl : k < n
    case neg =>
      have hke : k = n := by omega
      subst hke
      have hta : (tabL s.data.toList).take k = tabL s.data.toList := List.take_of_length_le (by rw [HTL.out, ← HN.out]; exact Nat.le_refl _)
      rw [hta] at hg
      have hgd := HG.out
      rw [HN.out] at hgd
      have hrb := Lib.hid (readB_all hgd)
      have hpos : 0 < k := by rw [HN.out]; exact List.length_pos_iff.2 (splitL_ne 47 _)
      obtain ⟨br, cr, rfl, ho⟩ := hg.newT (fun e => by have := HV.out e; omega)
      have hlen := HTL.out
      rw [← HN.out] at hlen
      have hbd : ∀ i, (row (tabL s.data.toList) i).length ≤ 1048576 := tabL_bd _ (by omega)
      have hr : Rows wr (.slice (some ⟨br, 0, none⟩) (tabL s.data.toList).length cr) (tabL s.data.toList) := (ho.rowsAt ⟨by omega, hbd⟩).rows (by omega) cr
      have HR := Lib.hid hr
      have HO := Lib.hid ho
      clear hgd hta hr hbd ho hlen
      cases hb : tableB (tabL s.data.toList) with
      | false =>
        rw [hb] at hrb
        go_wp2_with fail
        refine (IsTable_any (tabL s.data.toList) _ _ HR.out).mono ?_
        rintro e w5 ⟨rfl, hx5⟩
        rw [hb]
        go_wp2
        go_ret2
        exact TabP.no hrb.out (hxw.trans (hx.trans hx5))
      | true =>
        rw [hb] at hrb
        go_wp2_with fail
        refine (IsTable_any (tabL s.data.toList) _ _ HR.out).mono ?_
        rintro e w5 ⟨rfl, hx5⟩
        rw [hb]
        go_wp2
        go_ret2
        exact TabP.yes hrb.out (hxw.trans (hx.trans hx5)) ((HO.out.keep (fun k _ hk => hx5.block k hk)).mono (by omega) hx5.size)
    case pos =>
      have hkl2 : k < (splitL 47 s.data.toList).length := by rw [← HN.out]; exact hkl
      have hcell := hx.cell (HCL.out k hkl2)
      have hpk := part_len hkl2
      have htk := tabL_take hkl2
      have hgt := goodTo_succ hkl2
      rw [HG.out, Bool.true_and] at hgt
      have hno := fun h => readB_part hkl2 h
      generalize (splitL 47 s.data.toList)[k] = p at hcell hpk htk hgt hno
      have hps : (⟨p.toArray⟩ : ByteArray).size ≤ 1000 := by rw [bytes_size]; omega
      have HT := Lib.hid htk
      have HGT := Lib.hid hgt
      have HNO := Lib.hid hno
      have HL := Lib.hid hg.lt
      have HM := Lib.hid hg
      clear htk hgt hno hg
      go_wp2_with fail
      refine (readDigits_any _ _ hps).mono ?_
      rintro e w2 ⟨hx2, hread⟩
      rw [txt_data] at hread
      cases hgp : goodL p with
      | false =>
        rw [if_neg (by rw [hgp]; simp)] at hread
        subst hread
        go_wp2
        go_ret2
        exact TabP.no (HNO.out hgp) (hxw.trans (hx.trans hx2))
      | true =>
        rw [if_pos hgp] at hread
        obtain ⟨br, cr, rfl, ho⟩ := hread
        have HOI := Lib.hid ho
        have HX2 := Lib.hid hx2
        have z3 := hx2.size
        have htl : ((tabL s.data.toList).take k).length ≤ 1048576 := by rw [List.length_take, HTL.out, ← HN.out]; omega
        have HTK := Lib.hid htl
        clear htl ho hx2
        go_wp2_with (at_builtin; refine wpList_append_row_mine rfl _ _ 24 rfl Tryz.underlying24 infoSl w1'.heap.size _ _ rfl HM.out (HX2.out.trans (ext_box _ _ _)) _ br cr (digsL p) rfl (cell_new _ _ _) (OwnI.alloc1 HOI.out) HTK.out (by omega) ?_)
        intro v' w4 hg4 hgr4 hv4 hat4
        have hx4 : Ext w1' w4 := Ext.grownOwn (hx.trans (HX2.out.trans (ext_box _ _ _))) hgr4 (fun g e => (HL.out g e).1)
        clear hgr4 hat4
        go_wp2
        go_roundw
        case rel => exact ⟨k + 1, by omega, by go_num, by rw [HT.out]; exact hg4, by rw [HGT.out]; exact hgp, fun e => absurd e hv4, hx4⟩
        case measure => simp [intOf]; omega
end Go.Proofs.YthlafeefjonkdaaGreatDoor


namespace Go.Proofs.YthlafeefjonkdaaGreatDoor
set_option linter.unusedVariables false
set_option linter.unusedSimpArgs false
open Go.RowKit Go.PlainAid

theorem tabL_small {l : List UInt8} (h : l.length ≤ 1048576) (hr : readB l = true) : Small (tabL l) := by
  rw [readB_eq, Bool.and_eq_true, tableB_iff] at hr
  exact ⟨by have := hr.2.2.1; omega, tabL_bd l h⟩
theorem newBC_no {l : List UInt8} {w w' : World} (h : okPB l = false) (hx : Ext w w') : NewBC (parT l) (parU l) (parC l) w (.returned (.tuple #[.agg #[.slice none 0 0, .slice none 0 0], .int .i64 6])) w' := by
  obtain ⟨e1, e2, e3⟩ := par_no h
  rw [e1, e2, e3]
  exact ⟨_, _, rfl, OwnB.nil _ _ _ hx.size, hx⟩
theorem newBC_yes {l : List UInt8} {w w5 w' : World} {lo1 hi1 lo2 hi2 b1 c1 b2 c2 : Nat} (h : okPB l = true) (hx : Ext w w') (h1 : OwnT lo1 hi1 w5 b1 0 (tabL (fstP l))) (h2 : OwnT lo2 hi2 w5 b2 0 (tabL (sndP l))) (s1 : Small (tabL (fstP l))) (s2 : Small (tabL (sndP l)))
    (k : ∀ k, w.heap.size + 1 ≤ k → w'.heap[k]? = w5.heap[k]?) (z1 : w.heap.size + 1 ≤ lo1) (z2 : hi1 ≤ lo2) (z3 : hi2 ≤ w'.heap.size) :
    NewBC (parT l) (parU l) (parC l) w (.returned (.tuple #[.agg #[.slice (some ⟨b1, 0, none⟩) (tabL (fstP l)).length c1, .slice (some ⟨b2, 0, none⟩) (tabL (sndP l)).length c2], .int .i64 0])) w' := by
  obtain ⟨e1, e2, e3⟩ := par_yes h
  rw [e1, e2, e3]
  have g1 := h1.1
  have g2 := h1.2.1
  have g3 := h2.1
  have g4 := h2.2.1
  refine ⟨_, _, rfl, ⟨lo1, hi1, lo2, hi2, by omega, by omega, by omega, by omega, .inl z2, ?_, ?_⟩, hx⟩
  · exact (h1.keep (fun j q1 q2 => k j (by omega))).v s1 _
  · exact (h2.keep (fun j q1 q2 => k j (by omega))).v s2 _

set_option maxRecDepth 100000 in
set_option maxHeartbeats 4000000 in
theorem ParseBrace_impl (s : ByteArray) (m : Int) (w : World) (hm : w.cell? ⟨0, 0, none⟩ = some (.int .i64 m)) (hs : s.size ≤ 1048576) :
    Calls Tryz.prog 16 #[.string s] w (NewBC (parT s.data.toList) (parU s.data.toList) (parC s.data.toList) w) := by
  have hll := len_data s
  have hx0 : Ext w (w.alloc (.cells #[.slice none 0 0, .slice none 0 0] 26)) := (Ext.refl _).alloc _
  have HV0 := Lib.hid (Var2.new w (.slice none 0 0) (.slice none 0 0) 26)
  have hz0 : (w.alloc (.cells #[.slice none 0 0, .slice none 0 0] 26)).heap.size = w.heap.size + 1 := by simp
  have hm0 := hx0.cell hm
  have HOK := Lib.hid (okP_cut s.data.toList)
  have hf : (Lib.cut s.data.toList (⟨#[124]⟩ : ByteArray).data.toList).1 = fstP s.data.toList := by unfold fstP; rfl
  have hd : (Lib.cut s.data.toList (⟨#[124]⟩ : ByteArray).data.toList).2.1 = sndP s.data.toList := by unfold sndP; rfl
  have hfl := fst_len s.data.toList
  have hdl := snd_len s.data.toList
  have hps0 : (⟨(fstP s.data.toList).toArray⟩ : ByteArray).size ≤ 1048576 := by rw [bytes_size]; omega
  have hps1 : (⟨(sndP s.data.toList).toArray⟩ : ByteArray).size ≤ 1048576 := by rw [bytes_size]; omega
  have HS1 := Lib.hid (fun h => tabL_small (l := fstP s.data.toList) (by omega) h)
  have HS2 := Lib.hid (fun h => tabL_small (l := sndP s.data.toList) (by omega) h)
  go_enter Tryz.func16, Tryz.ntmps16
  go_wp2_with fail
  refine (sh_strings_Cut s ⟨#[124]⟩ m _ (by omega) hm0).mono ?_
  rintro e w1' ⟨rfl, nd, hw1⟩
  rw [hf, hd]
  have hx1 : Ext (w.alloc (.cells #[.slice none 0 0, .slice none 0 0] 26)) w1' := by rw [hw1]; exact (Ext.refl _).drewN nd
  have z1 : w1'.heap.size = w.heap.size + 1 := by rw [hw1]; simp
  clear hf hd hw1 hz0
  obtain ⟨w1, rfl⟩ : ∃ w1 : World, w1 = w1' := ⟨_, rfl⟩
  have HV1 := Lib.hid (HV0.out.ext hx1 (by simp))
  have hX1 := hx0.trans hx1
  have hm1 := hx1.cell hm0
  clear HV0 hx0 hx1 hm0 hm hfl hdl hll
  go_wp2_with fail
  refine (readTable_any _ m _ hm1 hps0).mono ?_
  rintro e w2 ⟨hx2, hr0⟩
  rw [txt_data] at hr0
  have HV2 := Lib.hid (HV1.out.ext hx2 (by omega))
  have z2 := hx2.size
  have hm2 := hx2.cell hm1
  clear HV1 hm1
  cases h0 : readB (fstP s.data.toList) with
  | false =>
    rw [if_neg (by rw [h0]; simp)] at hr0
    obtain ⟨ta, tn, tc, rfl⟩ := hr0
    go_wp2_with fail
    refine (readTable_any _ m _ hm2 hps1).mono ?_
    rintro e w3 ⟨hx3, hr1⟩
    rw [txt_data] at hr1
    have hno : okPB s.data.toList = false := by rw [HOK.out, h0]; rfl
    have HNO := Lib.hid hno
    have HV3 := Lib.hid (HV2.out.ext hx3 (by omega))
    have z3 := hx3.size
    have hX3 := hX1.trans (hx2.trans hx3)
    obtain ⟨sa, sn, sc, bo, rfl⟩ : ∃ a n c bo, e = .returned (.tuple #[.slice a n c, .bool bo]) := by
      by_cases h1 : readB (sndP s.data.toList) = true
      · rw [if_pos h1] at hr1
        obtain ⟨b, c, rfl, -⟩ := hr1
        exact ⟨_, _, _, _, rfl⟩
      · rw [if_neg h1] at hr1
        obtain ⟨a, n, c, rfl⟩ := hr1
        exact ⟨_, _, _, _, rfl⟩
    clear hno hr1 HV2 HOK hm2
    have hxb : Ext w3 (w3.alloc (.cells #[.slice ta tn tc, .slice sa sn sc] 26)) := (Ext.refl w3).alloc _
    have HV4 := Lib.hid (HV3.out.ext hxb (by omega))
    have hX4 := hX3.trans hxb
    clear hxb HV3
    go_upto_region 5 with fail
    generalize (w3.alloc (.cells #[.slice ta tn tc, .slice sa sn sc] 26)) = w4 at *
    have g0 := HV4.out.1
    have g1 := HV4.out.2.1
    have g2 := HV4.out.2.2.1
    have g3 := HV4.out.2.2.2
    go_wp2
    exact bodyPost_ret (v := .tuple #[.agg #[.slice none 0 0, .slice none 0 0], .int .i64 6]) (by simp [results, Tryz.results16, go_sem, g0, g1]) rfl (newBC_no HNO.out ((hX4.setNew (Nat.le_refl _) _).setNew (Nat.le_refl _) _))
  | true =>
    rw [if_pos h0] at hr0
    obtain ⟨b1, c1, rfl, ho1⟩ := hr0
    have HO1 := Lib.hid ho1
    clear ho1
    go_wp2_with fail
    refine (readTable_any _ m _ hm2 hps1).mono ?_
    rintro e w3 ⟨hx3, hr1⟩
    rw [txt_data] at hr1
    have HV3 := Lib.hid (HV2.out.ext hx3 (by omega))
    have z3 := hx3.size
    have hX3 := hX1.trans (hx2.trans hx3)
    have HX3 := Lib.hid hx3
    clear HV2 hm2 hx3
    cases h1 : readB (sndP s.data.toList) with
    | false =>
      rw [if_neg (by rw [h1]; simp)] at hr1
      obtain ⟨ta, tn, tc, rfl⟩ := hr1
      have hno : okPB s.data.toList = false := by rw [HOK.out, h1]; simp
      have HNO := Lib.hid hno
      clear hno HOK
      have hxb : Ext w3 (w3.alloc (.cells #[.slice (some ⟨b1, 0, none⟩) (tabL (fstP s.data.toList)).length c1, .slice ta tn tc] 26)) := (Ext.refl w3).alloc _
      have HV4 := Lib.hid (HV3.out.ext hxb (by omega))
      have hX4 := hX3.trans hxb
      clear hxb HV3
      go_upto_region 5 with fail
      generalize (w3.alloc (.cells #[.slice (some ⟨b1, 0, none⟩) (tabL (fstP s.data.toList)).length c1, .slice ta tn tc] 26)) = w4 at *
      have g0 := HV4.out.1
      have g1 := HV4.out.2.1
      have g2 := HV4.out.2.2.1
      have g3 := HV4.out.2.2.2
      go_wp2
      exact bodyPost_ret (v := .tuple #[.agg #[.slice none 0 0, .slice none 0 0], .int .i64 6]) (by simp [results, Tryz.results16, go_sem, g0, g1]) rfl (newBC_no HNO.out ((hX4.setNew (Nat.le_refl _) _).setNew (Nat.le_refl _) _))
    | true =>
      rw [if_pos h1] at hr1
      obtain ⟨b2, c2, rfl, ho2⟩ := hr1
      rw [h0, h1, Bool.true_and, Bool.true_and] at HOK
      have hxb : Ext w3 (w3.alloc (.cells #[.slice (some ⟨b1, 0, none⟩) (tabL (fstP s.data.toList)).length c1, .slice (some ⟨b2, 0, none⟩) (tabL (sndP s.data.toList)).length c2] 26)) := (Ext.refl w3).alloc _
      have HV4 := Lib.hid (HV3.out.ext hxb (by omega))
      have HB4 := Lib.hid (Var2.new w3 (.slice (some ⟨b1, 0, none⟩) (tabL (fstP s.data.toList)).length c1) (.slice (some ⟨b2, 0, none⟩) (tabL (sndP s.data.toList)).length c2) 26)
      have hs1 := HS1.out h0
      have hs2 := HS2.out h1
      have HP1 := Lib.hid (HO1.out.keep (fun k _ hk => (HX3.out.trans hxb).block k hk))
      have HP2 := Lib.hid (ho2.keep (fun k _ hk => hxb.block k hk))
      have HRA := Lib.hid ((HP1.out.rowsAt hs1).rows hs1.1 c1)
      have HRD := Lib.hid ((HP2.out.rowsAt hs2).rows hs2.1 c2)
      have HSM := Lib.hid (And.intro hs1 hs2)
      have hX4 := hX3.trans hxb
      have z4 := hxb.size
      clear hs1 hs2 ho2 hxb HV3
      go_upto_region 5 with fail
      generalize (w3.alloc (.cells #[.slice (some ⟨b1, 0, none⟩) (tabL (fstP s.data.toList)).length c1, .slice (some ⟨b2, 0, none⟩) (tabL (sndP s.data.toList)).length c2] 26)) = w4 at *
      have k0 := HB4.out.1
      have k1 := HB4.out.2.1
      cases hb : braceB (tabL (fstP s.data.toList)) (tabL (sndP s.data.toList)) with
      | false =>
        have hno : okPB s.data.toList = false := by rw [HOK.out, hb]
        have HNO := Lib.hid hno
        clear hno HOK
        go_wp2_with fail
        refine (IsBrace_impl (tabL (fstP s.data.toList)) (tabL (sndP s.data.toList)) _ _ _ HRA.out HRD.out).mono ?_
        rintro e w5 ⟨rfl, hx5⟩
        rw [hb]
        have HV5 := Lib.hid (HV4.out.ext hx5 (by omega))
        have hX5 := hX4.trans hx5
        have k0' := hx5.cell k0
        have k1' := hx5.cell k1
        clear hx5
        have g0 := HV5.out.1
        have g1 := HV5.out.2.1
        have g2 := HV5.out.2.2.1
        have g3 := HV5.out.2.2.2
        go_wp2
        exact bodyPost_ret (v := .tuple #[.agg #[.slice none 0 0, .slice none 0 0], .int .i64 6]) (by simp [results, Tryz.results16, go_sem, g0, g1]) rfl (newBC_no HNO.out ((hX5.setNew (Nat.le_refl _) _).setNew (Nat.le_refl _) _))
      | true =>
        have hyes : okPB s.data.toList = true := by rw [HOK.out, hb]
        have HY := Lib.hid hyes
        clear hyes HOK
        go_wp2_with fail
        refine (IsBrace_impl (tabL (fstP s.data.toList)) (tabL (sndP s.data.toList)) _ _ _ HRA.out HRD.out).mono ?_
        rintro e w5 ⟨rfl, hx5⟩
        rw [hb]
        have HV5 := Lib.hid (HV4.out.ext hx5 (by omega))
        have hX5 := hX4.trans hx5
        have k0' := hx5.cell k0
        have k1' := hx5.cell k1
        have z5 := hx5.size
        have HP1 := Lib.hid (HP1.out.keep (fun k _ hk => hx5.block k (by omega)))
        have HP2 := Lib.hid (HP2.out.keep (fun k _ hk => hx5.block k (by omega)))
        clear hx5
        have g0 := HV5.out.1
        have g1 := HV5.out.2.1
        have g2 := HV5.out.2.2.1
        have g3 := HV5.out.2.2.2
        go_wp2
        refine bodyPost_ret (v := .tuple #[.agg #[.slice (some ⟨b1, 0, none⟩) (tabL (fstP s.data.toList)).length c1, .slice (some ⟨b2, 0, none⟩) (tabL (sndP s.data.toList)).length c2], .int .i64 0]) (by simp [results, Tryz.results16, go_sem, g0, g1]) rfl ?_
        refine newBC_yes HY.out ((hX5.setNew (Nat.le_refl _) _).setNew (Nat.le_refl _) _) HP1.out HP2.out HSM.out.1 HSM.out.2 (fun k hk => ?_) (by omega) (by omega) (by simp; omega)
        rw [Below.heap_setCell _ _ _ _ (by simp only []; omega), Below.heap_setCell _ _ _ _ (by simp only []; omega)]
end Go.Proofs.YthlafeefjonkdaaGreatDoor
