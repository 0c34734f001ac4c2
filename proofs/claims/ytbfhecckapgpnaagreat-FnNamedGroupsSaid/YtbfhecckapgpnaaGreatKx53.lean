/-
  Contract of the program's NameOfGroup.
-/
import Derived.Test.YtbfhecckapgpnaaGreatProg
import Derived.Deep.DeepCutAuto
import Derived.Deep.DrawnRows
import Derived.RangeFuncNested
import Derived.RangeFuncBound
import Derived.RangeFuncCalls
import Derived.RangeFuncLeaves
import Derived.Shelf.Abstract
import Derived.Shelf.RegionOpen
import Derived.WalkKit
import Derived.OwnWalkIn
import Derived.TacticsInMore
import Derived.LoopNIn
import Derived.LoopIn
import Derived.Maps.AppendAt
import Derived.Test.YtbfhecckapgpnaaGreatKx0
import Derived.Test.YtbfhecckapgpnaaGreatKx1
import Derived.Test.YtbfhecckapgpnaaGreatKx2
import Derived.Test.YtbfhecckapgpnaaGreatKx8
import Derived.Test.YtbfhecckapgpnaaGreatKx9
import Derived.Test.YtbfhecckapgpnaaGreatKx7
import Derived.Test.YtbfhecckapgpnaaGreatKx20
import Derived.Test.YtbfhecckapgpnaaGreatKx22
import Derived.Test.YtbfhecckapgpnaaGreatKx31
import Derived.Test.YtbfhecckapgpnaaGreatKx5
import Derived.Test.YtbfhecckapgpnaaGreatKx11
import Derived.Test.YtbfhecckapgpnaaGreatKx10
import Derived.Test.YtbfhecckapgpnaaGreatKx12
import Derived.Test.YtbfhecckapgpnaaGreatKx6
import Derived.Test.YtbfhecckapgpnaaGreatKx32
import Derived.Test.YtbfhecckapgpnaaGreatKx13
import Derived.Test.YtbfhecckapgpnaaGreatKx14
import Derived.Test.YtbfhecckapgpnaaGreatKx18
import Derived.Test.YtbfhecckapgpnaaGreatKx19
import Derived.Test.YtbfhecckapgpnaaGreatKx21
import Derived.Test.YtbfhecckapgpnaaGreatKx23
import Derived.Test.YtbfhecckapgpnaaGreatKx24
import Derived.Test.YtbfhecckapgpnaaGreatKx25
import Derived.Test.YtbfhecckapgpnaaGreatKx26
import Derived.Test.YtbfhecckapgpnaaGreatKx27
import Derived.Test.YtbfhecckapgpnaaGreatKx28
import Derived.Test.YtbfhecckapgpnaaGreatKx29
import Derived.Test.YtbfhecckapgpnaaGreatKx35
import Derived.Test.YtbfhecckapgpnaaGreatKx36
import Derived.Test.YtbfhecckapgpnaaGreatKx49
import Derived.Test.YtbfhecckapgpnaaGreatKx50
import Derived.Test.YtbfhecckapgpnaaGreatKx52
namespace Go.Proofs.YtbfhecckapgpnaaGreat
set_option linter.unusedVariables false
set_option linter.unusedSimpArgs false
open Go.RowKit Go.Shelf
open Go.Deep
attribute [local go_sem] Oper.semAt_some

set_option maxRecDepth 100000 in
set_option maxHeartbeats 4000000 in
theorem NameOfGroup_impl (t : List (List Int)) (v : Value) (w : World) (hv : Rows w v t) :
    Calls Tryz.prog 19 #[.agg #[v]] w (RetII (nameV t) (nameC t) w) := by
  obtain ⟨hlen, b, o, c, rfl, -⟩ := id hv
  have hX : Ext w (((w.alloc (.cells #[.slice (some ⟨b, o, none⟩) t.length c] 26)).alloc (.cells #[.int .i64 0] 2)).alloc (.cells #[.int .i64 0] 2)) := (((Ext.refl w).alloc _).alloc _).alloc _
  have k0 : (((w.alloc (.cells #[.slice (some ⟨b, o, none⟩) t.length c] 26)).alloc (.cells #[.int .i64 0] 2)).alloc (.cells #[.int .i64 0] 2)).cell? ⟨w.heap.size, 0, none⟩ = some (.slice (some ⟨b, o, none⟩) t.length c) := by simp [go_sem]
  have k2 : (((w.alloc (.cells #[.slice (some ⟨b, o, none⟩) t.length c] 26)).alloc (.cells #[.int .i64 0] 2)).alloc (.cells #[.int .i64 0] 2)).cell? ⟨w.heap.size + 1, 0, none⟩ = some (.int .i64 0) := by simp [go_sem]
  have k3 : (((w.alloc (.cells #[.slice (some ⟨b, o, none⟩) t.length c] 26)).alloc (.cells #[.int .i64 0] 2)).alloc (.cells #[.int .i64 0] 2)).cell? ⟨w.heap.size + 2, 0, none⟩ = some (.int .i64 0) := by simp [go_sem]
  have f2 : (((w.alloc (.cells #[.slice (some ⟨b, o, none⟩) t.length c] 26)).alloc (.cells #[.int .i64 0] 2)).alloc (.cells #[.int .i64 0] 2)).frozen? ⟨w.heap.size + 1, 0, none⟩ = false := by simp [go_sem]
  have f3 : (((w.alloc (.cells #[.slice (some ⟨b, o, none⟩) t.length c] 26)).alloc (.cells #[.int .i64 0] 2)).alloc (.cells #[.int .i64 0] 2)).frozen? ⟨w.heap.size + 2, 0, none⟩ = false := by simp [go_sem]
  have z0 : w.heap.size + 3 ≤ (((w.alloc (.cells #[.slice (some ⟨b, o, none⟩) t.length c] 26)).alloc (.cells #[.int .i64 0] 2)).alloc (.cells #[.int .i64 0] 2)).heap.size := by simp
  cases hg : groupB t with
  | false =>
    rw [(name_1 hg).1, (name_1 hg).2]
    go_enter Tryz.func19, Tryz.ntmps19
    go_wp2_with fail
    refine (IsGroup_impl t _ _ (hv.ext hX)).mono ?_
    rintro e wn ⟨rfl, hx⟩
    replace f2 := hx.free f2 (by simp only []; omega)
    replace f3 := hx.free f3 (by simp only []; omega)
    replace k2 := hx.cell k2
    replace k3 := hx.cell k3
    replace z0 := Nat.le_trans z0 hx.size
    replace hX := hX.trans hx
    clear hx
    rw [hg]
    go_wp2
    refine bodyPost_ret (v := .tuple #[.int .i64 0, .int .i64 1]) (by simp [results, Tryz.results19, go_sem, k2, k3]) rfl ⟨rfl, (hX.setNew (by simp only []; omega) _).setNew (by simp only []; omega) _⟩
  | true =>
    have hG := groupB_iff.1 hg
    have HG := Lib.hid hG
    have h1 := hG.1.1
    have h12 := hG.1.2.1
    have HC := Lib.hid (fun w => namedGroups_any t.length h1 h12 w)
    have HOK := Lib.hid (fun i hi => namedL_ok (n := t.length) h1 h12 (i := i) hi)
    have hlen2 := namedL_len0 t.length
    obtain ⟨ts, hts⟩ : ∃ ts, ts = namedL t.length := ⟨_, rfl⟩
    rw [← hts] at HC HOK hlen2
    have HNO := Lib.hid (fun hn => name_no hg (ts := ts) hts.symm hn)
    have HYES := Lib.hid (fun m hm hy hn => name_yes hg (ts := ts) hts.symm (m := m) hm hy hn)
    clear hts hG
    refine (callsIn_wide (n := 0)).1 ?_
    (refine callsIn_of_wp_marks Tryz.func19 rfl trivial ?_ rfl; simp only [Tryz.ntmps19, List.size_toArray, List.length_cons, List.length_nil, Nat.reduceAdd, Nat.reduceSub, Array.replicate_succ, Array.replicate_zero, List.push_toArray, List.append_toArray, List.nil_append, List.cons_append])
    refine wpIn_wide.2 ?_
    go_wp2_with fail
    refine (IsGroup_impl t _ _ (hv.ext hX)).mono ?_
    rintro e wn ⟨rfl, hx⟩
    replace f2 := hx.free f2 (by simp only []; omega)
    replace f3 := hx.free f3 (by simp only []; omega)
    replace k0 := hx.cell k0
    replace k2 := hx.cell k2
    replace k3 := hx.cell k3
    replace z0 := Nat.le_trans z0 hx.size
    replace hX := hX.trans hx
    clear hx
    rw [hg]
    clear hg
    have zn := z0
    go_wp2_with fail
    refine (HC.out _).mono ?_
    rintro e w2 ⟨v2, rfl, hgd, hx⟩
    obtain ⟨g, d, rfl⟩ := hgd.slice (by omega)
    have HD := Lib.hid hgd
    replace f2 := hx.free f2 (by simp only []; omega)
    replace f3 := hx.free f3 (by simp only []; omega)
    replace k0 := hx.cell k0
    replace k2 := hx.cell k2
    replace k3 := hx.cell k3
    replace z0 := Nat.le_trans z0 hx.size
    replace hX := hX.trans hx
    have HV0 := Lib.hid hv
    have HV := Lib.hid (hv.ext hX)
    have HX := Lib.hid hX
    clear hx hX hgd HC hv
    go_wp2_with fail
    refine wp_loop (fun a wr => ∃ (m : Nat) (ds : List Nat) (u4 u5 u15 u16 u17 u18 u19 u20 u21 u22 u23 u24 u25 u26 u27 u28 : Value), a = { tmps := #[.agg #[.slice (some ⟨b, o, none⟩) t.length c], .pointer (some ⟨w.heap.size, 0, none⟩), .pointer (some ⟨w.heap.size + 1, 0, none⟩), .pointer (some ⟨w.heap.size + 1 + 1, 0, none⟩), u4, u5, .agg #[.slice (some ⟨b, o, none⟩) t.length c], .bool true, .bool false, .pointer (some ⟨w.heap.size, 0, none⟩), .slice (some ⟨b, o, none⟩) t.length c, .int .i64 t.length, .slice (some ⟨g, 0, none⟩) ts.length d, .int .i64 ts.length, .int .i64 m, u15, u16, u17, u18, u19, u20, u21, u22, u23, u24, u25, u26, u27, u28], defers := ds.map markOf } ∧ m ≤ ts.length ∧ (∀ j, j < m → isoF [t] [tab ts j] = []) ∧ ds.Nodup ∧ (∀ D, D ∈ ds → w2.heap.size ≤ D ∧ wr.heap[D]? = some (.deferred (some []))) ∧ Ext w2 wr) (fun a _ => ts.length - (intOf (a.tmps.getD 14 undef)).toNat) ?start ?round
    case start => exact ⟨0, [], _, _, _, _, _, _, _, _, _, _, _, _, _, _, _, _, rfl, Nat.zero_le _, fun j hj => by omega, List.nodup_nil, fun D hD => by simp at hD, Ext.refl _⟩
    case round =>
      rintro a wr ⟨m, ds, u4, u5, u15, u16, u17, u18, u19, u20, u21, u22, u23, u24, u25, u26, u27, u28, rfl, hm, hn, hnd, hds, hx⟩
      have HN := Lib.hid hn
      have HND := Lib.hid hnd
      have HDS := Lib.hid hds
      have HXR := Lib.hid hx
      clear hn hnd hds hx
      by_cases hlt : m < ts.length
      case pos =>
        obtain ⟨tb, td, p, e1, q1⟩ := HD.out.cell hlt
        have hr1 := Lib.hid (q1.rows.ext HXR.out)
        replace e1 := HXR.out.cell e1
        replace k0 := HXR.out.cell k0
        have HT := Lib.hid (HOK.out m hlt)
        have hq1 := q1
        clear q1
        have zr : w.heap.size + 3 ≤ wr.heap.size := Nat.le_trans z0 HXR.out.size
        have k0' : ((wr.alloc (.cells #[.int .i64 m] 3)).alloc (.cells #[.slice (some ⟨tb, 0, none⟩) (tab ts m).length td] 26)).cell? ⟨w.heap.size, 0, none⟩ = some (.slice (some ⟨b, o, none⟩) t.length c) := kc_alloc (kc_alloc k0)
        have k5' : (((wr.alloc (.cells #[.int .i64 m] 3)).alloc (.cells #[.slice (some ⟨tb, 0, none⟩) (tab ts m).length td] 26)).alloc (.cells #[.slice (some ⟨b, o, none⟩) t.length c] 24)).cell? ⟨wr.heap.size + 1, 0, none⟩ = some (.slice (some ⟨tb, 0, none⟩) (tab ts m).length td) := by simp [go_sem]
        go_wp2_with fail
        refine (isomorphisms_any _ _ _ _ _ _ _).mono ?_
        rintro e w1 ⟨rfl, rfl⟩
        go_wp2_with fail
        refine (wpIn_wide (n := 0)).1 ?_
        have hx6 : Ext wr ((((((wr.alloc (.cells #[.int .i64 m] 3)).alloc (.cells #[.slice (some ⟨tb, 0, none⟩) (tab ts m).length td] 26)).alloc (.cells #[.slice (some ⟨b, o, none⟩) t.length c] 24)).alloc (.cells #[.slice (some ⟨tb, 0, none⟩) (tab ts m).length td] 24)).alloc (.cells #[.slice (some ⟨wr.heap.size + 1 + 1, 0, none⟩) 1 1] 74)).alloc (.cells #[.slice (some ⟨wr.heap.size + 1 + 1 + 1, 0, none⟩) 1 1] 74)) := (((((((Ext.refl wr).alloc _).alloc _).alloc _).alloc _).alloc _).alloc _)
        have c4 : ((((((wr.alloc (.cells #[.int .i64 m] 3)).alloc (.cells #[.slice (some ⟨tb, 0, none⟩) (tab ts m).length td] 26)).alloc (.cells #[.slice (some ⟨b, o, none⟩) t.length c] 24)).alloc (.cells #[.slice (some ⟨tb, 0, none⟩) (tab ts m).length td] 24)).alloc (.cells #[.slice (some ⟨wr.heap.size + 1 + 1, 0, none⟩) 1 1] 74)).alloc (.cells #[.slice (some ⟨wr.heap.size + 1 + 1 + 1, 0, none⟩) 1 1] 74)).cell? ⟨wr.heap.size, 0, none⟩ = some (.int .i64 m) := by simp [go_sem]
        have d1 : ((((((wr.alloc (.cells #[.int .i64 m] 3)).alloc (.cells #[.slice (some ⟨tb, 0, none⟩) (tab ts m).length td] 26)).alloc (.cells #[.slice (some ⟨b, o, none⟩) t.length c] 24)).alloc (.cells #[.slice (some ⟨tb, 0, none⟩) (tab ts m).length td] 24)).alloc (.cells #[.slice (some ⟨wr.heap.size + 1 + 1, 0, none⟩) 1 1] 74)).alloc (.cells #[.slice (some ⟨wr.heap.size + 1 + 1 + 1, 0, none⟩) 1 1] 74)).cell? ⟨wr.heap.size + 1 + 1, 0, none⟩ = some (.slice (some ⟨b, o, none⟩) t.length c) := by simp [go_sem]
        have d2 : ((((((wr.alloc (.cells #[.int .i64 m] 3)).alloc (.cells #[.slice (some ⟨tb, 0, none⟩) (tab ts m).length td] 26)).alloc (.cells #[.slice (some ⟨b, o, none⟩) t.length c] 24)).alloc (.cells #[.slice (some ⟨tb, 0, none⟩) (tab ts m).length td] 24)).alloc (.cells #[.slice (some ⟨wr.heap.size + 1 + 1, 0, none⟩) 1 1] 74)).alloc (.cells #[.slice (some ⟨wr.heap.size + 1 + 1 + 1, 0, none⟩) 1 1] 74)).cell? ⟨wr.heap.size + 1 + 1 + 1, 0, none⟩ = some (.slice (some ⟨tb, 0, none⟩) (tab ts m).length td) := by simp [go_sem]
        have d3 : ((((((wr.alloc (.cells #[.int .i64 m] 3)).alloc (.cells #[.slice (some ⟨tb, 0, none⟩) (tab ts m).length td] 26)).alloc (.cells #[.slice (some ⟨b, o, none⟩) t.length c] 24)).alloc (.cells #[.slice (some ⟨tb, 0, none⟩) (tab ts m).length td] 24)).alloc (.cells #[.slice (some ⟨wr.heap.size + 1 + 1, 0, none⟩) 1 1] 74)).alloc (.cells #[.slice (some ⟨wr.heap.size + 1 + 1 + 1, 0, none⟩) 1 1] 74)).cell? ⟨wr.heap.size + 1 + 1 + 1 + 1, 0, none⟩ = some (.slice (some ⟨wr.heap.size + 1 + 1, 0, none⟩) 1 1) := by simp [go_sem]
        have d4 : ((((((wr.alloc (.cells #[.int .i64 m] 3)).alloc (.cells #[.slice (some ⟨tb, 0, none⟩) (tab ts m).length td] 26)).alloc (.cells #[.slice (some ⟨b, o, none⟩) t.length c] 24)).alloc (.cells #[.slice (some ⟨tb, 0, none⟩) (tab ts m).length td] 24)).alloc (.cells #[.slice (some ⟨wr.heap.size + 1 + 1, 0, none⟩) 1 1] 74)).alloc (.cells #[.slice (some ⟨wr.heap.size + 1 + 1 + 1, 0, none⟩) 1 1] 74)).cell? ⟨wr.heap.size + 1 + 1 + 1 + 1 + 1, 0, none⟩ = some (.slice (some ⟨wr.heap.size + 1 + 1 + 1, 0, none⟩) 1 1) := by simp [go_sem]
        have zW : wr.heap.size + 6 ≤ ((((((wr.alloc (.cells #[.int .i64 m] 3)).alloc (.cells #[.slice (some ⟨tb, 0, none⟩) (tab ts m).length td] 26)).alloc (.cells #[.slice (some ⟨b, o, none⟩) t.length c] 24)).alloc (.cells #[.slice (some ⟨tb, 0, none⟩) (tab ts m).length td] 24)).alloc (.cells #[.slice (some ⟨wr.heap.size + 1 + 1, 0, none⟩) 1 1] 74)).alloc (.cells #[.slice (some ⟨wr.heap.size + 1 + 1 + 1, 0, none⟩) 1 1] 74)).heap.size := by simp
        clear k0' k5'
        generalize ((((((wr.alloc (.cells #[.int .i64 m] 3)).alloc (.cells #[.slice (some ⟨tb, 0, none⟩) (tab ts m).length td] 26)).alloc (.cells #[.slice (some ⟨b, o, none⟩) t.length c] 24)).alloc (.cells #[.slice (some ⟨tb, 0, none⟩) (tab ts m).length td] 24)).alloc (.cells #[.slice (some ⟨wr.heap.size + 1 + 1, 0, none⟩) 1 1] 74)).alloc (.cells #[.slice (some ⟨wr.heap.size + 1 + 1 + 1, 0, none⟩) 1 1] 74)) = W0 at *
        have q2 := hx6.cell (HXR.out.cell k2)
        have q3 := hx6.cell (HXR.out.cell k3)
        have g2 := hx6.free (HXR.out.free f2 (by simp only []; omega)) (by simp only []; omega)
        have g3 := hx6.free (HXR.out.free f3 (by simp only []; omega)) (by simp only []; omega)
        have HX6 := Lib.hid hx6
        have HQ := Lib.hid hq1
        clear hx6 hq1
        refine wpIn_rangeFunc_iso (fun k => k = w.heap.size + 1 ∨ k = w.heap.size + 1 + 1) t.length [t] [tab ts m] (isoL t.length [t] [tab ts m]) rfl (enters_of Tryz.func95 (by kernel_rfl) rfl) rfl ?call (NmI W0) (NmX ((W0.setCell ⟨w.heap.size + 1, 0, none⟩ (.int .i64 m)).setCell ⟨w.heap.size + 1 + 1, 0, none⟩ (.int .i64 0))) (nmI_stab W0) (nmX_stab _) ?h0 ?a1 ?assign ?body ?done ?stop
        case call =>
          intro W l J Jx hW hJ hJx hY hj
          obtain ⟨b1, c1, e3, o1, o2, o3, o4⟩ := HQ.out
          obtain ⟨rfl, rfl⟩ : tb = b1 ∧ td = c1 := by
            simp only [Value.slice.injEq, Option.some.injEq, Addr.mk.injEq] at e3
            exact ⟨e3.1.1, e3.2.2⟩
          have hta := (tabsIn_of (base := W0.heap.size) (X := fun k => k = w.heap.size + 1 ∨ k = w.heap.size + 1 + 1) (wR := w) (n := t.length) (tabs1 d1 HV0.out) ((HX.out.trans HXR.out).trans HX6.out) (fun k hk e => by omega) (by omega) (by omega) (by omega) (TabsOk.one HG.out.1) h1).keep (w' := W) (fun k hk _ => hW.block k hk)
          have htb := (tabsIn_own (base := W0.heap.size) (X := fun k => k = w.heap.size + 1 ∨ k = w.heap.size + 1 + 1) (wR := w2) (n := t.length) d2 o1 (HXR.out.trans HX6.out) o4 (by have := HXR.out.size; omega) (fun k hk e => by omega) (by omega) (by omega) (groupB_iff.1 HT.out.1).1 HT.out.2).keep (w' := W) (fun k hk _ => hW.block k hk)
          exact iso1_any _ _ _ _ _ _ _ _ _ _ _ _ [t] [tab ts m] J Jx hJ hJx hY (TabsOk.one HG.out.1) (by have := TabsOk.one (groupB_iff.1 HT.out.1).1; rwa [HT.out.2] at this) rfl (by simp) (by simp) h12 W hW.size (hW.cell d3) (hW.cell d4) hta htb hj
        case assign =>
          intro m l Ib W K hK
          gi_wp2
          exact hK
        case h0 => exact ⟨rfl, Ext.refl _, fun _ e => e.elim⟩
        case body =>
          rintro m' l xs p' O W Ib ⟨rfl, hs⟩ hp hpre hIb hpi hO
          have a4 := hs.1.cell c4
          have a2 := hs.1.cell q2
          have a3 := hs.1.cell q3
          have b2 := hs.1.free g2 (by simp only []; omega)
          have b3 := hs.1.free g3 (by simp only []; omega)
          have HS := Lib.hid hs
          clear hs hp hpre hIb hpi hO
          gi_wp2
          have n2 : ¬ O (w.heap.size + 1) := fun e => by have := HS.out.2 _ e; omega
          have n3 : ¬ O (w.heap.size + 1 + 1) := fun e => by have := HS.out.2 _ e; omega
          refine ⟨((Rnd.refl O W).setCell (a := ⟨w.heap.size + 1, 0, none⟩) n2 (.inl (.inl rfl)) _).setCell (a := ⟨w.heap.size + 1 + 1, 0, none⟩) n3 (.inl (.inr rfl)) _, rfl, by simp, ?_, fun k hk => ?_⟩
          · exact (HS.out.1.setBoth (by simp only []; omega) _).setBoth (by simp; omega) _
          · have := HS.out.2 k hk
            simpa using this
        case done =>
          rintro D O W hD ⟨h0, hs⟩ hK
          have HF := Lib.hid (show isoF [t] [tab ts m] = [] from isoF_nil (by rw [tab_one]) h0)
          have HS := Lib.hid hs
          have HK := Lib.hid hK
          clear hs h0 hK
          go_wp2
          refine ⟨⟨m + 1, D :: ds, _, _, _, _, _, _, _, _, _, _, _, _, _, _, _, _, rfl, by omega, fun j hj => ?_, ?_, fun E hE => ?_, HXR.out.trans (HX6.out.trans HS.out.1)⟩, ?_⟩
          · by_cases e : j = m
            · subst e; exact HF.out
            · exact HN.out j (by omega)
          · refine List.nodup_cons.2 ⟨fun hm => ?_, HND.out⟩
            have := (Array.getElem?_eq_some_iff.1 (HDS.out D hm).2).1
            omega
          · rcases List.mem_cons.1 hE with rfl | hE
            · exact ⟨by have := HXR.out.size; omega, HK.out⟩
            · have hE' := HDS.out E hE
              have hlt := (Array.getElem?_eq_some_iff.1 hE'.2).1
              exact ⟨hE'.1, (HS.out.1.block E (by omega)).trans ((HX6.out.block E hlt).trans hE'.2)⟩
          · simp [intOf]; omega
        case stop =>
          rintro D c' q O W hD hq0 hq ⟨rfl, -, hs⟩ hK
          obtain ⟨r, hr⟩ := hq
          have hne : isoF [t] [tab ts m] ≠ [] := by
            cases q with
            | nil => exact absurd rfl hq0
            | cons p q' =>
              rw [isoF_cons (n := t.length) (by rw [tab_one]) (by rw [tab_one]; exact HT.out.2) hr.symm]
              exact ne_nil_of_lt (isoF_ne h1 hr.symm).2
          have HY := Lib.hid (HYES.out m hlt hne HN.out)
          have a2 := hs.1.cell (show ((W0.setCell ⟨w.heap.size + 1, 0, none⟩ (.int .i64 m)).setCell ⟨w.heap.size + 1 + 1, 0, none⟩ (.int .i64 0)).cell? ⟨w.heap.size + 1, 0, none⟩ = some (.int .i64 m) from kc_set (by simp) (kc_same q2))
          have a3 := hs.1.cell (show ((W0.setCell ⟨w.heap.size + 1, 0, none⟩ (.int .i64 m)).setCell ⟨w.heap.size + 1 + 1, 0, none⟩ (.int .i64 0)).cell? ⟨w.heap.size + 1 + 1, 0, none⟩ = some (.int .i64 0) from kc_same (kc_set (by simp) q3))
          have hds : ∀ E ∈ D :: ds, w2.heap.size ≤ E ∧ W.heap[E]? = some (.deferred (some [])) := fun E hE => by
            rcases List.mem_cons.1 hE with rfl | hE
            · exact ⟨by have := HXR.out.size; omega, hK⟩
            · have hE' := HDS.out E hE
              have hlt := (Array.getElem?_eq_some_iff.1 hE'.2).1
              refine ⟨hE'.1, (hs.1.block E (by simp; omega)).trans ?_⟩
              have hE2 := hE'.1
              rw [blk_setCell_other _ _ _ _ (by simp only []; omega), blk_setCell_other _ _ _ _ (by simp only []; omega)]
              exact (HX6.out.block E hlt).trans hE'.2
          have hnd : (D :: ds).Nodup := List.nodup_cons.2 ⟨fun hm => by
            have := (Array.getElem?_eq_some_iff.1 (HDS.out D hm).2).1
            omega, HND.out⟩
          have hwx : Ext w W := ((((HX.out.trans HXR.out).trans HX6.out).setNew (by simp only []; omega) _).setNew (by simp only []; omega) _).trans hs.1
          have HDD := Lib.hid hds
          have HNN := Lib.hid hnd
          have HWX := Lib.hid hwx
          clear hs hr hK hds hnd hwx hne hq0
          refine wpIn_wide.2 ?_
          go_wp2
          refine leaves_marks (D :: ds) W HNN.out (fun E hE => (HDD.out E hE).2) fun W' hc hlo => ?_
          have c2 := hc _ _ a2
          have c3 := hc _ _ a3
          exact ⟨.tuple #[.int .i64 m, .int .i64 0], by simp [results, Tryz.results19, go_sem, c2, c3], by rw [HY.out.1, HY.out.2], hlo w (fun E hE => by have := (HDD.out E hE).1; omega) HWX.out⟩
      case neg =>
        have hmm : m = ts.length := by omega
        subst hmm
        have HY := Lib.hid (HNO.out HN.out)
        have a2 := HXR.out.cell k2
        have a3 := HXR.out.cell k3
        have b2 := HXR.out.free f2 (by simp only []; omega)
        have b3 := HXR.out.free f3 (by simp only []; omega)
        have HWX := Lib.hid (((HX.out.trans HXR.out).setNew (p := ⟨w.heap.size + 1, 0, none⟩) (by simp only []; omega) (.int .i64 0)).setNew (p := ⟨w.heap.size + 1 + 1, 0, none⟩) (by simp only []; omega) (.int .i64 4))
        have e2 : ((wr.setCell ⟨w.heap.size + 1, 0, none⟩ (.int .i64 0)).setCell ⟨w.heap.size + 1 + 1, 0, none⟩ (.int .i64 4)).cell? ⟨w.heap.size + 1, 0, none⟩ = some (.int .i64 0) := kc_set (by simp) (kc_same a2)
        have e3 : ((wr.setCell ⟨w.heap.size + 1, 0, none⟩ (.int .i64 0)).setCell ⟨w.heap.size + 1 + 1, 0, none⟩ (.int .i64 4)).cell? ⟨w.heap.size + 1 + 1, 0, none⟩ = some (.int .i64 4) := kc_same (kc_set (by simp) a3)
        go_wp2
        refine leaves_marks ds _ HND.out (fun E hE => ?_) fun W' hc hlo => ?_
        · have hE2 := (HDS.out E hE).1
          rw [blk_setCell_other _ _ _ _ (by simp only []; omega), blk_setCell_other _ _ _ _ (by simp only []; omega)]
          exact (HDS.out E hE).2
        · have c2 := hc _ _ e2
          have c3 := hc _ _ e3
          exact ⟨.tuple #[.int .i64 0, .int .i64 4], by simp [results, Tryz.results19, go_sem, c2, c3], by rw [HY.out.1, HY.out.2], hlo w (fun E hE => by have := (HDS.out E hE).1; omega) HWX.out⟩
end Go.Proofs.YtbfhecckapgpnaaGreat
