/- Line6: the reference's CallOf. -/
import Derived.Test.YtalfbhhldfffkabDoorLine5
namespace Go.Proofs.YtalfbhhldfffkabDoor
open Go.RowKit

theorem word_eq (wd : List UInt8) (j : Int) (hj : 1 ≤ j ∧ j ≤ 6) : ((mkStr wd).toList == kindWord j) = decide (lineKind wd = j) := by
  rw [mkStr_toList]
  by_cases h : lineKind wd = j
  · rw [(kindWord_of h (by omega)).1]
    simp [h]
  · have : wd ≠ kindWord j := fun e => h (by rw [e]; exact lineKind_word hj)
    simp [h, this]
set_option maxHeartbeats 2000000 in
set_option maxRecDepth 100000 in
theorem ref_callOf (w : World) (s : ByteArray) (hs : s.size ≤ 100000) : Calls Tryd.prog 11 #[.string s] w (ParsePost w s) := by
  have hb : (w.alloc (.cells Call.zero.cells 23)).heap[w.heap.size]? = some (.cells Call.zero.cells 23 (0, 0)) := heap_alloc_new _ _
  have HX := Lib.hid (show Ext w (w.alloc (.cells Call.zero.cells 23)) from (Touch.refl _ w).alloc _)
  have HB := Lib.hid hb
  clear hb
  go_enter Tryd.func11, Tryd.ntmps11
  go_upto_region 1 with fail
  change Code.wp Tryd.prog _ _ _ (w.alloc (.cells Call.zero.cells 23))
  generalize w.alloc (.cells Call.zero.cells 23) = w1 at HX HB ⊢
  generalize hbq : w.heap.size = b at HB ⊢
  have HG := Lib.hid (Nat.le_of_eq hbq)
  clear hbq
  go_wp2_with fail
  refine (ref_word w1 s hs).mono ?_
  rintro e w2 ⟨rfl, hx2⟩
  have HX2 := Lib.hid (HX.out.trans hx2)
  have HB2 := Lib.hid (hx2.blk HB.out id)
  clear hx2
  have hrs : (mkStr (wordOf s.toList).2.1).size ≤ 100000 := by
    have h2 := wsnd_le s.toList
    rw [mkStr_size]
    rw [size_toList] at h2
    omega
  go_wp2_with fail
  refine (ref_word w2 (mkStr (wordOf s.toList).2.1) hrs).mono ?_
  unfold WordPost
  rw [mkStr_toList]
  rintro e w3 ⟨rfl, hx3⟩
  have HX3 := Lib.hid (HX2.out.trans hx3)
  have HB3 := Lib.hid (hx3.blk HB2.out id)
  clear hx3 hrs
  go_upto_region 4 with fail
  have hp1 := p1_le hs
  have hp2 := p2_le hs
  have hp0 : (⟨#[]⟩ : ByteArray).size ≤ 140737488351232 := by decide
  have HPK := Lib.hid (parsed_kind s.toList)
  have hcase : ((wordOf s.toList).2.2 = false ∧ (pieces s.toList).length = 1) ∨ ((wordOf s.toList).2.2 = true ∧ (wordOf (wordOf s.toList).2.1).2.2 = false ∧ (pieces s.toList).length = 2) ∨ ((wordOf s.toList).2.2 = true ∧ (wordOf (wordOf s.toList).2.1).2.2 = true ∧ (pieces s.toList).length = 3) := by
    rw [pieces_len]
    cases (wordOf s.toList).2.2 <;> cases (wordOf (wordOf s.toList).2.1).2.2 <;> simp
  have HN1 := Lib.hid (show (wordOf s.toList).2.2 = false → mkStr (wordOf (wordOf s.toList).2.1).1 = ⟨#[]⟩ from fun h => by rw [wordOf_none (w := s.toList) (wordOf_false h)]; rfl)
  have HN2 := Lib.hid (show (wordOf s.toList).2.2 = false → (wordOf (wordOf s.toList).2.1).2.2 = false from fun h => by rw [wordOf_none (w := s.toList) (wordOf_false h)]; rfl)
  have hkr : lineKind (wordOf s.toList).1 = 0 ∨ (1 ≤ lineKind (wordOf s.toList).1 ∧ lineKind (wordOf s.toList).1 ≤ 6) := by
    by_cases h : lineKind (wordOf s.toList).1 = 0
    · exact .inl h
    · exact .inr (kindWord_of rfl h).2
  generalize (wordOf s.toList).1 = wd at *
  generalize mkStr (wordOf (wordOf s.toList).2.1).1 = p1 at *
  generalize mkStr (wordOf (wordOf s.toList).2.1).2.1 = p2 at *
  generalize (wordOf (wordOf s.toList).2.1).2.2 = m2 at *
  generalize (wordOf s.toList).2.2 = m1 at *
  have hx4 : Ext w3 (w3.alloc (.cells (⟨0, p1, ⟨#[]⟩, ⟨#[]⟩⟩ : Call).cells 23)) := (Touch.refl _ w3).alloc _
  have hb7 : (w3.alloc (.cells (⟨0, p1, ⟨#[]⟩, ⟨#[]⟩⟩ : Call).cells 23)).heap[w3.heap.size]? = some (.cells (⟨0, p1, ⟨#[]⟩, ⟨#[]⟩⟩ : Call).cells 23 (0, 0)) := heap_alloc_new _ _
  have hbb : b < w3.heap.size := (Array.getElem?_eq_some_iff.1 HB3.out).1
  have hgw : w.heap.size ≤ w3.heap.size := HX3.out.size
  generalize w3.alloc (.cells (⟨0, p1, ⟨#[]⟩, ⟨#[]⟩⟩ : Call).cells 23) = w4 at hx4 hb7 ⊢
  generalize w3.heap.size = b7 at hb7 hbb hgw ⊢
  have HX4 := Lib.hid (HX3.out.trans hx4)
  have HB4 := Lib.hid (hx4.blk HB3.out id)
  have HBB := Lib.hid hbb
  have HGW := Lib.hid hgw
  clear hx4 hbb hgw
  have e1 : ((mkStr wd).toList == [109, 97, 107, 101]) = decide (lineKind wd = 1) := word_eq wd 1 (by decide)
  have e2 : ((mkStr wd).toList == [114, 101, 109, 111, 118, 101]) = decide (lineKind wd = 2) := word_eq wd 2 (by decide)
  have e3 : ((mkStr wd).toList == [114, 101, 110, 97, 109, 101]) = decide (lineKind wd = 3) := word_eq wd 3 (by decide)
  have e4 : ((mkStr wd).toList == [97, 112, 112, 101, 110, 100]) = decide (lineKind wd = 4) := word_eq wd 4 (by decide)
  have e5 : ((mkStr wd).toList == [114, 101, 97, 100]) = decide (lineKind wd = 5) := word_eq wd 5 (by decide)
  have e6 : ((mkStr wd).toList == [108, 105, 115, 116]) = decide (lineKind wd = 6) := word_eq wd 6 (by decide)
  rcases hcase with ⟨h1, hm⟩ | ⟨h1, h2, hm⟩ | ⟨h1, h2, hm⟩
  · have HPL := Lib.hid hm
    have HM := Lib.hid True.intro
    have HPE := Lib.hid (HN1.out h1)
    have h2 := HN2.out h1
    subst h1 h2
    clear hm HN1 HN2
    obtain hk | hk | hk | hk | hk | hk | hk : lineKind wd = 0 ∨ lineKind wd = 1 ∨ lineKind wd = 2 ∨ lineKind wd = 3 ∨ lineKind wd = 4 ∨ lineKind wd = 5 ∨ lineKind wd = 6 := by omega
    · skip
      rw [hk] at e1 e2 e3 e4 e5 e6
      have HK := Lib.hid hk
      clear hk hkr
      simp only [decide_eq_true_eq, Int.reduceEq, decide_false, decide_true] at e1 e2 e3 e4 e5 e6
      have hb6 := HB4.out
      go_upto_region 19 with fail
      have HX6 := HX4
      have HB6 := HB4
      have HC := Lib.hid (show callOf s.toList = (Call.zero, 12) by unfold callOf; rw [HPK.out]; simp [HK.out, HPL.out, HM.out])
      go_wp2_with fail
      obtain ⟨he, hbe⟩ := row_end (x := Call.zero) HX6.out HB6.out HG.out
      refine bodyPost_ret (results_cell_tmp rfl _ _ ⟨b, 0, none⟩ (.agg Call.zero.cells) rfl (load_block isCall hbe)) rfl ?_
      unfold ParsePost
      rw [HC.out]
      exact ⟨rfl, he⟩
    · skip
      rw [hk] at e1 e2 e3 e4 e5 e6
      have HK := Lib.hid hk
      clear hk hkr
      simp only [decide_eq_true_eq, Int.reduceEq, decide_false, decide_true] at e1 e2 e3 e4 e5 e6
      have hc7 := cell_of hb7 0
      have hf7 := frozen_of hb7 0
      go_upto_region 19 with fail
      have hb8 := setCell_blk hb7 0 (.int .i64 1)
      rw [show (⟨0, p1, ⟨#[]⟩, ⟨#[]⟩⟩ : Call).cells.setIfInBounds 0 (.int .i64 1) = (⟨1, p1, ⟨#[]⟩, ⟨#[]⟩⟩ : Call).cells from rfl] at hb8
      have hx6 := HX4.out.setCell (a := ⟨b7, 0, none⟩) (.inr HGW.out) (.int .i64 1)
      have hb6 := (heap_setCell_other w4 (⟨b7, 0, none⟩ : Addr) b (.int .i64 1) (by have := HBB.out; simp; omega)).trans HB4.out
      clear hc7 hf7 hb7 e1 e2 e3 e4 e5 e6
      generalize w4.setCell ⟨b7, 0, none⟩ (.int .i64 1) = w6 at hb8 hx6 hb6 ⊢
      have HX6 := Lib.hid hx6
      have HB6 := Lib.hid hb6
      clear hx6
      have HC := Lib.hid (show callOf s.toList = (Call.zero, 12) by unfold callOf; rw [HPK.out]; simp [HK.out, HPL.out, HM.out])
      go_wp2_with fail
      obtain ⟨he, hbe⟩ := row_end (x := Call.zero) HX6.out HB6.out HG.out
      refine bodyPost_ret (results_cell_tmp rfl _ _ ⟨b, 0, none⟩ (.agg Call.zero.cells) rfl (load_block isCall hbe)) rfl ?_
      unfold ParsePost
      rw [HC.out]
      exact ⟨rfl, he⟩
    · skip
      rw [hk] at e1 e2 e3 e4 e5 e6
      have HK := Lib.hid hk
      clear hk hkr
      simp only [decide_eq_true_eq, Int.reduceEq, decide_false, decide_true] at e1 e2 e3 e4 e5 e6
      have hc7 := cell_of hb7 0
      have hf7 := frozen_of hb7 0
      go_upto_region 19 with fail
      have hb8 := setCell_blk hb7 0 (.int .i64 2)
      rw [show (⟨0, p1, ⟨#[]⟩, ⟨#[]⟩⟩ : Call).cells.setIfInBounds 0 (.int .i64 2) = (⟨2, p1, ⟨#[]⟩, ⟨#[]⟩⟩ : Call).cells from rfl] at hb8
      have hx6 := HX4.out.setCell (a := ⟨b7, 0, none⟩) (.inr HGW.out) (.int .i64 2)
      have hb6 := (heap_setCell_other w4 (⟨b7, 0, none⟩ : Addr) b (.int .i64 2) (by have := HBB.out; simp; omega)).trans HB4.out
      clear hc7 hf7 hb7 e1 e2 e3 e4 e5 e6
      generalize w4.setCell ⟨b7, 0, none⟩ (.int .i64 2) = w6 at hb8 hx6 hb6 ⊢
      have HX6 := Lib.hid hx6
      have HB6 := Lib.hid hb6
      clear hx6
      have HC := Lib.hid (show callOf s.toList = (Call.zero, 12) by unfold callOf; rw [HPK.out]; simp [HK.out, HPL.out, HM.out])
      go_wp2_with fail
      obtain ⟨he, hbe⟩ := row_end (x := Call.zero) HX6.out HB6.out HG.out
      refine bodyPost_ret (results_cell_tmp rfl _ _ ⟨b, 0, none⟩ (.agg Call.zero.cells) rfl (load_block isCall hbe)) rfl ?_
      unfold ParsePost
      rw [HC.out]
      exact ⟨rfl, he⟩
    · skip
      rw [hk] at e1 e2 e3 e4 e5 e6
      have HK := Lib.hid hk
      clear hk hkr
      simp only [decide_eq_true_eq, Int.reduceEq, decide_false, decide_true] at e1 e2 e3 e4 e5 e6
      have hc7 := cell_of hb7 0
      have hf7 := frozen_of hb7 0
      have hc8 := cell_of hb7 2
      have hf8 := frozen_of hb7 2
      go_upto_region 19 with fail
      have hb8 := setCell_blk (setCell_blk hb7 0 (.int .i64 3)) 2 (.string p2)
      rw [show ((⟨0, p1, ⟨#[]⟩, ⟨#[]⟩⟩ : Call).cells.setIfInBounds 0 (.int .i64 3)).setIfInBounds 2 (.string p2) = (⟨3, p1, p2, ⟨#[]⟩⟩ : Call).cells from rfl] at hb8
      have hx6 := (HX4.out.setCell (a := ⟨b7, 0, none⟩) (.inr HGW.out) (.int .i64 3)).setCell (a := ⟨b7, 2, none⟩) (.inr HGW.out) (.string p2)
      have hb6 := (heap_setCell_other (w4.setCell ⟨b7, 0, none⟩ (.int .i64 3)) (⟨b7, 2, none⟩ : Addr) b (.string p2) (by have := HBB.out; simp; omega)).trans ((heap_setCell_other w4 (⟨b7, 0, none⟩ : Addr) b (.int .i64 3) (by have := HBB.out; simp; omega)).trans HB4.out)
      clear hc7 hf7 hc8 hf8 hb7 e1 e2 e3 e4 e5 e6
      generalize (w4.setCell ⟨b7, 0, none⟩ (.int .i64 3)).setCell ⟨b7, 2, none⟩ (.string p2) = w6 at hb8 hx6 hb6 ⊢
      have HX6 := Lib.hid hx6
      have HB6 := Lib.hid hb6
      clear hx6
      have HC := Lib.hid (show callOf s.toList = (Call.zero, 12) by unfold callOf; rw [HPK.out]; simp [HK.out, HPL.out, HM.out])
      go_wp2_with fail
      obtain ⟨he, hbe⟩ := row_end (x := Call.zero) HX6.out HB6.out HG.out
      refine bodyPost_ret (results_cell_tmp rfl _ _ ⟨b, 0, none⟩ (.agg Call.zero.cells) rfl (load_block isCall hbe)) rfl ?_
      unfold ParsePost
      rw [HC.out]
      exact ⟨rfl, he⟩
    · skip
      rw [hk] at e1 e2 e3 e4 e5 e6
      have HK := Lib.hid hk
      clear hk hkr
      simp only [decide_eq_true_eq, Int.reduceEq, decide_false, decide_true] at e1 e2 e3 e4 e5 e6
      have hc7 := cell_of hb7 0
      have hf7 := frozen_of hb7 0
      have hc8 := cell_of hb7 3
      have hf8 := frozen_of hb7 3
      go_upto_region 19 with fail
      have hb8 := setCell_blk (setCell_blk hb7 0 (.int .i64 4)) 3 (.string p2)
      rw [show ((⟨0, p1, ⟨#[]⟩, ⟨#[]⟩⟩ : Call).cells.setIfInBounds 0 (.int .i64 4)).setIfInBounds 3 (.string p2) = (⟨4, p1, ⟨#[]⟩, p2⟩ : Call).cells from rfl] at hb8
      have hx6 := (HX4.out.setCell (a := ⟨b7, 0, none⟩) (.inr HGW.out) (.int .i64 4)).setCell (a := ⟨b7, 3, none⟩) (.inr HGW.out) (.string p2)
      have hb6 := (heap_setCell_other (w4.setCell ⟨b7, 0, none⟩ (.int .i64 4)) (⟨b7, 3, none⟩ : Addr) b (.string p2) (by have := HBB.out; simp; omega)).trans ((heap_setCell_other w4 (⟨b7, 0, none⟩ : Addr) b (.int .i64 4) (by have := HBB.out; simp; omega)).trans HB4.out)
      clear hc7 hf7 hc8 hf8 hb7 e1 e2 e3 e4 e5 e6
      generalize (w4.setCell ⟨b7, 0, none⟩ (.int .i64 4)).setCell ⟨b7, 3, none⟩ (.string p2) = w6 at hb8 hx6 hb6 ⊢
      have HX6 := Lib.hid hx6
      have HB6 := Lib.hid hb6
      clear hx6
      have HC := Lib.hid (show callOf s.toList = (Call.zero, 12) by unfold callOf; rw [HPK.out]; simp [HK.out, HPL.out, HM.out])
      go_wp2_with fail
      obtain ⟨he, hbe⟩ := row_end (x := Call.zero) HX6.out HB6.out HG.out
      refine bodyPost_ret (results_cell_tmp rfl _ _ ⟨b, 0, none⟩ (.agg Call.zero.cells) rfl (load_block isCall hbe)) rfl ?_
      unfold ParsePost
      rw [HC.out]
      exact ⟨rfl, he⟩
    · skip
      rw [hk] at e1 e2 e3 e4 e5 e6
      have HK := Lib.hid hk
      clear hk hkr
      simp only [decide_eq_true_eq, Int.reduceEq, decide_false, decide_true] at e1 e2 e3 e4 e5 e6
      have hc7 := cell_of hb7 0
      have hf7 := frozen_of hb7 0
      go_upto_region 19 with fail
      have hb8 := setCell_blk hb7 0 (.int .i64 5)
      rw [show (⟨0, p1, ⟨#[]⟩, ⟨#[]⟩⟩ : Call).cells.setIfInBounds 0 (.int .i64 5) = (⟨5, p1, ⟨#[]⟩, ⟨#[]⟩⟩ : Call).cells from rfl] at hb8
      have hx6 := HX4.out.setCell (a := ⟨b7, 0, none⟩) (.inr HGW.out) (.int .i64 5)
      have hb6 := (heap_setCell_other w4 (⟨b7, 0, none⟩ : Addr) b (.int .i64 5) (by have := HBB.out; simp; omega)).trans HB4.out
      clear hc7 hf7 hb7 e1 e2 e3 e4 e5 e6
      generalize w4.setCell ⟨b7, 0, none⟩ (.int .i64 5) = w6 at hb8 hx6 hb6 ⊢
      have HX6 := Lib.hid hx6
      have HB6 := Lib.hid hb6
      clear hx6
      have HC := Lib.hid (show callOf s.toList = (Call.zero, 12) by unfold callOf; rw [HPK.out]; simp [HK.out, HPL.out, HM.out])
      go_wp2_with fail
      obtain ⟨he, hbe⟩ := row_end (x := Call.zero) HX6.out HB6.out HG.out
      refine bodyPost_ret (results_cell_tmp rfl _ _ ⟨b, 0, none⟩ (.agg Call.zero.cells) rfl (load_block isCall hbe)) rfl ?_
      unfold ParsePost
      rw [HC.out]
      exact ⟨rfl, he⟩
    · skip
      rw [hk] at e1 e2 e3 e4 e5 e6
      have HK := Lib.hid hk
      clear hk hkr
      simp only [decide_eq_true_eq, Int.reduceEq, decide_false, decide_true] at e1 e2 e3 e4 e5 e6
      have hc7 := cell_of hb7 0
      have hf7 := frozen_of hb7 0
      go_upto_region 19 with fail
      have hb8 := setCell_blk hb7 0 (.int .i64 6)
      rw [show (⟨0, p1, ⟨#[]⟩, ⟨#[]⟩⟩ : Call).cells.setIfInBounds 0 (.int .i64 6) = (⟨6, p1, ⟨#[]⟩, ⟨#[]⟩⟩ : Call).cells from rfl] at hb8
      have hx6 := HX4.out.setCell (a := ⟨b7, 0, none⟩) (.inr HGW.out) (.int .i64 6)
      have hb6 := (heap_setCell_other w4 (⟨b7, 0, none⟩ : Addr) b (.int .i64 6) (by have := HBB.out; simp; omega)).trans HB4.out
      clear hc7 hf7 hb7 e1 e2 e3 e4 e5 e6
      generalize w4.setCell ⟨b7, 0, none⟩ (.int .i64 6) = w6 at hb8 hx6 hb6 ⊢
      have HX6 := Lib.hid hx6
      have HB6 := Lib.hid hb6
      clear hx6
      obtain ⟨cc, hcc⟩ : ∃ cc, callCode ⟨6, p1, ⟨#[]⟩, ⟨#[]⟩⟩ = cc := ⟨_, rfl⟩
      have HCC := Lib.hid hcc
      have HST := Lib.hid (show StrCall ⟨6, p1, ⟨#[]⟩, ⟨#[]⟩⟩ from ⟨by assumption, by assumption, by assumption⟩)
      have HP := Lib.hid (show parsed s.toList = some ⟨6, p1, ⟨#[]⟩, ⟨#[]⟩⟩ from by rw [HPK.out]; simp [HK.out, HPL.out, HM.out]; try (first | rfl | exact ⟨rfl, rfl⟩ | exact ⟨rfl, rfl, rfl⟩ | exact HPE.out.symm | exact ⟨HPE.out.symm, rfl⟩ | exact ⟨HPE.out.symm, rfl, rfl⟩))
      clear hcc hb6
      go_wp2_with fail
      refine (ref_fault' _ ⟨6, p1, ⟨#[]⟩, ⟨#[]⟩⟩ cc HCC.out HST.out).mono ?_
      rintro e w7 ⟨rfl, hx7⟩
      have HX7 := Lib.hid (HX6.out.trans hx7)
      have HB7' := Lib.hid (hx7.blk HB6.out id)
      have hb7' := hx7.blk HB6.out id
      have hb9 := hx7.blk hb8 id
      clear hx7 hb8
      by_cases hc0 : cc = 0
      · have HC := Lib.hid (callOf_yes HP.out (HCC.out.trans hc0))
        subst hc0
        go_wp2_with fail
        obtain ⟨he, hbe⟩ := row_end (x := (⟨6, p1, ⟨#[]⟩, ⟨#[]⟩⟩ : Call)) HX7.out HB7'.out HG.out
        refine bodyPost_ret (results_cell_tmp rfl _ _ ⟨b, 0, none⟩ (.agg (⟨6, p1, ⟨#[]⟩, ⟨#[]⟩⟩ : Call).cells) rfl (load_block isCall hbe)) rfl ?_
        unfold ParsePost
        rw [HC.out]
        exact ⟨rfl, he⟩
      · have HC := Lib.hid (show callOf s.toList = (Call.zero, cc) from by rw [callOf_no HP.out (fun e => hc0 (HCC.out.symm.trans e))]; exact congrArg (Prod.mk Call.zero) HCC.out)
        have hcn : (cc == 0) = false := by simp [hc0]
        have hcn' : (cc != 0) = true := by simp [hc0]
        clear hc0
        go_wp2_with fail
        obtain ⟨he, hbe⟩ := row_end (x := Call.zero) HX7.out HB7'.out HG.out
        refine bodyPost_ret (results_cell_tmp rfl _ _ ⟨b, 0, none⟩ (.agg Call.zero.cells) rfl (load_block isCall hbe)) rfl ?_
        unfold ParsePost
        rw [HC.out]
        exact ⟨rfl, he⟩
  · have HPL := Lib.hid hm
    have HM := Lib.hid True.intro
    subst h1 h2
    clear hm HN1
    obtain hk | hk | hk | hk | hk | hk | hk : lineKind wd = 0 ∨ lineKind wd = 1 ∨ lineKind wd = 2 ∨ lineKind wd = 3 ∨ lineKind wd = 4 ∨ lineKind wd = 5 ∨ lineKind wd = 6 := by omega
    · skip
      rw [hk] at e1 e2 e3 e4 e5 e6
      have HK := Lib.hid hk
      clear hk hkr
      simp only [decide_eq_true_eq, Int.reduceEq, decide_false, decide_true] at e1 e2 e3 e4 e5 e6
      have hb6 := HB4.out
      go_upto_region 19 with fail
      have HX6 := HX4
      have HB6 := HB4
      have HC := Lib.hid (show callOf s.toList = (Call.zero, 12) by unfold callOf; rw [HPK.out]; simp [HK.out, HPL.out, HM.out])
      go_wp2_with fail
      obtain ⟨he, hbe⟩ := row_end (x := Call.zero) HX6.out HB6.out HG.out
      refine bodyPost_ret (results_cell_tmp rfl _ _ ⟨b, 0, none⟩ (.agg Call.zero.cells) rfl (load_block isCall hbe)) rfl ?_
      unfold ParsePost
      rw [HC.out]
      exact ⟨rfl, he⟩
    · skip
      rw [hk] at e1 e2 e3 e4 e5 e6
      have HK := Lib.hid hk
      clear hk hkr
      simp only [decide_eq_true_eq, Int.reduceEq, decide_false, decide_true] at e1 e2 e3 e4 e5 e6
      have hc7 := cell_of hb7 0
      have hf7 := frozen_of hb7 0
      go_upto_region 19 with fail
      have hb8 := setCell_blk hb7 0 (.int .i64 1)
      rw [show (⟨0, p1, ⟨#[]⟩, ⟨#[]⟩⟩ : Call).cells.setIfInBounds 0 (.int .i64 1) = (⟨1, p1, ⟨#[]⟩, ⟨#[]⟩⟩ : Call).cells from rfl] at hb8
      have hx6 := HX4.out.setCell (a := ⟨b7, 0, none⟩) (.inr HGW.out) (.int .i64 1)
      have hb6 := (heap_setCell_other w4 (⟨b7, 0, none⟩ : Addr) b (.int .i64 1) (by have := HBB.out; simp; omega)).trans HB4.out
      clear hc7 hf7 hb7 e1 e2 e3 e4 e5 e6
      generalize w4.setCell ⟨b7, 0, none⟩ (.int .i64 1) = w6 at hb8 hx6 hb6 ⊢
      have HX6 := Lib.hid hx6
      have HB6 := Lib.hid hb6
      clear hx6
      obtain ⟨cc, hcc⟩ : ∃ cc, callCode ⟨1, p1, ⟨#[]⟩, ⟨#[]⟩⟩ = cc := ⟨_, rfl⟩
      have HCC := Lib.hid hcc
      have HST := Lib.hid (show StrCall ⟨1, p1, ⟨#[]⟩, ⟨#[]⟩⟩ from ⟨by assumption, by assumption, by assumption⟩)
      have HP := Lib.hid (show parsed s.toList = some ⟨1, p1, ⟨#[]⟩, ⟨#[]⟩⟩ from by rw [HPK.out]; simp [HK.out, HPL.out, HM.out]; try (first | rfl | exact ⟨rfl, rfl⟩ | exact ⟨rfl, rfl, rfl⟩ | exact HPE.out.symm | exact ⟨HPE.out.symm, rfl⟩ | exact ⟨HPE.out.symm, rfl, rfl⟩))
      clear hcc hb6
      go_wp2_with fail
      refine (ref_fault' _ ⟨1, p1, ⟨#[]⟩, ⟨#[]⟩⟩ cc HCC.out HST.out).mono ?_
      rintro e w7 ⟨rfl, hx7⟩
      have HX7 := Lib.hid (HX6.out.trans hx7)
      have HB7' := Lib.hid (hx7.blk HB6.out id)
      have hb7' := hx7.blk HB6.out id
      have hb9 := hx7.blk hb8 id
      clear hx7 hb8
      by_cases hc0 : cc = 0
      · have HC := Lib.hid (callOf_yes HP.out (HCC.out.trans hc0))
        subst hc0
        go_wp2_with fail
        obtain ⟨he, hbe⟩ := row_end (x := (⟨1, p1, ⟨#[]⟩, ⟨#[]⟩⟩ : Call)) HX7.out HB7'.out HG.out
        refine bodyPost_ret (results_cell_tmp rfl _ _ ⟨b, 0, none⟩ (.agg (⟨1, p1, ⟨#[]⟩, ⟨#[]⟩⟩ : Call).cells) rfl (load_block isCall hbe)) rfl ?_
        unfold ParsePost
        rw [HC.out]
        exact ⟨rfl, he⟩
      · have HC := Lib.hid (show callOf s.toList = (Call.zero, cc) from by rw [callOf_no HP.out (fun e => hc0 (HCC.out.symm.trans e))]; exact congrArg (Prod.mk Call.zero) HCC.out)
        have hcn : (cc == 0) = false := by simp [hc0]
        have hcn' : (cc != 0) = true := by simp [hc0]
        clear hc0
        go_wp2_with fail
        obtain ⟨he, hbe⟩ := row_end (x := Call.zero) HX7.out HB7'.out HG.out
        refine bodyPost_ret (results_cell_tmp rfl _ _ ⟨b, 0, none⟩ (.agg Call.zero.cells) rfl (load_block isCall hbe)) rfl ?_
        unfold ParsePost
        rw [HC.out]
        exact ⟨rfl, he⟩
    · skip
      rw [hk] at e1 e2 e3 e4 e5 e6
      have HK := Lib.hid hk
      clear hk hkr
      simp only [decide_eq_true_eq, Int.reduceEq, decide_false, decide_true] at e1 e2 e3 e4 e5 e6
      have hc7 := cell_of hb7 0
      have hf7 := frozen_of hb7 0
      go_upto_region 19 with fail
      have hb8 := setCell_blk hb7 0 (.int .i64 2)
      rw [show (⟨0, p1, ⟨#[]⟩, ⟨#[]⟩⟩ : Call).cells.setIfInBounds 0 (.int .i64 2) = (⟨2, p1, ⟨#[]⟩, ⟨#[]⟩⟩ : Call).cells from rfl] at hb8
      have hx6 := HX4.out.setCell (a := ⟨b7, 0, none⟩) (.inr HGW.out) (.int .i64 2)
      have hb6 := (heap_setCell_other w4 (⟨b7, 0, none⟩ : Addr) b (.int .i64 2) (by have := HBB.out; simp; omega)).trans HB4.out
      clear hc7 hf7 hb7 e1 e2 e3 e4 e5 e6
      generalize w4.setCell ⟨b7, 0, none⟩ (.int .i64 2) = w6 at hb8 hx6 hb6 ⊢
      have HX6 := Lib.hid hx6
      have HB6 := Lib.hid hb6
      clear hx6
      obtain ⟨cc, hcc⟩ : ∃ cc, callCode ⟨2, p1, ⟨#[]⟩, ⟨#[]⟩⟩ = cc := ⟨_, rfl⟩
      have HCC := Lib.hid hcc
      have HST := Lib.hid (show StrCall ⟨2, p1, ⟨#[]⟩, ⟨#[]⟩⟩ from ⟨by assumption, by assumption, by assumption⟩)
      have HP := Lib.hid (show parsed s.toList = some ⟨2, p1, ⟨#[]⟩, ⟨#[]⟩⟩ from by rw [HPK.out]; simp [HK.out, HPL.out, HM.out]; try (first | rfl | exact ⟨rfl, rfl⟩ | exact ⟨rfl, rfl, rfl⟩ | exact HPE.out.symm | exact ⟨HPE.out.symm, rfl⟩ | exact ⟨HPE.out.symm, rfl, rfl⟩))
      clear hcc hb6
      go_wp2_with fail
      refine (ref_fault' _ ⟨2, p1, ⟨#[]⟩, ⟨#[]⟩⟩ cc HCC.out HST.out).mono ?_
      rintro e w7 ⟨rfl, hx7⟩
      have HX7 := Lib.hid (HX6.out.trans hx7)
      have HB7' := Lib.hid (hx7.blk HB6.out id)
      have hb7' := hx7.blk HB6.out id
      have hb9 := hx7.blk hb8 id
      clear hx7 hb8
      by_cases hc0 : cc = 0
      · have HC := Lib.hid (callOf_yes HP.out (HCC.out.trans hc0))
        subst hc0
        go_wp2_with fail
        obtain ⟨he, hbe⟩ := row_end (x := (⟨2, p1, ⟨#[]⟩, ⟨#[]⟩⟩ : Call)) HX7.out HB7'.out HG.out
        refine bodyPost_ret (results_cell_tmp rfl _ _ ⟨b, 0, none⟩ (.agg (⟨2, p1, ⟨#[]⟩, ⟨#[]⟩⟩ : Call).cells) rfl (load_block isCall hbe)) rfl ?_
        unfold ParsePost
        rw [HC.out]
        exact ⟨rfl, he⟩
      · have HC := Lib.hid (show callOf s.toList = (Call.zero, cc) from by rw [callOf_no HP.out (fun e => hc0 (HCC.out.symm.trans e))]; exact congrArg (Prod.mk Call.zero) HCC.out)
        have hcn : (cc == 0) = false := by simp [hc0]
        have hcn' : (cc != 0) = true := by simp [hc0]
        clear hc0
        go_wp2_with fail
        obtain ⟨he, hbe⟩ := row_end (x := Call.zero) HX7.out HB7'.out HG.out
        refine bodyPost_ret (results_cell_tmp rfl _ _ ⟨b, 0, none⟩ (.agg Call.zero.cells) rfl (load_block isCall hbe)) rfl ?_
        unfold ParsePost
        rw [HC.out]
        exact ⟨rfl, he⟩
    · skip
      rw [hk] at e1 e2 e3 e4 e5 e6
      have HK := Lib.hid hk
      clear hk hkr
      simp only [decide_eq_true_eq, Int.reduceEq, decide_false, decide_true] at e1 e2 e3 e4 e5 e6
      have hc7 := cell_of hb7 0
      have hf7 := frozen_of hb7 0
      have hc8 := cell_of hb7 2
      have hf8 := frozen_of hb7 2
      go_upto_region 19 with fail
      have hb8 := setCell_blk (setCell_blk hb7 0 (.int .i64 3)) 2 (.string p2)
      rw [show ((⟨0, p1, ⟨#[]⟩, ⟨#[]⟩⟩ : Call).cells.setIfInBounds 0 (.int .i64 3)).setIfInBounds 2 (.string p2) = (⟨3, p1, p2, ⟨#[]⟩⟩ : Call).cells from rfl] at hb8
      have hx6 := (HX4.out.setCell (a := ⟨b7, 0, none⟩) (.inr HGW.out) (.int .i64 3)).setCell (a := ⟨b7, 2, none⟩) (.inr HGW.out) (.string p2)
      have hb6 := (heap_setCell_other (w4.setCell ⟨b7, 0, none⟩ (.int .i64 3)) (⟨b7, 2, none⟩ : Addr) b (.string p2) (by have := HBB.out; simp; omega)).trans ((heap_setCell_other w4 (⟨b7, 0, none⟩ : Addr) b (.int .i64 3) (by have := HBB.out; simp; omega)).trans HB4.out)
      clear hc7 hf7 hc8 hf8 hb7 e1 e2 e3 e4 e5 e6
      generalize (w4.setCell ⟨b7, 0, none⟩ (.int .i64 3)).setCell ⟨b7, 2, none⟩ (.string p2) = w6 at hb8 hx6 hb6 ⊢
      have HX6 := Lib.hid hx6
      have HB6 := Lib.hid hb6
      clear hx6
      have HC := Lib.hid (show callOf s.toList = (Call.zero, 12) by unfold callOf; rw [HPK.out]; simp [HK.out, HPL.out, HM.out])
      go_wp2_with fail
      obtain ⟨he, hbe⟩ := row_end (x := Call.zero) HX6.out HB6.out HG.out
      refine bodyPost_ret (results_cell_tmp rfl _ _ ⟨b, 0, none⟩ (.agg Call.zero.cells) rfl (load_block isCall hbe)) rfl ?_
      unfold ParsePost
      rw [HC.out]
      exact ⟨rfl, he⟩
    · skip
      rw [hk] at e1 e2 e3 e4 e5 e6
      have HK := Lib.hid hk
      clear hk hkr
      simp only [decide_eq_true_eq, Int.reduceEq, decide_false, decide_true] at e1 e2 e3 e4 e5 e6
      have hc7 := cell_of hb7 0
      have hf7 := frozen_of hb7 0
      have hc8 := cell_of hb7 3
      have hf8 := frozen_of hb7 3
      go_upto_region 19 with fail
      have hb8 := setCell_blk (setCell_blk hb7 0 (.int .i64 4)) 3 (.string p2)
      rw [show ((⟨0, p1, ⟨#[]⟩, ⟨#[]⟩⟩ : Call).cells.setIfInBounds 0 (.int .i64 4)).setIfInBounds 3 (.string p2) = (⟨4, p1, ⟨#[]⟩, p2⟩ : Call).cells from rfl] at hb8
      have hx6 := (HX4.out.setCell (a := ⟨b7, 0, none⟩) (.inr HGW.out) (.int .i64 4)).setCell (a := ⟨b7, 3, none⟩) (.inr HGW.out) (.string p2)
      have hb6 := (heap_setCell_other (w4.setCell ⟨b7, 0, none⟩ (.int .i64 4)) (⟨b7, 3, none⟩ : Addr) b (.string p2) (by have := HBB.out; simp; omega)).trans ((heap_setCell_other w4 (⟨b7, 0, none⟩ : Addr) b (.int .i64 4) (by have := HBB.out; simp; omega)).trans HB4.out)
      clear hc7 hf7 hc8 hf8 hb7 e1 e2 e3 e4 e5 e6
      generalize (w4.setCell ⟨b7, 0, none⟩ (.int .i64 4)).setCell ⟨b7, 3, none⟩ (.string p2) = w6 at hb8 hx6 hb6 ⊢
      have HX6 := Lib.hid hx6
      have HB6 := Lib.hid hb6
      clear hx6
      have HC := Lib.hid (show callOf s.toList = (Call.zero, 12) by unfold callOf; rw [HPK.out]; simp [HK.out, HPL.out, HM.out])
      go_wp2_with fail
      obtain ⟨he, hbe⟩ := row_end (x := Call.zero) HX6.out HB6.out HG.out
      refine bodyPost_ret (results_cell_tmp rfl _ _ ⟨b, 0, none⟩ (.agg Call.zero.cells) rfl (load_block isCall hbe)) rfl ?_
      unfold ParsePost
      rw [HC.out]
      exact ⟨rfl, he⟩
    · skip
      rw [hk] at e1 e2 e3 e4 e5 e6
      have HK := Lib.hid hk
      clear hk hkr
      simp only [decide_eq_true_eq, Int.reduceEq, decide_false, decide_true] at e1 e2 e3 e4 e5 e6
      have hc7 := cell_of hb7 0
      have hf7 := frozen_of hb7 0
      go_upto_region 19 with fail
      have hb8 := setCell_blk hb7 0 (.int .i64 5)
      rw [show (⟨0, p1, ⟨#[]⟩, ⟨#[]⟩⟩ : Call).cells.setIfInBounds 0 (.int .i64 5) = (⟨5, p1, ⟨#[]⟩, ⟨#[]⟩⟩ : Call).cells from rfl] at hb8
      have hx6 := HX4.out.setCell (a := ⟨b7, 0, none⟩) (.inr HGW.out) (.int .i64 5)
      have hb6 := (heap_setCell_other w4 (⟨b7, 0, none⟩ : Addr) b (.int .i64 5) (by have := HBB.out; simp; omega)).trans HB4.out
      clear hc7 hf7 hb7 e1 e2 e3 e4 e5 e6
      generalize w4.setCell ⟨b7, 0, none⟩ (.int .i64 5) = w6 at hb8 hx6 hb6 ⊢
      have HX6 := Lib.hid hx6
      have HB6 := Lib.hid hb6
      clear hx6
      obtain ⟨cc, hcc⟩ : ∃ cc, callCode ⟨5, p1, ⟨#[]⟩, ⟨#[]⟩⟩ = cc := ⟨_, rfl⟩
      have HCC := Lib.hid hcc
      have HST := Lib.hid (show StrCall ⟨5, p1, ⟨#[]⟩, ⟨#[]⟩⟩ from ⟨by assumption, by assumption, by assumption⟩)
      have HP := Lib.hid (show parsed s.toList = some ⟨5, p1, ⟨#[]⟩, ⟨#[]⟩⟩ from by rw [HPK.out]; simp [HK.out, HPL.out, HM.out]; try (first | rfl | exact ⟨rfl, rfl⟩ | exact ⟨rfl, rfl, rfl⟩ | exact HPE.out.symm | exact ⟨HPE.out.symm, rfl⟩ | exact ⟨HPE.out.symm, rfl, rfl⟩))
      clear hcc hb6
      go_wp2_with fail
      refine (ref_fault' _ ⟨5, p1, ⟨#[]⟩, ⟨#[]⟩⟩ cc HCC.out HST.out).mono ?_
      rintro e w7 ⟨rfl, hx7⟩
      have HX7 := Lib.hid (HX6.out.trans hx7)
      have HB7' := Lib.hid (hx7.blk HB6.out id)
      have hb7' := hx7.blk HB6.out id
      have hb9 := hx7.blk hb8 id
      clear hx7 hb8
      by_cases hc0 : cc = 0
      · have HC := Lib.hid (callOf_yes HP.out (HCC.out.trans hc0))
        subst hc0
        go_wp2_with fail
        obtain ⟨he, hbe⟩ := row_end (x := (⟨5, p1, ⟨#[]⟩, ⟨#[]⟩⟩ : Call)) HX7.out HB7'.out HG.out
        refine bodyPost_ret (results_cell_tmp rfl _ _ ⟨b, 0, none⟩ (.agg (⟨5, p1, ⟨#[]⟩, ⟨#[]⟩⟩ : Call).cells) rfl (load_block isCall hbe)) rfl ?_
        unfold ParsePost
        rw [HC.out]
        exact ⟨rfl, he⟩
      · have HC := Lib.hid (show callOf s.toList = (Call.zero, cc) from by rw [callOf_no HP.out (fun e => hc0 (HCC.out.symm.trans e))]; exact congrArg (Prod.mk Call.zero) HCC.out)
        have hcn : (cc == 0) = false := by simp [hc0]
        have hcn' : (cc != 0) = true := by simp [hc0]
        clear hc0
        go_wp2_with fail
        obtain ⟨he, hbe⟩ := row_end (x := Call.zero) HX7.out HB7'.out HG.out
        refine bodyPost_ret (results_cell_tmp rfl _ _ ⟨b, 0, none⟩ (.agg Call.zero.cells) rfl (load_block isCall hbe)) rfl ?_
        unfold ParsePost
        rw [HC.out]
        exact ⟨rfl, he⟩
    · skip
      rw [hk] at e1 e2 e3 e4 e5 e6
      have HK := Lib.hid hk
      clear hk hkr
      simp only [decide_eq_true_eq, Int.reduceEq, decide_false, decide_true] at e1 e2 e3 e4 e5 e6
      have hc7 := cell_of hb7 0
      have hf7 := frozen_of hb7 0
      go_upto_region 19 with fail
      have hb8 := setCell_blk hb7 0 (.int .i64 6)
      rw [show (⟨0, p1, ⟨#[]⟩, ⟨#[]⟩⟩ : Call).cells.setIfInBounds 0 (.int .i64 6) = (⟨6, p1, ⟨#[]⟩, ⟨#[]⟩⟩ : Call).cells from rfl] at hb8
      have hx6 := HX4.out.setCell (a := ⟨b7, 0, none⟩) (.inr HGW.out) (.int .i64 6)
      have hb6 := (heap_setCell_other w4 (⟨b7, 0, none⟩ : Addr) b (.int .i64 6) (by have := HBB.out; simp; omega)).trans HB4.out
      clear hc7 hf7 hb7 e1 e2 e3 e4 e5 e6
      generalize w4.setCell ⟨b7, 0, none⟩ (.int .i64 6) = w6 at hb8 hx6 hb6 ⊢
      have HX6 := Lib.hid hx6
      have HB6 := Lib.hid hb6
      clear hx6
      have HC := Lib.hid (show callOf s.toList = (Call.zero, 12) by unfold callOf; rw [HPK.out]; simp [HK.out, HPL.out, HM.out])
      go_wp2_with fail
      obtain ⟨he, hbe⟩ := row_end (x := Call.zero) HX6.out HB6.out HG.out
      refine bodyPost_ret (results_cell_tmp rfl _ _ ⟨b, 0, none⟩ (.agg Call.zero.cells) rfl (load_block isCall hbe)) rfl ?_
      unfold ParsePost
      rw [HC.out]
      exact ⟨rfl, he⟩
  · have HPL := Lib.hid hm
    have HM := Lib.hid True.intro
    subst h1 h2
    clear hm HN1
    obtain hk | hk | hk | hk | hk | hk | hk : lineKind wd = 0 ∨ lineKind wd = 1 ∨ lineKind wd = 2 ∨ lineKind wd = 3 ∨ lineKind wd = 4 ∨ lineKind wd = 5 ∨ lineKind wd = 6 := by omega
    · skip
      rw [hk] at e1 e2 e3 e4 e5 e6
      have HK := Lib.hid hk
      clear hk hkr
      simp only [decide_eq_true_eq, Int.reduceEq, decide_false, decide_true] at e1 e2 e3 e4 e5 e6
      have hb6 := HB4.out
      go_upto_region 19 with fail
      have HX6 := HX4
      have HB6 := HB4
      have HC := Lib.hid (show callOf s.toList = (Call.zero, 12) by unfold callOf; rw [HPK.out]; simp [HK.out, HPL.out, HM.out])
      go_wp2_with fail
      obtain ⟨he, hbe⟩ := row_end (x := Call.zero) HX6.out HB6.out HG.out
      refine bodyPost_ret (results_cell_tmp rfl _ _ ⟨b, 0, none⟩ (.agg Call.zero.cells) rfl (load_block isCall hbe)) rfl ?_
      unfold ParsePost
      rw [HC.out]
      exact ⟨rfl, he⟩
    · skip
      rw [hk] at e1 e2 e3 e4 e5 e6
      have HK := Lib.hid hk
      clear hk hkr
      simp only [decide_eq_true_eq, Int.reduceEq, decide_false, decide_true] at e1 e2 e3 e4 e5 e6
      have hc7 := cell_of hb7 0
      have hf7 := frozen_of hb7 0
      go_upto_region 19 with fail
      have hb8 := setCell_blk hb7 0 (.int .i64 1)
      rw [show (⟨0, p1, ⟨#[]⟩, ⟨#[]⟩⟩ : Call).cells.setIfInBounds 0 (.int .i64 1) = (⟨1, p1, ⟨#[]⟩, ⟨#[]⟩⟩ : Call).cells from rfl] at hb8
      have hx6 := HX4.out.setCell (a := ⟨b7, 0, none⟩) (.inr HGW.out) (.int .i64 1)
      have hb6 := (heap_setCell_other w4 (⟨b7, 0, none⟩ : Addr) b (.int .i64 1) (by have := HBB.out; simp; omega)).trans HB4.out
      clear hc7 hf7 hb7 e1 e2 e3 e4 e5 e6
      generalize w4.setCell ⟨b7, 0, none⟩ (.int .i64 1) = w6 at hb8 hx6 hb6 ⊢
      have HX6 := Lib.hid hx6
      have HB6 := Lib.hid hb6
      clear hx6
      have HC := Lib.hid (show callOf s.toList = (Call.zero, 12) by unfold callOf; rw [HPK.out]; simp [HK.out, HPL.out, HM.out])
      go_wp2_with fail
      obtain ⟨he, hbe⟩ := row_end (x := Call.zero) HX6.out HB6.out HG.out
      refine bodyPost_ret (results_cell_tmp rfl _ _ ⟨b, 0, none⟩ (.agg Call.zero.cells) rfl (load_block isCall hbe)) rfl ?_
      unfold ParsePost
      rw [HC.out]
      exact ⟨rfl, he⟩
    · skip
      rw [hk] at e1 e2 e3 e4 e5 e6
      have HK := Lib.hid hk
      clear hk hkr
      simp only [decide_eq_true_eq, Int.reduceEq, decide_false, decide_true] at e1 e2 e3 e4 e5 e6
      have hc7 := cell_of hb7 0
      have hf7 := frozen_of hb7 0
      go_upto_region 19 with fail
      have hb8 := setCell_blk hb7 0 (.int .i64 2)
      rw [show (⟨0, p1, ⟨#[]⟩, ⟨#[]⟩⟩ : Call).cells.setIfInBounds 0 (.int .i64 2) = (⟨2, p1, ⟨#[]⟩, ⟨#[]⟩⟩ : Call).cells from rfl] at hb8
      have hx6 := HX4.out.setCell (a := ⟨b7, 0, none⟩) (.inr HGW.out) (.int .i64 2)
      have hb6 := (heap_setCell_other w4 (⟨b7, 0, none⟩ : Addr) b (.int .i64 2) (by have := HBB.out; simp; omega)).trans HB4.out
      clear hc7 hf7 hb7 e1 e2 e3 e4 e5 e6
      generalize w4.setCell ⟨b7, 0, none⟩ (.int .i64 2) = w6 at hb8 hx6 hb6 ⊢
      have HX6 := Lib.hid hx6
      have HB6 := Lib.hid hb6
      clear hx6
      have HC := Lib.hid (show callOf s.toList = (Call.zero, 12) by unfold callOf; rw [HPK.out]; simp [HK.out, HPL.out, HM.out])
      go_wp2_with fail
      obtain ⟨he, hbe⟩ := row_end (x := Call.zero) HX6.out HB6.out HG.out
      refine bodyPost_ret (results_cell_tmp rfl _ _ ⟨b, 0, none⟩ (.agg Call.zero.cells) rfl (load_block isCall hbe)) rfl ?_
      unfold ParsePost
      rw [HC.out]
      exact ⟨rfl, he⟩
    · skip
      rw [hk] at e1 e2 e3 e4 e5 e6
      have HK := Lib.hid hk
      clear hk hkr
      simp only [decide_eq_true_eq, Int.reduceEq, decide_false, decide_true] at e1 e2 e3 e4 e5 e6
      have hc7 := cell_of hb7 0
      have hf7 := frozen_of hb7 0
      have hc8 := cell_of hb7 2
      have hf8 := frozen_of hb7 2
      go_upto_region 19 with fail
      have hb8 := setCell_blk (setCell_blk hb7 0 (.int .i64 3)) 2 (.string p2)
      rw [show ((⟨0, p1, ⟨#[]⟩, ⟨#[]⟩⟩ : Call).cells.setIfInBounds 0 (.int .i64 3)).setIfInBounds 2 (.string p2) = (⟨3, p1, p2, ⟨#[]⟩⟩ : Call).cells from rfl] at hb8
      have hx6 := (HX4.out.setCell (a := ⟨b7, 0, none⟩) (.inr HGW.out) (.int .i64 3)).setCell (a := ⟨b7, 2, none⟩) (.inr HGW.out) (.string p2)
      have hb6 := (heap_setCell_other (w4.setCell ⟨b7, 0, none⟩ (.int .i64 3)) (⟨b7, 2, none⟩ : Addr) b (.string p2) (by have := HBB.out; simp; omega)).trans ((heap_setCell_other w4 (⟨b7, 0, none⟩ : Addr) b (.int .i64 3) (by have := HBB.out; simp; omega)).trans HB4.out)
      clear hc7 hf7 hc8 hf8 hb7 e1 e2 e3 e4 e5 e6
      generalize (w4.setCell ⟨b7, 0, none⟩ (.int .i64 3)).setCell ⟨b7, 2, none⟩ (.string p2) = w6 at hb8 hx6 hb6 ⊢
      have HX6 := Lib.hid hx6
      have HB6 := Lib.hid hb6
      clear hx6
      obtain ⟨cc, hcc⟩ : ∃ cc, callCode ⟨3, p1, p2, ⟨#[]⟩⟩ = cc := ⟨_, rfl⟩
      have HCC := Lib.hid hcc
      have HST := Lib.hid (show StrCall ⟨3, p1, p2, ⟨#[]⟩⟩ from ⟨by assumption, by assumption, by assumption⟩)
      have HP := Lib.hid (show parsed s.toList = some ⟨3, p1, p2, ⟨#[]⟩⟩ from by rw [HPK.out]; simp [HK.out, HPL.out, HM.out]; try (first | rfl | exact ⟨rfl, rfl⟩ | exact ⟨rfl, rfl, rfl⟩ | exact HPE.out.symm | exact ⟨HPE.out.symm, rfl⟩ | exact ⟨HPE.out.symm, rfl, rfl⟩))
      clear hcc hb6
      go_wp2_with fail
      refine (ref_fault' _ ⟨3, p1, p2, ⟨#[]⟩⟩ cc HCC.out HST.out).mono ?_
      rintro e w7 ⟨rfl, hx7⟩
      have HX7 := Lib.hid (HX6.out.trans hx7)
      have HB7' := Lib.hid (hx7.blk HB6.out id)
      have hb7' := hx7.blk HB6.out id
      have hb9 := hx7.blk hb8 id
      clear hx7 hb8
      by_cases hc0 : cc = 0
      · have HC := Lib.hid (callOf_yes HP.out (HCC.out.trans hc0))
        subst hc0
        go_wp2_with fail
        obtain ⟨he, hbe⟩ := row_end (x := (⟨3, p1, p2, ⟨#[]⟩⟩ : Call)) HX7.out HB7'.out HG.out
        refine bodyPost_ret (results_cell_tmp rfl _ _ ⟨b, 0, none⟩ (.agg (⟨3, p1, p2, ⟨#[]⟩⟩ : Call).cells) rfl (load_block isCall hbe)) rfl ?_
        unfold ParsePost
        rw [HC.out]
        exact ⟨rfl, he⟩
      · have HC := Lib.hid (show callOf s.toList = (Call.zero, cc) from by rw [callOf_no HP.out (fun e => hc0 (HCC.out.symm.trans e))]; exact congrArg (Prod.mk Call.zero) HCC.out)
        have hcn : (cc == 0) = false := by simp [hc0]
        have hcn' : (cc != 0) = true := by simp [hc0]
        clear hc0
        go_wp2_with fail
        obtain ⟨he, hbe⟩ := row_end (x := Call.zero) HX7.out HB7'.out HG.out
        refine bodyPost_ret (results_cell_tmp rfl _ _ ⟨b, 0, none⟩ (.agg Call.zero.cells) rfl (load_block isCall hbe)) rfl ?_
        unfold ParsePost
        rw [HC.out]
        exact ⟨rfl, he⟩
    · skip
      rw [hk] at e1 e2 e3 e4 e5 e6
      have HK := Lib.hid hk
      clear hk hkr
      simp only [decide_eq_true_eq, Int.reduceEq, decide_false, decide_true] at e1 e2 e3 e4 e5 e6
      have hc7 := cell_of hb7 0
      have hf7 := frozen_of hb7 0
      have hc8 := cell_of hb7 3
      have hf8 := frozen_of hb7 3
      go_upto_region 19 with fail
      have hb8 := setCell_blk (setCell_blk hb7 0 (.int .i64 4)) 3 (.string p2)
      rw [show ((⟨0, p1, ⟨#[]⟩, ⟨#[]⟩⟩ : Call).cells.setIfInBounds 0 (.int .i64 4)).setIfInBounds 3 (.string p2) = (⟨4, p1, ⟨#[]⟩, p2⟩ : Call).cells from rfl] at hb8
      have hx6 := (HX4.out.setCell (a := ⟨b7, 0, none⟩) (.inr HGW.out) (.int .i64 4)).setCell (a := ⟨b7, 3, none⟩) (.inr HGW.out) (.string p2)
      have hb6 := (heap_setCell_other (w4.setCell ⟨b7, 0, none⟩ (.int .i64 4)) (⟨b7, 3, none⟩ : Addr) b (.string p2) (by have := HBB.out; simp; omega)).trans ((heap_setCell_other w4 (⟨b7, 0, none⟩ : Addr) b (.int .i64 4) (by have := HBB.out; simp; omega)).trans HB4.out)
      clear hc7 hf7 hc8 hf8 hb7 e1 e2 e3 e4 e5 e6
      generalize (w4.setCell ⟨b7, 0, none⟩ (.int .i64 4)).setCell ⟨b7, 3, none⟩ (.string p2) = w6 at hb8 hx6 hb6 ⊢
      have HX6 := Lib.hid hx6
      have HB6 := Lib.hid hb6
      clear hx6
      obtain ⟨cc, hcc⟩ : ∃ cc, callCode ⟨4, p1, ⟨#[]⟩, p2⟩ = cc := ⟨_, rfl⟩
      have HCC := Lib.hid hcc
      have HST := Lib.hid (show StrCall ⟨4, p1, ⟨#[]⟩, p2⟩ from ⟨by assumption, by assumption, by assumption⟩)
      have HP := Lib.hid (show parsed s.toList = some ⟨4, p1, ⟨#[]⟩, p2⟩ from by rw [HPK.out]; simp [HK.out, HPL.out, HM.out]; try (first | rfl | exact ⟨rfl, rfl⟩ | exact ⟨rfl, rfl, rfl⟩ | exact HPE.out.symm | exact ⟨HPE.out.symm, rfl⟩ | exact ⟨HPE.out.symm, rfl, rfl⟩))
      clear hcc hb6
      go_wp2_with fail
      refine (ref_fault' _ ⟨4, p1, ⟨#[]⟩, p2⟩ cc HCC.out HST.out).mono ?_
      rintro e w7 ⟨rfl, hx7⟩
      have HX7 := Lib.hid (HX6.out.trans hx7)
      have HB7' := Lib.hid (hx7.blk HB6.out id)
      have hb7' := hx7.blk HB6.out id
      have hb9 := hx7.blk hb8 id
      clear hx7 hb8
      by_cases hc0 : cc = 0
      · have HC := Lib.hid (callOf_yes HP.out (HCC.out.trans hc0))
        subst hc0
        go_wp2_with fail
        obtain ⟨he, hbe⟩ := row_end (x := (⟨4, p1, ⟨#[]⟩, p2⟩ : Call)) HX7.out HB7'.out HG.out
        refine bodyPost_ret (results_cell_tmp rfl _ _ ⟨b, 0, none⟩ (.agg (⟨4, p1, ⟨#[]⟩, p2⟩ : Call).cells) rfl (load_block isCall hbe)) rfl ?_
        unfold ParsePost
        rw [HC.out]
        exact ⟨rfl, he⟩
      · have HC := Lib.hid (show callOf s.toList = (Call.zero, cc) from by rw [callOf_no HP.out (fun e => hc0 (HCC.out.symm.trans e))]; exact congrArg (Prod.mk Call.zero) HCC.out)
        have hcn : (cc == 0) = false := by simp [hc0]
        have hcn' : (cc != 0) = true := by simp [hc0]
        clear hc0
        go_wp2_with fail
        obtain ⟨he, hbe⟩ := row_end (x := Call.zero) HX7.out HB7'.out HG.out
        refine bodyPost_ret (results_cell_tmp rfl _ _ ⟨b, 0, none⟩ (.agg Call.zero.cells) rfl (load_block isCall hbe)) rfl ?_
        unfold ParsePost
        rw [HC.out]
        exact ⟨rfl, he⟩
    · skip
      rw [hk] at e1 e2 e3 e4 e5 e6
      have HK := Lib.hid hk
      clear hk hkr
      simp only [decide_eq_true_eq, Int.reduceEq, decide_false, decide_true] at e1 e2 e3 e4 e5 e6
      have hc7 := cell_of hb7 0
      have hf7 := frozen_of hb7 0
      go_upto_region 19 with fail
      have hb8 := setCell_blk hb7 0 (.int .i64 5)
      rw [show (⟨0, p1, ⟨#[]⟩, ⟨#[]⟩⟩ : Call).cells.setIfInBounds 0 (.int .i64 5) = (⟨5, p1, ⟨#[]⟩, ⟨#[]⟩⟩ : Call).cells from rfl] at hb8
      have hx6 := HX4.out.setCell (a := ⟨b7, 0, none⟩) (.inr HGW.out) (.int .i64 5)
      have hb6 := (heap_setCell_other w4 (⟨b7, 0, none⟩ : Addr) b (.int .i64 5) (by have := HBB.out; simp; omega)).trans HB4.out
      clear hc7 hf7 hb7 e1 e2 e3 e4 e5 e6
      generalize w4.setCell ⟨b7, 0, none⟩ (.int .i64 5) = w6 at hb8 hx6 hb6 ⊢
      have HX6 := Lib.hid hx6
      have HB6 := Lib.hid hb6
      clear hx6
      have HC := Lib.hid (show callOf s.toList = (Call.zero, 12) by unfold callOf; rw [HPK.out]; simp [HK.out, HPL.out, HM.out])
      go_wp2_with fail
      obtain ⟨he, hbe⟩ := row_end (x := Call.zero) HX6.out HB6.out HG.out
      refine bodyPost_ret (results_cell_tmp rfl _ _ ⟨b, 0, none⟩ (.agg Call.zero.cells) rfl (load_block isCall hbe)) rfl ?_
      unfold ParsePost
      rw [HC.out]
      exact ⟨rfl, he⟩
    · skip
      rw [hk] at e1 e2 e3 e4 e5 e6
      have HK := Lib.hid hk
      clear hk hkr
      simp only [decide_eq_true_eq, Int.reduceEq, decide_false, decide_true] at e1 e2 e3 e4 e5 e6
      have hc7 := cell_of hb7 0
      have hf7 := frozen_of hb7 0
      go_upto_region 19 with fail
      have hb8 := setCell_blk hb7 0 (.int .i64 6)
      rw [show (⟨0, p1, ⟨#[]⟩, ⟨#[]⟩⟩ : Call).cells.setIfInBounds 0 (.int .i64 6) = (⟨6, p1, ⟨#[]⟩, ⟨#[]⟩⟩ : Call).cells from rfl] at hb8
      have hx6 := HX4.out.setCell (a := ⟨b7, 0, none⟩) (.inr HGW.out) (.int .i64 6)
      have hb6 := (heap_setCell_other w4 (⟨b7, 0, none⟩ : Addr) b (.int .i64 6) (by have := HBB.out; simp; omega)).trans HB4.out
      clear hc7 hf7 hb7 e1 e2 e3 e4 e5 e6
      generalize w4.setCell ⟨b7, 0, none⟩ (.int .i64 6) = w6 at hb8 hx6 hb6 ⊢
      have HX6 := Lib.hid hx6
      have HB6 := Lib.hid hb6
      clear hx6
      have HC := Lib.hid (show callOf s.toList = (Call.zero, 12) by unfold callOf; rw [HPK.out]; simp [HK.out, HPL.out, HM.out])
      go_wp2_with fail
      obtain ⟨he, hbe⟩ := row_end (x := Call.zero) HX6.out HB6.out HG.out
      refine bodyPost_ret (results_cell_tmp rfl _ _ ⟨b, 0, none⟩ (.agg Call.zero.cells) rfl (load_block isCall hbe)) rfl ?_
      unfold ParsePost
      rw [HC.out]
      exact ⟨rfl, he⟩
end Go.Proofs.YtalfbhhldfffkabDoor
