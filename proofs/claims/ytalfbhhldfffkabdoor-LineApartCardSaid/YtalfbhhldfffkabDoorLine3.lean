/- Line3: the reference's CallText. -/
import Derived.Test.YtalfbhhldfffkabDoorLine2
import Derived.Test.YtalfbhhldfffkabDoorGCheck
namespace Go.Proofs.YtalfbhhldfffkabDoor
open Go.RowKit

theorem okText_le' {lo hi m : Nat} {s : ByteArray} (h : okText lo hi m s = true) : s.size ≤ m := by
  unfold okText at h
  simp at h
  omega
theorem okText_pos {lo hi m : Nat} {s : ByteArray} (h : okText lo hi m s = true) : 0 < s.size := by
  unfold okText at h
  simp at h
  omega
theorem ct_zero {x : Call} (h : callCode x = 0) : callText x = (mkStr (callLine x), 0) := by unfold callText; rw [if_neg (by simp [h])]
theorem ct_code {x : Call} (h : callCode x ≠ 0) : callText x = (noText, callCode x) := by unfold callText; rw [if_pos h]
theorem line_1 {x : Call} (k : Int) (p : ByteArray) (hk : x.kind = k) (h : k = 1 ∧ p = ⟨#[109, 97, 107, 101, 32]⟩ ∨ k = 2 ∧ p = ⟨#[114, 101, 109, 111, 118, 101, 32]⟩ ∨ k = 5 ∧ p = ⟨#[114, 101, 97, 100, 32]⟩) : p ++ x.name = mkStr (callLine x) := by
  refine toList_inj ?_
  rw [toList_app, mkStr_toList]
  unfold callLine
  rw [hk]
  rcases h with ⟨rfl, rfl⟩ | ⟨rfl, rfl⟩ | ⟨rfl, rfl⟩ <;> (rw [ByteArray.toList_eq ⟨_⟩]; simp [kindWord, wMake, wRemove, wRead])
theorem line_3 {x : Call} (hk : x.kind = 3) : (⟨#[114, 101, 110, 97, 109, 101, 32]⟩ : ByteArray) ++ x.name ++ ⟨#[32]⟩ ++ x.to_ = mkStr (callLine x) := by
  refine toList_inj ?_
  rw [toList_app, toList_app, toList_app, mkStr_toList, sp_toList]
  unfold callLine
  rw [hk, ByteArray.toList_eq ⟨_⟩]
  simp [kindWord, wRename]
theorem line_4 {x : Call} (hk : x.kind = 4) : (⟨#[97, 112, 112, 101, 110, 100, 32]⟩ : ByteArray) ++ x.name ++ ⟨#[32]⟩ ++ x.text = mkStr (callLine x) := by
  refine toList_inj ?_
  rw [toList_app, toList_app, toList_app, mkStr_toList, sp_toList]
  unfold callLine
  rw [hk, ByteArray.toList_eq ⟨_⟩]
  simp [kindWord, wAppend]
theorem line_6 {x : Call} (hk : x.kind = 6) : (⟨#[108, 105, 115, 116]⟩ : ByteArray) = mkStr (callLine x) := by
  refine toList_inj ?_
  rw [mkStr_toList]
  unfold callLine
  rw [hk, ByteArray.toList_eq ⟨_⟩]
  simp [kindWord, wList]
def CTPost (w : World) (x : Call) (e : Ending) (w' : World) : Prop := e = .returned (.tuple #[.string (callText x).1, .int .i64 (callText x).2]) ∧ Ext w w'
set_option maxHeartbeats 1000000 in
set_option maxRecDepth 100000 in
theorem ref_callText (w : World) (x : Call) (hx : StrCall x) : Calls Tryd.prog 9 #[.agg x.cells] w (CTPost w x) := by
  have HST := Lib.hid hx
  have hb : (w.alloc (.cells x.cells 23)).heap[w.heap.size]? = some (.cells x.cells 23 (0, 0)) := heap_alloc_new _ _
  have HX := Lib.hid (show Ext w (w.alloc (.cells x.cells 23)) from (Touch.refl _ w).alloc _)
  clear hx
  go_enter Tryd.func9, Tryd.ntmps9
  go_upto_region 1 with fail
  generalize w.alloc (.cells x.cells 23) = w1 at HX hb ⊢
  generalize w.heap.size = b at hb ⊢
  obtain ⟨n, hn⟩ : ∃ n, callCode x = n := ⟨_, rfl⟩
  have HN := Lib.hid hn
  clear hn
  go_wp2_with fail
  refine (ref_fault' w1 x n HN.out HST.out).mono ?_
  rintro e w2 ⟨rfl, hx2⟩
  have hb2 := hx2.blk hb id
  have HX2 := Lib.hid (HX.out.trans hx2)
  clear hx2 hb
  by_cases h0 : n = 0
  · subst h0
    have HCT := Lib.hid (ct_zero HN.out)
    have hkd := callCode_kind HN.out
    have hform := callCode_form HN.out
    have hn5 : (x.name.size : Int) ≤ 5 := by
      by_cases h6 : x.kind = 6
      · rw [hform.1 h6]; decide
      · have := okText_le' (callCode_name HN.out h6); omega
    have ht5 : (x.to_.size : Int) ≤ 5 := by
      by_cases h3 : x.kind = 3
      · have := okText_le' (callCode_to HN.out h3); omega
      · rw [hform.2.1 h3]; decide
    have hx8 : (x.text.size : Int) ≤ 8 := by
      by_cases h4 : x.kind = 4
      · have := okText_le' (callCode_text HN.out h4); omega
      · rw [hform.2.2 h4]; decide
    clear hform
    have h1 := (cell_of hb2 1).trans (Call.get1 x)
    have h2 := (cell_of hb2 2).trans (Call.get2 x)
    have h3 := (cell_of hb2 3).trans (Call.get3 x)
    obtain hk | hk | hk | hk | hk | hk : x.kind = 1 ∨ x.kind = 2 ∨ x.kind = 3 ∨ x.kind = 4 ∨ x.kind = 5 ∨ x.kind = 6 := by omega
    · skip
      clear hkd
      have h0 := (cell_of hb2 0).trans (Call.get0 x)
      rw [hk] at h0
      have HL := Lib.hid (line_1 1 _ hk (.inl ⟨rfl, rfl⟩))
      clear hk hb2
      go_wp2
      go_ret2
      unfold CTPost
      rw [HCT.out, ← HL.out]
      exact ⟨rfl, HX2.out⟩
    · skip
      clear hkd
      have h0 := (cell_of hb2 0).trans (Call.get0 x)
      rw [hk] at h0
      have HL := Lib.hid (line_1 2 _ hk (.inr (.inl ⟨rfl, rfl⟩)))
      clear hk hb2
      go_wp2
      go_ret2
      unfold CTPost
      rw [HCT.out, ← HL.out]
      exact ⟨rfl, HX2.out⟩
    · skip
      clear hkd
      have h0 := (cell_of hb2 0).trans (Call.get0 x)
      rw [hk] at h0
      have HL := Lib.hid (line_3 hk)
      clear hk hb2
      go_wp2
      go_ret2
      unfold CTPost
      rw [HCT.out, ← HL.out]
      exact ⟨rfl, HX2.out⟩
    · skip
      clear hkd
      have h0 := (cell_of hb2 0).trans (Call.get0 x)
      rw [hk] at h0
      have HL := Lib.hid (line_4 hk)
      clear hk hb2
      go_wp2
      go_ret2
      unfold CTPost
      rw [HCT.out, ← HL.out]
      exact ⟨rfl, HX2.out⟩
    · skip
      clear hkd
      have h0 := (cell_of hb2 0).trans (Call.get0 x)
      rw [hk] at h0
      have HL := Lib.hid (line_1 5 _ hk (.inr (.inr ⟨rfl, rfl⟩)))
      clear hk hb2
      go_wp2
      go_ret2
      unfold CTPost
      rw [HCT.out, ← HL.out]
      exact ⟨rfl, HX2.out⟩
    · skip
      clear hkd
      have h0 := (cell_of hb2 0).trans (Call.get0 x)
      rw [hk] at h0
      have HL := Lib.hid (line_6 hk)
      clear hk hb2
      go_wp2
      go_ret2
      unfold CTPost
      rw [HCT.out, ← HL.out]
      exact ⟨rfl, HX2.out⟩
  · have HCT := Lib.hid (ct_code (x := x) (by rw [HN.out]; exact h0))
    have hk' : (n == 0) = false := by simp [h0]
    have hk2 : (n != 0) = true := by simp [h0]
    clear h0 hb2
    go_wp2
    go_ret2
    unfold CTPost
    rw [HCT.out, HN.out]
    exact ⟨rfl, HX2.out⟩
end Go.Proofs.YtalfbhhldfffkabDoor
