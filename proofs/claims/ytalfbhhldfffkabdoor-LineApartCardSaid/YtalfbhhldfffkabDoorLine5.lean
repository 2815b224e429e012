/- Line5: line.Parse. -/
import Derived.Test.YtalfbhhldfffkabDoorLine4
namespace Go.Proofs.YtalfbhhldfffkabDoor
open Go.RowKit

theorem piecesB_len (s : ByteArray) : (piecesB s).length = if (wordOf s.toList).2.2 = true then (if (wordOf (wordOf s.toList).2.1).2.2 = true then 3 else 2) else 1 := by
  unfold piecesB
  rw [List.length_map, pieces_len]
theorem piecesB_at (s : ByteArray) {k : Nat} {x : List UInt8} (h : (pieces s.toList)[k]? = some x) : (piecesB s)[k]? = some (mkStr x) := by
  unfold piecesB
  rw [List.getElem?_map, h]
  rfl
theorem cell_lt {w : World} {g o : Nat} {v : Value} (h : w.cell? ⟨g, o, none⟩ = some v) : g < w.heap.size := by
  rcases Nat.lt_or_ge g w.heap.size with h2 | h2
  · exact h2
  · unfold World.cell? at h
    simp [Array.getElem?_eq_none h2] at h
theorem cell_other {w : World} {g b o o' : Nat} {v u : Value} (h : w.cell? ⟨g, o, none⟩ = some u) (hn : g ≠ b) : (w.setCell ⟨b, o', none⟩ v).cell? ⟨g, o, none⟩ = some u := by
  unfold World.cell? at h ⊢
  rw [show (w.setCell ⟨b, o', none⟩ v).heap[(⟨g, o, none⟩ : Addr).block]? = w.heap[(⟨g, o, none⟩ : Addr).block]? from heap_setCell_other _ _ _ _ hn]
  exact h
theorem callOf_yes {s : List UInt8} {c : Call} (h : parsed s = some c) (hc : callCode c = 0) : callOf s = (c, 0) := by
  unfold callOf
  rw [h]
  simp [hc]
theorem callOf_no {s : List UInt8} {c : Call} (h : parsed s = some c) (hc : callCode c ≠ 0) : callOf s = (Call.zero, callCode c) := by
  unfold callOf
  rw [h]
  simp [hc]
theorem wfst_le (s : List UInt8) : (wordOf s).1.length ≤ s.length := (List.takeWhile_prefix _).length_le
theorem wsnd_le (s : List UInt8) : (wordOf s).2.1.length ≤ s.length := by
  show ((s.dropWhile _).tail).length ≤ _
  have h := (List.dropWhile_suffix (l := s) (fun b => b != 32)).length_le
  rw [List.length_tail]
  omega
theorem p1_le {s : ByteArray} (hs : s.size ≤ 100000) : (mkStr (wordOf (wordOf s.toList).2.1).1).size ≤ 140737488351232 := by
  have h1 := wfst_le (wordOf s.toList).2.1
  have h2 := wsnd_le s.toList
  rw [mkStr_size]
  rw [size_toList] at h2
  omega
theorem p2_le {s : ByteArray} (hs : s.size ≤ 100000) : (mkStr (wordOf (wordOf s.toList).2.1).2.1).size ≤ 140737488351232 := by
  have h1 := wsnd_le (wordOf s.toList).2.1
  have h2 := wsnd_le s.toList
  rw [mkStr_size]
  rw [size_toList] at h2
  omega
theorem row_end {w w4 : World} {b : Nat} {x y : Call} {T : TypeId} (hx : Ext w w4) (hb : w4.heap[b]? = some (.cells y.cells T (0, 0))) (hg : w.heap.size ≤ b) :
    Ext w (w4.setRow b x.cells) ∧ (w4.setRow b x.cells).heap[b]? = some (.cells x.cells T (0, 0)) := ⟨hx.setRow (.inr hg) _, by rw [heap_setRow_map, hb]; rfl⟩
theorem setCell_blk {w : World} {g : Nat} {cs : Array Value} {t : TypeId} {fr : Nat × Nat} (h : w.heap[g]? = some (.cells cs t fr)) (o : Nat) (v : Value) : (w.setCell ⟨g, o, none⟩ v).heap[g]? = some (.cells (cs.setIfInBounds o v) t fr) := by
  rw [heap_setCell_map, h]
  rfl
def ParsePost (w : World) (s : ByteArray) (e : Ending) (w' : World) : Prop := e = .returned (.tuple #[.agg (callOf s.toList).1.cells, .int .i64 (callOf s.toList).2]) ∧ Ext w w'
set_option maxHeartbeats 2000000 in
set_option maxRecDepth 100000 in
theorem line_parse (w : World) (s : ByteArray) (hs : s.size ≤ 100000) (hL : Laid w) : Calls Tryd.prog 10 #[.string s] w (ParsePost w s) := by
  have HL := Lib.hid hL
  have hb : (w.alloc (.cells Call.zero.cells 23)).heap[w.heap.size]? = some (.cells Call.zero.cells 23 (0, 0)) := heap_alloc_new _ _
  have HX := Lib.hid (show Ext w (w.alloc (.cells Call.zero.cells 23)) from (Touch.refl _ w).alloc _)
  have HB := Lib.hid hb
  clear hL hb
  go_enter Tryd.func10, Tryd.ntmps10
  go_upto_region 1 with fail
  change Code.wp Tryd.prog _ _ _ (w.alloc (.cells Call.zero.cells 23))
  generalize w.alloc (.cells Call.zero.cells 23) = w1 at HX HB ⊢
  generalize hbq : w.heap.size = b at HB ⊢
  have HG := Lib.hid (Nat.le_of_eq hbq)
  clear hbq
  go_wp2_with fail
  refine (split_line w1 s hs (HL.out.ext HX.out)).mono ?_
  rintro e w2 ⟨A2, c2, rfl, ho2, hx2, _⟩
  obtain ⟨g2, rfl, h20⟩ := own_text (k := 0) ho2 (piecesB_at s (pieces_head s.toList))
  have HO2 := Lib.hid ho2
  have H20 := Lib.hid h20
  have HX2 := Lib.hid (HX.out.trans hx2)
  have HB2 := Lib.hid (hx2.blk HB.out id)
  have HLEN := Lib.hid (piecesB_len s)
  have hlen : 1 ≤ (piecesB s).length ∧ (piecesB s).length ≤ 3 := by
    rw [HLEN.out]
    split
    · split <;> decide
    · decide
  obtain ⟨hl1, hl3⟩ := hlen
  have hl0 : 0 < (piecesB s).length := by omega
  clear ho2 hx2 h20
  go_wp2_with fail
  refine wp_region_held_drew (S := fun w' => Ext w2 w') (by kernel_rfl) (Touch.drew (Touch.refl _ w2)) (fun hHeld => ?_)
  refine wpAnyH_take (i := 1) (v := ?_) (List.getElem?_toArray.trans rfl) (by kernel_rfl) (by kernel_rfl) (by kernel_rfl) (fun _ _ _ h => h) (Or.inl ⟨by rfl, ?_⟩) (by assumption) ?_
  rotate_left
  · intro w' hw'
    try dsimp only at hw'
    skip
    go_simp
    try with_reducible rfl
  try simp only [Act.put, List.setIfInBounds_toArray, List.set_cons_zero, List.set_cons_succ]
  refine wpAnyH_take (i := 2) (v := ?_) (List.getElem?_toArray.trans rfl) (by kernel_rfl) (by kernel_rfl) (by kernel_rfl) (fun _ _ _ h => h) (Or.inl ⟨by rfl, ?_⟩) (by assumption) ?_
  rotate_left
  · intro w' hw'
    try dsimp only at hw'
    skip
    go_simp
    try with_reducible rfl
  try simp only [Act.put, List.setIfInBounds_toArray, List.set_cons_zero, List.set_cons_succ]
  refine wpAnyH_take (i := 3) (v := ?_) (List.getElem?_toArray.trans rfl) (by kernel_rfl) (by kernel_rfl) (by kernel_rfl) (fun _ _ _ h => h) (Or.inl ⟨by rfl, ?_⟩) (by assumption) ?_
  rotate_left
  · intro w' hw'
    try dsimp only at hw'
    have hh1 := H20.out w' hw'
    go_simp
    try with_reducible rfl
  try simp only [Act.put, List.setIfInBounds_toArray, List.set_cons_zero, List.set_cons_succ]
  refine wpAnyH_ready (rs := [0]) (by kernel_rfl) (by simp) ?_
  refine AllReadyH.cons (List.getElem?_toArray.trans rfl) (fun K hK => ?_) AllReadyH.nil
  go_simp
  go_at_call 15
  refine (line_words w2.drew).mono ?_
  rintro e w3 ⟨A3, c3, rfl, ho3, hx3, _⟩
  have X3 : Ext w2 w3 := (Touch.drew (Touch.refl _ w2)).trans hx3
  have HX3 := Lib.hid X3
  have HO3 := Lib.hid ho3
  clear hx3 ho3
  refine hK.out _ _ X3 (fun hHeld => ?_)
  clear hK K
  try simp only [Act.put, List.setIfInBounds_toArray, List.set_cons_zero, List.set_cons_succ]
  clear X3
  refine wpAnyH_ready (rs := [4]) (by kernel_rfl) (by simp) ?_
  refine AllReadyH.cons (List.getElem?_toArray.trans rfl) (fun K hK => ?_) AllReadyH.nil
  go_simp
  go_at_call 19
  refine (index_texts w3 w3.heap.size A3 c3 wordsL (mkStr (wordOf s.toList).1) HO3.out.reads (by decide)).mono ?_
  rintro e w' ⟨rfl, rfl⟩
  refine hK.out _ _ HX3.out (fun hHeld => ?_)
  clear hK K
  try simp only [Act.put, List.setIfInBounds_toArray, List.set_cons_zero, List.set_cons_succ]
  refine wpAnyH_take (i := 5) (v := ?_) (List.getElem?_toArray.trans rfl) (by kernel_rfl) (by kernel_rfl) (by kernel_rfl) (fun _ _ _ h => h) (Or.inl ⟨by rfl, ?_⟩) (by assumption) ?_
  rotate_left
  · intro w' hw'
    try dsimp only at hw'
    skip
    go_simp
    try with_reducible rfl
  try simp only [Act.put, List.setIfInBounds_toArray, List.set_cons_zero, List.set_cons_succ]
  refine wpAnyH_done (by kernel_rfl) ?_ _
  clear hHeld
  have HIW := Lib.hid (idx_word (wordOf s.toList).1)
  have HPK := Lib.hid (parsed_kind s.toList)
  generalize hidx : idxOf wordsL (mkStr (wordOf s.toList).1) = idx at *
  have HIDX := Lib.hid hidx
  clear hidx
  go_upto_region 4 with fail
  have HX4 := Lib.hid (HX2.out.trans (HX3.out.trans ((Touch.refl _ w').alloc (.cells #[.int .i64 0, .int .i64 2, .int .i64 2, .int .i64 3, .int .i64 3, .int .i64 2, .int .i64 1] 3))))
  have HX24 := Lib.hid (HX3.out.trans ((Touch.refl _ w').alloc (.cells #[.int .i64 0, .int .i64 2, .int .i64 2, .int .i64 3, .int .i64 3, .int .i64 2, .int .i64 1] 3)))
  have hb4 := HX24.out.blk HB2.out id
  have hm4 : (w'.alloc (.cells #[.int .i64 0, .int .i64 2, .int .i64 2, .int .i64 3, .int .i64 3, .int .i64 2, .int .i64 1] 3)).heap[w'.heap.size]? = some (.cells #[.int .i64 0, .int .i64 2, .int .i64 2, .int .i64 3, .int .i64 3, .int .i64 2, .int .i64 1] 3 (0, 0)) := heap_alloc_new _ _
  generalize w'.alloc (.cells #[.int .i64 0, .int .i64 2, .int .i64 2, .int .i64 3, .int .i64 3, .int .i64 2, .int .i64 1] 3) = w4 at HX4 HX24 hb4 hm4 ⊢
  generalize w'.heap.size = bm at hm4 ⊢
  have HM4 := Lib.hid hm4
  have HB4 := Lib.hid hb4
  clear hm4 HX3 HO3 HB2
  generalize (wordOf s.toList).1 = wd at *
  by_cases hk0 : lineKind wd = 0
  · have hi1 := HIW.out.1.2 hk0
    have HC := Lib.hid (show callOf s.toList = (Call.zero, 12) by
      unfold callOf
      rw [HPK.out]
      simp [hk0])
    clear hk0
    go_wp2_with fail
    obtain ⟨he, hbe⟩ := row_end (x := Call.zero) HX4.out HB4.out HG.out
    refine bodyPost_ret (results_cell_tmp rfl _ _ ⟨b, 0, none⟩ (.agg Call.zero.cells) rfl (load_block isCall hbe)) rfl ?_
    unfold ParsePost
    rw [HC.out]
    exact ⟨rfl, he⟩
  · have hi := HIW.out.2 hk0
    have hkb := (kindWord_of (w := wd) rfl hk0).2
    obtain ⟨k, hk⟩ : ∃ k, lineKind wd = k := ⟨_, rfl⟩
    rw [hk] at hi hkb hk0
    have HK := Lib.hid hk
    subst hi
    clear hk hk0
    have hcase : ((wordOf s.toList).2.2 = false ∧ (piecesB s).length = 1) ∨ ((wordOf s.toList).2.2 = true ∧ (wordOf (wordOf s.toList).2.1).2.2 = false ∧ (piecesB s).length = 2) ∨ ((wordOf s.toList).2.2 = true ∧ (wordOf (wordOf s.toList).2.1).2.2 = true ∧ (piecesB s).length = 3) := by
      rw [HLEN.out]
      cases (wordOf s.toList).2.2 <;> cases (wordOf (wordOf s.toList).2.1).2.2 <;> simp
    have HPL := Lib.hid (show (pieces s.toList).length = (piecesB s).length by unfold piecesB; rw [List.length_map])
    have hm4 := HM4.out
    have hp1 := p1_le hs
    have hp2 := p2_le hs
    have hp0 : (⟨#[]⟩ : ByteArray).size ≤ 140737488351232 := by decide
    rcases hcase with ⟨h1, hm⟩ | ⟨h1, h2, hm⟩ | ⟨h1, h2, hm⟩
    · have HM := Lib.hid hm
      rw [hm]
      rw [hm] at hl0 hl1 hl3
      clear h1 hm
      obtain hk | hk | hk | hk | hk | hk : idx = 1 ∨ idx = 2 ∨ idx = 3 ∨ idx = 4 ∨ idx = 5 ∨ idx = 6 := by omega
      · subst hk
        clear hkb hm4
        have hmk : w4.cell? ⟨bm, 1, none⟩ = some (.int .i64 2) := cell_of HM4.out 1
        have HC := Lib.hid (show callOf s.toList = (Call.zero, 12) by unfold callOf; rw [HPK.out]; simp [HK.out, HPL.out, HM.out])
        go_wp2_with fail
        obtain ⟨he, hbe⟩ := row_end (x := Call.zero) HX4.out HB4.out HG.out
        refine bodyPost_ret (results_cell_tmp rfl _ _ ⟨b, 0, none⟩ (.agg Call.zero.cells) rfl (load_block isCall hbe)) rfl ?_
        unfold ParsePost
        rw [HC.out]
        exact ⟨rfl, he⟩
      · subst hk
        clear hkb hm4
        have hmk : w4.cell? ⟨bm, 2, none⟩ = some (.int .i64 2) := cell_of HM4.out 2
        have HC := Lib.hid (show callOf s.toList = (Call.zero, 12) by unfold callOf; rw [HPK.out]; simp [HK.out, HPL.out, HM.out])
        go_wp2_with fail
        obtain ⟨he, hbe⟩ := row_end (x := Call.zero) HX4.out HB4.out HG.out
        refine bodyPost_ret (results_cell_tmp rfl _ _ ⟨b, 0, none⟩ (.agg Call.zero.cells) rfl (load_block isCall hbe)) rfl ?_
        unfold ParsePost
        rw [HC.out]
        exact ⟨rfl, he⟩
      · subst hk
        clear hkb hm4
        have hmk : w4.cell? ⟨bm, 3, none⟩ = some (.int .i64 3) := cell_of HM4.out 3
        have HC := Lib.hid (show callOf s.toList = (Call.zero, 12) by unfold callOf; rw [HPK.out]; simp [HK.out, HPL.out, HM.out])
        go_wp2_with fail
        obtain ⟨he, hbe⟩ := row_end (x := Call.zero) HX4.out HB4.out HG.out
        refine bodyPost_ret (results_cell_tmp rfl _ _ ⟨b, 0, none⟩ (.agg Call.zero.cells) rfl (load_block isCall hbe)) rfl ?_
        unfold ParsePost
        rw [HC.out]
        exact ⟨rfl, he⟩
      · subst hk
        clear hkb hm4
        have hmk : w4.cell? ⟨bm, 4, none⟩ = some (.int .i64 3) := cell_of HM4.out 4
        have HC := Lib.hid (show callOf s.toList = (Call.zero, 12) by unfold callOf; rw [HPK.out]; simp [HK.out, HPL.out, HM.out])
        go_wp2_with fail
        obtain ⟨he, hbe⟩ := row_end (x := Call.zero) HX4.out HB4.out HG.out
        refine bodyPost_ret (results_cell_tmp rfl _ _ ⟨b, 0, none⟩ (.agg Call.zero.cells) rfl (load_block isCall hbe)) rfl ?_
        unfold ParsePost
        rw [HC.out]
        exact ⟨rfl, he⟩
      · subst hk
        clear hkb hm4
        have hmk : w4.cell? ⟨bm, 5, none⟩ = some (.int .i64 2) := cell_of HM4.out 5
        have HC := Lib.hid (show callOf s.toList = (Call.zero, 12) by unfold callOf; rw [HPK.out]; simp [HK.out, HPL.out, HM.out])
        go_wp2_with fail
        obtain ⟨he, hbe⟩ := row_end (x := Call.zero) HX4.out HB4.out HG.out
        refine bodyPost_ret (results_cell_tmp rfl _ _ ⟨b, 0, none⟩ (.agg Call.zero.cells) rfl (load_block isCall hbe)) rfl ?_
        unfold ParsePost
        rw [HC.out]
        exact ⟨rfl, he⟩
      · skip
        subst hk
        clear hkb hm4
        have hmk : w4.cell? ⟨bm, 6, none⟩ = some (.int .i64 1) := cell_of HM4.out 6
        obtain ⟨cc, hcc⟩ : ∃ cc, callCode ⟨6, ⟨#[]⟩, ⟨#[]⟩, ⟨#[]⟩⟩ = cc := ⟨_, rfl⟩
        have HCC := Lib.hid hcc
        have HST := Lib.hid (show StrCall ⟨6, ⟨#[]⟩, ⟨#[]⟩, ⟨#[]⟩⟩ from ⟨by assumption, by assumption, by assumption⟩)
        have HP := Lib.hid (show parsed s.toList = some ⟨6, ⟨#[]⟩, ⟨#[]⟩, ⟨#[]⟩⟩ from by rw [HPK.out]; simp [HK.out, HPL.out, HM.out]; try (first | rfl | exact ⟨rfl, rfl⟩ | exact ⟨rfl, rfl, rfl⟩))
        clear hcc
        go_upto_region 7 with fail
        have hx5 : Ext w4 (w4.alloc (.cells (⟨6, ⟨#[]⟩, ⟨#[]⟩, ⟨#[]⟩⟩ : Call).cells 23)) := (Touch.refl _ w4).alloc _
        have hb7 : (w4.alloc (.cells (⟨6, ⟨#[]⟩, ⟨#[]⟩, ⟨#[]⟩⟩ : Call).cells 23)).heap[w4.heap.size]? = some (.cells (⟨6, ⟨#[]⟩, ⟨#[]⟩, ⟨#[]⟩⟩ : Call).cells 23 (0, 0)) := heap_alloc_new _ _
        generalize w4.alloc (.cells (⟨6, ⟨#[]⟩, ⟨#[]⟩, ⟨#[]⟩⟩ : Call).cells 23) = w6 at hx5 hb7 ⊢
        generalize w4.heap.size = b7 at hb7 ⊢
        have HB6 := Lib.hid (hx5.blk HB4.out id)
        have HX6 := Lib.hid (HX4.out.trans hx5)
        have hb8 := hb7
        clear hx5 hb4 hmk hb7
        go_wp2_with fail
        refine (files_check' _ ⟨6, ⟨#[]⟩, ⟨#[]⟩, ⟨#[]⟩⟩ cc HCC.out HST.out).mono ?_
        rintro e w7 ⟨rfl, hx7⟩
        have HX7 := Lib.hid (HX6.out.trans hx7)
        have HB7' := Lib.hid (hx7.blk HB6.out id)
        have hb7' := hx7.blk HB6.out id
        have hb9 := hx7.blk hb8 id
        clear hx7 hb8
        by_cases hc0 : cc = 0
        · have HC := Lib.hid (callOf_yes HP.out (HCC.out.trans hc0))
          subst hc0
          go_wp2_with fail
          obtain ⟨he, hbe⟩ := row_end (x := (⟨6, ⟨#[]⟩, ⟨#[]⟩, ⟨#[]⟩⟩ : Call)) HX7.out HB7'.out HG.out
          refine bodyPost_ret (results_cell_tmp rfl _ _ ⟨b, 0, none⟩ (.agg (⟨6, ⟨#[]⟩, ⟨#[]⟩, ⟨#[]⟩⟩ : Call).cells) rfl (load_block isCall hbe)) rfl ?_
          unfold ParsePost
          rw [HC.out]
          exact ⟨rfl, he⟩
        · have HC := Lib.hid (show callOf s.toList = (Call.zero, cc) from by rw [callOf_no HP.out (fun e => hc0 (HCC.out.symm.trans e))]; exact congrArg (Prod.mk Call.zero) HCC.out)
          have hcn : (cc == 0) = false := by simp [hc0]
          have hcn' : (cc != 0) = true := by simp [hc0]
          clear hc0
          go_wp2_with fail
          obtain ⟨he, hbe⟩ := row_end (x := Call.zero) HX7.out HB7'.out HG.out
          refine bodyPost_ret (results_cell_tmp rfl _ _ ⟨b, 0, none⟩ (.agg Call.zero.cells) rfl (load_block isCall hbe)) rfl ?_
          unfold ParsePost
          rw [HC.out]
          exact ⟨rfl, he⟩
    · have HM := Lib.hid hm
      obtain ⟨g2', e, h21⟩ := own_text (k := 1) HO2.out (piecesB_at s (pieces_one h1))
      cases e
      rw [hm]
      rw [hm] at hl0 hl1 hl3
      clear h1 h2 hm
      generalize mkStr (wordOf (wordOf s.toList).2.1).1 = p1 at *
      obtain hk | hk | hk | hk | hk | hk : idx = 1 ∨ idx = 2 ∨ idx = 3 ∨ idx = 4 ∨ idx = 5 ∨ idx = 6 := by omega
      · skip
        subst hk
        clear hkb hm4
        have hmk : w4.cell? ⟨bm, 1, none⟩ = some (.int .i64 2) := cell_of HM4.out 1
        obtain ⟨cc, hcc⟩ : ∃ cc, callCode ⟨1, p1, ⟨#[]⟩, ⟨#[]⟩⟩ = cc := ⟨_, rfl⟩
        have HCC := Lib.hid hcc
        have HST := Lib.hid (show StrCall ⟨1, p1, ⟨#[]⟩, ⟨#[]⟩⟩ from ⟨by assumption, by assumption, by assumption⟩)
        have HP := Lib.hid (show parsed s.toList = some ⟨1, p1, ⟨#[]⟩, ⟨#[]⟩⟩ from by rw [HPK.out]; simp [HK.out, HPL.out, HM.out]; try (first | rfl | exact ⟨rfl, rfl⟩ | exact ⟨rfl, rfl, rfl⟩))
        clear hcc
        go_upto_region 7 with fail
        have hx5 : Ext w4 (w4.alloc (.cells (⟨1, ⟨#[]⟩, ⟨#[]⟩, ⟨#[]⟩⟩ : Call).cells 23)) := (Touch.refl _ w4).alloc _
        have hb7 : (w4.alloc (.cells (⟨1, ⟨#[]⟩, ⟨#[]⟩, ⟨#[]⟩⟩ : Call).cells 23)).heap[w4.heap.size]? = some (.cells (⟨1, ⟨#[]⟩, ⟨#[]⟩, ⟨#[]⟩⟩ : Call).cells 23 (0, 0)) := heap_alloc_new _ _
        generalize w4.alloc (.cells (⟨1, ⟨#[]⟩, ⟨#[]⟩, ⟨#[]⟩⟩ : Call).cells 23) = w5 at hx5 hb7 ⊢
        have hbb : b < w4.heap.size := (Array.getElem?_eq_some_iff.1 HB4.out).1
        have hgw : w.heap.size ≤ w4.heap.size := HX4.out.size
        have hg2 : g2 < w4.heap.size := Nat.lt_of_lt_of_le (cell_lt (H20.out w2 (Touch.refl _ _))) HX24.out.size
        generalize w4.heap.size = b7 at hb7 hbb hgw hg2 ⊢
        have HB5 := Lib.hid (hx5.blk HB4.out id)
        have h21' := h21 w5 (HX24.out.trans hx5)
        have HX5 := Lib.hid (HX4.out.trans hx5)
        have hc7 := cell_of hb7 1
        have hf7 := frozen_of hb7 1
        have HBB := Lib.hid hbb
        have HGW := Lib.hid hgw
        have HB7 := Lib.hid hb7
        have HG2 := Lib.hid hg2
        have H25 := Lib.hid (HX24.out.trans hx5)
        clear hx5 hb4 hmk hbb hgw hb7 hg2
        go_upto_region 9 with fail
        have hb8 := setCell_blk HB7.out 1 (.string p1)
        rw [show (⟨1, ⟨#[]⟩, ⟨#[]⟩, ⟨#[]⟩⟩ : Call).cells.setIfInBounds 1 (.string p1) = (⟨1, p1, ⟨#[]⟩, ⟨#[]⟩⟩ : Call).cells from rfl] at hb8
        have HX6 := Lib.hid (HX5.out.setCell (a := ⟨b7, 1, none⟩) (.inr HGW.out) (.string p1))
        have HB6 := Lib.hid (show (w5.setCell ⟨b7, 1, none⟩ (.string p1)).heap[b]? = some (.cells Call.zero.cells 23 (0, 0)) from (heap_setCell_other _ _ _ _ (by have := HBB.out; simp; omega)).trans HB5.out)
        have HC5 := Lib.hid (show ∀ u : Value, (∀ w', Ext w2 w' → w'.cell? ⟨g2, 2, none⟩ = some u) → (w5.setCell ⟨b7, 1, none⟩ (.string p1)).cell? ⟨g2, 2, none⟩ = some u from fun u h => cell_other (h w5 H25.out) (by have := HG2.out; omega))
        clear hc7 hf7 h21'
        generalize w5.setCell ⟨b7, 1, none⟩ (.string p1) = w6 at hb8 HX6 HB6 HC5 ⊢
        go_wp2_with fail
        refine (files_check' _ ⟨1, p1, ⟨#[]⟩, ⟨#[]⟩⟩ cc HCC.out HST.out).mono ?_
        rintro e w7 ⟨rfl, hx7⟩
        have HX7 := Lib.hid (HX6.out.trans hx7)
        have HB7' := Lib.hid (hx7.blk HB6.out id)
        have hb7' := hx7.blk HB6.out id
        have hb9 := hx7.blk hb8 id
        clear hx7 hb8
        by_cases hc0 : cc = 0
        · have HC := Lib.hid (callOf_yes HP.out (HCC.out.trans hc0))
          subst hc0
          go_wp2_with fail
          obtain ⟨he, hbe⟩ := row_end (x := (⟨1, p1, ⟨#[]⟩, ⟨#[]⟩⟩ : Call)) HX7.out HB7'.out HG.out
          refine bodyPost_ret (results_cell_tmp rfl _ _ ⟨b, 0, none⟩ (.agg (⟨1, p1, ⟨#[]⟩, ⟨#[]⟩⟩ : Call).cells) rfl (load_block isCall hbe)) rfl ?_
          unfold ParsePost
          rw [HC.out]
          exact ⟨rfl, he⟩
        · have HC := Lib.hid (show callOf s.toList = (Call.zero, cc) from by rw [callOf_no HP.out (fun e => hc0 (HCC.out.symm.trans e))]; exact congrArg (Prod.mk Call.zero) HCC.out)
          have hcn : (cc == 0) = false := by simp [hc0]
          have hcn' : (cc != 0) = true := by simp [hc0]
          clear hc0
          go_wp2_with fail
          obtain ⟨he, hbe⟩ := row_end (x := Call.zero) HX7.out HB7'.out HG.out
          refine bodyPost_ret (results_cell_tmp rfl _ _ ⟨b, 0, none⟩ (.agg Call.zero.cells) rfl (load_block isCall hbe)) rfl ?_
          unfold ParsePost
          rw [HC.out]
          exact ⟨rfl, he⟩
      · skip
        subst hk
        clear hkb hm4
        have hmk : w4.cell? ⟨bm, 2, none⟩ = some (.int .i64 2) := cell_of HM4.out 2
        obtain ⟨cc, hcc⟩ : ∃ cc, callCode ⟨2, p1, ⟨#[]⟩, ⟨#[]⟩⟩ = cc := ⟨_, rfl⟩
        have HCC := Lib.hid hcc
        have HST := Lib.hid (show StrCall ⟨2, p1, ⟨#[]⟩, ⟨#[]⟩⟩ from ⟨by assumption, by assumption, by assumption⟩)
        have HP := Lib.hid (show parsed s.toList = some ⟨2, p1, ⟨#[]⟩, ⟨#[]⟩⟩ from by rw [HPK.out]; simp [HK.out, HPL.out, HM.out]; try (first | rfl | exact ⟨rfl, rfl⟩ | exact ⟨rfl, rfl, rfl⟩))
        clear hcc
        go_upto_region 7 with fail
        have hx5 : Ext w4 (w4.alloc (.cells (⟨2, ⟨#[]⟩, ⟨#[]⟩, ⟨#[]⟩⟩ : Call).cells 23)) := (Touch.refl _ w4).alloc _
        have hb7 : (w4.alloc (.cells (⟨2, ⟨#[]⟩, ⟨#[]⟩, ⟨#[]⟩⟩ : Call).cells 23)).heap[w4.heap.size]? = some (.cells (⟨2, ⟨#[]⟩, ⟨#[]⟩, ⟨#[]⟩⟩ : Call).cells 23 (0, 0)) := heap_alloc_new _ _
        generalize w4.alloc (.cells (⟨2, ⟨#[]⟩, ⟨#[]⟩, ⟨#[]⟩⟩ : Call).cells 23) = w5 at hx5 hb7 ⊢
        have hbb : b < w4.heap.size := (Array.getElem?_eq_some_iff.1 HB4.out).1
        have hgw : w.heap.size ≤ w4.heap.size := HX4.out.size
        have hg2 : g2 < w4.heap.size := Nat.lt_of_lt_of_le (cell_lt (H20.out w2 (Touch.refl _ _))) HX24.out.size
        generalize w4.heap.size = b7 at hb7 hbb hgw hg2 ⊢
        have HB5 := Lib.hid (hx5.blk HB4.out id)
        have h21' := h21 w5 (HX24.out.trans hx5)
        have HX5 := Lib.hid (HX4.out.trans hx5)
        have hc7 := cell_of hb7 1
        have hf7 := frozen_of hb7 1
        have HBB := Lib.hid hbb
        have HGW := Lib.hid hgw
        have HB7 := Lib.hid hb7
        have HG2 := Lib.hid hg2
        have H25 := Lib.hid (HX24.out.trans hx5)
        clear hx5 hb4 hmk hbb hgw hb7 hg2
        go_upto_region 9 with fail
        have hb8 := setCell_blk HB7.out 1 (.string p1)
        rw [show (⟨2, ⟨#[]⟩, ⟨#[]⟩, ⟨#[]⟩⟩ : Call).cells.setIfInBounds 1 (.string p1) = (⟨2, p1, ⟨#[]⟩, ⟨#[]⟩⟩ : Call).cells from rfl] at hb8
        have HX6 := Lib.hid (HX5.out.setCell (a := ⟨b7, 1, none⟩) (.inr HGW.out) (.string p1))
        have HB6 := Lib.hid (show (w5.setCell ⟨b7, 1, none⟩ (.string p1)).heap[b]? = some (.cells Call.zero.cells 23 (0, 0)) from (heap_setCell_other _ _ _ _ (by have := HBB.out; simp; omega)).trans HB5.out)
        have HC5 := Lib.hid (show ∀ u : Value, (∀ w', Ext w2 w' → w'.cell? ⟨g2, 2, none⟩ = some u) → (w5.setCell ⟨b7, 1, none⟩ (.string p1)).cell? ⟨g2, 2, none⟩ = some u from fun u h => cell_other (h w5 H25.out) (by have := HG2.out; omega))
        clear hc7 hf7 h21'
        generalize w5.setCell ⟨b7, 1, none⟩ (.string p1) = w6 at hb8 HX6 HB6 HC5 ⊢
        go_wp2_with fail
        refine (files_check' _ ⟨2, p1, ⟨#[]⟩, ⟨#[]⟩⟩ cc HCC.out HST.out).mono ?_
        rintro e w7 ⟨rfl, hx7⟩
        have HX7 := Lib.hid (HX6.out.trans hx7)
        have HB7' := Lib.hid (hx7.blk HB6.out id)
        have hb7' := hx7.blk HB6.out id
        have hb9 := hx7.blk hb8 id
        clear hx7 hb8
        by_cases hc0 : cc = 0
        · have HC := Lib.hid (callOf_yes HP.out (HCC.out.trans hc0))
          subst hc0
          go_wp2_with fail
          obtain ⟨he, hbe⟩ := row_end (x := (⟨2, p1, ⟨#[]⟩, ⟨#[]⟩⟩ : Call)) HX7.out HB7'.out HG.out
          refine bodyPost_ret (results_cell_tmp rfl _ _ ⟨b, 0, none⟩ (.agg (⟨2, p1, ⟨#[]⟩, ⟨#[]⟩⟩ : Call).cells) rfl (load_block isCall hbe)) rfl ?_
          unfold ParsePost
          rw [HC.out]
          exact ⟨rfl, he⟩
        · have HC := Lib.hid (show callOf s.toList = (Call.zero, cc) from by rw [callOf_no HP.out (fun e => hc0 (HCC.out.symm.trans e))]; exact congrArg (Prod.mk Call.zero) HCC.out)
          have hcn : (cc == 0) = false := by simp [hc0]
          have hcn' : (cc != 0) = true := by simp [hc0]
          clear hc0
          go_wp2_with fail
          obtain ⟨he, hbe⟩ := row_end (x := Call.zero) HX7.out HB7'.out HG.out
          refine bodyPost_ret (results_cell_tmp rfl _ _ ⟨b, 0, none⟩ (.agg Call.zero.cells) rfl (load_block isCall hbe)) rfl ?_
          unfold ParsePost
          rw [HC.out]
          exact ⟨rfl, he⟩
      · subst hk
        clear hkb hm4
        have hmk : w4.cell? ⟨bm, 3, none⟩ = some (.int .i64 3) := cell_of HM4.out 3
        have HC := Lib.hid (show callOf s.toList = (Call.zero, 12) by unfold callOf; rw [HPK.out]; simp [HK.out, HPL.out, HM.out])
        go_wp2_with fail
        obtain ⟨he, hbe⟩ := row_end (x := Call.zero) HX4.out HB4.out HG.out
        refine bodyPost_ret (results_cell_tmp rfl _ _ ⟨b, 0, none⟩ (.agg Call.zero.cells) rfl (load_block isCall hbe)) rfl ?_
        unfold ParsePost
        rw [HC.out]
        exact ⟨rfl, he⟩
      · subst hk
        clear hkb hm4
        have hmk : w4.cell? ⟨bm, 4, none⟩ = some (.int .i64 3) := cell_of HM4.out 4
        have HC := Lib.hid (show callOf s.toList = (Call.zero, 12) by unfold callOf; rw [HPK.out]; simp [HK.out, HPL.out, HM.out])
        go_wp2_with fail
        obtain ⟨he, hbe⟩ := row_end (x := Call.zero) HX4.out HB4.out HG.out
        refine bodyPost_ret (results_cell_tmp rfl _ _ ⟨b, 0, none⟩ (.agg Call.zero.cells) rfl (load_block isCall hbe)) rfl ?_
        unfold ParsePost
        rw [HC.out]
        exact ⟨rfl, he⟩
      · skip
        subst hk
        clear hkb hm4
        have hmk : w4.cell? ⟨bm, 5, none⟩ = some (.int .i64 2) := cell_of HM4.out 5
        obtain ⟨cc, hcc⟩ : ∃ cc, callCode ⟨5, p1, ⟨#[]⟩, ⟨#[]⟩⟩ = cc := ⟨_, rfl⟩
        have HCC := Lib.hid hcc
        have HST := Lib.hid (show StrCall ⟨5, p1, ⟨#[]⟩, ⟨#[]⟩⟩ from ⟨by assumption, by assumption, by assumption⟩)
        have HP := Lib.hid (show parsed s.toList = some ⟨5, p1, ⟨#[]⟩, ⟨#[]⟩⟩ from by rw [HPK.out]; simp [HK.out, HPL.out, HM.out]; try (first | rfl | exact ⟨rfl, rfl⟩ | exact ⟨rfl, rfl, rfl⟩))
        clear hcc
        go_upto_region 7 with fail
        have hx5 : Ext w4 (w4.alloc (.cells (⟨5, ⟨#[]⟩, ⟨#[]⟩, ⟨#[]⟩⟩ : Call).cells 23)) := (Touch.refl _ w4).alloc _
        have hb7 : (w4.alloc (.cells (⟨5, ⟨#[]⟩, ⟨#[]⟩, ⟨#[]⟩⟩ : Call).cells 23)).heap[w4.heap.size]? = some (.cells (⟨5, ⟨#[]⟩, ⟨#[]⟩, ⟨#[]⟩⟩ : Call).cells 23 (0, 0)) := heap_alloc_new _ _
        generalize w4.alloc (.cells (⟨5, ⟨#[]⟩, ⟨#[]⟩, ⟨#[]⟩⟩ : Call).cells 23) = w5 at hx5 hb7 ⊢
        have hbb : b < w4.heap.size := (Array.getElem?_eq_some_iff.1 HB4.out).1
        have hgw : w.heap.size ≤ w4.heap.size := HX4.out.size
        have hg2 : g2 < w4.heap.size := Nat.lt_of_lt_of_le (cell_lt (H20.out w2 (Touch.refl _ _))) HX24.out.size
        generalize w4.heap.size = b7 at hb7 hbb hgw hg2 ⊢
        have HB5 := Lib.hid (hx5.blk HB4.out id)
        have h21' := h21 w5 (HX24.out.trans hx5)
        have HX5 := Lib.hid (HX4.out.trans hx5)
        have hc7 := cell_of hb7 1
        have hf7 := frozen_of hb7 1
        have HBB := Lib.hid hbb
        have HGW := Lib.hid hgw
        have HB7 := Lib.hid hb7
        have HG2 := Lib.hid hg2
        have H25 := Lib.hid (HX24.out.trans hx5)
        clear hx5 hb4 hmk hbb hgw hb7 hg2
        go_upto_region 9 with fail
        have hb8 := setCell_blk HB7.out 1 (.string p1)
        rw [show (⟨5, ⟨#[]⟩, ⟨#[]⟩, ⟨#[]⟩⟩ : Call).cells.setIfInBounds 1 (.string p1) = (⟨5, p1, ⟨#[]⟩, ⟨#[]⟩⟩ : Call).cells from rfl] at hb8
        have HX6 := Lib.hid (HX5.out.setCell (a := ⟨b7, 1, none⟩) (.inr HGW.out) (.string p1))
        have HB6 := Lib.hid (show (w5.setCell ⟨b7, 1, none⟩ (.string p1)).heap[b]? = some (.cells Call.zero.cells 23 (0, 0)) from (heap_setCell_other _ _ _ _ (by have := HBB.out; simp; omega)).trans HB5.out)
        have HC5 := Lib.hid (show ∀ u : Value, (∀ w', Ext w2 w' → w'.cell? ⟨g2, 2, none⟩ = some u) → (w5.setCell ⟨b7, 1, none⟩ (.string p1)).cell? ⟨g2, 2, none⟩ = some u from fun u h => cell_other (h w5 H25.out) (by have := HG2.out; omega))
        clear hc7 hf7 h21'
        generalize w5.setCell ⟨b7, 1, none⟩ (.string p1) = w6 at hb8 HX6 HB6 HC5 ⊢
        go_wp2_with fail
        refine (files_check' _ ⟨5, p1, ⟨#[]⟩, ⟨#[]⟩⟩ cc HCC.out HST.out).mono ?_
        rintro e w7 ⟨rfl, hx7⟩
        have HX7 := Lib.hid (HX6.out.trans hx7)
        have HB7' := Lib.hid (hx7.blk HB6.out id)
        have hb7' := hx7.blk HB6.out id
        have hb9 := hx7.blk hb8 id
        clear hx7 hb8
        by_cases hc0 : cc = 0
        · have HC := Lib.hid (callOf_yes HP.out (HCC.out.trans hc0))
          subst hc0
          go_wp2_with fail
          obtain ⟨he, hbe⟩ := row_end (x := (⟨5, p1, ⟨#[]⟩, ⟨#[]⟩⟩ : Call)) HX7.out HB7'.out HG.out
          refine bodyPost_ret (results_cell_tmp rfl _ _ ⟨b, 0, none⟩ (.agg (⟨5, p1, ⟨#[]⟩, ⟨#[]⟩⟩ : Call).cells) rfl (load_block isCall hbe)) rfl ?_
          unfold ParsePost
          rw [HC.out]
          exact ⟨rfl, he⟩
        · have HC := Lib.hid (show callOf s.toList = (Call.zero, cc) from by rw [callOf_no HP.out (fun e => hc0 (HCC.out.symm.trans e))]; exact congrArg (Prod.mk Call.zero) HCC.out)
          have hcn : (cc == 0) = false := by simp [hc0]
          have hcn' : (cc != 0) = true := by simp [hc0]
          clear hc0
          go_wp2_with fail
          obtain ⟨he, hbe⟩ := row_end (x := Call.zero) HX7.out HB7'.out HG.out
          refine bodyPost_ret (results_cell_tmp rfl _ _ ⟨b, 0, none⟩ (.agg Call.zero.cells) rfl (load_block isCall hbe)) rfl ?_
          unfold ParsePost
          rw [HC.out]
          exact ⟨rfl, he⟩
      · subst hk
        clear hkb hm4
        have hmk : w4.cell? ⟨bm, 6, none⟩ = some (.int .i64 1) := cell_of HM4.out 6
        have HC := Lib.hid (show callOf s.toList = (Call.zero, 12) by unfold callOf; rw [HPK.out]; simp [HK.out, HPL.out, HM.out])
        go_wp2_with fail
        obtain ⟨he, hbe⟩ := row_end (x := Call.zero) HX4.out HB4.out HG.out
        refine bodyPost_ret (results_cell_tmp rfl _ _ ⟨b, 0, none⟩ (.agg Call.zero.cells) rfl (load_block isCall hbe)) rfl ?_
        unfold ParsePost
        rw [HC.out]
        exact ⟨rfl, he⟩
    · have HM := Lib.hid hm
      obtain ⟨g2', e, h21⟩ := own_text (k := 1) HO2.out (piecesB_at s (pieces_one h1))
      cases e
      obtain ⟨g2', e, h22⟩ := own_text (k := 2) HO2.out (piecesB_at s (pieces_two h1 h2))
      cases e
      have H22 := Lib.hid h22
      rw [hm]
      rw [hm] at hl0 hl1 hl3
      clear h1 h2 hm h22
      generalize mkStr (wordOf (wordOf s.toList).2.1).1 = p1 at *
      generalize mkStr (wordOf (wordOf s.toList).2.1).2.1 = p2 at *
      obtain hk | hk | hk | hk | hk | hk : idx = 1 ∨ idx = 2 ∨ idx = 3 ∨ idx = 4 ∨ idx = 5 ∨ idx = 6 := by omega
      · subst hk
        clear hkb hm4
        have hmk : w4.cell? ⟨bm, 1, none⟩ = some (.int .i64 2) := cell_of HM4.out 1
        have HC := Lib.hid (show callOf s.toList = (Call.zero, 12) by unfold callOf; rw [HPK.out]; simp [HK.out, HPL.out, HM.out])
        go_wp2_with fail
        obtain ⟨he, hbe⟩ := row_end (x := Call.zero) HX4.out HB4.out HG.out
        refine bodyPost_ret (results_cell_tmp rfl _ _ ⟨b, 0, none⟩ (.agg Call.zero.cells) rfl (load_block isCall hbe)) rfl ?_
        unfold ParsePost
        rw [HC.out]
        exact ⟨rfl, he⟩
      · subst hk
        clear hkb hm4
        have hmk : w4.cell? ⟨bm, 2, none⟩ = some (.int .i64 2) := cell_of HM4.out 2
        have HC := Lib.hid (show callOf s.toList = (Call.zero, 12) by unfold callOf; rw [HPK.out]; simp [HK.out, HPL.out, HM.out])
        go_wp2_with fail
        obtain ⟨he, hbe⟩ := row_end (x := Call.zero) HX4.out HB4.out HG.out
        refine bodyPost_ret (results_cell_tmp rfl _ _ ⟨b, 0, none⟩ (.agg Call.zero.cells) rfl (load_block isCall hbe)) rfl ?_
        unfold ParsePost
        rw [HC.out]
        exact ⟨rfl, he⟩
      · skip
        subst hk
        clear hkb hm4
        have hmk : w4.cell? ⟨bm, 3, none⟩ = some (.int .i64 3) := cell_of HM4.out 3
        obtain ⟨cc, hcc⟩ : ∃ cc, callCode ⟨3, p1, p2, ⟨#[]⟩⟩ = cc := ⟨_, rfl⟩
        have HCC := Lib.hid hcc
        have HST := Lib.hid (show StrCall ⟨3, p1, p2, ⟨#[]⟩⟩ from ⟨by assumption, by assumption, by assumption⟩)
        have HP := Lib.hid (show parsed s.toList = some ⟨3, p1, p2, ⟨#[]⟩⟩ from by rw [HPK.out]; simp [HK.out, HPL.out, HM.out]; try (first | rfl | exact ⟨rfl, rfl⟩ | exact ⟨rfl, rfl, rfl⟩))
        clear hcc
        go_upto_region 7 with fail
        have hx5 : Ext w4 (w4.alloc (.cells (⟨3, ⟨#[]⟩, ⟨#[]⟩, ⟨#[]⟩⟩ : Call).cells 23)) := (Touch.refl _ w4).alloc _
        have hb7 : (w4.alloc (.cells (⟨3, ⟨#[]⟩, ⟨#[]⟩, ⟨#[]⟩⟩ : Call).cells 23)).heap[w4.heap.size]? = some (.cells (⟨3, ⟨#[]⟩, ⟨#[]⟩, ⟨#[]⟩⟩ : Call).cells 23 (0, 0)) := heap_alloc_new _ _
        generalize w4.alloc (.cells (⟨3, ⟨#[]⟩, ⟨#[]⟩, ⟨#[]⟩⟩ : Call).cells 23) = w5 at hx5 hb7 ⊢
        have hbb : b < w4.heap.size := (Array.getElem?_eq_some_iff.1 HB4.out).1
        have hgw : w.heap.size ≤ w4.heap.size := HX4.out.size
        have hg2 : g2 < w4.heap.size := Nat.lt_of_lt_of_le (cell_lt (H20.out w2 (Touch.refl _ _))) HX24.out.size
        generalize w4.heap.size = b7 at hb7 hbb hgw hg2 ⊢
        have HB5 := Lib.hid (hx5.blk HB4.out id)
        have h21' := h21 w5 (HX24.out.trans hx5)
        have HX5 := Lib.hid (HX4.out.trans hx5)
        have hc7 := cell_of hb7 1
        have hf7 := frozen_of hb7 1
        have HBB := Lib.hid hbb
        have HGW := Lib.hid hgw
        have HB7 := Lib.hid hb7
        have HG2 := Lib.hid hg2
        have H25 := Lib.hid (HX24.out.trans hx5)
        clear hx5 hb4 hmk hbb hgw hb7 hg2
        go_upto_region 9 with fail
        have hb8 := setCell_blk HB7.out 1 (.string p1)
        rw [show (⟨3, ⟨#[]⟩, ⟨#[]⟩, ⟨#[]⟩⟩ : Call).cells.setIfInBounds 1 (.string p1) = (⟨3, p1, ⟨#[]⟩, ⟨#[]⟩⟩ : Call).cells from rfl] at hb8
        have HX6 := Lib.hid (HX5.out.setCell (a := ⟨b7, 1, none⟩) (.inr HGW.out) (.string p1))
        have HB6 := Lib.hid (show (w5.setCell ⟨b7, 1, none⟩ (.string p1)).heap[b]? = some (.cells Call.zero.cells 23 (0, 0)) from (heap_setCell_other _ _ _ _ (by have := HBB.out; simp; omega)).trans HB5.out)
        have HC5 := Lib.hid (show ∀ u : Value, (∀ w', Ext w2 w' → w'.cell? ⟨g2, 2, none⟩ = some u) → (w5.setCell ⟨b7, 1, none⟩ (.string p1)).cell? ⟨g2, 2, none⟩ = some u from fun u h => cell_other (h w5 H25.out) (by have := HG2.out; omega))
        clear hc7 hf7 h21'
        generalize w5.setCell ⟨b7, 1, none⟩ (.string p1) = w6 at hb8 HX6 HB6 HC5 ⊢
        have h22' : w6.cell? ⟨g2, 2, none⟩ = some (.string p2) := HC5.out _ H22.out
        have hc8 := cell_of hb8 2
        have hf8 := frozen_of hb8 2
        have HB8 := Lib.hid hb8
        have hbb6 := HBB.out
        clear hb8
        go_upto_region 14 with fail
        have hb8 := setCell_blk HB8.out 2 (.string p2)
        rw [show (⟨3, p1, ⟨#[]⟩, ⟨#[]⟩⟩ : Call).cells.setIfInBounds 2 (.string p2) = (⟨3, p1, p2, ⟨#[]⟩⟩ : Call).cells from rfl] at hb8
        have hx8 := HX6.out.setCell (a := ⟨b7, 2, none⟩) (.inr HGW.out) (.string p2)
        have hb6 := (heap_setCell_other w6 (⟨b7, 2, none⟩ : Addr) b (.string p2) (by have := HBB.out; simp; omega)).trans HB6.out
        clear hc8 hf8 hbb6 h22' HX6 HB6
        generalize w6.setCell ⟨b7, 2, none⟩ (.string p2) = w9 at hb8 hx8 hb6 ⊢
        have HX6 := Lib.hid hx8
        have HB6 := Lib.hid hb6
        clear hx8 hb6
        go_wp2_with fail
        refine (files_check' _ ⟨3, p1, p2, ⟨#[]⟩⟩ cc HCC.out HST.out).mono ?_
        rintro e w7 ⟨rfl, hx7⟩
        have HX7 := Lib.hid (HX6.out.trans hx7)
        have HB7' := Lib.hid (hx7.blk HB6.out id)
        have hb7' := hx7.blk HB6.out id
        have hb9 := hx7.blk hb8 id
        clear hx7 hb8
        by_cases hc0 : cc = 0
        · have HC := Lib.hid (callOf_yes HP.out (HCC.out.trans hc0))
          subst hc0
          go_wp2_with fail
          obtain ⟨he, hbe⟩ := row_end (x := (⟨3, p1, p2, ⟨#[]⟩⟩ : Call)) HX7.out HB7'.out HG.out
          refine bodyPost_ret (results_cell_tmp rfl _ _ ⟨b, 0, none⟩ (.agg (⟨3, p1, p2, ⟨#[]⟩⟩ : Call).cells) rfl (load_block isCall hbe)) rfl ?_
          unfold ParsePost
          rw [HC.out]
          exact ⟨rfl, he⟩
        · have HC := Lib.hid (show callOf s.toList = (Call.zero, cc) from by rw [callOf_no HP.out (fun e => hc0 (HCC.out.symm.trans e))]; exact congrArg (Prod.mk Call.zero) HCC.out)
          have hcn : (cc == 0) = false := by simp [hc0]
          have hcn' : (cc != 0) = true := by simp [hc0]
          clear hc0
          go_wp2_with fail
          obtain ⟨he, hbe⟩ := row_end (x := Call.zero) HX7.out HB7'.out HG.out
          refine bodyPost_ret (results_cell_tmp rfl _ _ ⟨b, 0, none⟩ (.agg Call.zero.cells) rfl (load_block isCall hbe)) rfl ?_
          unfold ParsePost
          rw [HC.out]
          exact ⟨rfl, he⟩
      · skip
        subst hk
        clear hkb hm4
        have hmk : w4.cell? ⟨bm, 4, none⟩ = some (.int .i64 3) := cell_of HM4.out 4
        obtain ⟨cc, hcc⟩ : ∃ cc, callCode ⟨4, p1, ⟨#[]⟩, p2⟩ = cc := ⟨_, rfl⟩
        have HCC := Lib.hid hcc
        have HST := Lib.hid (show StrCall ⟨4, p1, ⟨#[]⟩, p2⟩ from ⟨by assumption, by assumption, by assumption⟩)
        have HP := Lib.hid (show parsed s.toList = some ⟨4, p1, ⟨#[]⟩, p2⟩ from by rw [HPK.out]; simp [HK.out, HPL.out, HM.out]; try (first | rfl | exact ⟨rfl, rfl⟩ | exact ⟨rfl, rfl, rfl⟩))
        clear hcc
        go_upto_region 7 with fail
        have hx5 : Ext w4 (w4.alloc (.cells (⟨4, ⟨#[]⟩, ⟨#[]⟩, ⟨#[]⟩⟩ : Call).cells 23)) := (Touch.refl _ w4).alloc _
        have hb7 : (w4.alloc (.cells (⟨4, ⟨#[]⟩, ⟨#[]⟩, ⟨#[]⟩⟩ : Call).cells 23)).heap[w4.heap.size]? = some (.cells (⟨4, ⟨#[]⟩, ⟨#[]⟩, ⟨#[]⟩⟩ : Call).cells 23 (0, 0)) := heap_alloc_new _ _
        generalize w4.alloc (.cells (⟨4, ⟨#[]⟩, ⟨#[]⟩, ⟨#[]⟩⟩ : Call).cells 23) = w5 at hx5 hb7 ⊢
        have hbb : b < w4.heap.size := (Array.getElem?_eq_some_iff.1 HB4.out).1
        have hgw : w.heap.size ≤ w4.heap.size := HX4.out.size
        have hg2 : g2 < w4.heap.size := Nat.lt_of_lt_of_le (cell_lt (H20.out w2 (Touch.refl _ _))) HX24.out.size
        generalize w4.heap.size = b7 at hb7 hbb hgw hg2 ⊢
        have HB5 := Lib.hid (hx5.blk HB4.out id)
        have h21' := h21 w5 (HX24.out.trans hx5)
        have HX5 := Lib.hid (HX4.out.trans hx5)
        have hc7 := cell_of hb7 1
        have hf7 := frozen_of hb7 1
        have HBB := Lib.hid hbb
        have HGW := Lib.hid hgw
        have HB7 := Lib.hid hb7
        have HG2 := Lib.hid hg2
        have H25 := Lib.hid (HX24.out.trans hx5)
        clear hx5 hb4 hmk hbb hgw hb7 hg2
        go_upto_region 9 with fail
        have hb8 := setCell_blk HB7.out 1 (.string p1)
        rw [show (⟨4, ⟨#[]⟩, ⟨#[]⟩, ⟨#[]⟩⟩ : Call).cells.setIfInBounds 1 (.string p1) = (⟨4, p1, ⟨#[]⟩, ⟨#[]⟩⟩ : Call).cells from rfl] at hb8
        have HX6 := Lib.hid (HX5.out.setCell (a := ⟨b7, 1, none⟩) (.inr HGW.out) (.string p1))
        have HB6 := Lib.hid (show (w5.setCell ⟨b7, 1, none⟩ (.string p1)).heap[b]? = some (.cells Call.zero.cells 23 (0, 0)) from (heap_setCell_other _ _ _ _ (by have := HBB.out; simp; omega)).trans HB5.out)
        have HC5 := Lib.hid (show ∀ u : Value, (∀ w', Ext w2 w' → w'.cell? ⟨g2, 2, none⟩ = some u) → (w5.setCell ⟨b7, 1, none⟩ (.string p1)).cell? ⟨g2, 2, none⟩ = some u from fun u h => cell_other (h w5 H25.out) (by have := HG2.out; omega))
        clear hc7 hf7 h21'
        generalize w5.setCell ⟨b7, 1, none⟩ (.string p1) = w6 at hb8 HX6 HB6 HC5 ⊢
        have h22' : w6.cell? ⟨g2, 2, none⟩ = some (.string p2) := HC5.out _ H22.out
        have hc8 := cell_of hb8 3
        have hf8 := frozen_of hb8 3
        have HB8 := Lib.hid hb8
        have hbb6 := HBB.out
        clear hb8
        go_upto_region 14 with fail
        have hb8 := setCell_blk HB8.out 3 (.string p2)
        rw [show (⟨4, p1, ⟨#[]⟩, ⟨#[]⟩⟩ : Call).cells.setIfInBounds 3 (.string p2) = (⟨4, p1, ⟨#[]⟩, p2⟩ : Call).cells from rfl] at hb8
        have hx8 := HX6.out.setCell (a := ⟨b7, 3, none⟩) (.inr HGW.out) (.string p2)
        have hb6 := (heap_setCell_other w6 (⟨b7, 3, none⟩ : Addr) b (.string p2) (by have := HBB.out; simp; omega)).trans HB6.out
        clear hc8 hf8 hbb6 h22' HX6 HB6
        generalize w6.setCell ⟨b7, 3, none⟩ (.string p2) = w9 at hb8 hx8 hb6 ⊢
        have HX6 := Lib.hid hx8
        have HB6 := Lib.hid hb6
        clear hx8 hb6
        go_wp2_with fail
        refine (files_check' _ ⟨4, p1, ⟨#[]⟩, p2⟩ cc HCC.out HST.out).mono ?_
        rintro e w7 ⟨rfl, hx7⟩
        have HX7 := Lib.hid (HX6.out.trans hx7)
        have HB7' := Lib.hid (hx7.blk HB6.out id)
        have hb7' := hx7.blk HB6.out id
        have hb9 := hx7.blk hb8 id
        clear hx7 hb8
        by_cases hc0 : cc = 0
        · have HC := Lib.hid (callOf_yes HP.out (HCC.out.trans hc0))
          subst hc0
          go_wp2_with fail
          obtain ⟨he, hbe⟩ := row_end (x := (⟨4, p1, ⟨#[]⟩, p2⟩ : Call)) HX7.out HB7'.out HG.out
          refine bodyPost_ret (results_cell_tmp rfl _ _ ⟨b, 0, none⟩ (.agg (⟨4, p1, ⟨#[]⟩, p2⟩ : Call).cells) rfl (load_block isCall hbe)) rfl ?_
          unfold ParsePost
          rw [HC.out]
          exact ⟨rfl, he⟩
        · have HC := Lib.hid (show callOf s.toList = (Call.zero, cc) from by rw [callOf_no HP.out (fun e => hc0 (HCC.out.symm.trans e))]; exact congrArg (Prod.mk Call.zero) HCC.out)
          have hcn : (cc == 0) = false := by simp [hc0]
          have hcn' : (cc != 0) = true := by simp [hc0]
          clear hc0
          go_wp2_with fail
          obtain ⟨he, hbe⟩ := row_end (x := Call.zero) HX7.out HB7'.out HG.out
          refine bodyPost_ret (results_cell_tmp rfl _ _ ⟨b, 0, none⟩ (.agg Call.zero.cells) rfl (load_block isCall hbe)) rfl ?_
          unfold ParsePost
          rw [HC.out]
          exact ⟨rfl, he⟩
      · subst hk
        clear hkb hm4
        have hmk : w4.cell? ⟨bm, 5, none⟩ = some (.int .i64 2) := cell_of HM4.out 5
        have HC := Lib.hid (show callOf s.toList = (Call.zero, 12) by unfold callOf; rw [HPK.out]; simp [HK.out, HPL.out, HM.out])
        go_wp2_with fail
        obtain ⟨he, hbe⟩ := row_end (x := Call.zero) HX4.out HB4.out HG.out
        refine bodyPost_ret (results_cell_tmp rfl _ _ ⟨b, 0, none⟩ (.agg Call.zero.cells) rfl (load_block isCall hbe)) rfl ?_
        unfold ParsePost
        rw [HC.out]
        exact ⟨rfl, he⟩
      · subst hk
        clear hkb hm4
        have hmk : w4.cell? ⟨bm, 6, none⟩ = some (.int .i64 1) := cell_of HM4.out 6
        have HC := Lib.hid (show callOf s.toList = (Call.zero, 12) by unfold callOf; rw [HPK.out]; simp [HK.out, HPL.out, HM.out])
        go_wp2_with fail
        obtain ⟨he, hbe⟩ := row_end (x := Call.zero) HX4.out HB4.out HG.out
        refine bodyPost_ret (results_cell_tmp rfl _ _ ⟨b, 0, none⟩ (.agg Call.zero.cells) rfl (load_block isCall hbe)) rfl ?_
        unfold ParsePost
        rw [HC.out]
        exact ⟨rfl, he⟩
end Go.Proofs.YtalfbhhldfffkabDoor
