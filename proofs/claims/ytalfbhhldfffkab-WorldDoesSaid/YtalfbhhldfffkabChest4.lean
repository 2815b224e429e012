/- Chest4: the walk of Call of the reference's Chest where something may change. -/
import Derived.Test.YtalfbhhldfffkabChest3
namespace Go.Proofs.Ytalfbhhldfffkab
open Go.RowKit

theorem Moved.cr {g : Nat} {w wr : World} {F : Nat → Prop} {v : Value} {l : List Record} (h : Moved (CR g) w F (#[v], (v, l)) wr) : ∃ F', (CR g).on wr F' (#[v], (v, l)) := by
  obtain ⟨F', h1, _⟩ := h
  exact ⟨F', h1⟩
theorem chest_holds {g : Nat} {w wr : World} {F : Nat → Prop} {v : Value} {l : List Record} (h : Moved (CR g) w F (#[v], (v, l)) wr) : Holds wr g 58 49 v l := by
  obtain ⟨F', h1⟩ := h.cr
  exact (parts_holds h1).2
set_option maxHeartbeats 4000000 in
set_option maxRecDepth 100000 in
theorem chest_call_change (w : World) (g : Nat) (F : Nat → Prop) (L : List Record) (client no : Int) (c : Call) (h : (repChest g).on w F L) (hL : LogOk L) (hr : ¬ (client < 0 ∨ 3 ≤ client ∨ no < 1 ∨ 200 < no)) (hst : StrCall c) (hc : callCode c = 0) (hk : 1 ≤ c.kind ∧ c.kind ≤ 4) :
    Calls Try.prog 62 #[.pointer (some ⟨g, 0, none⟩), .int .i64 client, .int .i64 no, .agg c.cells] w (CPost w g F (chestCall L client no c)) := by
  obtain ⟨v, hS⟩ := holds_parts h (by decide)
  have M0 := Lib.hid (Rep.stays hS)
  obtain ⟨A, c0, rfl, _⟩ := M0.out.own3.form
  have HCH := Lib.hid (chestCall_change (L := L) hr hc hk)
  have hcok : CallOk client no c := ⟨by omega, by omega, hc⟩
  have HZ := Lib.hid (zero_ok hcok hk)
  have HK := Lib.hid hk
  have hlen := log_len hL.each
  have hlog := hL.len
  have hrb := (recBytes_bounds HZ.out).2
  have HEACH := Lib.hid hL.each
  have HLS := Lib.hid (show ∀ r ∈ L, StrCall r.call from fun r hr => recok_str (hL.each r hr))
  have HDO := Lib.hid (show (ddo (dbehind L) c).1 = (fdo (fbehind L) c).1 from (fdo_ddo (behind_srt L) c).1.symm)
  have hgb : g < w.heap.size := (Array.getElem?_eq_some_iff.1 M0.out.cell0).1
  have nsa' : (g = w.heap.size + 1) = False := by simp; omega
  clear hS hk h hL hcok
  have h1 : ¬ client < 0 := by omega
  have h2 : ¬ 3 ≤ client := by omega
  have h3 : ¬ no < 1 := by omega
  have h4 : ¬ 200 < no := by omega
  have HST := Lib.hid hst
  have HC := Lib.hid hc
  clear hst hc
  go_enter Try.func62, Try.ntmps62
  go_wp2_with fail
  have m2 := (M0.out.box c.cells 31).box Answer.zero.cells 28
  simp only [World.size_alloc] at m2
  have M2 := Lib.hid m2
  clear m2
  generalize (w.alloc (.cells c.cells 31)).alloc (.cells Answer.zero.cells 28) = w2 at M2 ⊢
  obtain ⟨bc, hbc⟩ : ∃ bc, w.heap.size = bc := ⟨_, rfl⟩
  obtain ⟨ba, hba⟩ : ∃ ba, w.heap.size + 1 = ba := ⟨_, rfl⟩
  have nab : (ba = bc) = False := by simp; omega
  have nba : (bc = ba) = False := by simp; omega
  rw [hba] at M2 ⊢
  try rw [hba] at nsa'
  try rw [hbc] at hgb
  rw [hbc] at M2 ⊢
  clear hba hbc
  refine (ref_fault' w2 c 0 HC.out HST.out).mono ?_
  rintro e w3 ⟨rfl, hx3⟩
  have M3 := Lib.hid (M2.out.behind hx3)
  have hbc3 := M3.out.left.blk
  have hcc3 := cell_of hbc3 0
  clear hx3 M2
  go_wp2_with (go_at_call 32; refine (ref_ischange' _ c.kind true (by have := HK.out; simp; omega)).mono ?_; rintro e w4 ⟨rfl, rfl⟩)
  refine (chest_last_at w3 g _ L client (chest_holds M3.out.left.left) (by omega)).mono ?_
  rintro e w4 ⟨rfl, hx4⟩
  have M4 := Lib.hid (M3.out.behind hx4)
  have hbc4 := M4.out.left.blk
  have hba4 := M4.out.blk
  have hbg4 := M4.out.left.left.cell0
  obtain ⟨ltc, _⟩ := Array.getElem?_eq_some_iff.1 hbc4
  obtain ⟨lta, _⟩ := Array.getElem?_eq_some_iff.1 hba4
  obtain ⟨ltg, _⟩ := Array.getElem?_eq_some_iff.1 hbg4
  obtain ⟨X, hX⟩ : ∃ X, lastRec L client = X := ⟨_, rfl⟩
  rw [hX]
  clear hx4 M3 hbc3 hcc3 hgb hbg4
  cases hlo : lastOf L client with
  | none =>
    have HP := Lib.hid (show chestCall L client no c = chestNew L client no c by rw [HCH.out, hlo])
    clear hlo hX HCH
    go_wp2_with fail
    have m5 := (M4.out.behind ((Touch.refl _ w4).alloc (.cells X.cells 49))).box (Record.cells ⟨client, no, c, Answer.zero⟩) 49
    simp only [World.size_alloc] at m5
    have M5 := Lib.hid m5
    clear m5
    generalize (w4.alloc (.cells X.cells 49)).alloc (.cells (Record.cells ⟨client, no, c, Answer.zero⟩) 49) = w5 at M5 ⊢
    obtain ⟨br, hbr⟩ : ∃ br, w4.heap.size + 1 = br := ⟨_, rfl⟩
    have nbr1 : (bc = br) = False := by simp; omega
    have nbr2 : (g = br) = False := by simp; omega
    have nbr3 : (ba = br) = False := by simp; omega
    have nbr4 : (br = ba) = False := by simp; omega
    have nbr5 : (br = g) = False := by simp; omega
    rw [hbr] at M5 ⊢
    clear hbr
    refine (ref_bytesOf _ ⟨client, no, c, Answer.zero⟩ HZ.out).mono ?_
    rintro e w6 ⟨A6, c6, rfl, ho6, hx6, hf6⟩
    have M6 := Lib.hid (M5.out.behind hx6)
    clear ho6 hx6 hf6 M5
    go_wp2_with fail
    refine (chest_bytes w6 g _ L (chest_holds M6.out.left.left.left) HEACH.out (by omega)).mono ?_
    rintro e w7 ⟨A7, c7, rfl, ho7, hx7, hf7⟩
    have M7 := Lib.hid (M6.out.behind hx7)
    clear ho7 hx7 hf7 M6
    have hba7 := M7.out.left.blk
    by_cases hfull : 2000 < (logBytes L).length + (recBytes ⟨client, no, c, Answer.zero⟩).length
    · have hfull' : (2000 : Int) < ((logBytes L).length : Int) + ((recBytes ⟨client, no, c, Answer.zero⟩).length : Int) := by omega
      have hba8 := setRow_heap _ _ _ Answer.zero.cells _ _ hba7
      have M8 := Lib.hid ((M7.out.exch.turnB (w' := w7.setRow ba Answer.zero.cells) ((Touch.refl (fun k => k = ba) w7).setRow (.inl rfl) _) hba8).left.left.left.holds)
      go_wp2
      refine bodyPost_ret (results_cell_tmp2 rfl _ _ ⟨ba, 0, none⟩ (.agg Answer.zero.cells) rfl (load_block isAnswer hba8)) rfl ?_
      unfold CPost
      rw [HP.out, chestNew_full hfull]
      exact ⟨rfl, M8.out⟩
    · have hroom : ¬ (2000 : Int) < ((logBytes L).length : Int) + ((recBytes ⟨client, no, c, Answer.zero⟩).length : Int) := by omega
      have hbc7 := M7.out.left.left.blk
      have hcg7 : w7.cell? ⟨g, 0, none⟩ = some (.slice A L.length c0) := cell_of M7.out.left.left.left.cell0 0
      go_wp2_with fail
      go_region_held3 (fun w' => w'.cell? ⟨g, 0, none⟩ = some (.slice A L.length c0) ∧ w'.heap[bc]? = some (.cells c.cells 31 (0, 0)))
        (first | exact ⟨(cell_setRow_other _ _ _ _ _ nbr2).trans hcg9, (heap_setRow' _ _ _ _ nbr1).trans hbc9⟩ | exact ⟨hcg9, hbc9⟩ | exact ⟨hcg8, hbc8⟩ | exact ⟨hcg7, hbc7⟩)
        (first
          | (go_at_call 24
             have m7 := M7.out.behind (Touch.drew (Touch.refl _ w7))
             refine (ref_behind _ w7.heap.size A _ c0 L m7.left.left.left.own3.reads (Nat.le_refl _) rfl HLS.out (by omega)).mono ?_
             rintro e w8 ⟨gd, rfl, hd8⟩
             have M8 := Lib.hid (m7.beside hd8)
             have hbc8 := M8.out.left.left.left.blk
             have hcg8 : w8.cell? ⟨g, 0, none⟩ = some (.slice A L.length c0) := cell_of M8.out.left.left.left.left.cell0 0
             clear m7 hd8)
          | (go_at_call 61
             obtain ⟨F9, hF9, hm9⟩ := M8.out.sndM
             refine (drawer_do _ gd F9 (dbehind L) c hF9 (behind_dok L) HST.out).mono ?_
             rintro e w9 ⟨rfl, hq9⟩
             have M9 := Lib.hid (hm9 _ _ hq9).left
             rw [HDO.out]
             have hbc9 := M9.out.left.left.blk
             have hbr9 := M9.out.blk
             have hcg9 : w9.cell? ⟨g, 0, none⟩ = some (.slice A L.length c0) := cell_of M9.out.left.left.left.cell0 0
             clear hF9 hm9 hq9 M8))
      have hbr10 := setRow_heap _ _ _ (Record.cells ⟨client, no, c, (fdo (fbehind L) c).1⟩) _ _ hbr9
      have M10 := Lib.hid (M9.out.turnB (w' := w9.setRow br (Record.cells ⟨client, no, c, (fdo (fbehind L) c).1⟩)) ((Touch.refl (fun k => k = br) w9).setRow (.inl rfl) _) hbr10)
      generalize w9.setRow br (Record.cells ⟨client, no, c, (fdo (fbehind L) c).1⟩) = w10 at M10 hbr10 ⊢
      have hcg10 : w10.cell? ⟨g, 0, none⟩ = some (.slice A L.length c0) := cell_of M10.out.left.left.left.cell0 0
      obtain ⟨ltg10, _⟩ := Array.getElem?_eq_some_iff.1 M10.out.left.left.left.cell0
      obtain ⟨ltr10, _⟩ := Array.getElem?_eq_some_iff.1 hbr10
      clear M9 hbc9 hbr9 hcg9 hcg7 hbc7 M7 hba7
      go_wp2_with fail
      go_region_law (
        (refine step_append_own (by rfl) (.tmp 98) (.tmp 100) 44 (by rfl) elemRecord Try.underlying44 (v := .slice A L.length c0) (l := L) (by rfl) (M10.out.left.left.left.own3.ext (by first | exact ((Touch.refl _ w10).drew).alloc _ | exact ((Touch.refl _ w10).alloc _).drew | exact (Touch.refl _ w10).alloc _)) [⟨client, no, c, (fdo (fbehind L) c).1⟩] (by rfl) (L.length + 1) (by rfl) (by rfl) (reads_block (x := (⟨client, no, c, (fdo (fbehind L) c).1⟩ : Record)) (t := 49) (fr := (0, 0)) (b := w10.heap.size) (by first | exact heap_alloc_new _ _ | (simp only [heap_alloc_at, heap_drew', heap_drewN', World.size_alloc]; rfl)) (w10.heap.size + 1) (by omega)) (by simp; omega) ?_
         intro A11 c11 w11 hown11 hgrow11 hat11
         obtain ⟨F11, hF11, hm11⟩ := M10.out.sr4
         have M11 := Lib.hid (hm11 _ _ ((Rep.stays hF11).append (by first | exact ((Touch.refl _ w10).drew).alloc _ | exact ((Touch.refl _ w10).alloc _).drew | exact (Touch.refl _ w10).alloc _) hown11 hgrow11 hat11))
         have hbg11 := M11.out.left.left.left.cell0
         have hcg11 := cell_of hbg11 0
         have hfg11 := frozen_of hbg11 0
         clear hown11 hgrow11 hat11 hF11 hm11))
      all_goals
        have hbg12 : (w11.setCell ⟨g, 0, none⟩ (.slice A11 (L.length + 1) c11)).heap[g]? = some (.cells #[.slice A11 (L.length + 1) c11] 58 (0, 0)) := setCell_heap hbg11 0 _
        obtain ⟨F12, hF12, hm12⟩ := M11.out.sr4
        have M12 := Lib.hid (hm12 _ _ ((Rep.stays hF12).turn0 (w' := w11.setCell ⟨g, 0, none⟩ (.slice A11 (L.length + 1) c11)) ((Touch.refl (fun k => k = g) w11).setCell (a := ⟨g, 0, none⟩) (.inl rfl) _) hbg12))
        clear hF12 hm12 M11 hbg11 hcg11 hfg11 hbg12
        generalize w11.setCell ⟨g, 0, none⟩ (.slice A11 (L.length + 1) c11) = w12 at M12 ⊢
        have hbr12 := M12.out.blk
        have hba12 := M12.out.left.blk
        have hba13 := setRow_heap _ _ _ (fdo (fbehind L) c).1.cells _ _ hba12
        have M13 := Lib.hid ((M12.out.exch.turnB (w' := w12.setRow ba (fdo (fbehind L) c).1.cells) ((Touch.refl (fun k => k = ba) w12).setRow (.inl rfl) _) hba13).left.left.left.holds)
        go_wp2
        refine bodyPost_ret (results_cell_tmp2 rfl _ _ ⟨ba, 0, none⟩ (.agg (fdo (fbehind L) c).1.cells) rfl (load_block isAnswer hba13)) rfl ?_
        unfold CPost
        rw [HP.out, chestNew_room hfull]
        exact ⟨rfl, M13.out⟩
  | some x =>
    obtain rfl : X = x := by rw [← hX]; unfold lastRec; rw [hlo]
    have HCL := Lib.hid (show chestCall L client no c = if no = X.no ∧ c = X.call then ((X.answer, 0, 0), L) else if no ≤ X.no then ((Answer.zero, 0, 10), L) else chestNew L client no c by rw [HCH.out, hlo])
    clear hlo hX HCH
    by_cases e1 : no = X.no
    · have e1' : (no == X.no) = true := by simp [e1]
      by_cases e2 : c = X.call
      · have HP := Lib.hid (show chestCall L client no c = ((X.answer, 0, 0), L) by rw [HCL.out, if_pos ⟨e1, e2⟩])
        have e2' : (c = X.call) = True := eq_true e2
        clear e1 e2
        have hba44 := setRow_heap _ _ _ (X.answer).cells _ _ hba4
        have M5 := Lib.hid (((M4.out.turnB (w' := w4.setRow ba (X.answer).cells) ((Touch.refl (fun k => k = ba) w4).setRow (.inl rfl) _) hba44).left.left.behind ((Touch.refl _ _).alloc (.cells X.cells 49))).holds)
        have hba5 : ((w4.setRow ba (X.answer).cells).alloc (.cells X.cells 49)).heap[ba]? = some (.cells (X.answer).cells 28 (0, 0)) := by
          rw [heap_alloc_past _ _ _ (by simp; omega)]
          exact hba44
        go_wp2
        refine bodyPost_ret (results_cell_tmp2 rfl _ _ ⟨ba, 0, none⟩ (.agg (X.answer).cells) rfl (load_block isAnswer hba5)) rfl ?_
        unfold CPost
        rw [HP.out]
        exact ⟨rfl, M5.out⟩
      · have HP := Lib.hid (show chestCall L client no c = ((Answer.zero, 0, 10), L) by rw [HCL.out, if_neg (fun h => e2 h.2), if_pos (by omega)])
        have e2' : (c = X.call) = False := eq_false e2
        have e3 : no ≤ X.no := by omega
        clear e1 e2
        have hba44 := setRow_heap _ _ _ (Answer.zero).cells _ _ hba4
        have M5 := Lib.hid (((M4.out.turnB (w' := w4.setRow ba (Answer.zero).cells) ((Touch.refl (fun k => k = ba) w4).setRow (.inl rfl) _) hba44).left.left.behind ((Touch.refl _ _).alloc (.cells X.cells 49))).holds)
        have hba5 : ((w4.setRow ba (Answer.zero).cells).alloc (.cells X.cells 49)).heap[ba]? = some (.cells (Answer.zero).cells 28 (0, 0)) := by
          rw [heap_alloc_past _ _ _ (by simp; omega)]
          exact hba44
        go_wp2
        refine bodyPost_ret (results_cell_tmp2 rfl _ _ ⟨ba, 0, none⟩ (.agg (Answer.zero).cells) rfl (load_block isAnswer hba5)) rfl ?_
        unfold CPost
        rw [HP.out]
        exact ⟨rfl, M5.out⟩
    · have e1' : (no == X.no) = false := by simp [e1]
      by_cases e3 : no ≤ X.no
      · have HP := Lib.hid (show chestCall L client no c = ((Answer.zero, 0, 10), L) by rw [HCL.out, if_neg (fun h => e1 h.1), if_pos e3])
        clear e1
        have hba44 := setRow_heap _ _ _ (Answer.zero).cells _ _ hba4
        have M5 := Lib.hid (((M4.out.turnB (w' := w4.setRow ba (Answer.zero).cells) ((Touch.refl (fun k => k = ba) w4).setRow (.inl rfl) _) hba44).left.left.behind ((Touch.refl _ _).alloc (.cells X.cells 49))).holds)
        have hba5 : ((w4.setRow ba (Answer.zero).cells).alloc (.cells X.cells 49)).heap[ba]? = some (.cells (Answer.zero).cells 28 (0, 0)) := by
          rw [heap_alloc_past _ _ _ (by simp; omega)]
          exact hba44
        go_wp2
        refine bodyPost_ret (results_cell_tmp2 rfl _ _ ⟨ba, 0, none⟩ (.agg (Answer.zero).cells) rfl (load_block isAnswer hba5)) rfl ?_
        unfold CPost
        rw [HP.out]
        exact ⟨rfl, M5.out⟩
      · have HP := Lib.hid (show chestCall L client no c = chestNew L client no c by rw [HCL.out, if_neg (fun h => e1 h.1), if_neg e3])
        clear e1
        go_wp2_with fail
        have m5 := (M4.out.behind ((Touch.refl _ w4).alloc (.cells X.cells 49))).box (Record.cells ⟨client, no, c, Answer.zero⟩) 49
        simp only [World.size_alloc] at m5
        have M5 := Lib.hid m5
        clear m5
        generalize (w4.alloc (.cells X.cells 49)).alloc (.cells (Record.cells ⟨client, no, c, Answer.zero⟩) 49) = w5 at M5 ⊢
        obtain ⟨br, hbr⟩ : ∃ br, w4.heap.size + 1 = br := ⟨_, rfl⟩
        have nbr1 : (bc = br) = False := by simp; omega
        have nbr2 : (g = br) = False := by simp; omega
        have nbr3 : (ba = br) = False := by simp; omega
        have nbr4 : (br = ba) = False := by simp; omega
        have nbr5 : (br = g) = False := by simp; omega
        rw [hbr] at M5 ⊢
        clear hbr
        refine (ref_bytesOf _ ⟨client, no, c, Answer.zero⟩ HZ.out).mono ?_
        rintro e w6 ⟨A6, c6, rfl, ho6, hx6, hf6⟩
        have M6 := Lib.hid (M5.out.behind hx6)
        clear ho6 hx6 hf6 M5
        go_wp2_with fail
        refine (chest_bytes w6 g _ L (chest_holds M6.out.left.left.left) HEACH.out (by omega)).mono ?_
        rintro e w7 ⟨A7, c7, rfl, ho7, hx7, hf7⟩
        have M7 := Lib.hid (M6.out.behind hx7)
        clear ho7 hx7 hf7 M6
        have hba7 := M7.out.left.blk
        by_cases hfull : 2000 < (logBytes L).length + (recBytes ⟨client, no, c, Answer.zero⟩).length
        · have hfull' : (2000 : Int) < ((logBytes L).length : Int) + ((recBytes ⟨client, no, c, Answer.zero⟩).length : Int) := by omega
          have hba8 := setRow_heap _ _ _ Answer.zero.cells _ _ hba7
          have M8 := Lib.hid ((M7.out.exch.turnB (w' := w7.setRow ba Answer.zero.cells) ((Touch.refl (fun k => k = ba) w7).setRow (.inl rfl) _) hba8).left.left.left.holds)
          go_wp2
          refine bodyPost_ret (results_cell_tmp2 rfl _ _ ⟨ba, 0, none⟩ (.agg Answer.zero.cells) rfl (load_block isAnswer hba8)) rfl ?_
          unfold CPost
          rw [HP.out, chestNew_full hfull]
          exact ⟨rfl, M8.out⟩
        · have hroom : ¬ (2000 : Int) < ((logBytes L).length : Int) + ((recBytes ⟨client, no, c, Answer.zero⟩).length : Int) := by omega
          have hbc7 := M7.out.left.left.blk
          have hcg7 : w7.cell? ⟨g, 0, none⟩ = some (.slice A L.length c0) := cell_of M7.out.left.left.left.cell0 0
          go_wp2_with fail
          go_region_held3 (fun w' => w'.cell? ⟨g, 0, none⟩ = some (.slice A L.length c0) ∧ w'.heap[bc]? = some (.cells c.cells 31 (0, 0)))
            (first | exact ⟨(cell_setRow_other _ _ _ _ _ nbr2).trans hcg9, (heap_setRow' _ _ _ _ nbr1).trans hbc9⟩ | exact ⟨hcg9, hbc9⟩ | exact ⟨hcg8, hbc8⟩ | exact ⟨hcg7, hbc7⟩)
            (first
              | (go_at_call 24
                 have m7 := M7.out.behind (Touch.drew (Touch.refl _ w7))
                 refine (ref_behind _ w7.heap.size A _ c0 L m7.left.left.left.own3.reads (Nat.le_refl _) rfl HLS.out (by omega)).mono ?_
                 rintro e w8 ⟨gd, rfl, hd8⟩
                 have M8 := Lib.hid (m7.beside hd8)
                 have hbc8 := M8.out.left.left.left.blk
                 have hcg8 : w8.cell? ⟨g, 0, none⟩ = some (.slice A L.length c0) := cell_of M8.out.left.left.left.left.cell0 0
                 clear m7 hd8)
              | (go_at_call 61
                 obtain ⟨F9, hF9, hm9⟩ := M8.out.sndM
                 refine (drawer_do _ gd F9 (dbehind L) c hF9 (behind_dok L) HST.out).mono ?_
                 rintro e w9 ⟨rfl, hq9⟩
                 have M9 := Lib.hid (hm9 _ _ hq9).left
                 rw [HDO.out]
                 have hbc9 := M9.out.left.left.blk
                 have hbr9 := M9.out.blk
                 have hcg9 : w9.cell? ⟨g, 0, none⟩ = some (.slice A L.length c0) := cell_of M9.out.left.left.left.cell0 0
                 clear hF9 hm9 hq9 M8))
          have hbr10 := setRow_heap _ _ _ (Record.cells ⟨client, no, c, (fdo (fbehind L) c).1⟩) _ _ hbr9
          have M10 := Lib.hid (M9.out.turnB (w' := w9.setRow br (Record.cells ⟨client, no, c, (fdo (fbehind L) c).1⟩)) ((Touch.refl (fun k => k = br) w9).setRow (.inl rfl) _) hbr10)
          generalize w9.setRow br (Record.cells ⟨client, no, c, (fdo (fbehind L) c).1⟩) = w10 at M10 hbr10 ⊢
          have hcg10 : w10.cell? ⟨g, 0, none⟩ = some (.slice A L.length c0) := cell_of M10.out.left.left.left.cell0 0
          obtain ⟨ltg10, _⟩ := Array.getElem?_eq_some_iff.1 M10.out.left.left.left.cell0
          obtain ⟨ltr10, _⟩ := Array.getElem?_eq_some_iff.1 hbr10
          clear M9 hbc9 hbr9 hcg9 hcg7 hbc7 M7 hba7
          go_wp2_with fail
          go_region_law (
            (refine step_append_own (by rfl) (.tmp 98) (.tmp 100) 44 (by rfl) elemRecord Try.underlying44 (v := .slice A L.length c0) (l := L) (by rfl) (M10.out.left.left.left.own3.ext (by first | exact ((Touch.refl _ w10).drew).alloc _ | exact ((Touch.refl _ w10).alloc _).drew | exact (Touch.refl _ w10).alloc _)) [⟨client, no, c, (fdo (fbehind L) c).1⟩] (by rfl) (L.length + 1) (by rfl) (by rfl) (reads_block (x := (⟨client, no, c, (fdo (fbehind L) c).1⟩ : Record)) (t := 49) (fr := (0, 0)) (b := w10.heap.size) (by first | exact heap_alloc_new _ _ | (simp only [heap_alloc_at, heap_drew', heap_drewN', World.size_alloc]; rfl)) (w10.heap.size + 1) (by omega)) (by simp; omega) ?_
             intro A11 c11 w11 hown11 hgrow11 hat11
             obtain ⟨F11, hF11, hm11⟩ := M10.out.sr4
             have M11 := Lib.hid (hm11 _ _ ((Rep.stays hF11).append (by first | exact ((Touch.refl _ w10).drew).alloc _ | exact ((Touch.refl _ w10).alloc _).drew | exact (Touch.refl _ w10).alloc _) hown11 hgrow11 hat11))
             have hbg11 := M11.out.left.left.left.cell0
             have hcg11 := cell_of hbg11 0
             have hfg11 := frozen_of hbg11 0
             clear hown11 hgrow11 hat11 hF11 hm11))
          all_goals
            have hbg12 : (w11.setCell ⟨g, 0, none⟩ (.slice A11 (L.length + 1) c11)).heap[g]? = some (.cells #[.slice A11 (L.length + 1) c11] 58 (0, 0)) := setCell_heap hbg11 0 _
            obtain ⟨F12, hF12, hm12⟩ := M11.out.sr4
            have M12 := Lib.hid (hm12 _ _ ((Rep.stays hF12).turn0 (w' := w11.setCell ⟨g, 0, none⟩ (.slice A11 (L.length + 1) c11)) ((Touch.refl (fun k => k = g) w11).setCell (a := ⟨g, 0, none⟩) (.inl rfl) _) hbg12))
            clear hF12 hm12 M11 hbg11 hcg11 hfg11 hbg12
            generalize w11.setCell ⟨g, 0, none⟩ (.slice A11 (L.length + 1) c11) = w12 at M12 ⊢
            have hbr12 := M12.out.blk
            have hba12 := M12.out.left.blk
            have hba13 := setRow_heap _ _ _ (fdo (fbehind L) c).1.cells _ _ hba12
            have M13 := Lib.hid ((M12.out.exch.turnB (w' := w12.setRow ba (fdo (fbehind L) c).1.cells) ((Touch.refl (fun k => k = ba) w12).setRow (.inl rfl) _) hba13).left.left.left.holds)
            go_wp2
            refine bodyPost_ret (results_cell_tmp2 rfl _ _ ⟨ba, 0, none⟩ (.agg (fdo (fbehind L) c).1.cells) rfl (load_block isAnswer hba13)) rfl ?_
            unfold CPost
            rw [HP.out, chestNew_room hfull]
            exact ⟨rfl, M13.out⟩
theorem chest_call (w : World) (g : Nat) (F : Nat → Prop) (L : List Record) (client no : Int) (c : Call) (h : (repChest g).on w F L) (hL : LogOk L) (hst : StrCall c) :
    Calls Try.prog 62 #[.pointer (some ⟨g, 0, none⟩), .int .i64 client, .int .i64 no, .agg c.cells] w (CPost w g F (chestCall L client no c)) := by
  by_cases hr : client < 0 ∨ 3 ≤ client ∨ no < 1 ∨ 200 < no
  · rw [chestCall_range hr]
    exact chest_call_range w g F L client no c h hr
  by_cases hc : callCode c = 0
  · by_cases hk : 1 ≤ c.kind ∧ c.kind ≤ 4
    · exact chest_call_change w g F L client no c h hL hr hst hc hk
    · rw [chestCall_ask hr hc hk]
      exact chest_call_ask w g F L client no c h hL hr hst hc hk
  · rw [chestCall_check hr hc]
    exact chest_call_check w g F L client no c _ h hr hst rfl hc
end Go.Proofs.Ytalfbhhldfffkab
