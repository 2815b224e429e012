/- StoreB: the walk of new of package store; the walk of call of package store; the walks of Call and Tear of package store; the walks of Call and Tear of the reference's Chest; the walk of Call of the reference's Chest where something may change; the walk of Tear of the reference's Chest. -/
import Derived.Test.YtalfbhhldfffkabStoreA
import Derived.Test.YtalfbhhldfffkabCallsR

namespace Go.Proofs.Ytalfbhhldfffkab
open Go.RowKit

def SCallPost (w : World) (gs : Nat) (F : Nat → Prop) (r : (Answer × Int × Int) × List Record) (e : Ending) (w' : World) : Prop :=
  ∃ (A : Option Addr) (n c : Nat), e = .returned (.tuple #[.agg r.1.1.cells, .slice A n c, .int .i64 r.1.2.2]) ∧ (n : Int) = r.1.2.1 ∧ Moved (repStore gs) w F r.2 w'
theorem chestNew_full {L : List Record} {client no : Int} {c : Call} (h : 2000 < (logBytes L).length + (recBytes ⟨client, no, c, Answer.zero⟩).length) : chestNew L client no c = ((Answer.zero, 0, 7), L) := if_pos h
theorem chestNew_room {L : List Record} {client no : Int} {c : Call} (h : ¬ 2000 < (logBytes L).length + (recBytes ⟨client, no, c, Answer.zero⟩).length) :
    chestNew L client no c = (((fdo (fbehind L) c).1, ((recBytes ⟨client, no, c, Answer.zero⟩).length : Int), 0), L ++ [⟨client, no, c, (fdo (fbehind L) c).1⟩]) := if_neg h
theorem enc_ok {r : Record} (h : RecOk r) : encBytes r = recBytes r := if_pos (recCode_of h)
section
variable {X Y Z V : Type} {R : Rep X} {S : Rep Y} {O : Rep Z} {Q : Rep V} {w w' wr : World} {F : Nat → Prop} {x x' : X} {y : Y} {z : Z} {q : V}
theorem Moved.sr4 (h : Moved (((R.and S).and O).and Q) w F (((x, y), z), q) wr) : ∃ F', R.on wr F' x ∧ ∀ x' w', Moved R wr F' x' w' → Moved (((R.and S).and O).and Q) w F (((x', y), z), q) w' := by
  obtain ⟨Fa, hFa, hma⟩ := h.fstM
  obtain ⟨F1, hF1, hm1⟩ := (Rep.stays hFa).p1
  exact ⟨F1, hF1, fun x' w' m => hma _ _ (hm1 _ _ m)⟩
end
set_option maxHeartbeats 4000000 in
set_option maxRecDepth 100000 in
theorem store_new_call0 (w : World) (gs : Nat) (F : Nat → Prop) (L : List Record) (no : Int) (c : Call) (h : (repStore gs).on w F L) (hL : LogOk L) (hc : CallOk 0 no c) (hk : 1 ≤ c.kind ∧ c.kind ≤ 4) :
    Calls Try.prog 94 #[.pointer (some ⟨gs, 0, none⟩), .int .i64 0, .int .i64 no, .agg c.cells] w (SCallPost w gs F (chestNew L 0 no c)) := by
  obtain ⟨gf, u, hS⟩ := h
  have HZ := Lib.hid (zero_ok hc hk)
  have HNW := Lib.hid (new_ok (L := L) hc hk)
  have HST := Lib.hid (recok_str (zero_ok hc hk))
  have M0 := Lib.hid (show Moved (SR gs gf) w F (((chestD L).cells gf u, fbehind L), (u, logBytes L)) w from Rep.stays hS)
  have hlb := hL.len
  have hrb := (recBytes_bounds HZ.out).2
  obtain ⟨Au, cu, rfl, _⟩ := M0.out.own3.form
  have HCODE := Lib.hid (recCode_of HZ.out)
  clear hS hc hk
  go_enter Try.func94, Try.ntmps94
  go_wp2_with fail
  have hlt : gs < w.heap.size := (Array.getElem?_eq_some_iff.1 M0.out.cell).1
  have m3 := ((M0.out.box c.cells 31).box Answer.zero.cells 28).box (Record.cells ⟨0, no, c, Answer.zero⟩) 49
  simp only [World.size_alloc] at m3
  have M3 := Lib.hid m3
  clear m3
  generalize ((w.alloc (.cells c.cells 31)).alloc (.cells Answer.zero.cells 28)).alloc (.cells (Record.cells ⟨0, no, c, Answer.zero⟩) 49) = w3 at M3 ⊢
  obtain ⟨bc, hbc⟩ : ∃ bc, w.heap.size = bc := ⟨_, rfl⟩
  obtain ⟨ba, hba⟩ : ∃ ba, w.heap.size + 1 = ba := ⟨_, rfl⟩
  obtain ⟨br, hbr⟩ : ∃ br, w.heap.size + 1 + 1 = br := ⟨_, rfl⟩
  have n1 : (bc = br) = False := by simp; omega
  have n2 : (gs = br) = False := by simp; omega
  have n3 : (gs = ba) = False := by simp; omega
  have n4 : (ba = br) = False := by simp; omega
  have n5 : (br = gs) = False := by simp; omega
  have n6 : (ba = gs) = False := by simp; omega
  have n7 : (br = ba) = False := by simp; omega
  rw [hbr] at M3 ⊢
  rw [hba] at M3 ⊢
  rw [hbc] at M3 ⊢
  clear hbr hba hbc hlt
  refine (codec_encode w3 ⟨0, no, c, Answer.zero⟩ HST.out).mono ?_
  rintro e w4 ⟨A4, c4, rfl, ho4, hx4, hf4⟩
  rw [enc_ok HZ.out] at ho4 ⊢
  rw [HCODE.out]
  have M4 := Lib.hid (M3.out.behind hx4)
  have hbc4 := M4.out.left.left.blk
  have hbs4 := M4.out.left.left.left.cell
  have hcb4 := cell_of hbs4 1
  rw [StoreD.get1] at hcb4
  have hbr4 := M4.out.blk
  have hba4 := M4.out.left.blk
  clear hx4 M3 hf4 ho4
  by_cases hfull : 2000 < (logBytes L).length + (recBytes ⟨0, no, c, Answer.zero⟩).length
  · have hfull' : (2000 : Int) < ((logBytes L).length : Int) + ((recBytes ⟨0, no, c, Answer.zero⟩).length : Int) := by omega
    have hba5 := setRow_heap _ _ _ Answer.zero.cells _ _ hba4
    have M5 := Lib.hid (M4.out.exch.turnB (w' := w4.setRow ba Answer.zero.cells) ((Touch.refl (fun k => k = ba) w4).setRow (.inl rfl) _) hba5).left.left.left
    go_wp2
    refine bodyPost_ret (results_cell_tmp2 rfl _ _ ⟨ba, 0, none⟩ (.agg Answer.zero.cells) rfl (load_block isAnswer hba5)) rfl ?_
    unfold SCallPost
    rw [chestNew_full hfull]
    exact ⟨none, 0, 0, rfl, rfl, M5.out.shut.chest rfl⟩
  · have hroom : ¬ (2000 : Int) < ((logBytes L).length : Int) + ((recBytes ⟨0, no, c, Answer.zero⟩).length : Int) := by omega
    have hcf4 := cell_of hbs4 0
    rw [StoreD.get0] at hcf4
    go_wp2_with fail
    go_region_held3 (fun w' => w'.cell? ⟨gs, 0, none⟩ = some (.pointer (some ⟨gf, 0, none⟩)) ∧ w'.heap[bc]? = some (.cells c.cells 31 (0, 0)))
      (first | exact ⟨(cell_setRow_other _ _ _ _ _ n2).trans hcf5, (heap_setRow' _ _ _ _ n1).trans hbc5⟩ | exact ⟨hcf5, hbc5⟩ | exact ⟨hcf4, hbc4⟩)
      (first
        | (go_at_call 14
           have M4' := (M4.out.behind (Touch.drew (Touch.refl _ w4)))
           obtain ⟨Fa, hFa, hma⟩ := M4'.fstM
           obtain ⟨F1, hF1, hm1⟩ := (Rep.stays hFa).p1
           obtain ⟨F2, hF2, hm2⟩ := (Rep.stays hF1).p2
           refine (files_do _ gf F2 (fbehind L) c hF2 (fbehind_ok _) HST.out).mono ?_
           rintro e w5 ⟨rfl, hq5⟩
           have M5 := Lib.hid (hma _ _ (hm1 _ _ (hm2 _ _ hq5)))
           have hbs5 := M5.out.left.left.left.cell
           have hbr5 := M5.out.blk
           have hba5 := M5.out.left.blk
           have hcf5 := cell_of hbs5 0
           rw [StoreD.get0] at hcf5
           have hbc5 := M5.out.left.left.blk
           clear hma hm1 hm2 hq5 M4' hFa hF1 hF2))
    have hbr6 := setRow_heap _ _ _ (Record.cells ⟨0, no, c, (fdo (fbehind L) c).1⟩) _ _ hbr5
    have M6 := Lib.hid (M5.out.turnB (w' := w5.setRow br (Record.cells ⟨0, no, c, (fdo (fbehind L) c).1⟩)) ((Touch.refl (fun k => k = br) w5).setRow (.inl rfl) _) hbr6)
    generalize w5.setRow br (Record.cells ⟨0, no, c, (fdo (fbehind L) c).1⟩) = w6 at M6 hbr6 ⊢
    clear M5 hbs5 hbr5 hba5 hcf5 hbc5 M4 hbs4 hcb4 hbr4 hba4 hbc4 hcf4
    go_wp2_with fail
    refine (codec_encode w6 ⟨0, no, c, (fdo (fbehind L) c).1⟩ HST.out).mono ?_
    rintro e w7 ⟨A7, c7, rfl, ho7, hx7, hf7⟩
    rw [enc_ok HNW.out] at ho7 ⊢
    rw [recCode_of HNW.out]
    have M7 := Lib.hid (M6.out.behind hx7)
    have HO7 := Lib.hid ho7
    have hbs7 := M7.out.left.left.left.cell
    have hcb7 := cell_of hbs7 1
    rw [StoreD.get1] at hcb7
    have hrb7 := (recBytes_bounds HNW.out).2
    have HLEN7 := Lib.hid (show (recBytes ⟨0, no, c, (fdo (fbehind L) c).1⟩).length = (recBytes ⟨0, no, c, Answer.zero⟩).length by rw [length_recBytes, length_recBytes])
    clear hx7 hf7 ho7 M6 hbr6 hroom
    go_wp2_with (at_builtin; refine wpList_append_own' (by rfl) (.tmp 49) (.tmp 50) 39 (by rfl) elemByte Try.underlying39 (v := .slice Au (logBytes L).length cu) (l := logBytes L) (by rfl) M7.out.left.left.left.own3 (recBytes ⟨0, no, c, (fdo (fbehind L) c).1⟩) (by rfl) ((logBytes L).length + (recBytes ⟨0, no, c, (fdo (fbehind L) c).1⟩).length) (by rfl) (by rfl) HO7.out.reads (by omega) ?_
                 intro A8 c8 w8 hown8 hgrow8 hat8
                 obtain ⟨F8, hF8, hm8⟩ := M7.out.sr4
                 have M8 := Lib.hid (hm8 _ _ ((Rep.stays hF8).append (Touch.refl _ w7) hown8 hgrow8 hat8))
                 have hbs8 := M8.out.left.left.left.cell
                 obtain ⟨hlt8, hat8'⟩ := Array.getElem?_eq_some_iff.1 hbs8
                 have hcb8 := cell_of hbs8 1
                 have hfr8 := frozen_of hbs8 1
                 clear hown8 hgrow8 hat8 hF8 hm8)
    generalize hN8 : (logBytes L).length + (recBytes ⟨0, no, c, (fdo (fbehind L) c).1⟩).length = n8 at *
    have hbs9 := setCell_heap hbs8 1 (.slice A8 n8 c8)
    rw [StoreD.set1] at hbs9
    obtain ⟨F9, hF9, hm9⟩ := M8.out.sr4
    have M9 := Lib.hid (hm9 _ _ ((Rep.stays hF9).turn (w' := w8.setCell ⟨gs, 1, none⟩ (.slice A8 n8 c8)) ((Touch.refl (fun k => k = gs) w8).setCell (a := ⟨gs, 1, none⟩) (.inl rfl) _) hbs9))
    generalize w8.setCell ⟨gs, 1, none⟩ (.slice A8 n8 c8) = w9 at M9 hbs9 ⊢
    have hbr9 := M9.out.blk
    have hba9 := M9.out.left.blk
    clear hF9 hm9 M8 hbs8 hlt8 hat8' hcb8 hfr8 M7 hbs7 hcb7
    go_region_held3 (fun w' => w'.heap[br]? = some (.cells (Record.cells ⟨0, no, c, (fdo (fbehind L) c).1⟩) 49 (0, 0)))
      (first | exact (heap_setRow' _ _ _ _ n5).trans hbr9 | exact hbr9) (fail)
    obtain ⟨F10, hF10, hm10⟩ := M9.out.sr4
    have hbs10 := setRow_heap _ _ _ (StoreD.cells { chestD L with t0 := ⟨0, no, c, (fdo (fbehind L) c).1⟩ } gf (.slice A8 n8 c8)) _ _ hbs9
    have M10 := Lib.hid (hm10 _ _ ((Rep.stays hF10).turn (w' := (w9.setRow gs (StoreD.cells { chestD L with t0 := ⟨0, no, c, (fdo (fbehind L) c).1⟩ } gf (.slice A8 n8 c8))).drew) (((Touch.refl (fun k => k = gs) w9).setRow (.inl rfl) _).drew) hbs10))
    clear hbs10 hm10 hF10 M9 hbs9 hbr9 hba9
    generalize (w9.setRow gs (StoreD.cells { chestD L with t0 := ⟨0, no, c, (fdo (fbehind L) c).1⟩ } gf (.slice A8 n8 c8))).drew = w10 at M10 ⊢
    have hbr10 := M10.out.blk
    have hba10 := M10.out.left.blk
    have hba11 := setRow_heap _ _ _ (fdo (fbehind L) c).1.cells _ _ hba10
    have M11 := Lib.hid (M10.out.exch.turnB (w' := w10.setRow ba (fdo (fbehind L) c).1.cells) ((Touch.refl (fun k => k = ba) w10).setRow (.inl rfl) _) hba11).left.left.left
    go_wp2
    refine bodyPost_ret (results_cell_tmp2 rfl _ _ ⟨ba, 0, none⟩ (.agg (fdo (fbehind L) c).1.cells) rfl (load_block isAnswer hba11)) rfl ?_
    unfold SCallPost
    rw [chestNew_room hfull]
    refine ⟨A7, (recBytes ⟨0, no, c, (fdo (fbehind L) c).1⟩).length, c7, rfl, by rw [HLEN7.out], ?_⟩
    refine Moved.chest (x := StoreD.setT { chestD L with fs := (fdo (fbehind L) c).2, log := logBytes L ++ recBytes ⟨0, no, c, (fdo (fbehind L) c).1⟩ } 0 ⟨0, no, c, (fdo (fbehind L) c).1⟩) (Moved.shut (gf := gf) (u := .slice A8 n8 c8) ?_) (chestD_append L ⟨0, no, c, (fdo (fbehind L) c).1⟩ 0 (by omega) rfl)
    exact M11.out
set_option maxHeartbeats 4000000 in
set_option maxRecDepth 100000 in
theorem store_new_call1 (w : World) (gs : Nat) (F : Nat → Prop) (L : List Record) (no : Int) (c : Call) (h : (repStore gs).on w F L) (hL : LogOk L) (hc : CallOk 1 no c) (hk : 1 ≤ c.kind ∧ c.kind ≤ 4) :
    Calls Try.prog 94 #[.pointer (some ⟨gs, 0, none⟩), .int .i64 1, .int .i64 no, .agg c.cells] w (SCallPost w gs F (chestNew L 1 no c)) := by
  obtain ⟨gf, u, hS⟩ := h
  have HZ := Lib.hid (zero_ok hc hk)
  have HNW := Lib.hid (new_ok (L := L) hc hk)
  have HST := Lib.hid (recok_str (zero_ok hc hk))
  have M0 := Lib.hid (show Moved (SR gs gf) w F (((chestD L).cells gf u, fbehind L), (u, logBytes L)) w from Rep.stays hS)
  have hlb := hL.len
  have hrb := (recBytes_bounds HZ.out).2
  obtain ⟨Au, cu, rfl, _⟩ := M0.out.own3.form
  have HCODE := Lib.hid (recCode_of HZ.out)
  clear hS hc hk
  go_enter Try.func94, Try.ntmps94
  go_wp2_with fail
  have hlt : gs < w.heap.size := (Array.getElem?_eq_some_iff.1 M0.out.cell).1
  have m3 := ((M0.out.box c.cells 31).box Answer.zero.cells 28).box (Record.cells ⟨1, no, c, Answer.zero⟩) 49
  simp only [World.size_alloc] at m3
  have M3 := Lib.hid m3
  clear m3
  generalize ((w.alloc (.cells c.cells 31)).alloc (.cells Answer.zero.cells 28)).alloc (.cells (Record.cells ⟨1, no, c, Answer.zero⟩) 49) = w3 at M3 ⊢
  obtain ⟨bc, hbc⟩ : ∃ bc, w.heap.size = bc := ⟨_, rfl⟩
  obtain ⟨ba, hba⟩ : ∃ ba, w.heap.size + 1 = ba := ⟨_, rfl⟩
  obtain ⟨br, hbr⟩ : ∃ br, w.heap.size + 1 + 1 = br := ⟨_, rfl⟩
  have n1 : (bc = br) = False := by simp; omega
  have n2 : (gs = br) = False := by simp; omega
  have n3 : (gs = ba) = False := by simp; omega
  have n4 : (ba = br) = False := by simp; omega
  have n5 : (br = gs) = False := by simp; omega
  have n6 : (ba = gs) = False := by simp; omega
  have n7 : (br = ba) = False := by simp; omega
  rw [hbr] at M3 ⊢
  rw [hba] at M3 ⊢
  rw [hbc] at M3 ⊢
  clear hbr hba hbc hlt
  refine (codec_encode w3 ⟨1, no, c, Answer.zero⟩ HST.out).mono ?_
  rintro e w4 ⟨A4, c4, rfl, ho4, hx4, hf4⟩
  rw [enc_ok HZ.out] at ho4 ⊢
  rw [HCODE.out]
  have M4 := Lib.hid (M3.out.behind hx4)
  have hbc4 := M4.out.left.left.blk
  have hbs4 := M4.out.left.left.left.cell
  have hcb4 := cell_of hbs4 1
  rw [StoreD.get1] at hcb4
  have hbr4 := M4.out.blk
  have hba4 := M4.out.left.blk
  clear hx4 M3 hf4 ho4
  by_cases hfull : 2000 < (logBytes L).length + (recBytes ⟨1, no, c, Answer.zero⟩).length
  · have hfull' : (2000 : Int) < ((logBytes L).length : Int) + ((recBytes ⟨1, no, c, Answer.zero⟩).length : Int) := by omega
    have hba5 := setRow_heap _ _ _ Answer.zero.cells _ _ hba4
    have M5 := Lib.hid (M4.out.exch.turnB (w' := w4.setRow ba Answer.zero.cells) ((Touch.refl (fun k => k = ba) w4).setRow (.inl rfl) _) hba5).left.left.left
    go_wp2
    refine bodyPost_ret (results_cell_tmp2 rfl _ _ ⟨ba, 0, none⟩ (.agg Answer.zero.cells) rfl (load_block isAnswer hba5)) rfl ?_
    unfold SCallPost
    rw [chestNew_full hfull]
    exact ⟨none, 0, 0, rfl, rfl, M5.out.shut.chest rfl⟩
  · have hroom : ¬ (2000 : Int) < ((logBytes L).length : Int) + ((recBytes ⟨1, no, c, Answer.zero⟩).length : Int) := by omega
    have hcf4 := cell_of hbs4 0
    rw [StoreD.get0] at hcf4
    go_wp2_with fail
    go_region_held3 (fun w' => w'.cell? ⟨gs, 0, none⟩ = some (.pointer (some ⟨gf, 0, none⟩)) ∧ w'.heap[bc]? = some (.cells c.cells 31 (0, 0)))
      (first | exact ⟨(cell_setRow_other _ _ _ _ _ n2).trans hcf5, (heap_setRow' _ _ _ _ n1).trans hbc5⟩ | exact ⟨hcf5, hbc5⟩ | exact ⟨hcf4, hbc4⟩)
      (first
        | (go_at_call 14
           have M4' := (M4.out.behind (Touch.drew (Touch.refl _ w4)))
           obtain ⟨Fa, hFa, hma⟩ := M4'.fstM
           obtain ⟨F1, hF1, hm1⟩ := (Rep.stays hFa).p1
           obtain ⟨F2, hF2, hm2⟩ := (Rep.stays hF1).p2
           refine (files_do _ gf F2 (fbehind L) c hF2 (fbehind_ok _) HST.out).mono ?_
           rintro e w5 ⟨rfl, hq5⟩
           have M5 := Lib.hid (hma _ _ (hm1 _ _ (hm2 _ _ hq5)))
           have hbs5 := M5.out.left.left.left.cell
           have hbr5 := M5.out.blk
           have hba5 := M5.out.left.blk
           have hcf5 := cell_of hbs5 0
           rw [StoreD.get0] at hcf5
           have hbc5 := M5.out.left.left.blk
           clear hma hm1 hm2 hq5 M4' hFa hF1 hF2))
    have hbr6 := setRow_heap _ _ _ (Record.cells ⟨1, no, c, (fdo (fbehind L) c).1⟩) _ _ hbr5
    have M6 := Lib.hid (M5.out.turnB (w' := w5.setRow br (Record.cells ⟨1, no, c, (fdo (fbehind L) c).1⟩)) ((Touch.refl (fun k => k = br) w5).setRow (.inl rfl) _) hbr6)
    generalize w5.setRow br (Record.cells ⟨1, no, c, (fdo (fbehind L) c).1⟩) = w6 at M6 hbr6 ⊢
    clear M5 hbs5 hbr5 hba5 hcf5 hbc5 M4 hbs4 hcb4 hbr4 hba4 hbc4 hcf4
    go_wp2_with fail
    refine (codec_encode w6 ⟨1, no, c, (fdo (fbehind L) c).1⟩ HST.out).mono ?_
    rintro e w7 ⟨A7, c7, rfl, ho7, hx7, hf7⟩
    rw [enc_ok HNW.out] at ho7 ⊢
    rw [recCode_of HNW.out]
    have M7 := Lib.hid (M6.out.behind hx7)
    have HO7 := Lib.hid ho7
    have hbs7 := M7.out.left.left.left.cell
    have hcb7 := cell_of hbs7 1
    rw [StoreD.get1] at hcb7
    have hrb7 := (recBytes_bounds HNW.out).2
    have HLEN7 := Lib.hid (show (recBytes ⟨1, no, c, (fdo (fbehind L) c).1⟩).length = (recBytes ⟨1, no, c, Answer.zero⟩).length by rw [length_recBytes, length_recBytes])
    clear hx7 hf7 ho7 M6 hbr6 hroom
    go_wp2_with (at_builtin; refine wpList_append_own' (by rfl) (.tmp 49) (.tmp 50) 39 (by rfl) elemByte Try.underlying39 (v := .slice Au (logBytes L).length cu) (l := logBytes L) (by rfl) M7.out.left.left.left.own3 (recBytes ⟨1, no, c, (fdo (fbehind L) c).1⟩) (by rfl) ((logBytes L).length + (recBytes ⟨1, no, c, (fdo (fbehind L) c).1⟩).length) (by rfl) (by rfl) HO7.out.reads (by omega) ?_
                 intro A8 c8 w8 hown8 hgrow8 hat8
                 obtain ⟨F8, hF8, hm8⟩ := M7.out.sr4
                 have M8 := Lib.hid (hm8 _ _ ((Rep.stays hF8).append (Touch.refl _ w7) hown8 hgrow8 hat8))
                 have hbs8 := M8.out.left.left.left.cell
                 obtain ⟨hlt8, hat8'⟩ := Array.getElem?_eq_some_iff.1 hbs8
                 have hcb8 := cell_of hbs8 1
                 have hfr8 := frozen_of hbs8 1
                 clear hown8 hgrow8 hat8 hF8 hm8)
    generalize hN8 : (logBytes L).length + (recBytes ⟨1, no, c, (fdo (fbehind L) c).1⟩).length = n8 at *
    have hbs9 := setCell_heap hbs8 1 (.slice A8 n8 c8)
    rw [StoreD.set1] at hbs9
    obtain ⟨F9, hF9, hm9⟩ := M8.out.sr4
    have M9 := Lib.hid (hm9 _ _ ((Rep.stays hF9).turn (w' := w8.setCell ⟨gs, 1, none⟩ (.slice A8 n8 c8)) ((Touch.refl (fun k => k = gs) w8).setCell (a := ⟨gs, 1, none⟩) (.inl rfl) _) hbs9))
    generalize w8.setCell ⟨gs, 1, none⟩ (.slice A8 n8 c8) = w9 at M9 hbs9 ⊢
    have hbr9 := M9.out.blk
    have hba9 := M9.out.left.blk
    clear hF9 hm9 M8 hbs8 hlt8 hat8' hcb8 hfr8 M7 hbs7 hcb7
    go_region_held3 (fun w' => w'.heap[br]? = some (.cells (Record.cells ⟨1, no, c, (fdo (fbehind L) c).1⟩) 49 (0, 0)))
      (first | exact (heap_setRow' _ _ _ _ n5).trans hbr9 | exact hbr9) (fail)
    obtain ⟨F10, hF10, hm10⟩ := M9.out.sr4
    have hbs10 := setRow_heap _ _ _ (StoreD.cells { chestD L with t1 := ⟨1, no, c, (fdo (fbehind L) c).1⟩ } gf (.slice A8 n8 c8)) _ _ hbs9
    have M10 := Lib.hid (hm10 _ _ ((Rep.stays hF10).turn (w' := (w9.setRow gs (StoreD.cells { chestD L with t1 := ⟨1, no, c, (fdo (fbehind L) c).1⟩ } gf (.slice A8 n8 c8))).drew) (((Touch.refl (fun k => k = gs) w9).setRow (.inl rfl) _).drew) hbs10))
    clear hbs10 hm10 hF10 M9 hbs9 hbr9 hba9
    generalize (w9.setRow gs (StoreD.cells { chestD L with t1 := ⟨1, no, c, (fdo (fbehind L) c).1⟩ } gf (.slice A8 n8 c8))).drew = w10 at M10 ⊢
    have hbr10 := M10.out.blk
    have hba10 := M10.out.left.blk
    have hba11 := setRow_heap _ _ _ (fdo (fbehind L) c).1.cells _ _ hba10
    have M11 := Lib.hid (M10.out.exch.turnB (w' := w10.setRow ba (fdo (fbehind L) c).1.cells) ((Touch.refl (fun k => k = ba) w10).setRow (.inl rfl) _) hba11).left.left.left
    go_wp2
    refine bodyPost_ret (results_cell_tmp2 rfl _ _ ⟨ba, 0, none⟩ (.agg (fdo (fbehind L) c).1.cells) rfl (load_block isAnswer hba11)) rfl ?_
    unfold SCallPost
    rw [chestNew_room hfull]
    refine ⟨A7, (recBytes ⟨1, no, c, (fdo (fbehind L) c).1⟩).length, c7, rfl, by rw [HLEN7.out], ?_⟩
    refine Moved.chest (x := StoreD.setT { chestD L with fs := (fdo (fbehind L) c).2, log := logBytes L ++ recBytes ⟨1, no, c, (fdo (fbehind L) c).1⟩ } 1 ⟨1, no, c, (fdo (fbehind L) c).1⟩) (Moved.shut (gf := gf) (u := .slice A8 n8 c8) ?_) (chestD_append L ⟨1, no, c, (fdo (fbehind L) c).1⟩ 1 (by omega) rfl)
    exact M11.out
set_option maxHeartbeats 4000000 in
set_option maxRecDepth 100000 in
theorem store_new_call2 (w : World) (gs : Nat) (F : Nat → Prop) (L : List Record) (no : Int) (c : Call) (h : (repStore gs).on w F L) (hL : LogOk L) (hc : CallOk 2 no c) (hk : 1 ≤ c.kind ∧ c.kind ≤ 4) :
    Calls Try.prog 94 #[.pointer (some ⟨gs, 0, none⟩), .int .i64 2, .int .i64 no, .agg c.cells] w (SCallPost w gs F (chestNew L 2 no c)) := by
  obtain ⟨gf, u, hS⟩ := h
  have HZ := Lib.hid (zero_ok hc hk)
  have HNW := Lib.hid (new_ok (L := L) hc hk)
  have HST := Lib.hid (recok_str (zero_ok hc hk))
  have M0 := Lib.hid (show Moved (SR gs gf) w F (((chestD L).cells gf u, fbehind L), (u, logBytes L)) w from Rep.stays hS)
  have hlb := hL.len
  have hrb := (recBytes_bounds HZ.out).2
  obtain ⟨Au, cu, rfl, _⟩ := M0.out.own3.form
  have HCODE := Lib.hid (recCode_of HZ.out)
  clear hS hc hk
  go_enter Try.func94, Try.ntmps94
  go_wp2_with fail
  have hlt : gs < w.heap.size := (Array.getElem?_eq_some_iff.1 M0.out.cell).1
  have m3 := ((M0.out.box c.cells 31).box Answer.zero.cells 28).box (Record.cells ⟨2, no, c, Answer.zero⟩) 49
  simp only [World.size_alloc] at m3
  have M3 := Lib.hid m3
  clear m3
  generalize ((w.alloc (.cells c.cells 31)).alloc (.cells Answer.zero.cells 28)).alloc (.cells (Record.cells ⟨2, no, c, Answer.zero⟩) 49) = w3 at M3 ⊢
  obtain ⟨bc, hbc⟩ : ∃ bc, w.heap.size = bc := ⟨_, rfl⟩
  obtain ⟨ba, hba⟩ : ∃ ba, w.heap.size + 1 = ba := ⟨_, rfl⟩
  obtain ⟨br, hbr⟩ : ∃ br, w.heap.size + 1 + 1 = br := ⟨_, rfl⟩
  have n1 : (bc = br) = False := by simp; omega
  have n2 : (gs = br) = False := by simp; omega
  have n3 : (gs = ba) = False := by simp; omega
  have n4 : (ba = br) = False := by simp; omega
  have n5 : (br = gs) = False := by simp; omega
  have n6 : (ba = gs) = False := by simp; omega
  have n7 : (br = ba) = False := by simp; omega
  rw [hbr] at M3 ⊢
  rw [hba] at M3 ⊢
  rw [hbc] at M3 ⊢
  clear hbr hba hbc hlt
  refine (codec_encode w3 ⟨2, no, c, Answer.zero⟩ HST.out).mono ?_
  rintro e w4 ⟨A4, c4, rfl, ho4, hx4, hf4⟩
  rw [enc_ok HZ.out] at ho4 ⊢
  rw [HCODE.out]
  have M4 := Lib.hid (M3.out.behind hx4)
  have hbc4 := M4.out.left.left.blk
  have hbs4 := M4.out.left.left.left.cell
  have hcb4 := cell_of hbs4 1
  rw [StoreD.get1] at hcb4
  have hbr4 := M4.out.blk
  have hba4 := M4.out.left.blk
  clear hx4 M3 hf4 ho4
  by_cases hfull : 2000 < (logBytes L).length + (recBytes ⟨2, no, c, Answer.zero⟩).length
  · have hfull' : (2000 : Int) < ((logBytes L).length : Int) + ((recBytes ⟨2, no, c, Answer.zero⟩).length : Int) := by omega
    have hba5 := setRow_heap _ _ _ Answer.zero.cells _ _ hba4
    have M5 := Lib.hid (M4.out.exch.turnB (w' := w4.setRow ba Answer.zero.cells) ((Touch.refl (fun k => k = ba) w4).setRow (.inl rfl) _) hba5).left.left.left
    go_wp2
    refine bodyPost_ret (results_cell_tmp2 rfl _ _ ⟨ba, 0, none⟩ (.agg Answer.zero.cells) rfl (load_block isAnswer hba5)) rfl ?_
    unfold SCallPost
    rw [chestNew_full hfull]
    exact ⟨none, 0, 0, rfl, rfl, M5.out.shut.chest rfl⟩
  · have hroom : ¬ (2000 : Int) < ((logBytes L).length : Int) + ((recBytes ⟨2, no, c, Answer.zero⟩).length : Int) := by omega
    have hcf4 := cell_of hbs4 0
    rw [StoreD.get0] at hcf4
    go_wp2_with fail
    go_region_held3 (fun w' => w'.cell? ⟨gs, 0, none⟩ = some (.pointer (some ⟨gf, 0, none⟩)) ∧ w'.heap[bc]? = some (.cells c.cells 31 (0, 0)))
      (first | exact ⟨(cell_setRow_other _ _ _ _ _ n2).trans hcf5, (heap_setRow' _ _ _ _ n1).trans hbc5⟩ | exact ⟨hcf5, hbc5⟩ | exact ⟨hcf4, hbc4⟩)
      (first
        | (go_at_call 14
           have M4' := (M4.out.behind (Touch.drew (Touch.refl _ w4)))
           obtain ⟨Fa, hFa, hma⟩ := M4'.fstM
           obtain ⟨F1, hF1, hm1⟩ := (Rep.stays hFa).p1
           obtain ⟨F2, hF2, hm2⟩ := (Rep.stays hF1).p2
           refine (files_do _ gf F2 (fbehind L) c hF2 (fbehind_ok _) HST.out).mono ?_
           rintro e w5 ⟨rfl, hq5⟩
           have M5 := Lib.hid (hma _ _ (hm1 _ _ (hm2 _ _ hq5)))
           have hbs5 := M5.out.left.left.left.cell
           have hbr5 := M5.out.blk
           have hba5 := M5.out.left.blk
           have hcf5 := cell_of hbs5 0
           rw [StoreD.get0] at hcf5
           have hbc5 := M5.out.left.left.blk
           clear hma hm1 hm2 hq5 M4' hFa hF1 hF2))
    have hbr6 := setRow_heap _ _ _ (Record.cells ⟨2, no, c, (fdo (fbehind L) c).1⟩) _ _ hbr5
    have M6 := Lib.hid (M5.out.turnB (w' := w5.setRow br (Record.cells ⟨2, no, c, (fdo (fbehind L) c).1⟩)) ((Touch.refl (fun k => k = br) w5).setRow (.inl rfl) _) hbr6)
    generalize w5.setRow br (Record.cells ⟨2, no, c, (fdo (fbehind L) c).1⟩) = w6 at M6 hbr6 ⊢
    clear M5 hbs5 hbr5 hba5 hcf5 hbc5 M4 hbs4 hcb4 hbr4 hba4 hbc4 hcf4
    go_wp2_with fail
    refine (codec_encode w6 ⟨2, no, c, (fdo (fbehind L) c).1⟩ HST.out).mono ?_
    rintro e w7 ⟨A7, c7, rfl, ho7, hx7, hf7⟩
    rw [enc_ok HNW.out] at ho7 ⊢
    rw [recCode_of HNW.out]
    have M7 := Lib.hid (M6.out.behind hx7)
    have HO7 := Lib.hid ho7
    have hbs7 := M7.out.left.left.left.cell
    have hcb7 := cell_of hbs7 1
    rw [StoreD.get1] at hcb7
    have hrb7 := (recBytes_bounds HNW.out).2
    have HLEN7 := Lib.hid (show (recBytes ⟨2, no, c, (fdo (fbehind L) c).1⟩).length = (recBytes ⟨2, no, c, Answer.zero⟩).length by rw [length_recBytes, length_recBytes])
    clear hx7 hf7 ho7 M6 hbr6 hroom
    go_wp2_with (at_builtin; refine wpList_append_own' (by rfl) (.tmp 49) (.tmp 50) 39 (by rfl) elemByte Try.underlying39 (v := .slice Au (logBytes L).length cu) (l := logBytes L) (by rfl) M7.out.left.left.left.own3 (recBytes ⟨2, no, c, (fdo (fbehind L) c).1⟩) (by rfl) ((logBytes L).length + (recBytes ⟨2, no, c, (fdo (fbehind L) c).1⟩).length) (by rfl) (by rfl) HO7.out.reads (by omega) ?_
                 intro A8 c8 w8 hown8 hgrow8 hat8
                 obtain ⟨F8, hF8, hm8⟩ := M7.out.sr4
                 have M8 := Lib.hid (hm8 _ _ ((Rep.stays hF8).append (Touch.refl _ w7) hown8 hgrow8 hat8))
                 have hbs8 := M8.out.left.left.left.cell
                 obtain ⟨hlt8, hat8'⟩ := Array.getElem?_eq_some_iff.1 hbs8
                 have hcb8 := cell_of hbs8 1
                 have hfr8 := frozen_of hbs8 1
                 clear hown8 hgrow8 hat8 hF8 hm8)
    generalize hN8 : (logBytes L).length + (recBytes ⟨2, no, c, (fdo (fbehind L) c).1⟩).length = n8 at *
    have hbs9 := setCell_heap hbs8 1 (.slice A8 n8 c8)
    rw [StoreD.set1] at hbs9
    obtain ⟨F9, hF9, hm9⟩ := M8.out.sr4
    have M9 := Lib.hid (hm9 _ _ ((Rep.stays hF9).turn (w' := w8.setCell ⟨gs, 1, none⟩ (.slice A8 n8 c8)) ((Touch.refl (fun k => k = gs) w8).setCell (a := ⟨gs, 1, none⟩) (.inl rfl) _) hbs9))
    generalize w8.setCell ⟨gs, 1, none⟩ (.slice A8 n8 c8) = w9 at M9 hbs9 ⊢
    have hbr9 := M9.out.blk
    have hba9 := M9.out.left.blk
    clear hF9 hm9 M8 hbs8 hlt8 hat8' hcb8 hfr8 M7 hbs7 hcb7
    go_region_held3 (fun w' => w'.heap[br]? = some (.cells (Record.cells ⟨2, no, c, (fdo (fbehind L) c).1⟩) 49 (0, 0)))
      (first | exact (heap_setRow' _ _ _ _ n5).trans hbr9 | exact hbr9) (fail)
    obtain ⟨F10, hF10, hm10⟩ := M9.out.sr4
    have hbs10 := setRow_heap _ _ _ (StoreD.cells { chestD L with t2 := ⟨2, no, c, (fdo (fbehind L) c).1⟩ } gf (.slice A8 n8 c8)) _ _ hbs9
    have M10 := Lib.hid (hm10 _ _ ((Rep.stays hF10).turn (w' := (w9.setRow gs (StoreD.cells { chestD L with t2 := ⟨2, no, c, (fdo (fbehind L) c).1⟩ } gf (.slice A8 n8 c8))).drew) (((Touch.refl (fun k => k = gs) w9).setRow (.inl rfl) _).drew) hbs10))
    clear hbs10 hm10 hF10 M9 hbs9 hbr9 hba9
    generalize (w9.setRow gs (StoreD.cells { chestD L with t2 := ⟨2, no, c, (fdo (fbehind L) c).1⟩ } gf (.slice A8 n8 c8))).drew = w10 at M10 ⊢
    have hbr10 := M10.out.blk
    have hba10 := M10.out.left.blk
    have hba11 := setRow_heap _ _ _ (fdo (fbehind L) c).1.cells _ _ hba10
    have M11 := Lib.hid (M10.out.exch.turnB (w' := w10.setRow ba (fdo (fbehind L) c).1.cells) ((Touch.refl (fun k => k = ba) w10).setRow (.inl rfl) _) hba11).left.left.left
    go_wp2
    refine bodyPost_ret (results_cell_tmp2 rfl _ _ ⟨ba, 0, none⟩ (.agg (fdo (fbehind L) c).1.cells) rfl (load_block isAnswer hba11)) rfl ?_
    unfold SCallPost
    rw [chestNew_room hfull]
    refine ⟨A7, (recBytes ⟨2, no, c, (fdo (fbehind L) c).1⟩).length, c7, rfl, by rw [HLEN7.out], ?_⟩
    refine Moved.chest (x := StoreD.setT { chestD L with fs := (fdo (fbehind L) c).2, log := logBytes L ++ recBytes ⟨2, no, c, (fdo (fbehind L) c).1⟩ } 2 ⟨2, no, c, (fdo (fbehind L) c).1⟩) (Moved.shut (gf := gf) (u := .slice A8 n8 c8) ?_) (chestD_append L ⟨2, no, c, (fdo (fbehind L) c).1⟩ 2 (by omega) rfl)
    exact M11.out
theorem store_new_call (w : World) (gs : Nat) (F : Nat → Prop) (L : List Record) (client no : Int) (c : Call) (h : (repStore gs).on w F L) (hL : LogOk L) (hc : CallOk client no c) (hk : 1 ≤ c.kind ∧ c.kind ≤ 4) :
    Calls Try.prog 94 #[.pointer (some ⟨gs, 0, none⟩), .int .i64 client, .int .i64 no, .agg c.cells] w (SCallPost w gs F (chestNew L client no c)) := by
  have h1 := hc.client
  obtain rfl | rfl | rfl : client = 0 ∨ client = 1 ∨ client = 2 := by omega
  · exact store_new_call0 w gs F L no c h hL hc hk
  · exact store_new_call1 w gs F L no c h hL hc hk
  · exact store_new_call2 w gs F L no c h hL hc hk
end Go.Proofs.Ytalfbhhldfffkab

namespace Go.Proofs.Ytalfbhhldfffkab
open Go.RowKit

theorem chestCall_range {L : List Record} {client no : Int} {c : Call} (h : client < 0 ∨ 3 ≤ client ∨ no < 1 ∨ 200 < no) : chestCall L client no c = ((Answer.zero, 0, 9), L) := if_pos h
theorem chestCall_check {L : List Record} {client no : Int} {c : Call} (h : ¬ (client < 0 ∨ 3 ≤ client ∨ no < 1 ∨ 200 < no)) (hc : callCode c ≠ 0) : chestCall L client no c = ((Answer.zero, 0, callCode c), L) := by
  unfold chestCall; rw [if_neg h, if_pos hc]
theorem chestCall_ask {L : List Record} {client no : Int} {c : Call} (h : ¬ (client < 0 ∨ 3 ≤ client ∨ no < 1 ∨ 200 < no)) (hc : callCode c = 0) (hk : ¬ (1 ≤ c.kind ∧ c.kind ≤ 4)) : chestCall L client no c = (((fdo (fbehind L) c).1, 0, 0), L) := by
  unfold chestCall; rw [if_neg h, if_neg (by simp [hc]), if_pos hk]
theorem chestCall_change {L : List Record} {client no : Int} {c : Call} (h : ¬ (client < 0 ∨ 3 ≤ client ∨ no < 1 ∨ 200 < no)) (hc : callCode c = 0) (hk : 1 ≤ c.kind ∧ c.kind ≤ 4) :
    chestCall L client no c = match lastOf L client with
    | some x => if no = x.no ∧ c = x.call then ((x.answer, 0, 0), L) else if no ≤ x.no then ((Answer.zero, 0, 10), L) else chestNew L client no c
    | none => chestNew L client no c := by
  unfold chestCall; rw [if_neg h, if_neg (by simp [hc]), if_neg (by simpa using hk)]; rfl
/-- by what stands in the table -/
theorem chestCall_last {L : List Record} {client no : Int} {c : Call} (h : ¬ (client < 0 ∨ 3 ≤ client ∨ no < 1 ∨ 200 < no)) (hc : callCode c = 0) (hk : 1 ≤ c.kind ∧ c.kind ≤ 4) :
    chestCall L client no c = if no = (lastRec L client).no ∧ c = (lastRec L client).call then (((lastRec L client).answer, 0, 0), L) else if no ≤ (lastRec L client).no then ((Answer.zero, 0, 10), L) else chestNew L client no c := by
  rw [chestCall_change h hc hk]
  unfold lastRec
  cases lastOf L client with
  | some x => rfl
  | none =>
    have h1 : ¬ no ≤ (Record.zero).no := by show ¬ no ≤ 0; omega
    have h2 : ¬ (no = (Record.zero).no ∧ c = (Record.zero).call) := fun e => h1 (by rw [e.1]; exact Int.le_refl _)
    show chestNew L client no c = if no = (Record.zero).no ∧ c = (Record.zero).call then _ else if no ≤ (Record.zero).no then _ else _
    rw [if_neg h2, if_neg h1]
set_option maxHeartbeats 1000000 in
set_option maxRecDepth 100000 in
theorem store_call_range (w : World) (gs : Nat) (F : Nat → Prop) (L : List Record) (client no : Int) (c : Call) (h : (repStore gs).on w F L) (hr : client < 0 ∨ 3 ≤ client ∨ no < 1 ∨ 200 < no) :
    Calls Try.prog 65 #[.pointer (some ⟨gs, 0, none⟩), .int .i64 client, .int .i64 no, .agg c.cells] w (SCallPost w gs F ((Answer.zero, 0, 9), L)) := by
  have M0 := Lib.hid (Rep.stays h)
  clear h
  by_cases h1 : client < 0
  · skip
    go_enter Try.func65, Try.ntmps65
    go_wp2
    refine bodyPost_ret (results_cell_tmp2 rfl _ _ ⟨w.heap.size + 1, 0, none⟩ (.agg Answer.zero.cells) rfl (load_block isAnswer (heap_alloc_at _ _ _ (by simp)))) rfl ?_
    exact ⟨none, 0, 0, rfl, rfl, M0.out.behind (((Touch.refl _ w).alloc _).alloc _)⟩
  by_cases h2 : 3 ≤ client
  · skip
    go_enter Try.func65, Try.ntmps65
    go_wp2
    refine bodyPost_ret (results_cell_tmp2 rfl _ _ ⟨w.heap.size + 1, 0, none⟩ (.agg Answer.zero.cells) rfl (load_block isAnswer (heap_alloc_at _ _ _ (by simp)))) rfl ?_
    exact ⟨none, 0, 0, rfl, rfl, M0.out.behind (((Touch.refl _ w).alloc _).alloc _)⟩
  by_cases h3 : no < 1
  · skip
    go_enter Try.func65, Try.ntmps65
    go_wp2
    refine bodyPost_ret (results_cell_tmp2 rfl _ _ ⟨w.heap.size + 1, 0, none⟩ (.agg Answer.zero.cells) rfl (load_block isAnswer (heap_alloc_at _ _ _ (by simp)))) rfl ?_
    exact ⟨none, 0, 0, rfl, rfl, M0.out.behind (((Touch.refl _ w).alloc _).alloc _)⟩
  have h4 : 200 < no := by omega
  go_enter Try.func65, Try.ntmps65
  go_wp2
  refine bodyPost_ret (results_cell_tmp2 rfl _ _ ⟨w.heap.size + 1, 0, none⟩ (.agg Answer.zero.cells) rfl (load_block isAnswer (heap_alloc_at _ _ _ (by simp)))) rfl ?_
  exact ⟨none, 0, 0, rfl, rfl, M0.out.behind (((Touch.refl _ w).alloc _).alloc _)⟩
set_option maxHeartbeats 1000000 in
set_option maxRecDepth 100000 in
theorem store_call_check (w : World) (gs : Nat) (F : Nat → Prop) (L : List Record) (client no : Int) (c : Call) (n : Int) (h : (repStore gs).on w F L) (hr : ¬ (client < 0 ∨ 3 ≤ client ∨ no < 1 ∨ 200 < no)) (hst : StrCall c) (hc : callCode c = n) (hn : n ≠ 0) :
    Calls Try.prog 65 #[.pointer (some ⟨gs, 0, none⟩), .int .i64 client, .int .i64 no, .agg c.cells] w (SCallPost w gs F ((Answer.zero, 0, n), L)) := by
  have hn' : (n != 0) = true := by simp [hn]
  have M0 := Lib.hid (Rep.stays h)
  have h1 : ¬ client < 0 := by omega
  have h2 : ¬ 3 ≤ client := by omega
  have h3 : ¬ no < 1 := by omega
  have h4 : ¬ 200 < no := by omega
  have HST := Lib.hid hst
  have HC := Lib.hid hc
  clear hst hc
  go_enter Try.func65, Try.ntmps65
  go_wp2_with fail
  have m2 := (M0.out.box c.cells 31).box Answer.zero.cells 28
  simp only [World.size_alloc] at m2
  have M2 := Lib.hid m2
  clear m2
  generalize (w.alloc (.cells c.cells 31)).alloc (.cells Answer.zero.cells 28) = w2 at M2 ⊢
  obtain ⟨bc, hbc⟩ : ∃ bc, w.heap.size = bc := ⟨_, rfl⟩
  obtain ⟨ba, hba⟩ : ∃ ba, w.heap.size + 1 = ba := ⟨_, rfl⟩
  have nab : (ba = bc) = False := by simp; omega
  have nba : (bc = ba) = False := by simp; omega
  rw [hba] at M2 ⊢
  try rw [hba] at nsa'
  rw [hbc] at M2 ⊢
  clear hba hbc
  refine (files_check' w2 c n HC.out HST.out).mono ?_
  rintro e w3 ⟨rfl, hx3⟩
  have M3 := Lib.hid (M2.out.behind hx3)
  have hbc3 := M3.out.left.blk
  clear hx3 M2
  go_wp2_with fail
  refine (files_check' _ c n HC.out HST.out).mono ?_
  rintro e w4 ⟨rfl, hx4⟩
  have M4 := Lib.hid (M3.out.behind hx4)
  have hba4 := M4.out.blk
  have hba5 := setRow_heap _ _ _ Answer.zero.cells _ _ hba4
  have M5 := Lib.hid (M4.out.turnB (w' := w4.setRow ba Answer.zero.cells) ((Touch.refl (fun k => k = ba) w4).setRow (.inl rfl) _) hba5).left.left
  clear hx4 M3 hbc3
  go_wp2
  refine bodyPost_ret (results_cell_tmp2 rfl _ _ ⟨ba, 0, none⟩ (.agg Answer.zero.cells) rfl (load_block isAnswer hba5)) rfl ?_
  exact ⟨none, 0, 0, rfl, rfl, M5.out⟩
set_option maxHeartbeats 2000000 in
set_option maxRecDepth 100000 in
theorem store_call_ask (w : World) (gs : Nat) (F : Nat → Prop) (L : List Record) (client no : Int) (c : Call) (h : (repStore gs).on w F L) (hr : ¬ (client < 0 ∨ 3 ≤ client ∨ no < 1 ∨ 200 < no)) (hst : StrCall c) (hc : callCode c = 0) (hk : ¬ (1 ≤ c.kind ∧ c.kind ≤ 4)) :
    Calls Try.prog 65 #[.pointer (some ⟨gs, 0, none⟩), .int .i64 client, .int .i64 no, .agg c.cells] w (SCallPost w gs F (((fdo (fbehind L) c).1, 0, 0), L)) := by
  obtain ⟨gf, u, hS⟩ := h
  have M0 := Lib.hid (show Moved (SR gs gf) w F (((chestD L).cells gf u, fbehind L), (u, logBytes L)) w from Rep.stays hS)
  have HK := Lib.hid hk
  have HSAME := Lib.hid (show (fdo (fbehind L) c).2 = fbehind L from fdo_same (.inr hk))
  have hgs : gs < w.heap.size := (Array.getElem?_eq_some_iff.1 M0.out.cell).1
  have nsa' : (gs = w.heap.size + 1) = False := by simp; omega
  clear hS hk
  have h1 : ¬ client < 0 := by omega
  have h2 : ¬ 3 ≤ client := by omega
  have h3 : ¬ no < 1 := by omega
  have h4 : ¬ 200 < no := by omega
  have HST := Lib.hid hst
  have HC := Lib.hid hc
  clear hst hc
  go_enter Try.func65, Try.ntmps65
  go_wp2_with fail
  have m2 := (M0.out.box c.cells 31).box Answer.zero.cells 28
  simp only [World.size_alloc] at m2
  have M2 := Lib.hid m2
  clear m2
  generalize (w.alloc (.cells c.cells 31)).alloc (.cells Answer.zero.cells 28) = w2 at M2 ⊢
  obtain ⟨bc, hbc⟩ : ∃ bc, w.heap.size = bc := ⟨_, rfl⟩
  obtain ⟨ba, hba⟩ : ∃ ba, w.heap.size + 1 = ba := ⟨_, rfl⟩
  have nab : (ba = bc) = False := by simp; omega
  have nba : (bc = ba) = False := by simp; omega
  rw [hba] at M2 ⊢
  try rw [hba] at nsa'
  rw [hbc] at M2 ⊢
  clear hba hbc
  have nsa : (gs = ba) = False := nsa'
  clear nsa' hgs
  refine (files_check' w2 c 0 HC.out HST.out).mono ?_
  rintro e w3 ⟨rfl, hx3⟩
  have M3 := Lib.hid (M2.out.behind hx3)
  have hbc3 := M3.out.left.blk
  have hcc3 := cell_of hbc3 0
  have hbs3 := M3.out.left.left.cell
  have hcf3 := cell_of hbs3 0
  rw [StoreD.get0] at hcf3
  clear hx3 M2
  go_wp2_with (go_at_call 52; refine (files_changes _ c.kind false (by have := HK.out; simp; omega)).mono ?_; rintro e w4 ⟨rfl, rfl⟩)
  go_region_held3 (fun w' => w'.cell? ⟨gs, 0, none⟩ = some (.pointer (some ⟨gf, 0, none⟩)) ∧ w'.heap[bc]? = some (.cells c.cells 31 (0, 0)))
    (first | exact ⟨(cell_setRow_other _ _ _ _ _ nsa).trans hcf5, (heap_setRow' _ _ _ _ nba).trans hbc5⟩ | exact ⟨hcf5, hbc5⟩ | exact ⟨hcf3, hbc3⟩)
    (first
      | (go_at_call 14
         obtain ⟨F1, hF1, hm1⟩ := (M3.out.behind (Touch.drew (Touch.refl _ w3))).p1
         obtain ⟨F2, hF2, hm2⟩ := (Rep.stays hF1).p2
         refine (files_do _ gf F2 (fbehind L) c hF2 (fbehind_ok _) HST.out).mono ?_
         rintro e w5 ⟨rfl, hq5⟩
         have m5 := hm1 _ _ (hm2 _ _ hq5)
         rw [HSAME.out] at m5
         have M5 := Lib.hid m5
         have hcf5 := cell_of M5.out.left.left.cell 0
         rw [StoreD.get0] at hcf5
         have hbc5 := M5.out.left.blk
         have hba5 := M5.out.blk
         clear hF1 hm1 hF2 hm2 hq5 m5))
  have hba6 := setRow_heap _ _ _ (fdo (fbehind L) c).1.cells _ _ hba5
  have M6 := Lib.hid (M5.out.turnB (w' := w5.setRow ba (fdo (fbehind L) c).1.cells) ((Touch.refl (fun k => k = ba) w5).setRow (.inl rfl) _) hba6).left.left
  go_wp2
  refine bodyPost_ret (results_cell_tmp2 rfl _ _ ⟨ba, 0, none⟩ (.agg (fdo (fbehind L) c).1.cells) rfl (load_block isAnswer hba6)) rfl ?_
  exact ⟨none, 0, 0, rfl, rfl, Moved.chest (x := chestD L) (Moved.shut (gf := gf) (u := u) M6.out) rfl⟩

set_option maxHeartbeats 4000000 in
set_option maxRecDepth 100000 in
theorem store_call_change0 (w : World) (gs : Nat) (F : Nat → Prop) (L : List Record) (no : Int) (c : Call) (h : (repStore gs).on w F L) (hL : LogOk L) (hr : ¬ ((0 : Int) < 0 ∨ 3 ≤ (0 : Int) ∨ no < 1 ∨ 200 < no)) (hst : StrCall c) (hc : callCode c = 0) (hk : 1 ≤ c.kind ∧ c.kind ≤ 4) :
    Calls Try.prog 65 #[.pointer (some ⟨gs, 0, none⟩), .int .i64 0, .int .i64 no, .agg c.cells] w (SCallPost w gs F (chestCall L 0 no c)) := by
  have HCL := Lib.hid (chestCall_last (L := L) hr hc hk)
  have HOK := Lib.hid (show CallOk 0 no c from ⟨by decide, by omega, hc⟩)
  have HL := Lib.hid hL
  have M0 := Lib.hid (Rep.stays h)
  have HK := Lib.hid hk
  have h1 : ¬ no < 1 := by omega
  have h2 : ¬ 200 < no := by omega
  have HST := Lib.hid hst
  have HC := Lib.hid hc
  clear hst hc h hL hk hr
  go_enter Try.func65, Try.ntmps65
  go_wp2_with fail
  have m2 := (M0.out.box c.cells 31).box Answer.zero.cells 28
  simp only [World.size_alloc] at m2
  have M2 := Lib.hid m2
  clear m2
  generalize (w.alloc (.cells c.cells 31)).alloc (.cells Answer.zero.cells 28) = w2 at M2 ⊢
  generalize w.heap.size + 1 = ba at M2 ⊢
  generalize w.heap.size = bc at M2 ⊢
  refine (files_check' w2 c 0 HC.out HST.out).mono ?_
  rintro e w3 ⟨rfl, hx3⟩
  have M3 := Lib.hid (M2.out.behind hx3)
  have hbc3 := M3.out.left.blk
  have hcc3 := cell_of hbc3 0
  obtain ⟨F3, hF3, _⟩ := M3.out.p1
  obtain ⟨gf, u, hS3⟩ := hF3
  have hbs3 := (Rep.stays hS3).cell
  obtain ⟨X, hX⟩ : ∃ X, lastRec L 0 = X := ⟨_, rfl⟩
  have hX' : (chestD L).t0 = X := hX
  rw [hX] at HCL
  clear hx3 M2 hX hS3
  have hba3 := M3.out.blk
  obtain ⟨ltc, _⟩ := Array.getElem?_eq_some_iff.1 hbc3
  obtain ⟨lta, _⟩ := Array.getElem?_eq_some_iff.1 hba3
  by_cases e1 : no = X.no
  · have e1' : (no == X.no) = true := by simp [e1]
    by_cases e2 : c = X.call
    · have HP := Lib.hid (show chestCall L 0 no c = ((X.answer, 0, 0), L) by rw [HCL.out, if_pos ⟨e1, e2⟩])
      have e2' : (c = X.call) = True := eq_true e2
      clear e1 e2
      have hba4 := setRow_heap _ _ _ (X.answer).cells _ _ hba3
      have M5 := Lib.hid ((M3.out.turnB (w' := w3.setRow ba (X.answer).cells) ((Touch.refl (fun k => k = ba) w3).setRow (.inl rfl) _) hba4).left.left.behind ((Touch.refl _ _).alloc (.cells X.cells 49)))
      have hba5 : ((w3.setRow ba (X.answer).cells).alloc (.cells X.cells 49)).heap[ba]? = some (.cells (X.answer).cells 28 (0, 0)) := by
        rw [heap_alloc_past _ _ _ (by simp; omega)]
        exact hba4
      go_wp2_with (first
        |
          (go_at_call 52; refine (files_changes _ c.kind true (by have := HK.out; simp; omega)).mono ?_; rintro e w4 ⟨rfl, rfl⟩)
        | fail)
      refine bodyPost_ret (results_cell_tmp2 rfl _ _ ⟨ba, 0, none⟩ (.agg (X.answer).cells) rfl (load_block isAnswer hba5)) rfl ?_
      unfold SCallPost
      rw [HP.out]
      exact ⟨none, 0, 0, rfl, rfl, M5.out⟩
    · have HP := Lib.hid (show chestCall L 0 no c = ((Answer.zero, 0, 10), L) by rw [HCL.out, if_neg (fun h => e2 h.2), if_pos (by omega)])
      have e2' : (c = X.call) = False := eq_false e2
      clear e1 e2
      have hba4 := setRow_heap _ _ _ (Answer.zero).cells _ _ hba3
      have M5 := Lib.hid ((M3.out.turnB (w' := w3.setRow ba (Answer.zero).cells) ((Touch.refl (fun k => k = ba) w3).setRow (.inl rfl) _) hba4).left.left.behind ((Touch.refl _ _).alloc (.cells X.cells 49)))
      have hba5 : ((w3.setRow ba (Answer.zero).cells).alloc (.cells X.cells 49)).heap[ba]? = some (.cells (Answer.zero).cells 28 (0, 0)) := by
        rw [heap_alloc_past _ _ _ (by simp; omega)]
        exact hba4
      go_wp2_with (first
        |
          (go_at_call 52; refine (files_changes _ c.kind true (by have := HK.out; simp; omega)).mono ?_; rintro e w4 ⟨rfl, rfl⟩)
        | fail)
      refine bodyPost_ret (results_cell_tmp2 rfl _ _ ⟨ba, 0, none⟩ (.agg (Answer.zero).cells) rfl (load_block isAnswer hba5)) rfl ?_
      unfold SCallPost
      rw [HP.out]
      exact ⟨none, 0, 0, rfl, rfl, M5.out⟩
  · have e1' : (no == X.no) = false := by simp [e1]
    by_cases e3 : no < X.no
    · have HP := Lib.hid (show chestCall L 0 no c = ((Answer.zero, 0, 10), L) by rw [HCL.out, if_neg (fun h => e1 h.1), if_pos (by omega)])
      clear e1
      have hba4 := setRow_heap _ _ _ (Answer.zero).cells _ _ hba3
      have M5 := Lib.hid ((M3.out.turnB (w' := w3.setRow ba (Answer.zero).cells) ((Touch.refl (fun k => k = ba) w3).setRow (.inl rfl) _) hba4).left.left.behind ((Touch.refl _ _).alloc (.cells X.cells 49)))
      have hba5 : ((w3.setRow ba (Answer.zero).cells).alloc (.cells X.cells 49)).heap[ba]? = some (.cells (Answer.zero).cells 28 (0, 0)) := by
        rw [heap_alloc_past _ _ _ (by simp; omega)]
        exact hba4
      go_wp2_with (first
        |
          (go_at_call 52; refine (files_changes _ c.kind true (by have := HK.out; simp; omega)).mono ?_; rintro e w4 ⟨rfl, rfl⟩)
        | fail)
      refine bodyPost_ret (results_cell_tmp2 rfl _ _ ⟨ba, 0, none⟩ (.agg (Answer.zero).cells) rfl (load_block isAnswer hba5)) rfl ?_
      unfold SCallPost
      rw [HP.out]
      exact ⟨none, 0, 0, rfl, rfl, M5.out⟩
    · have HP := Lib.hid (show chestCall L 0 no c = chestNew L 0 no c by rw [HCL.out, if_neg (fun h => e1 h.1), if_neg (by omega)])
      clear e1
      go_wp2_with (first
        |
          (go_at_call 52; refine (files_changes _ c.kind true (by have := HK.out; simp; omega)).mono ?_; rintro e w4 ⟨rfl, rfl⟩)
        | fail)
      have M4 := Lib.hid (M3.out.behind ((Touch.refl _ w3).alloc (.cells X.cells 49)))
      obtain ⟨F4, hF4, hm4⟩ := M4.out.p1
      refine (store_new_call _ gs F4 L 0 no c hF4 HL.out HOK.out HK.out).mono ?_
      rintro e w5 ⟨A5, n5, c5, rfl, hn5, hq5⟩
      have M5 := Lib.hid (hm4 _ _ hq5)
      have HN5 := Lib.hid hn5
      have hba5 := M5.out.blk
      generalize chestNew L 0 no c = R at *
      have hba6 := setRow_heap _ _ _ R.1.1.cells _ _ hba5
      have M6 := Lib.hid (M5.out.turnB (w' := w5.setRow ba R.1.1.cells) ((Touch.refl (fun k => k = ba) w5).setRow (.inl rfl) _) hba6).left.left
      clear hF4 hm4 hq5 hn5 M4
      go_wp2
      refine bodyPost_ret (results_cell_tmp2 rfl _ _ ⟨ba, 0, none⟩ (.agg R.1.1.cells) rfl (load_block isAnswer hba6)) rfl ?_
      unfold SCallPost
      rw [HP.out]
      exact ⟨A5, n5, c5, rfl, HN5.out, M6.out⟩
set_option maxHeartbeats 4000000 in
set_option maxRecDepth 100000 in
theorem store_call_change1 (w : World) (gs : Nat) (F : Nat → Prop) (L : List Record) (no : Int) (c : Call) (h : (repStore gs).on w F L) (hL : LogOk L) (hr : ¬ ((1 : Int) < 0 ∨ 3 ≤ (1 : Int) ∨ no < 1 ∨ 200 < no)) (hst : StrCall c) (hc : callCode c = 0) (hk : 1 ≤ c.kind ∧ c.kind ≤ 4) :
    Calls Try.prog 65 #[.pointer (some ⟨gs, 0, none⟩), .int .i64 1, .int .i64 no, .agg c.cells] w (SCallPost w gs F (chestCall L 1 no c)) := by
  have HCL := Lib.hid (chestCall_last (L := L) hr hc hk)
  have HOK := Lib.hid (show CallOk 1 no c from ⟨by decide, by omega, hc⟩)
  have HL := Lib.hid hL
  have M0 := Lib.hid (Rep.stays h)
  have HK := Lib.hid hk
  have h1 : ¬ no < 1 := by omega
  have h2 : ¬ 200 < no := by omega
  have HST := Lib.hid hst
  have HC := Lib.hid hc
  clear hst hc h hL hk hr
  go_enter Try.func65, Try.ntmps65
  go_wp2_with fail
  have m2 := (M0.out.box c.cells 31).box Answer.zero.cells 28
  simp only [World.size_alloc] at m2
  have M2 := Lib.hid m2
  clear m2
  generalize (w.alloc (.cells c.cells 31)).alloc (.cells Answer.zero.cells 28) = w2 at M2 ⊢
  generalize w.heap.size + 1 = ba at M2 ⊢
  generalize w.heap.size = bc at M2 ⊢
  refine (files_check' w2 c 0 HC.out HST.out).mono ?_
  rintro e w3 ⟨rfl, hx3⟩
  have M3 := Lib.hid (M2.out.behind hx3)
  have hbc3 := M3.out.left.blk
  have hcc3 := cell_of hbc3 0
  obtain ⟨F3, hF3, _⟩ := M3.out.p1
  obtain ⟨gf, u, hS3⟩ := hF3
  have hbs3 := (Rep.stays hS3).cell
  obtain ⟨X, hX⟩ : ∃ X, lastRec L 1 = X := ⟨_, rfl⟩
  have hX' : (chestD L).t1 = X := hX
  rw [hX] at HCL
  clear hx3 M2 hX hS3
  have hba3 := M3.out.blk
  obtain ⟨ltc, _⟩ := Array.getElem?_eq_some_iff.1 hbc3
  obtain ⟨lta, _⟩ := Array.getElem?_eq_some_iff.1 hba3
  by_cases e1 : no = X.no
  · have e1' : (no == X.no) = true := by simp [e1]
    by_cases e2 : c = X.call
    · have HP := Lib.hid (show chestCall L 1 no c = ((X.answer, 0, 0), L) by rw [HCL.out, if_pos ⟨e1, e2⟩])
      have e2' : (c = X.call) = True := eq_true e2
      clear e1 e2
      have hba4 := setRow_heap _ _ _ (X.answer).cells _ _ hba3
      have M5 := Lib.hid ((M3.out.turnB (w' := w3.setRow ba (X.answer).cells) ((Touch.refl (fun k => k = ba) w3).setRow (.inl rfl) _) hba4).left.left.behind ((Touch.refl _ _).alloc (.cells X.cells 49)))
      have hba5 : ((w3.setRow ba (X.answer).cells).alloc (.cells X.cells 49)).heap[ba]? = some (.cells (X.answer).cells 28 (0, 0)) := by
        rw [heap_alloc_past _ _ _ (by simp; omega)]
        exact hba4
      go_wp2_with (first
        |
          (go_at_call 52; refine (files_changes _ c.kind true (by have := HK.out; simp; omega)).mono ?_; rintro e w4 ⟨rfl, rfl⟩)
        | fail)
      refine bodyPost_ret (results_cell_tmp2 rfl _ _ ⟨ba, 0, none⟩ (.agg (X.answer).cells) rfl (load_block isAnswer hba5)) rfl ?_
      unfold SCallPost
      rw [HP.out]
      exact ⟨none, 0, 0, rfl, rfl, M5.out⟩
    · have HP := Lib.hid (show chestCall L 1 no c = ((Answer.zero, 0, 10), L) by rw [HCL.out, if_neg (fun h => e2 h.2), if_pos (by omega)])
      have e2' : (c = X.call) = False := eq_false e2
      clear e1 e2
      have hba4 := setRow_heap _ _ _ (Answer.zero).cells _ _ hba3
      have M5 := Lib.hid ((M3.out.turnB (w' := w3.setRow ba (Answer.zero).cells) ((Touch.refl (fun k => k = ba) w3).setRow (.inl rfl) _) hba4).left.left.behind ((Touch.refl _ _).alloc (.cells X.cells 49)))
      have hba5 : ((w3.setRow ba (Answer.zero).cells).alloc (.cells X.cells 49)).heap[ba]? = some (.cells (Answer.zero).cells 28 (0, 0)) := by
        rw [heap_alloc_past _ _ _ (by simp; omega)]
        exact hba4
      go_wp2_with (first
        |
          (go_at_call 52; refine (files_changes _ c.kind true (by have := HK.out; simp; omega)).mono ?_; rintro e w4 ⟨rfl, rfl⟩)
        | fail)
      refine bodyPost_ret (results_cell_tmp2 rfl _ _ ⟨ba, 0, none⟩ (.agg (Answer.zero).cells) rfl (load_block isAnswer hba5)) rfl ?_
      unfold SCallPost
      rw [HP.out]
      exact ⟨none, 0, 0, rfl, rfl, M5.out⟩
  · have e1' : (no == X.no) = false := by simp [e1]
    by_cases e3 : no < X.no
    · have HP := Lib.hid (show chestCall L 1 no c = ((Answer.zero, 0, 10), L) by rw [HCL.out, if_neg (fun h => e1 h.1), if_pos (by omega)])
      clear e1
      have hba4 := setRow_heap _ _ _ (Answer.zero).cells _ _ hba3
      have M5 := Lib.hid ((M3.out.turnB (w' := w3.setRow ba (Answer.zero).cells) ((Touch.refl (fun k => k = ba) w3).setRow (.inl rfl) _) hba4).left.left.behind ((Touch.refl _ _).alloc (.cells X.cells 49)))
      have hba5 : ((w3.setRow ba (Answer.zero).cells).alloc (.cells X.cells 49)).heap[ba]? = some (.cells (Answer.zero).cells 28 (0, 0)) := by
        rw [heap_alloc_past _ _ _ (by simp; omega)]
        exact hba4
      go_wp2_with (first
        |
          (go_at_call 52; refine (files_changes _ c.kind true (by have := HK.out; simp; omega)).mono ?_; rintro e w4 ⟨rfl, rfl⟩)
        | fail)
      refine bodyPost_ret (results_cell_tmp2 rfl _ _ ⟨ba, 0, none⟩ (.agg (Answer.zero).cells) rfl (load_block isAnswer hba5)) rfl ?_
      unfold SCallPost
      rw [HP.out]
      exact ⟨none, 0, 0, rfl, rfl, M5.out⟩
    · have HP := Lib.hid (show chestCall L 1 no c = chestNew L 1 no c by rw [HCL.out, if_neg (fun h => e1 h.1), if_neg (by omega)])
      clear e1
      go_wp2_with (first
        |
          (go_at_call 52; refine (files_changes _ c.kind true (by have := HK.out; simp; omega)).mono ?_; rintro e w4 ⟨rfl, rfl⟩)
        | fail)
      have M4 := Lib.hid (M3.out.behind ((Touch.refl _ w3).alloc (.cells X.cells 49)))
      obtain ⟨F4, hF4, hm4⟩ := M4.out.p1
      refine (store_new_call _ gs F4 L 1 no c hF4 HL.out HOK.out HK.out).mono ?_
      rintro e w5 ⟨A5, n5, c5, rfl, hn5, hq5⟩
      have M5 := Lib.hid (hm4 _ _ hq5)
      have HN5 := Lib.hid hn5
      have hba5 := M5.out.blk
      generalize chestNew L 1 no c = R at *
      have hba6 := setRow_heap _ _ _ R.1.1.cells _ _ hba5
      have M6 := Lib.hid (M5.out.turnB (w' := w5.setRow ba R.1.1.cells) ((Touch.refl (fun k => k = ba) w5).setRow (.inl rfl) _) hba6).left.left
      clear hF4 hm4 hq5 hn5 M4
      go_wp2
      refine bodyPost_ret (results_cell_tmp2 rfl _ _ ⟨ba, 0, none⟩ (.agg R.1.1.cells) rfl (load_block isAnswer hba6)) rfl ?_
      unfold SCallPost
      rw [HP.out]
      exact ⟨A5, n5, c5, rfl, HN5.out, M6.out⟩
set_option maxHeartbeats 4000000 in
set_option maxRecDepth 100000 in
theorem store_call_change2 (w : World) (gs : Nat) (F : Nat → Prop) (L : List Record) (no : Int) (c : Call) (h : (repStore gs).on w F L) (hL : LogOk L) (hr : ¬ ((2 : Int) < 0 ∨ 3 ≤ (2 : Int) ∨ no < 1 ∨ 200 < no)) (hst : StrCall c) (hc : callCode c = 0) (hk : 1 ≤ c.kind ∧ c.kind ≤ 4) :
    Calls Try.prog 65 #[.pointer (some ⟨gs, 0, none⟩), .int .i64 2, .int .i64 no, .agg c.cells] w (SCallPost w gs F (chestCall L 2 no c)) := by
  have HCL := Lib.hid (chestCall_last (L := L) hr hc hk)
  have HOK := Lib.hid (show CallOk 2 no c from ⟨by decide, by omega, hc⟩)
  have HL := Lib.hid hL
  have M0 := Lib.hid (Rep.stays h)
  have HK := Lib.hid hk
  have h1 : ¬ no < 1 := by omega
  have h2 : ¬ 200 < no := by omega
  have HST := Lib.hid hst
  have HC := Lib.hid hc
  clear hst hc h hL hk hr
  go_enter Try.func65, Try.ntmps65
  go_wp2_with fail
  have m2 := (M0.out.box c.cells 31).box Answer.zero.cells 28
  simp only [World.size_alloc] at m2
  have M2 := Lib.hid m2
  clear m2
  generalize (w.alloc (.cells c.cells 31)).alloc (.cells Answer.zero.cells 28) = w2 at M2 ⊢
  generalize w.heap.size + 1 = ba at M2 ⊢
  generalize w.heap.size = bc at M2 ⊢
  refine (files_check' w2 c 0 HC.out HST.out).mono ?_
  rintro e w3 ⟨rfl, hx3⟩
  have M3 := Lib.hid (M2.out.behind hx3)
  have hbc3 := M3.out.left.blk
  have hcc3 := cell_of hbc3 0
  obtain ⟨F3, hF3, _⟩ := M3.out.p1
  obtain ⟨gf, u, hS3⟩ := hF3
  have hbs3 := (Rep.stays hS3).cell
  obtain ⟨X, hX⟩ : ∃ X, lastRec L 2 = X := ⟨_, rfl⟩
  have hX' : (chestD L).t2 = X := hX
  rw [hX] at HCL
  clear hx3 M2 hX hS3
  have hba3 := M3.out.blk
  obtain ⟨ltc, _⟩ := Array.getElem?_eq_some_iff.1 hbc3
  obtain ⟨lta, _⟩ := Array.getElem?_eq_some_iff.1 hba3
  by_cases e1 : no = X.no
  · have e1' : (no == X.no) = true := by simp [e1]
    by_cases e2 : c = X.call
    · have HP := Lib.hid (show chestCall L 2 no c = ((X.answer, 0, 0), L) by rw [HCL.out, if_pos ⟨e1, e2⟩])
      have e2' : (c = X.call) = True := eq_true e2
      clear e1 e2
      have hba4 := setRow_heap _ _ _ (X.answer).cells _ _ hba3
      have M5 := Lib.hid ((M3.out.turnB (w' := w3.setRow ba (X.answer).cells) ((Touch.refl (fun k => k = ba) w3).setRow (.inl rfl) _) hba4).left.left.behind ((Touch.refl _ _).alloc (.cells X.cells 49)))
      have hba5 : ((w3.setRow ba (X.answer).cells).alloc (.cells X.cells 49)).heap[ba]? = some (.cells (X.answer).cells 28 (0, 0)) := by
        rw [heap_alloc_past _ _ _ (by simp; omega)]
        exact hba4
      go_wp2_with (first
        |
          (go_at_call 52; refine (files_changes _ c.kind true (by have := HK.out; simp; omega)).mono ?_; rintro e w4 ⟨rfl, rfl⟩)
        | fail)
      refine bodyPost_ret (results_cell_tmp2 rfl _ _ ⟨ba, 0, none⟩ (.agg (X.answer).cells) rfl (load_block isAnswer hba5)) rfl ?_
      unfold SCallPost
      rw [HP.out]
      exact ⟨none, 0, 0, rfl, rfl, M5.out⟩
    · have HP := Lib.hid (show chestCall L 2 no c = ((Answer.zero, 0, 10), L) by rw [HCL.out, if_neg (fun h => e2 h.2), if_pos (by omega)])
      have e2' : (c = X.call) = False := eq_false e2
      clear e1 e2
      have hba4 := setRow_heap _ _ _ (Answer.zero).cells _ _ hba3
      have M5 := Lib.hid ((M3.out.turnB (w' := w3.setRow ba (Answer.zero).cells) ((Touch.refl (fun k => k = ba) w3).setRow (.inl rfl) _) hba4).left.left.behind ((Touch.refl _ _).alloc (.cells X.cells 49)))
      have hba5 : ((w3.setRow ba (Answer.zero).cells).alloc (.cells X.cells 49)).heap[ba]? = some (.cells (Answer.zero).cells 28 (0, 0)) := by
        rw [heap_alloc_past _ _ _ (by simp; omega)]
        exact hba4
      go_wp2_with (first
        |
          (go_at_call 52; refine (files_changes _ c.kind true (by have := HK.out; simp; omega)).mono ?_; rintro e w4 ⟨rfl, rfl⟩)
        | fail)
      refine bodyPost_ret (results_cell_tmp2 rfl _ _ ⟨ba, 0, none⟩ (.agg (Answer.zero).cells) rfl (load_block isAnswer hba5)) rfl ?_
      unfold SCallPost
      rw [HP.out]
      exact ⟨none, 0, 0, rfl, rfl, M5.out⟩
  · have e1' : (no == X.no) = false := by simp [e1]
    by_cases e3 : no < X.no
    · have HP := Lib.hid (show chestCall L 2 no c = ((Answer.zero, 0, 10), L) by rw [HCL.out, if_neg (fun h => e1 h.1), if_pos (by omega)])
      clear e1
      have hba4 := setRow_heap _ _ _ (Answer.zero).cells _ _ hba3
      have M5 := Lib.hid ((M3.out.turnB (w' := w3.setRow ba (Answer.zero).cells) ((Touch.refl (fun k => k = ba) w3).setRow (.inl rfl) _) hba4).left.left.behind ((Touch.refl _ _).alloc (.cells X.cells 49)))
      have hba5 : ((w3.setRow ba (Answer.zero).cells).alloc (.cells X.cells 49)).heap[ba]? = some (.cells (Answer.zero).cells 28 (0, 0)) := by
        rw [heap_alloc_past _ _ _ (by simp; omega)]
        exact hba4
      go_wp2_with (first
        |
          (go_at_call 52; refine (files_changes _ c.kind true (by have := HK.out; simp; omega)).mono ?_; rintro e w4 ⟨rfl, rfl⟩)
        | fail)
      refine bodyPost_ret (results_cell_tmp2 rfl _ _ ⟨ba, 0, none⟩ (.agg (Answer.zero).cells) rfl (load_block isAnswer hba5)) rfl ?_
      unfold SCallPost
      rw [HP.out]
      exact ⟨none, 0, 0, rfl, rfl, M5.out⟩
    · have HP := Lib.hid (show chestCall L 2 no c = chestNew L 2 no c by rw [HCL.out, if_neg (fun h => e1 h.1), if_neg (by omega)])
      clear e1
      go_wp2_with (first
        |
          (go_at_call 52; refine (files_changes _ c.kind true (by have := HK.out; simp; omega)).mono ?_; rintro e w4 ⟨rfl, rfl⟩)
        | fail)
      have M4 := Lib.hid (M3.out.behind ((Touch.refl _ w3).alloc (.cells X.cells 49)))
      obtain ⟨F4, hF4, hm4⟩ := M4.out.p1
      refine (store_new_call _ gs F4 L 2 no c hF4 HL.out HOK.out HK.out).mono ?_
      rintro e w5 ⟨A5, n5, c5, rfl, hn5, hq5⟩
      have M5 := Lib.hid (hm4 _ _ hq5)
      have HN5 := Lib.hid hn5
      have hba5 := M5.out.blk
      generalize chestNew L 2 no c = R at *
      have hba6 := setRow_heap _ _ _ R.1.1.cells _ _ hba5
      have M6 := Lib.hid (M5.out.turnB (w' := w5.setRow ba R.1.1.cells) ((Touch.refl (fun k => k = ba) w5).setRow (.inl rfl) _) hba6).left.left
      clear hF4 hm4 hq5 hn5 M4
      go_wp2
      refine bodyPost_ret (results_cell_tmp2 rfl _ _ ⟨ba, 0, none⟩ (.agg R.1.1.cells) rfl (load_block isAnswer hba6)) rfl ?_
      unfold SCallPost
      rw [HP.out]
      exact ⟨A5, n5, c5, rfl, HN5.out, M6.out⟩
theorem store_call (w : World) (gs : Nat) (F : Nat → Prop) (L : List Record) (client no : Int) (c : Call) (h : (repStore gs).on w F L) (hL : LogOk L) (hst : StrCall c) :
    Calls Try.prog 65 #[.pointer (some ⟨gs, 0, none⟩), .int .i64 client, .int .i64 no, .agg c.cells] w (SCallPost w gs F (chestCall L client no c)) := by
  by_cases hr : client < 0 ∨ 3 ≤ client ∨ no < 1 ∨ 200 < no
  · rw [chestCall_range hr]
    exact store_call_range w gs F L client no c h hr
  by_cases hc : callCode c = 0
  · by_cases hk : 1 ≤ c.kind ∧ c.kind ≤ 4
    · obtain rfl | rfl | rfl : client = 0 ∨ client = 1 ∨ client = 2 := by omega
      · exact store_call_change0 w gs F L no c h hL hr hst hc hk
      · exact store_call_change1 w gs F L no c h hL hr hst hc hk
      · exact store_call_change2 w gs F L no c h hL hr hst hc hk
    · rw [chestCall_ask hr hc hk]
      exact store_call_ask w gs F L client no c h hr hst hc hk
  · rw [chestCall_check hr hc]
    exact store_call_check w gs F L client no c _ h hr hst rfl hc
end Go.Proofs.Ytalfbhhldfffkab

namespace Go.Proofs.Ytalfbhhldfffkab
open Go.RowKit

def SPost (w : World) (gs : Nat) (F : Nat → Prop) (r : (Answer × Int × Int) × List Record) (e : Ending) (w' : World) : Prop :=
  e = .returned (.tuple #[.agg r.1.1.cells, .int .i64 r.1.2.2]) ∧ Moved (repStore gs) w F r.2 w'
set_option maxHeartbeats 1000000 in
set_option maxRecDepth 100000 in
theorem store_calls (w : World) (gs : Nat) (F : Nat → Prop) (L : List Record) (client no : Int) (c : Call) (h : (repStore gs).on w F L) (hL : LogOk L) (hst : StrCall c) :
    Calls Try.prog 33 #[.pointer (some ⟨gs, 0, none⟩), .int .i64 client, .int .i64 no, .agg c.cells] w (SPost w gs F (chestCall L client no c)) := by
  have M0 := Lib.hid (Rep.stays h)
  have HL := Lib.hid hL
  have HST := Lib.hid hst
  clear h hL hst
  go_enter Try.func33, Try.ntmps33
  go_wp2_with fail
  have m2 := (M0.out.behind ((Touch.refl _ w).alloc (.cells c.cells 31))).box Answer.zero.cells 28
  simp only [World.size_alloc] at m2
  have M2 := Lib.hid m2
  clear m2
  generalize (w.alloc (.cells c.cells 31)).alloc (.cells Answer.zero.cells 28) = w2 at M2 ⊢
  generalize w.heap.size + 1 = ba at M2 ⊢
  obtain ⟨F2, hF2, hm2⟩ := M2.out.fstM
  refine (store_call w2 gs F2 L client no c hF2 HL.out HST.out).mono ?_
  rintro e w3 ⟨A3, n3, c3, rfl, _, hq3⟩
  have M3 := Lib.hid (hm2 _ _ hq3)
  have HR := Lib.hid (show chestCall L client no c = chestCall L client no c from rfl)
  generalize hR : chestCall L client no c = R at *
  have HRR := Lib.hid hR
  have hba3 := M3.out.blk
  obtain ⟨lta, _⟩ := Array.getElem?_eq_some_iff.1 hba3
  have hba4 := setRow_heap _ _ _ R.1.1.cells _ _ hba3
  have M5 := Lib.hid ((M3.out.turnB (w' := w3.setRow ba R.1.1.cells) ((Touch.refl (fun k => k = ba) w3).setRow (.inl rfl) _) hba4).left.behind ((Touch.refl _ _).alloc (.cells R.1.1.cells 28)))
  have hba5 : ((w3.setRow ba R.1.1.cells).alloc (.cells R.1.1.cells 28)).heap[ba]? = some (.cells R.1.1.cells 28 (0, 0)) := by
    rw [heap_alloc_past _ _ _ (by simp; omega)]
    exact hba4
  clear hF2 hm2 hq3 M2 hR HR
  go_wp2
  refine bodyPost_ret (results_cell_tmp rfl _ _ ⟨ba, 0, none⟩ (.agg R.1.1.cells) rfl (load_block isAnswer hba5)) rfl ?_
  unfold SPost
  try rw [HRR.out]
  exact ⟨rfl, M5.out⟩

theorem Owns.upto {α : Type} [Lies α] {w : World} {e : TypeId} {A : Option Addr} {n c : Nat} {l : List α} (h : Owns w e (.slice A n c) l) (k : Nat) (hk : k ≤ l.length) : Owns w e (.slice A k c) (l.take k) := by
  rcases h.2 with ⟨hv, h0⟩ | ⟨g, cap, cur, hv, hb, hg, hn, hc, hs, ht⟩
  · have hl : l = [] := List.eq_nil_of_length_eq_zero h0
    subst hl
    obtain rfl : k = 0 := by simpa using hk
    cases hv
    exact Owns.nil _ _
  · injection hv with e1 e2 e3
    subst e1 e3
    exact own_take_drop hg (by rw [List.length_take]; omega) (by omega) hc hs (by
      rw [← flat_take, ← ht, List.take_take, Nat.min_eq_left (Nat.mul_le_mul hk (Nat.le_refl _))])

theorem Moved.upto {X α : Type} [Lies α] {S : Rep X} {E : TypeId} {w wr : World} {F : Nat → Prop} {x : X} {A : Option Addr} {n c : Nat} {l : List α} (h : Moved (S.and (repOwn E)) w F (x, (.slice A n c, l)) wr) (k : Nat) (hk : k ≤ l.length) :
    Moved (S.and (repOwn E)) w F (x, (.slice A k c, l.take k)) wr := by
  obtain ⟨F', ⟨F1, G, h1, hG, hd, hH⟩, ht, hf⟩ := h
  refine ⟨F', ⟨F1, G, h1, ⟨fun j => (hG.1 j).trans ?_, hG.2.upto k hk⟩, hd, hH⟩, ht, hf⟩
  cases A <;> exact Iff.rfl
theorem tear_log {L : List Record} (hL : LogOk L) (client no : Int) (c : Call) (keep : Int) (n : Nat) (hn : (n : Int) = (chestCall L client no c).1.2.1) (h0 : (chestCall L client no c).1.2.2 = 0) :
    recAll ((logBytes (chestCall L client no c).2).take ((logBytes (chestCall L client no c).2).length - (n - keep.toNat))) = (chestTear L client no c keep).2 := by
  unfold chestTear
  have hok := chestCall_ok hL client no c
  have hw := chest_way L client no c
  generalize chestCall L client no c = r at *
  have hall : recAll (logBytes r.2) = r.2 := recAll_log hok.each
  by_cases hcut : 0 < r.1.2.1 ∧ keep < r.1.2.1
  · show _ = if r.1.2.2 = 0 ∧ 0 < r.1.2.1 ∧ keep < r.1.2.1 then L else r.2
    rw [if_pos ⟨h0, hcut⟩]
    rcases hw with ⟨k, hk, rfl⟩ | ⟨_, _, rfl⟩ | ⟨_, _, x, _, _, _, rfl⟩ | ⟨hc, hk, hl, hs, rfl⟩
    · exact absurd h0 hk
    · exact absurd hcut.1 (by show ¬ (0 : Int) < 0; omega)
    · exact absurd hcut.1 (by show ¬ (0 : Int) < 0; omega)
    · have hlen := length_new L client no c (fdo (fbehind L) c).1
      have hnew := new_ok (L := L) hc hk
      have hnn : n = (recBytes ⟨client, no, c, Answer.zero⟩).length := by
        have : (n : Int) = ((recBytes ⟨client, no, c, Answer.zero⟩).length : Int) := hn
        omega
      have hkn : keep < (n : Int) := by rw [hnn]; exact hcut.2
      have hn0 : 0 < n := by have : (0 : Int) < n := by rw [hn]; exact hcut.1
                             omega
      have h2 : (recBytes ⟨client, no, c, (fdo (fbehind L) c).1⟩).length = n := by rw [hnn, length_recBytes, length_recBytes]
      show recAll ((logBytes (L ++ [⟨client, no, c, (fdo (fbehind L) c).1⟩])).take ((logBytes (L ++ [⟨client, no, c, (fdo (fbehind L) c).1⟩])).length - (n - keep.toNat))) = L
      rw [show (logBytes (L ++ [⟨client, no, c, (fdo (fbehind L) c).1⟩])).length - (n - keep.toNat) = (logBytes L).length + keep.toNat by rw [hlen, ← hnn]; omega]
      exact log_torn hL.each hnew keep.toNat (by rw [h2]; omega)
  · show _ = if r.1.2.2 = 0 ∧ 0 < r.1.2.1 ∧ keep < r.1.2.1 then L else r.2
    rw [if_neg (fun h => hcut h.2)]
    have : n - keep.toNat = 0 := by omega
    rw [this, Nat.sub_zero, List.take_length]
    exact hall
def STPost (w : World) (gs : Nat) (F : Nat → Prop) (r : Int × List Record) (e : Ending) (w' : World) : Prop :=
  e = .returned (.int .i64 r.1) ∧ Moved (repStore gs) w F r.2 w'
set_option maxHeartbeats 2000000 in
set_option maxRecDepth 100000 in
theorem store_Tear (w : World) (gs : Nat) (F : Nat → Prop) (L : List Record) (client no : Int) (c : Call) (keep : Int) (h : (repStore gs).on w F L) (hL : LogOk L) (hst : StrCall c) (hkeep : I64 keep) :
    Calls Try.prog 35 #[.pointer (some ⟨gs, 0, none⟩), .int .i64 client, .int .i64 no, .agg c.cells, .int .i64 keep] w (STPost w gs F (chestTear L client no c keep)) := by
  have M0 := Lib.hid (Rep.stays h)
  have HL := Lib.hid hL
  have HST := Lib.hid hst
  have hk1 := hkeep.1
  have hk2 := hkeep.2
  clear h hL hst hkeep
  go_enter Try.func35, Try.ntmps35
  go_wp2_with fail
  have M2 := Lib.hid (M0.out.behind ((Touch.refl _ w).alloc (.cells c.cells 31)))
  generalize w.alloc (.cells c.cells 31) = w2 at M2 ⊢
  obtain ⟨F2, hF2, hm2⟩ := M2.out.opened
  refine (store_call w2 gs F2 L client no c hF2 HL.out HST.out).mono ?_
  rintro e w3 ⟨A3, n3, c3, rfl, hn3, hq3⟩
  have M3 := Lib.hid (hm2 _ _ hq3)
  have HN3 := Lib.hid hn3
  have HOK := Lib.hid (chestCall_ok HL.out client no c)
  clear hF2 hm2 hq3 M2 hn3
  by_cases h0 : (chestCall L client no c).1.2.2 = 0
  · have HT := Lib.hid (tear_log HL.out client no c keep n3 HN3.out h0)
    have HT1 := Lib.hid (show (chestTear L client no c keep).1 = 0 from h0)
    have h0' : ((chestCall L client no c).1.2.2 != 0) = false := by simp [h0]
    have hlog := HOK.out.len
    have hn3' : (n3 : Int) ≤ 2000 := by
      have hw := chest_way L client no c
      have h1 := HN3.out
      generalize chestCall L client no c = r at *
      rcases hw with ⟨k, hk, rfl⟩ | ⟨_, _, rfl⟩ | ⟨_, _, x, _, _, _, rfl⟩ | ⟨hc, hk, hl, hs, rfl⟩
      · rw [h1]; show (0 : Int) ≤ 2000; omega
      · rw [h1]; show (0 : Int) ≤ 2000; omega
      · rw [h1]; show (0 : Int) ≤ 2000; omega
      · rw [h1]; show ((recBytes _).length : Int) ≤ 2000; omega
    have hn4 : n3 ≤ (logBytes (chestCall L client no c).2).length := by
      have hw := chest_way L client no c
      have h1 := HN3.out
      generalize chestCall L client no c = r at *
      rcases hw with ⟨k, hk, rfl⟩ | ⟨_, _, rfl⟩ | ⟨_, _, x, _, _, _, rfl⟩ | ⟨hc, hk, hl, hs, rfl⟩
      · have : (n3 : Int) = 0 := h1
        omega
      · have : (n3 : Int) = 0 := h1
        omega
      · have : (n3 : Int) = 0 := h1
        omega
      · have h1 : (n3 : Int) = ((recBytes ⟨client, no, c, Answer.zero⟩).length : Int) := h1
        show n3 ≤ (logBytes (L ++ [_])).length
        rw [length_new]
        omega
    obtain ⟨F3, ⟨gf, u, hS3⟩, hm3⟩ := M3.out.opened
    obtain ⟨Au, cu, hu, _⟩ := (Rep.stays hS3).own3.form
    generalize (chestCall L client no c).1.1 = a at *
    generalize (chestCall L client no c).1.2.2 = code at *
    generalize (chestCall L client no c).2 = L' at *
    have hu : u = .slice Au (logBytes L').length cu := hu
    subst hu
    have M3a := Lib.hid (Rep.stays hS3)
    have HM3 := Lib.hid hm3
    have hbs3 := M3a.out.cell
    clear hS3 hm3 M3
    have hcut : max ((n3 : Int) - max keep 0) 0 = ((n3 - keep.toNat : Nat) : Int) := by omega
    obtain ⟨m, hm⟩ : ∃ m, (logBytes L').length - (n3 - keep.toNat) = m := ⟨_, rfl⟩
    have hmle : m ≤ (logBytes L').length := by omega
    have hsub : ((logBytes L').length : Int) - ((n3 - keep.toNat : Nat) : Int) = (m : Int) := by omega
    have hcu : (logBytes L').length ≤ cu := by
      obtain ⟨A', c', e, h1, _⟩ := M3a.out.own3.form
      injection e with e1 e2 e3
      rw [e3]
      exact h1
    have hmcu : (m : Int) ≤ cu := by omega
    rw [hm] at HT
    clear hm
    generalize n3 - keep.toNat = k at *
    have M4 := Lib.hid (M3a.out.behind ((Touch.refl _ w3).alloc (.cells a.cells 28)))
    have hbs4 := M4.out.cell
    obtain ⟨lt4, at4⟩ := Array.getElem?_eq_some_iff.1 hbs4
    have hcb4 := cell_of hbs4 1
    rw [StoreD.get1] at hcb4
    have hfr4 := frozen_of hbs4 1
    have hbs5 := setCell_heap hbs4 1 (.slice Au m cu)
    rw [StoreD.set1] at hbs5
    have M5 := Lib.hid (((M4.out.turn (w' := (w3.alloc (.cells a.cells 28)).setCell ⟨gs, 1, none⟩ (.slice Au m cu)) ((Touch.refl (fun k => k = gs) _).setCell (a := ⟨gs, 1, none⟩) (.inl rfl) _) hbs5).upto m hmle).behind (Touch.drew (Touch.refl _ _)))
    obtain ⟨F5, hF5, hm5⟩ := (Moved.shut (x := { chestD L' with log := (logBytes L').take m }) (gf := gf) (u := .slice Au m cu) M5.out).opened
    have HF5 := Lib.hid hF5
    have HM5 := Lib.hid hm5
    clear hF5 hm5 hbs5 M5
    go_wp2_with fail
    generalize w3.alloc (.cells a.cells 28) = w4 at M4 HF5 HM5 hbs4 lt4 at4 hcb4 hfr4 ⊢
    go_region
    all_goals
      go_wp2_with fail
      refine (store_crash _ gs F5 _ HF5.out (by show ((logBytes L').take m).length ≤ 10000; rw [List.length_take]; omega)).mono ?_
      rintro e w6 ⟨rfl, hq6⟩
      have M6 := HM3.out _ _ (HM5.out _ _ hq6)
      rw [show recAll ({ chestD L' with log := (logBytes L').take m } : StoreD).log = (chestTear L client no c keep).2 from HT.out] at M6
      have M7 := Lib.hid M6
      clear hq6 M6
      go_wp2
      go_ret
      exact ⟨by rw [HT1.out]; rfl, M7.out⟩
  · have HT := Lib.hid (show chestTear L client no c keep = ((chestCall L client no c).1.2.2, (chestCall L client no c).2) by unfold chestTear; rw [if_neg (fun h => h0 h.1)])
    have h0' : ((chestCall L client no c).1.2.2 != 0) = true := by simp [h0]
    have M4 := Lib.hid (M3.out.behind ((Touch.refl _ w3).alloc (.cells (chestCall L client no c).1.1.cells 28)))
    go_wp2
    go_ret
    unfold STPost
    rw [HT.out]
    exact ⟨rfl, M4.out⟩
end Go.Proofs.Ytalfbhhldfffkab

namespace Go.Proofs.Ytalfbhhldfffkab
open Go.RowKit

section
variable {X Y : Type} {R : Rep X} {S : Rep Y} {w w' wr : World} {F : Nat → Prop} {x x' : X} {y y' : Y}
theorem Moved.beside (h : Moved R w F x wr) (h2 : Has S wr w' y) : Moved (R.and S) w F (x, y) w' := by
  obtain ⟨F', h1, ht, hf⟩ := h
  obtain ⟨G, hG, hn⟩ := h2.ex
  exact Moved.after ht hf (Rep.beside h1 (h2.ext.mono fun _ h => h.elim) (R.ext h1 h2.ext) hG hn)
theorem Moved.sndM (h : Moved (R.and S) w F (x, y) wr) : ∃ F', S.on wr F' y ∧ ∀ y' w', Moved S wr F' y' w' → Moved (R.and S) w F (x, y') w' := by
  obtain ⟨H, hH, hm⟩ := h.opened
  obtain ⟨F1, hF1, hm1⟩ := Rep.snd hH
  exact ⟨F1, hF1, fun x' w' m => hm _ _ (hm1 _ _ m)⟩
end
section
variable {α : Type} [Lies α] {w w' wr : World} {F : Nat → Prop} {g : Nat} {T E : TypeId} {v v' : Value} {cs cs' : Array Value} {l l' : List α}
theorem holds_parts (h : (repHolds g T E).on w F l) (hne : E ≠ T) : ∃ v, ((repBlock g T).and (repOwn E)).on w F (#[v], (v, l)) := by
  obtain ⟨v, hF, hh⟩ := h
  refine ⟨v, fun k => k = g, fun k => v.ownBlock = some k, ⟨fun _ => Iff.rfl, hh.cell⟩, ⟨fun _ => Iff.rfl, hh.own⟩, fun k hk hg => ?_, hF⟩
  subst hk
  exact hh.own.elem hh.cell hne hg
theorem parts_holds (h : ((repBlock g T).and (repOwn E)).on w F (#[v], (v, l))) : (repHolds g T E).on w F l ∧ Holds w g T E v l := by
  obtain ⟨F1, G, h1, h2, _, hH⟩ := h
  have hh : Holds w g T E v l := ⟨h1.2, h2.2⟩
  refine ⟨⟨v, fun k => (hH k).trans ⟨fun h => ?_, fun h => ?_⟩, hh⟩, hh⟩
  · rcases h with h | h
    · exact .inl ((h1.1 k).1 h)
    · exact .inr ((h2.1 k).1 h)
  · rcases h with h | h
    · exact .inl ((h1.1 k).2 h)
    · exact .inr ((h2.1 k).2 h)
theorem Moved.holds (h : Moved ((repBlock g T).and (repOwn E)) w F (#[v], (v, l)) w') : Moved (repHolds g T E) w F l w' := by
  obtain ⟨F', h1, h2, h3⟩ := h
  exact ⟨F', (parts_holds h1).1, h2, h3⟩
theorem Moved.turn0 {Y : Type} {O : Rep Y} {y : Y} (h : Moved ((repBlock g T).and O) w F (cs, y) wr) (ht : Touch (fun k => k = g) wr w') (hc : w'.heap[g]? = some (.cells cs' T (0, 0))) : Moved ((repBlock g T).and O) w F (cs', y) w' := by
  obtain ⟨F1, hF, hm⟩ := h.fstM
  exact hm _ _ ⟨F1, ⟨hF.1, hc⟩, ht.mono fun k hk => .inl ((hF.1 k).2 hk), Fresh.refl _ _⟩
theorem Moved.cell0 {Y : Type} {O : Rep Y} {y : Y} (h : Moved ((repBlock g T).and O) w F (cs, y) wr) : wr.heap[g]? = some (.cells cs T (0, 0)) := by
  obtain ⟨F1, hF, _⟩ := h.fstM
  exact hF.2
end
abbrev CR (g : Nat) : Rep (Array Value × (Value × List Record)) := (repBlock g 58).and (repOwn 49)
abbrev repChest (g : Nat) : Rep (List Record) := repHolds g 58 49
def CPost (w : World) (g : Nat) (F : Nat → Prop) (r : (Answer × Int × Int) × List Record) (e : Ending) (w' : World) : Prop :=
  e = .returned (.tuple #[.agg r.1.1.cells, .int .i64 r.1.2.1, .int .i64 r.1.2.2]) ∧ Moved (repChest g) w F r.2 w'
set_option maxHeartbeats 1000000 in
set_option maxRecDepth 100000 in
theorem chest_call_range (w : World) (g : Nat) (F : Nat → Prop) (L : List Record) (client no : Int) (c : Call) (h : (repChest g).on w F L) (hr : client < 0 ∨ 3 ≤ client ∨ no < 1 ∨ 200 < no) :
    Calls Try.prog 62 #[.pointer (some ⟨g, 0, none⟩), .int .i64 client, .int .i64 no, .agg c.cells] w (CPost w g F ((Answer.zero, 0, 9), L)) := by
  have M0 := Lib.hid (Rep.stays h)
  clear h
  by_cases h1 : client < 0
  · skip
    go_enter Try.func62, Try.ntmps62
    go_wp2
    refine bodyPost_ret (results_cell_tmp2 rfl _ _ ⟨w.heap.size + 1, 0, none⟩ (.agg Answer.zero.cells) rfl (load_block isAnswer (heap_alloc_at _ _ _ (by simp)))) rfl ?_
    exact ⟨rfl, M0.out.behind (((Touch.refl _ w).alloc _).alloc _)⟩
  by_cases h2 : 3 ≤ client
  · skip
    go_enter Try.func62, Try.ntmps62
    go_wp2
    refine bodyPost_ret (results_cell_tmp2 rfl _ _ ⟨w.heap.size + 1, 0, none⟩ (.agg Answer.zero.cells) rfl (load_block isAnswer (heap_alloc_at _ _ _ (by simp)))) rfl ?_
    exact ⟨rfl, M0.out.behind (((Touch.refl _ w).alloc _).alloc _)⟩
  by_cases h3 : no < 1
  · skip
    go_enter Try.func62, Try.ntmps62
    go_wp2
    refine bodyPost_ret (results_cell_tmp2 rfl _ _ ⟨w.heap.size + 1, 0, none⟩ (.agg Answer.zero.cells) rfl (load_block isAnswer (heap_alloc_at _ _ _ (by simp)))) rfl ?_
    exact ⟨rfl, M0.out.behind (((Touch.refl _ w).alloc _).alloc _)⟩
  have h4 : 200 < no := by omega
  go_enter Try.func62, Try.ntmps62
  go_wp2
  refine bodyPost_ret (results_cell_tmp2 rfl _ _ ⟨w.heap.size + 1, 0, none⟩ (.agg Answer.zero.cells) rfl (load_block isAnswer (heap_alloc_at _ _ _ (by simp)))) rfl ?_
  exact ⟨rfl, M0.out.behind (((Touch.refl _ w).alloc _).alloc _)⟩
set_option maxHeartbeats 1000000 in
set_option maxRecDepth 100000 in
theorem chest_call_check (w : World) (g : Nat) (F : Nat → Prop) (L : List Record) (client no : Int) (c : Call) (n : Int) (h : (repChest g).on w F L) (hr : ¬ (client < 0 ∨ 3 ≤ client ∨ no < 1 ∨ 200 < no)) (hst : StrCall c) (hc : callCode c = n) (hn : n ≠ 0) :
    Calls Try.prog 62 #[.pointer (some ⟨g, 0, none⟩), .int .i64 client, .int .i64 no, .agg c.cells] w (CPost w g F ((Answer.zero, 0, n), L)) := by
  have hn' : (n != 0) = true := by simp [hn]
  have M0 := Lib.hid (Rep.stays h)
  have h1 : ¬ client < 0 := by omega
  have h2 : ¬ 3 ≤ client := by omega
  have h3 : ¬ no < 1 := by omega
  have h4 : ¬ 200 < no := by omega
  have HST := Lib.hid hst
  have HC := Lib.hid hc
  clear hst hc
  go_enter Try.func62, Try.ntmps62
  go_wp2_with fail
  have m2 := (M0.out.box c.cells 31).box Answer.zero.cells 28
  simp only [World.size_alloc] at m2
  have M2 := Lib.hid m2
  clear m2
  generalize (w.alloc (.cells c.cells 31)).alloc (.cells Answer.zero.cells 28) = w2 at M2 ⊢
  obtain ⟨bc, hbc⟩ : ∃ bc, w.heap.size = bc := ⟨_, rfl⟩
  obtain ⟨ba, hba⟩ : ∃ ba, w.heap.size + 1 = ba := ⟨_, rfl⟩
  have nab : (ba = bc) = False := by simp; omega
  have nba : (bc = ba) = False := by simp; omega
  rw [hba] at M2 ⊢
  try rw [hba] at nsa'
  try rw [hbc] at hgb
  rw [hbc] at M2 ⊢
  clear hba hbc
  refine (ref_fault' w2 c n HC.out HST.out).mono ?_
  rintro e w4 ⟨rfl, hx4⟩
  have M4 := Lib.hid (M2.out.behind hx4)
  have hba4 := M4.out.blk
  have hba5 := setRow_heap _ _ _ Answer.zero.cells _ _ hba4
  have M5 := Lib.hid (M4.out.turnB (w' := w4.setRow ba Answer.zero.cells) ((Touch.refl (fun k => k = ba) w4).setRow (.inl rfl) _) hba5).left.left
  clear hx4 M2
  go_wp2
  refine bodyPost_ret (results_cell_tmp2 rfl _ _ ⟨ba, 0, none⟩ (.agg Answer.zero.cells) rfl (load_block isAnswer hba5)) rfl ?_
  exact ⟨rfl, M5.out⟩
set_option maxHeartbeats 2000000 in
set_option maxRecDepth 100000 in
theorem chest_call_ask (w : World) (g : Nat) (F : Nat → Prop) (L : List Record) (client no : Int) (c : Call) (h : (repChest g).on w F L) (hL : LogOk L) (hr : ¬ (client < 0 ∨ 3 ≤ client ∨ no < 1 ∨ 200 < no)) (hst : StrCall c) (hc : callCode c = 0) (hk : ¬ (1 ≤ c.kind ∧ c.kind ≤ 4)) :
    Calls Try.prog 62 #[.pointer (some ⟨g, 0, none⟩), .int .i64 client, .int .i64 no, .agg c.cells] w (CPost w g F (((fdo (fbehind L) c).1, 0, 0), L)) := by
  obtain ⟨v, hS⟩ := holds_parts h (by decide)
  have M0 := Lib.hid (Rep.stays hS)
  obtain ⟨A, c0, rfl, _⟩ := M0.out.own3.form
  have HK := Lib.hid hk
  have hlen := log_len hL.each
  have hlog := hL.len
  have HLS := Lib.hid (show ∀ r ∈ L, StrCall r.call from fun r hr => recok_str (hL.each r hr))
  have HDO := Lib.hid (show (ddo (dbehind L) c).1 = (fdo (fbehind L) c).1 from (fdo_ddo (behind_srt L) c).1.symm)
  have hgb : g < w.heap.size := (Array.getElem?_eq_some_iff.1 M0.out.cell0).1
  have nsa' : (g = w.heap.size + 1) = False := by simp; omega
  clear hS hk h hL
  have h1 : ¬ client < 0 := by omega
  have h2 : ¬ 3 ≤ client := by omega
  have h3 : ¬ no < 1 := by omega
  have h4 : ¬ 200 < no := by omega
  have HST := Lib.hid hst
  have HC := Lib.hid hc
  clear hst hc
  go_enter Try.func62, Try.ntmps62
  go_wp2_with fail
  have m2 := (M0.out.box c.cells 31).box Answer.zero.cells 28
  simp only [World.size_alloc] at m2
  have M2 := Lib.hid m2
  clear m2
  generalize (w.alloc (.cells c.cells 31)).alloc (.cells Answer.zero.cells 28) = w2 at M2 ⊢
  obtain ⟨bc, hbc⟩ : ∃ bc, w.heap.size = bc := ⟨_, rfl⟩
  obtain ⟨ba, hba⟩ : ∃ ba, w.heap.size + 1 = ba := ⟨_, rfl⟩
  have nab : (ba = bc) = False := by simp; omega
  have nba : (bc = ba) = False := by simp; omega
  rw [hba] at M2 ⊢
  try rw [hba] at nsa'
  try rw [hbc] at hgb
  rw [hbc] at M2 ⊢
  clear hba hbc
  refine (ref_fault' w2 c 0 HC.out HST.out).mono ?_
  rintro e w3 ⟨rfl, hx3⟩
  have M3 := Lib.hid (M2.out.behind hx3)
  have hbc3 := M3.out.left.blk
  have hcc3 := cell_of hbc3 0
  have hcg3 := cell_of M3.out.left.left.cell0 0
  replace hcg3 : w3.cell? ⟨g, 0, none⟩ = some (.slice A L.length c0) := hcg3
  clear hx3 M2 hgb
  go_wp2_with (go_at_call 32; refine (ref_ischange' _ c.kind false (by have := HK.out; simp; omega)).mono ?_; rintro e w4 ⟨rfl, rfl⟩)
  go_region_held3 (fun w' => w'.cell? ⟨g, 0, none⟩ = some (.slice A L.length c0) ∧ w'.heap[bc]? = some (.cells c.cells 31 (0, 0)))
    (first | exact ⟨(cell_setRow_other _ _ _ _ _ nsa').trans hcg5, (heap_setRow' _ _ _ _ nba).trans hbc5⟩ | exact ⟨hcg5, hbc5⟩ | exact ⟨hcg4, hbc4⟩ | exact ⟨hcg3, hbc3⟩)
    (first
      | (go_at_call 24
         have m3 := M3.out.behind (Touch.drew (Touch.refl _ w3))
         refine (ref_behind _ w3.heap.size A _ c0 L m3.left.left.own3.reads (Nat.le_refl _) rfl HLS.out (by omega)).mono ?_
         rintro e w4 ⟨gd, rfl, hd4⟩
         have M4 := Lib.hid (m3.beside hd4)
         have hbc4 := M4.out.left.left.blk
         have hcg4 : w4.cell? ⟨g, 0, none⟩ = some (.slice A L.length c0) := cell_of M4.out.left.left.left.cell0 0
         clear m3 hd4)
      | (go_at_call 61
         obtain ⟨F5, hF5, hm5⟩ := M4.out.sndM
         refine (drawer_do _ gd F5 (dbehind L) c hF5 (behind_dok L) HST.out).mono ?_
         rintro e w5 ⟨rfl, hq5⟩
         have M5 := Lib.hid (hm5 _ _ hq5).left
         rw [HDO.out]
         have hbc5 := M5.out.left.blk
         have hba5 := M5.out.blk
         have hcg5 : w5.cell? ⟨g, 0, none⟩ = some (.slice A L.length c0) := cell_of M5.out.left.left.cell0 0
         clear hF5 hm5 hq5 M4))
  have hba6 := setRow_heap _ _ _ (fdo (fbehind L) c).1.cells _ _ hba5
  have M6 := Lib.hid (M5.out.turnB (w' := w5.setRow ba (fdo (fbehind L) c).1.cells) ((Touch.refl (fun k => k = ba) w5).setRow (.inl rfl) _) hba6).left.left
  go_wp2
  refine bodyPost_ret (results_cell_tmp2 rfl _ _ ⟨ba, 0, none⟩ (.agg (fdo (fbehind L) c).1.cells) rfl (load_block isAnswer hba6)) rfl ?_
  exact ⟨rfl, M6.out.holds⟩
end Go.Proofs.Ytalfbhhldfffkab

namespace Go.Proofs.Ytalfbhhldfffkab
open Go.RowKit

theorem Moved.cr {g : Nat} {w wr : World} {F : Nat → Prop} {v : Value} {l : List Record} (h : Moved (CR g) w F (#[v], (v, l)) wr) : ∃ F', (CR g).on wr F' (#[v], (v, l)) := by
  obtain ⟨F', h1, _⟩ := h
  exact ⟨F', h1⟩
theorem chest_holds {g : Nat} {w wr : World} {F : Nat → Prop} {v : Value} {l : List Record} (h : Moved (CR g) w F (#[v], (v, l)) wr) : Holds wr g 58 49 v l := by
  obtain ⟨F', h1⟩ := h.cr
  exact (parts_holds h1).2
set_option maxHeartbeats 4000000 in
set_option maxRecDepth 100000 in
theorem chest_call_change (w : World) (g : Nat) (F : Nat → Prop) (L : List Record) (client no : Int) (c : Call) (h : (repChest g).on w F L) (hL : LogOk L) (hr : ¬ (client < 0 ∨ 3 ≤ client ∨ no < 1 ∨ 200 < no)) (hst : StrCall c) (hc : callCode c = 0) (hk : 1 ≤ c.kind ∧ c.kind ≤ 4) :
    Calls Try.prog 62 #[.pointer (some ⟨g, 0, none⟩), .int .i64 client, .int .i64 no, .agg c.cells] w (CPost w g F (chestCall L client no c)) := by
  obtain ⟨v, hS⟩ := holds_parts h (by decide)
  have M0 := Lib.hid (Rep.stays hS)
  obtain ⟨A, c0, rfl, _⟩ := M0.out.own3.form
  have HCH := Lib.hid (chestCall_change (L := L) hr hc hk)
  have hcok : CallOk client no c := ⟨by omega, by omega, hc⟩
  have HZ := Lib.hid (zero_ok hcok hk)
  have HK := Lib.hid hk
  have hlen := log_len hL.each
  have hlog := hL.len
  have hrb := (recBytes_bounds HZ.out).2
  have HEACH := Lib.hid hL.each
  have HLS := Lib.hid (show ∀ r ∈ L, StrCall r.call from fun r hr => recok_str (hL.each r hr))
  have HDO := Lib.hid (show (ddo (dbehind L) c).1 = (fdo (fbehind L) c).1 from (fdo_ddo (behind_srt L) c).1.symm)
  have hgb : g < w.heap.size := (Array.getElem?_eq_some_iff.1 M0.out.cell0).1
  have nsa' : (g = w.heap.size + 1) = False := by simp; omega
  clear hS hk h hL hcok
  have h1 : ¬ client < 0 := by omega
  have h2 : ¬ 3 ≤ client := by omega
  have h3 : ¬ no < 1 := by omega
  have h4 : ¬ 200 < no := by omega
  have HST := Lib.hid hst
  have HC := Lib.hid hc
  clear hst hc
  go_enter Try.func62, Try.ntmps62
  go_wp2_with fail
  have m2 := (M0.out.box c.cells 31).box Answer.zero.cells 28
  simp only [World.size_alloc] at m2
  have M2 := Lib.hid m2
  clear m2
  generalize (w.alloc (.cells c.cells 31)).alloc (.cells Answer.zero.cells 28) = w2 at M2 ⊢
  obtain ⟨bc, hbc⟩ : ∃ bc, w.heap.size = bc := ⟨_, rfl⟩
  obtain ⟨ba, hba⟩ : ∃ ba, w.heap.size + 1 = ba := ⟨_, rfl⟩
  have nab : (ba = bc) = False := by simp; omega
  have nba : (bc = ba) = False := by simp; omega
  rw [hba] at M2 ⊢
  try rw [hba] at nsa'
  try rw [hbc] at hgb
  rw [hbc] at M2 ⊢
  clear hba hbc
  refine (ref_fault' w2 c 0 HC.out HST.out).mono ?_
  rintro e w3 ⟨rfl, hx3⟩
  have M3 := Lib.hid (M2.out.behind hx3)
  have hbc3 := M3.out.left.blk
  have hcc3 := cell_of hbc3 0
  clear hx3 M2
  go_wp2_with (go_at_call 32; refine (ref_ischange' _ c.kind true (by have := HK.out; simp; omega)).mono ?_; rintro e w4 ⟨rfl, rfl⟩)
  refine (chest_last_at w3 g _ L client (chest_holds M3.out.left.left) (by omega)).mono ?_
  rintro e w4 ⟨rfl, hx4⟩
  have M4 := Lib.hid (M3.out.behind hx4)
  have hbc4 := M4.out.left.blk
  have hba4 := M4.out.blk
  have hbg4 := M4.out.left.left.cell0
  obtain ⟨ltc, _⟩ := Array.getElem?_eq_some_iff.1 hbc4
  obtain ⟨lta, _⟩ := Array.getElem?_eq_some_iff.1 hba4
  obtain ⟨ltg, _⟩ := Array.getElem?_eq_some_iff.1 hbg4
  obtain ⟨X, hX⟩ : ∃ X, lastRec L client = X := ⟨_, rfl⟩
  rw [hX]
  clear hx4 M3 hbc3 hcc3 hgb hbg4
  cases hlo : lastOf L client with
  | none =>
    have HP := Lib.hid (show chestCall L client no c = chestNew L client no c by rw [HCH.out, hlo])
    clear hlo hX HCH
    go_wp2_with fail
    have m5 := (M4.out.behind ((Touch.refl _ w4).alloc (.cells X.cells 49))).box (Record.cells ⟨client, no, c, Answer.zero⟩) 49
    simp only [World.size_alloc] at m5
    have M5 := Lib.hid m5
    clear m5
    generalize (w4.alloc (.cells X.cells 49)).alloc (.cells (Record.cells ⟨client, no, c, Answer.zero⟩) 49) = w5 at M5 ⊢
    obtain ⟨br, hbr⟩ : ∃ br, w4.heap.size + 1 = br := ⟨_, rfl⟩
    have nbr1 : (bc = br) = False := by simp; omega
    have nbr2 : (g = br) = False := by simp; omega
    have nbr3 : (ba = br) = False := by simp; omega
    have nbr4 : (br = ba) = False := by simp; omega
    have nbr5 : (br = g) = False := by simp; omega
    rw [hbr] at M5 ⊢
    clear hbr
    refine (ref_bytesOf _ ⟨client, no, c, Answer.zero⟩ HZ.out).mono ?_
    rintro e w6 ⟨A6, c6, rfl, ho6, hx6, hf6⟩
    have M6 := Lib.hid (M5.out.behind hx6)
    clear ho6 hx6 hf6 M5
    go_wp2_with fail
    refine (chest_bytes w6 g _ L (chest_holds M6.out.left.left.left) HEACH.out (by omega)).mono ?_
    rintro e w7 ⟨A7, c7, rfl, ho7, hx7, hf7⟩
    have M7 := Lib.hid (M6.out.behind hx7)
    clear ho7 hx7 hf7 M6
    have hba7 := M7.out.left.blk
    by_cases hfull : 2000 < (logBytes L).length + (recBytes ⟨client, no, c, Answer.zero⟩).length
    · have hfull' : (2000 : Int) < ((logBytes L).length : Int) + ((recBytes ⟨client, no, c, Answer.zero⟩).length : Int) := by omega
      have hba8 := setRow_heap _ _ _ Answer.zero.cells _ _ hba7
      have M8 := Lib.hid ((M7.out.exch.turnB (w' := w7.setRow ba Answer.zero.cells) ((Touch.refl (fun k => k = ba) w7).setRow (.inl rfl) _) hba8).left.left.left.holds)
      go_wp2
      refine bodyPost_ret (results_cell_tmp2 rfl _ _ ⟨ba, 0, none⟩ (.agg Answer.zero.cells) rfl (load_block isAnswer hba8)) rfl ?_
      unfold CPost
      rw [HP.out, chestNew_full hfull]
      exact ⟨rfl, M8.out⟩
    · have hroom : ¬ (2000 : Int) < ((logBytes L).length : Int) + ((recBytes ⟨client, no, c, Answer.zero⟩).length : Int) := by omega
      have hbc7 := M7.out.left.left.blk
      have hcg7 : w7.cell? ⟨g, 0, none⟩ = some (.slice A L.length c0) := cell_of M7.out.left.left.left.cell0 0
      go_wp2_with fail
      go_region_held3 (fun w' => w'.cell? ⟨g, 0, none⟩ = some (.slice A L.length c0) ∧ w'.heap[bc]? = some (.cells c.cells 31 (0, 0)))
        (first | exact ⟨(cell_setRow_other _ _ _ _ _ nbr2).trans hcg9, (heap_setRow' _ _ _ _ nbr1).trans hbc9⟩ | exact ⟨hcg9, hbc9⟩ | exact ⟨hcg8, hbc8⟩ | exact ⟨hcg7, hbc7⟩)
        (first
          | (go_at_call 24
             have m7 := M7.out.behind (Touch.drew (Touch.refl _ w7))
             refine (ref_behind _ w7.heap.size A _ c0 L m7.left.left.left.own3.reads (Nat.le_refl _) rfl HLS.out (by omega)).mono ?_
             rintro e w8 ⟨gd, rfl, hd8⟩
             have M8 := Lib.hid (m7.beside hd8)
             have hbc8 := M8.out.left.left.left.blk
             have hcg8 : w8.cell? ⟨g, 0, none⟩ = some (.slice A L.length c0) := cell_of M8.out.left.left.left.left.cell0 0
             clear m7 hd8)
          | (go_at_call 61
             obtain ⟨F9, hF9, hm9⟩ := M8.out.sndM
             refine (drawer_do _ gd F9 (dbehind L) c hF9 (behind_dok L) HST.out).mono ?_
             rintro e w9 ⟨rfl, hq9⟩
             have M9 := Lib.hid (hm9 _ _ hq9).left
             rw [HDO.out]
             have hbc9 := M9.out.left.left.blk
             have hbr9 := M9.out.blk
             have hcg9 : w9.cell? ⟨g, 0, none⟩ = some (.slice A L.length c0) := cell_of M9.out.left.left.left.cell0 0
             clear hF9 hm9 hq9 M8))
      have hbr10 := setRow_heap _ _ _ (Record.cells ⟨client, no, c, (fdo (fbehind L) c).1⟩) _ _ hbr9
      have M10 := Lib.hid (M9.out.turnB (w' := w9.setRow br (Record.cells ⟨client, no, c, (fdo (fbehind L) c).1⟩)) ((Touch.refl (fun k => k = br) w9).setRow (.inl rfl) _) hbr10)
      generalize w9.setRow br (Record.cells ⟨client, no, c, (fdo (fbehind L) c).1⟩) = w10 at M10 hbr10 ⊢
      have hcg10 : w10.cell? ⟨g, 0, none⟩ = some (.slice A L.length c0) := cell_of M10.out.left.left.left.cell0 0
      obtain ⟨ltg10, _⟩ := Array.getElem?_eq_some_iff.1 M10.out.left.left.left.cell0
      obtain ⟨ltr10, _⟩ := Array.getElem?_eq_some_iff.1 hbr10
      clear M9 hbc9 hbr9 hcg9 hcg7 hbc7 M7 hba7
      go_wp2_with fail
      go_region_law (
        (refine step_append_own (by rfl) (.tmp 98) (.tmp 100) 44 (by rfl) elemRecord Try.underlying44 (v := .slice A L.length c0) (l := L) (by rfl) (M10.out.left.left.left.own3.ext (by first | exact ((Touch.refl _ w10).drew).alloc _ | exact ((Touch.refl _ w10).alloc _).drew | exact (Touch.refl _ w10).alloc _)) [⟨client, no, c, (fdo (fbehind L) c).1⟩] (by rfl) (L.length + 1) (by rfl) (by rfl) (reads_block (x := (⟨client, no, c, (fdo (fbehind L) c).1⟩ : Record)) (t := 49) (fr := (0, 0)) (b := w10.heap.size) (by first | exact heap_alloc_new _ _ | (simp only [heap_alloc_at, heap_drew', heap_drewN', World.size_alloc]; rfl)) (w10.heap.size + 1) (by omega)) (by simp; omega) ?_
         intro A11 c11 w11 hown11 hgrow11 hat11
         obtain ⟨F11, hF11, hm11⟩ := M10.out.sr4
         have M11 := Lib.hid (hm11 _ _ ((Rep.stays hF11).append (by first | exact ((Touch.refl _ w10).drew).alloc _ | exact ((Touch.refl _ w10).alloc _).drew | exact (Touch.refl _ w10).alloc _) hown11 hgrow11 hat11))
         have hbg11 := M11.out.left.left.left.cell0
         have hcg11 := cell_of hbg11 0
         have hfg11 := frozen_of hbg11 0
         clear hown11 hgrow11 hat11 hF11 hm11))
      all_goals
        have hbg12 : (w11.setCell ⟨g, 0, none⟩ (.slice A11 (L.length + 1) c11)).heap[g]? = some (.cells #[.slice A11 (L.length + 1) c11] 58 (0, 0)) := setCell_heap hbg11 0 _
        obtain ⟨F12, hF12, hm12⟩ := M11.out.sr4
        have M12 := Lib.hid (hm12 _ _ ((Rep.stays hF12).turn0 (w' := w11.setCell ⟨g, 0, none⟩ (.slice A11 (L.length + 1) c11)) ((Touch.refl (fun k => k = g) w11).setCell (a := ⟨g, 0, none⟩) (.inl rfl) _) hbg12))
        clear hF12 hm12 M11 hbg11 hcg11 hfg11 hbg12
        generalize w11.setCell ⟨g, 0, none⟩ (.slice A11 (L.length + 1) c11) = w12 at M12 ⊢
        have hbr12 := M12.out.blk
        have hba12 := M12.out.left.blk
        have hba13 := setRow_heap _ _ _ (fdo (fbehind L) c).1.cells _ _ hba12
        have M13 := Lib.hid ((M12.out.exch.turnB (w' := w12.setRow ba (fdo (fbehind L) c).1.cells) ((Touch.refl (fun k => k = ba) w12).setRow (.inl rfl) _) hba13).left.left.left.holds)
        go_wp2
        refine bodyPost_ret (results_cell_tmp2 rfl _ _ ⟨ba, 0, none⟩ (.agg (fdo (fbehind L) c).1.cells) rfl (load_block isAnswer hba13)) rfl ?_
        unfold CPost
        rw [HP.out, chestNew_room hfull]
        exact ⟨rfl, M13.out⟩
  | some x =>
    obtain rfl : X = x := by rw [← hX]; unfold lastRec; rw [hlo]
    have HCL := Lib.hid (show chestCall L client no c = if no = X.no ∧ c = X.call then ((X.answer, 0, 0), L) else if no ≤ X.no then ((Answer.zero, 0, 10), L) else chestNew L client no c by rw [HCH.out, hlo])
    clear hlo hX HCH
    by_cases e1 : no = X.no
    · have e1' : (no == X.no) = true := by simp [e1]
      by_cases e2 : c = X.call
      · have HP := Lib.hid (show chestCall L client no c = ((X.answer, 0, 0), L) by rw [HCL.out, if_pos ⟨e1, e2⟩])
        have e2' : (c = X.call) = True := eq_true e2
        clear e1 e2
        have hba44 := setRow_heap _ _ _ (X.answer).cells _ _ hba4
        have M5 := Lib.hid (((M4.out.turnB (w' := w4.setRow ba (X.answer).cells) ((Touch.refl (fun k => k = ba) w4).setRow (.inl rfl) _) hba44).left.left.behind ((Touch.refl _ _).alloc (.cells X.cells 49))).holds)
        have hba5 : ((w4.setRow ba (X.answer).cells).alloc (.cells X.cells 49)).heap[ba]? = some (.cells (X.answer).cells 28 (0, 0)) := by
          rw [heap_alloc_past _ _ _ (by simp; omega)]
          exact hba44
        go_wp2
        refine bodyPost_ret (results_cell_tmp2 rfl _ _ ⟨ba, 0, none⟩ (.agg (X.answer).cells) rfl (load_block isAnswer hba5)) rfl ?_
        unfold CPost
        rw [HP.out]
        exact ⟨rfl, M5.out⟩
      · have HP := Lib.hid (show chestCall L client no c = ((Answer.zero, 0, 10), L) by rw [HCL.out, if_neg (fun h => e2 h.2), if_pos (by omega)])
        have e2' : (c = X.call) = False := eq_false e2
        have e3 : no ≤ X.no := by omega
        clear e1 e2
        have hba44 := setRow_heap _ _ _ (Answer.zero).cells _ _ hba4
        have M5 := Lib.hid (((M4.out.turnB (w' := w4.setRow ba (Answer.zero).cells) ((Touch.refl (fun k => k = ba) w4).setRow (.inl rfl) _) hba44).left.left.behind ((Touch.refl _ _).alloc (.cells X.cells 49))).holds)
        have hba5 : ((w4.setRow ba (Answer.zero).cells).alloc (.cells X.cells 49)).heap[ba]? = some (.cells (Answer.zero).cells 28 (0, 0)) := by
          rw [heap_alloc_past _ _ _ (by simp; omega)]
          exact hba44
        go_wp2
        refine bodyPost_ret (results_cell_tmp2 rfl _ _ ⟨ba, 0, none⟩ (.agg (Answer.zero).cells) rfl (load_block isAnswer hba5)) rfl ?_
        unfold CPost
        rw [HP.out]
        exact ⟨rfl, M5.out⟩
    · have e1' : (no == X.no) = false := by simp [e1]
      by_cases e3 : no ≤ X.no
      · have HP := Lib.hid (show chestCall L client no c = ((Answer.zero, 0, 10), L) by rw [HCL.out, if_neg (fun h => e1 h.1), if_pos e3])
        clear e1
        have hba44 := setRow_heap _ _ _ (Answer.zero).cells _ _ hba4
        have M5 := Lib.hid (((M4.out.turnB (w' := w4.setRow ba (Answer.zero).cells) ((Touch.refl (fun k => k = ba) w4).setRow (.inl rfl) _) hba44).left.left.behind ((Touch.refl _ _).alloc (.cells X.cells 49))).holds)
        have hba5 : ((w4.setRow ba (Answer.zero).cells).alloc (.cells X.cells 49)).heap[ba]? = some (.cells (Answer.zero).cells 28 (0, 0)) := by
          rw [heap_alloc_past _ _ _ (by simp; omega)]
          exact hba44
        go_wp2
        refine bodyPost_ret (results_cell_tmp2 rfl _ _ ⟨ba, 0, none⟩ (.agg (Answer.zero).cells) rfl (load_block isAnswer hba5)) rfl ?_
        unfold CPost
        rw [HP.out]
        exact ⟨rfl, M5.out⟩
      · have HP := Lib.hid (show chestCall L client no c = chestNew L client no c by rw [HCL.out, if_neg (fun h => e1 h.1), if_neg e3])
        clear e1
        go_wp2_with fail
        have m5 := (M4.out.behind ((Touch.refl _ w4).alloc (.cells X.cells 49))).box (Record.cells ⟨client, no, c, Answer.zero⟩) 49
        simp only [World.size_alloc] at m5
        have M5 := Lib.hid m5
        clear m5
        generalize (w4.alloc (.cells X.cells 49)).alloc (.cells (Record.cells ⟨client, no, c, Answer.zero⟩) 49) = w5 at M5 ⊢
        obtain ⟨br, hbr⟩ : ∃ br, w4.heap.size + 1 = br := ⟨_, rfl⟩
        have nbr1 : (bc = br) = False := by simp; omega
        have nbr2 : (g = br) = False := by simp; omega
        have nbr3 : (ba = br) = False := by simp; omega
        have nbr4 : (br = ba) = False := by simp; omega
        have nbr5 : (br = g) = False := by simp; omega
        rw [hbr] at M5 ⊢
        clear hbr
        refine (ref_bytesOf _ ⟨client, no, c, Answer.zero⟩ HZ.out).mono ?_
        rintro e w6 ⟨A6, c6, rfl, ho6, hx6, hf6⟩
        have M6 := Lib.hid (M5.out.behind hx6)
        clear ho6 hx6 hf6 M5
        go_wp2_with fail
        refine (chest_bytes w6 g _ L (chest_holds M6.out.left.left.left) HEACH.out (by omega)).mono ?_
        rintro e w7 ⟨A7, c7, rfl, ho7, hx7, hf7⟩
        have M7 := Lib.hid (M6.out.behind hx7)
        clear ho7 hx7 hf7 M6
        have hba7 := M7.out.left.blk
        by_cases hfull : 2000 < (logBytes L).length + (recBytes ⟨client, no, c, Answer.zero⟩).length
        · have hfull' : (2000 : Int) < ((logBytes L).length : Int) + ((recBytes ⟨client, no, c, Answer.zero⟩).length : Int) := by omega
          have hba8 := setRow_heap _ _ _ Answer.zero.cells _ _ hba7
          have M8 := Lib.hid ((M7.out.exch.turnB (w' := w7.setRow ba Answer.zero.cells) ((Touch.refl (fun k => k = ba) w7).setRow (.inl rfl) _) hba8).left.left.left.holds)
          go_wp2
          refine bodyPost_ret (results_cell_tmp2 rfl _ _ ⟨ba, 0, none⟩ (.agg Answer.zero.cells) rfl (load_block isAnswer hba8)) rfl ?_
          unfold CPost
          rw [HP.out, chestNew_full hfull]
          exact ⟨rfl, M8.out⟩
        · have hroom : ¬ (2000 : Int) < ((logBytes L).length : Int) + ((recBytes ⟨client, no, c, Answer.zero⟩).length : Int) := by omega
          have hbc7 := M7.out.left.left.blk
          have hcg7 : w7.cell? ⟨g, 0, none⟩ = some (.slice A L.length c0) := cell_of M7.out.left.left.left.cell0 0
          go_wp2_with fail
          go_region_held3 (fun w' => w'.cell? ⟨g, 0, none⟩ = some (.slice A L.length c0) ∧ w'.heap[bc]? = some (.cells c.cells 31 (0, 0)))
            (first | exact ⟨(cell_setRow_other _ _ _ _ _ nbr2).trans hcg9, (heap_setRow' _ _ _ _ nbr1).trans hbc9⟩ | exact ⟨hcg9, hbc9⟩ | exact ⟨hcg8, hbc8⟩ | exact ⟨hcg7, hbc7⟩)
            (first
              | (go_at_call 24
                 have m7 := M7.out.behind (Touch.drew (Touch.refl _ w7))
                 refine (ref_behind _ w7.heap.size A _ c0 L m7.left.left.left.own3.reads (Nat.le_refl _) rfl HLS.out (by omega)).mono ?_
                 rintro e w8 ⟨gd, rfl, hd8⟩
                 have M8 := Lib.hid (m7.beside hd8)
                 have hbc8 := M8.out.left.left.left.blk
                 have hcg8 : w8.cell? ⟨g, 0, none⟩ = some (.slice A L.length c0) := cell_of M8.out.left.left.left.left.cell0 0
                 clear m7 hd8)
              | (go_at_call 61
                 obtain ⟨F9, hF9, hm9⟩ := M8.out.sndM
                 refine (drawer_do _ gd F9 (dbehind L) c hF9 (behind_dok L) HST.out).mono ?_
                 rintro e w9 ⟨rfl, hq9⟩
                 have M9 := Lib.hid (hm9 _ _ hq9).left
                 rw [HDO.out]
                 have hbc9 := M9.out.left.left.blk
                 have hbr9 := M9.out.blk
                 have hcg9 : w9.cell? ⟨g, 0, none⟩ = some (.slice A L.length c0) := cell_of M9.out.left.left.left.cell0 0
                 clear hF9 hm9 hq9 M8))
          have hbr10 := setRow_heap _ _ _ (Record.cells ⟨client, no, c, (fdo (fbehind L) c).1⟩) _ _ hbr9
          have M10 := Lib.hid (M9.out.turnB (w' := w9.setRow br (Record.cells ⟨client, no, c, (fdo (fbehind L) c).1⟩)) ((Touch.refl (fun k => k = br) w9).setRow (.inl rfl) _) hbr10)
          generalize w9.setRow br (Record.cells ⟨client, no, c, (fdo (fbehind L) c).1⟩) = w10 at M10 hbr10 ⊢
          have hcg10 : w10.cell? ⟨g, 0, none⟩ = some (.slice A L.length c0) := cell_of M10.out.left.left.left.cell0 0
          obtain ⟨ltg10, _⟩ := Array.getElem?_eq_some_iff.1 M10.out.left.left.left.cell0
          obtain ⟨ltr10, _⟩ := Array.getElem?_eq_some_iff.1 hbr10
          clear M9 hbc9 hbr9 hcg9 hcg7 hbc7 M7 hba7
          go_wp2_with fail
          go_region_law (
            (refine step_append_own (by rfl) (.tmp 98) (.tmp 100) 44 (by rfl) elemRecord Try.underlying44 (v := .slice A L.length c0) (l := L) (by rfl) (M10.out.left.left.left.own3.ext (by first | exact ((Touch.refl _ w10).drew).alloc _ | exact ((Touch.refl _ w10).alloc _).drew | exact (Touch.refl _ w10).alloc _)) [⟨client, no, c, (fdo (fbehind L) c).1⟩] (by rfl) (L.length + 1) (by rfl) (by rfl) (reads_block (x := (⟨client, no, c, (fdo (fbehind L) c).1⟩ : Record)) (t := 49) (fr := (0, 0)) (b := w10.heap.size) (by first | exact heap_alloc_new _ _ | (simp only [heap_alloc_at, heap_drew', heap_drewN', World.size_alloc]; rfl)) (w10.heap.size + 1) (by omega)) (by simp; omega) ?_
             intro A11 c11 w11 hown11 hgrow11 hat11
             obtain ⟨F11, hF11, hm11⟩ := M10.out.sr4
             have M11 := Lib.hid (hm11 _ _ ((Rep.stays hF11).append (by first | exact ((Touch.refl _ w10).drew).alloc _ | exact ((Touch.refl _ w10).alloc _).drew | exact (Touch.refl _ w10).alloc _) hown11 hgrow11 hat11))
             have hbg11 := M11.out.left.left.left.cell0
             have hcg11 := cell_of hbg11 0
             have hfg11 := frozen_of hbg11 0
             clear hown11 hgrow11 hat11 hF11 hm11))
          all_goals
            have hbg12 : (w11.setCell ⟨g, 0, none⟩ (.slice A11 (L.length + 1) c11)).heap[g]? = some (.cells #[.slice A11 (L.length + 1) c11] 58 (0, 0)) := setCell_heap hbg11 0 _
            obtain ⟨F12, hF12, hm12⟩ := M11.out.sr4
            have M12 := Lib.hid (hm12 _ _ ((Rep.stays hF12).turn0 (w' := w11.setCell ⟨g, 0, none⟩ (.slice A11 (L.length + 1) c11)) ((Touch.refl (fun k => k = g) w11).setCell (a := ⟨g, 0, none⟩) (.inl rfl) _) hbg12))
            clear hF12 hm12 M11 hbg11 hcg11 hfg11 hbg12
            generalize w11.setCell ⟨g, 0, none⟩ (.slice A11 (L.length + 1) c11) = w12 at M12 ⊢
            have hbr12 := M12.out.blk
            have hba12 := M12.out.left.blk
            have hba13 := setRow_heap _ _ _ (fdo (fbehind L) c).1.cells _ _ hba12
            have M13 := Lib.hid ((M12.out.exch.turnB (w' := w12.setRow ba (fdo (fbehind L) c).1.cells) ((Touch.refl (fun k => k = ba) w12).setRow (.inl rfl) _) hba13).left.left.left.holds)
            go_wp2
            refine bodyPost_ret (results_cell_tmp2 rfl _ _ ⟨ba, 0, none⟩ (.agg (fdo (fbehind L) c).1.cells) rfl (load_block isAnswer hba13)) rfl ?_
            unfold CPost
            rw [HP.out, chestNew_room hfull]
            exact ⟨rfl, M13.out⟩
theorem chest_call (w : World) (g : Nat) (F : Nat → Prop) (L : List Record) (client no : Int) (c : Call) (h : (repChest g).on w F L) (hL : LogOk L) (hst : StrCall c) :
    Calls Try.prog 62 #[.pointer (some ⟨g, 0, none⟩), .int .i64 client, .int .i64 no, .agg c.cells] w (CPost w g F (chestCall L client no c)) := by
  by_cases hr : client < 0 ∨ 3 ≤ client ∨ no < 1 ∨ 200 < no
  · rw [chestCall_range hr]
    exact chest_call_range w g F L client no c h hr
  by_cases hc : callCode c = 0
  · by_cases hk : 1 ≤ c.kind ∧ c.kind ≤ 4
    · exact chest_call_change w g F L client no c h hL hr hst hc hk
    · rw [chestCall_ask hr hc hk]
      exact chest_call_ask w g F L client no c h hL hr hst hc hk
  · rw [chestCall_check hr hc]
    exact chest_call_check w g F L client no c _ h hr hst rfl hc
end Go.Proofs.Ytalfbhhldfffkab

namespace Go.Proofs.Ytalfbhhldfffkab
open Go.RowKit

theorem tear_snoc {L : List Record} {client no : Int} {c : Call} (h : 0 < (chestCall L client no c).1.2.1) : ∃ r, (chestCall L client no c).2 = L ++ [r] := by
  have hw := chest_way L client no c
  generalize chestCall L client no c = r at *
  rcases hw with ⟨k, hk, rfl⟩ | ⟨_, _, rfl⟩ | ⟨_, _, x, _, _, _, rfl⟩ | ⟨hc, hk, hl, hs, rfl⟩
  · exact absurd h (by show ¬ (0 : Int) < 0; omega)
  · exact absurd h (by show ¬ (0 : Int) < 0; omega)
  · exact absurd h (by show ¬ (0 : Int) < 0; omega)
  · exact ⟨_, rfl⟩
def CTPost (w : World) (g : Nat) (F : Nat → Prop) (r : Int × List Record) (e : Ending) (w' : World) : Prop :=
  e = .returned (.int .i64 r.1) ∧ Moved (repChest g) w F r.2 w'
set_option maxHeartbeats 1000000 in
set_option maxRecDepth 100000 in
theorem chest_tear_no (w : World) (g : Nat) (F : Nat → Prop) (L : List Record) (client no : Int) (c : Call) (keep : Int) (h : (repChest g).on w F L) (hL : LogOk L) (hst : StrCall c)
    (hno : ¬ ((chestCall L client no c).1.2.2 = 0 ∧ 0 < (chestCall L client no c).1.2.1 ∧ keep < (chestCall L client no c).1.2.1)) :
    Calls Try.prog 63 #[.pointer (some ⟨g, 0, none⟩), .int .i64 client, .int .i64 no, .agg c.cells, .int .i64 keep] w (CTPost w g F (chestTear L client no c keep)) := by
  have HT := Lib.hid (show chestTear L client no c keep = ((chestCall L client no c).1.2.2, (chestCall L client no c).2) by unfold chestTear; rw [if_neg hno])
  have M0 := Lib.hid (Rep.stays h)
  have HL := Lib.hid hL
  have HST := Lib.hid hst
  clear h hL hst
  go_enter Try.func63, Try.ntmps63
  go_wp2_with fail
  have M2 := Lib.hid (M0.out.behind ((Touch.refl _ w).alloc (.cells c.cells 31)))
  generalize w.alloc (.cells c.cells 31) = w2 at M2 ⊢
  obtain ⟨F2, hF2, hm2⟩ := M2.out.opened
  refine (chest_call w2 g F2 L client no c hF2 HL.out HST.out).mono ?_
  rintro e w3 ⟨rfl, hq3⟩
  have M3 := Lib.hid (hm2 _ _ hq3)
  clear hF2 hm2 hq3 M2
  generalize chestCall L client no c = R at *
  have M4 := Lib.hid (M3.out.behind ((Touch.refl _ w3).alloc (.cells R.1.1.cells 28)))
  by_cases e1 : R.1.2.2 = 0
  · have e1' : (R.1.2.2 == 0) = true := by simp [e1]
    by_cases e2 : 0 < R.1.2.1
    · have e3 : ¬ keep < R.1.2.1 := fun h => hno ⟨e1, e2, h⟩
      go_wp2
      go_ret
      unfold CTPost
      rw [HT.out]
      exact ⟨by rw [e1]; rfl, M4.out⟩
    · go_wp2
      go_ret
      unfold CTPost
      rw [HT.out]
      exact ⟨by rw [e1]; rfl, M4.out⟩
  · have e1' : (R.1.2.2 == 0) = false := by simp [e1]
    go_wp2
    go_ret
    unfold CTPost
    rw [HT.out]
    exact ⟨rfl, M4.out⟩
set_option maxHeartbeats 1000000 in
set_option maxRecDepth 100000 in
theorem chest_tear_yes (w : World) (g : Nat) (F : Nat → Prop) (L : List Record) (client no : Int) (c : Call) (keep : Int) (h : (repChest g).on w F L) (hL : LogOk L) (hst : StrCall c)
    (e1 : (chestCall L client no c).1.2.2 = 0) (e2 : 0 < (chestCall L client no c).1.2.1) (e3 : keep < (chestCall L client no c).1.2.1) :
    Calls Try.prog 63 #[.pointer (some ⟨g, 0, none⟩), .int .i64 client, .int .i64 no, .agg c.cells, .int .i64 keep] w (CTPost w g F (chestTear L client no c keep)) := by
  have HT := Lib.hid (show chestTear L client no c keep = (0, L) by unfold chestTear; rw [if_pos ⟨e1, e2, e3⟩, e1])
  obtain ⟨r, hr⟩ := tear_snoc e2
  have HR := Lib.hid hr
  have hlen : L.length ≤ 10000 := by have h1 := log_len hL.each; have h2 := hL.len; omega
  have M0 := Lib.hid (Rep.stays h)
  have HL := Lib.hid hL
  have HST := Lib.hid hst
  clear h hL hst
  go_enter Try.func63, Try.ntmps63
  go_wp2_with fail
  have M2 := Lib.hid (M0.out.behind ((Touch.refl _ w).alloc (.cells c.cells 31)))
  generalize w.alloc (.cells c.cells 31) = w2 at M2 ⊢
  obtain ⟨F2, hF2, hm2⟩ := M2.out.opened
  refine (chest_call w2 g F2 L client no c hF2 HL.out HST.out).mono ?_
  rintro e w3 ⟨rfl, hq3⟩
  have M3 := Lib.hid (hm2 _ _ hq3)
  clear hF2 hm2 hq3 M2
  rw [hr] at M3
  obtain ⟨a, ha⟩ : ∃ a, (chestCall L client no c).1.1 = a := ⟨_, rfl⟩
  obtain ⟨n, hn⟩ : ∃ n, (chestCall L client no c).1.2.1 = n := ⟨_, rfl⟩
  rw [hn] at e2 e3
  rw [ha, hn, e1]
  clear ha hn e1 hr
  obtain ⟨F3, hF3, hm3⟩ := M3.out.opened
  obtain ⟨v, hS3⟩ := holds_parts hF3 (by decide)
  have m3 := Rep.stays hS3
  obtain ⟨A, c0, rfl, hcc, hcm, _⟩ := m3.own3.form
  have hll : (L ++ [r]).length = L.length + 1 := by simp
  rw [hll] at hS3 m3 hcc
  have M3a := Lib.hid m3
  have HM3 := Lib.hid hm3
  clear hS3 m3 hm3 hF3 M3 hll
  have M4 := Lib.hid (M3a.out.behind ((Touch.refl _ w3).alloc (.cells a.cells 28)))
  have hbg4 := M4.out.cell0
  obtain ⟨lt4, at4⟩ := Array.getElem?_eq_some_iff.1 hbg4
  have hcg4 : (w3.alloc (.cells a.cells 28)).cell? ⟨g, 0, none⟩ = some (.slice A (L.length + 1) c0) := cell_of hbg4 0
  have hfr4 := frozen_of hbg4 0
  have hbg5 : ((w3.alloc (.cells a.cells 28)).setCell ⟨g, 0, none⟩ (.slice A L.length c0)).heap[g]? = some (.cells #[.slice A L.length c0] 58 (0, 0)) := setCell_heap hbg4 0 _
  have m5 := ((M4.out.turn0 (w' := (w3.alloc (.cells a.cells 28)).setCell ⟨g, 0, none⟩ (.slice A L.length c0)) ((Touch.refl (fun k => k = g) _).setCell (a := ⟨g, 0, none⟩) (.inl rfl) _) hbg5).upto L.length (by simp)).behind (Touch.drew (Touch.refl _ _))
  rw [List.take_left] at m5
  have M5 := Lib.hid (HM3.out _ _ m5.holds)
  have hsub : ((L.length : Int) + 1) - 1 = (L.length : Int) := by omega
  have hsub2 : ((L.length + 1 : Nat) : Int) - 1 = (L.length : Int) := by omega
  have hc0 : (L.length : Int) ≤ c0 := by omega
  clear hbg5 m5
  go_wp2_with fail
  generalize w3.alloc (.cells a.cells 28) = w4 at M4 M5 hbg4 lt4 at4 hcg4 hfr4 ⊢
  go_region
  all_goals
    go_wp2
    go_ret
    unfold CTPost
    rw [HT.out]
    exact ⟨rfl, M5.out⟩
theorem chest_tear (w : World) (g : Nat) (F : Nat → Prop) (L : List Record) (client no : Int) (c : Call) (keep : Int) (h : (repChest g).on w F L) (hL : LogOk L) (hst : StrCall c) :
    Calls Try.prog 63 #[.pointer (some ⟨g, 0, none⟩), .int .i64 client, .int .i64 no, .agg c.cells, .int .i64 keep] w (CTPost w g F (chestTear L client no c keep)) := by
  by_cases hcut : (chestCall L client no c).1.2.2 = 0 ∧ 0 < (chestCall L client no c).1.2.1 ∧ keep < (chestCall L client no c).1.2.1
  · exact chest_tear_yes w g F L client no c keep h hL hst hcut.1 hcut.2.1 hcut.2.2
  · exact chest_tear_no w g F L client no c keep h hL hst hcut
end Go.Proofs.Ytalfbhhldfffkab
