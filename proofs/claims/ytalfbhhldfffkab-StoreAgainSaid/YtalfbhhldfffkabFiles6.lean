/- Files6: Do of files, the ways that find the file. -/
import Derived.Test.YtalfbhhldfffkabFiles5
namespace Go.Proofs.Ytalfbhhldfffkab
open Go.RowKit


theorem files_found (w : World) (g : Nat) (v : Value) (l : List FileD) (s : ByteArray) (i : Nat) (hd : dAt l s = some i) (h : Holds w g 105 112 v l) (hs : Sorted l) (hl : l.length ≤ 1000) :
    Calls Try.prog 55 #[.pointer (some ⟨g, 0, none⟩), .string s] w fun e w' => e = .returned (.tuple #[.int .i64 i, .bool true]) ∧ Ext w w' :=
  (files_find w g v l s h hs hl).mono fun e w' ⟨he, hx⟩ => ⟨by rw [he, pos_at hs hd, hd]; rfl, hx⟩

theorem fdo_found {l : List FileD} {x : Call} (h0 : callCode x = 0) (h6 : x.kind ≠ 6) (h1 : x.kind ≠ 1) {i : Nat} {f : FileD} (hd : dAt l x.name = some i) (hf : l[i]? = some f) :
    fdo l x = (if x.kind = 5 then (⟨0, f.text⟩, l)
        else if x.kind = 4 then (if 16 < f.text.size + x.text.size then (ans 7, l) else (ans 0, l.set i ⟨f.name, f.text ++ x.text⟩))
        else if x.kind = 3 then (match dAt l x.to_ with
          | some _ => (ans 5, l)
          | none => (ans 0, insAt (l.eraseIdx i) ⟨x.to_, f.text⟩))
        else (ans 0, l.eraseIdx i)) := by
  unfold fdo; rw [if_neg (by simp [h0]), if_neg h6, if_neg h1, hd]
  simp only [hf]
  cases dAt l x.to_ <;> rfl


set_option maxHeartbeats 1000000 in
set_option maxRecDepth 100000 in
theorem files_do_read (w : World) (g : Nat) (F : Nat → Prop) (l : List FileD) (x : Call) (h : (repHolds g 105 112).on w F l) (hok : FOk l) (hst : StrCall x) (hn : callCode x = 0) (h5 : x.kind = 5) (i : Nat) (f : FileD) (hd : dAt l x.name = some i) (hf : l[i]? = some f) :
    Calls Try.prog 14 #[.pointer (some ⟨g, 0, none⟩), .agg x.cells] w (DoPost w g F l x) := by
  have HD := Lib.hid (show fdo l x = (⟨0, f.text⟩, l) by rw [fdo_found hn (by omega) (by omega) hd hf, if_pos h5])
  have HR := Lib.hid h
  obtain ⟨v, hF, hh⟩ := h
  obtain ⟨A, c, rfl, hc, hcm, hr⟩ := hh.own.form
  have hlt := hh.lt
  have H := Lib.hid hh
  have HOK := Lib.hid hok
  have HF := Lib.hid hF
  have hl6 := hok.len
  have hg1 : (w.heap.size = g) = False := by simp; omega
  have hg2 : (w.heap.size + 1 = g) = False := by simp; omega
  clear hr hok hh hF
  have HC0 := Lib.hid hn
  have HST := Lib.hid hst
  have HDI := Lib.hid hd
  have hk6 : (x.kind == 6) = false := beq_eq_false_iff_ne.2 (by omega)
  have hk1 : (x.kind == 1) = false := beq_eq_false_iff_ne.2 (by omega)
  have hil : i < l.length := (List.getElem?_eq_some_iff.1 hf).1
  obtain ⟨ad, rfl, hadb, hat⟩ := H.out.own.reads i f hf
  have HFI := Lib.hid hf
  have HAT := Lib.hid (show At w (ad.add (i * 2)) f from hat)
  have HQ := Lib.hid H.out.own.some_form
  clear hn hst hd hf hat
  have hk5 : (x.kind == 5) = true := by rw [h5]; rfl
  clear h5
  go_enter Try.func14, Try.ntmps14
  go_wp2_with (first
    |
      (go_at_call 51
       refine (files_check' _ x _ HC0.out HST.out).mono ?_
       rintro e w1 ⟨rfl, hx1⟩
       have hbx1 := hx1.blk (b := w.heap.size) (o := .cells x.cells 31 (0, 0)) (by simp only [heap_alloc_past, heap_alloc_at, World.size_alloc, Nat.lt_add_one]) id
       have hbr1 := hx1.blk (b := w.heap.size + 1) (o := .cells Answer.zero.cells 28 (0, 0)) (by simp only [heap_alloc_at, World.size_alloc]) id
       have ht1 := (((Touch.refl (fun _ => False) w).alloc (.cells x.cells 31)).alloc (.cells Answer.zero.cells 28)).trans hx1
       have hbg1 := ht1.blk H.out.cell id
       have hc10 := cell_of hbx1 0
       have hc11 := cell_of hbx1 1
       have hc12 := cell_of hbx1 2
       have hc13 := cell_of hbx1 3
       have hcg1 := cell_of hbg1 0
       have hlb1 : w.heap.size + 2 ≤ w1.heap.size := by have := hx1.size; simpa using this
       have HE1 := Lib.hid (show Ext w w1 from ht1)
       have HBG1 := Lib.hid hbg1
       clear hx1 ht1)
    |
      (go_at_call 55
       refine (files_found w1 g _ l x.name i HDI.out (H.out.ext HE1.out) HOK.out.srt (by omega)).mono ?_
       rintro e w2 ⟨rfl, hx2⟩
       have hbr2 := hx2.blk (b := w.heap.size + 1) hbr1 id
       have hbg2 := hx2.blk hbg1 id
       have hbx2 := hx2.blk hbx1 id
       have hcg2 := cell_of hbg2 0
       have hcx20 := cell_of hbx2 0
       have hcx22 := cell_of hbx2 2
       have hcx23 := cell_of hbx2 3
       have hlw2 := hx2.size
       have hlx2 : w.heap.size < w2.heap.size := by omega
       have hlr2 : w.heap.size + 1 < w2.heap.size := by omega
       have hlg2 : g < w2.heap.size := by omega
       obtain ⟨_, hbr2'⟩ := Array.getElem?_eq_some_iff.1 hbr2
       obtain ⟨_, hbx2'⟩ := Array.getElem?_eq_some_iff.1 hbx2
       have hnx2 : (w2.heap.size = w.heap.size) = False := by simp; omega
       have hnr2 : (w2.heap.size = w.heap.size + 1) = False := by simp; omega
       have hng2 : (w2.heap.size = g) = False := by simp; omega
       have HE2 := Lib.hid (HE1.out.trans hx2)
       have hLV2 : LV Try.prog 112 (ad.add (i * 2)) w2 = .ok (.agg f.cells) w2 := LV_FileF (HAT.out.of_same (by rw [show (ad.add (i * 2)).block = ad.block by unfold Addr.add; split <;> rfl]; exact HE2.out.block _ hadb id))
       clear hx2)
    )
  refine ret_cell rfl isAnswer (w.heap.size + 1) (⟨0, f.text⟩ : Answer) rfl ((Below.heap_alloc _ _ _ (by simpa using hlr2)).trans (setRow_heap _ _ _ _ _ _ hbr2)) rfl ?_
  unfold DoPost
  rw [HD.out]
  exact ⟨rfl, Rep.moved HR.out ((HE2.out.setRow (.inr (by omega)) _).alloc _)⟩

set_option maxHeartbeats 1000000 in
set_option maxRecDepth 100000 in
theorem files_do_long (w : World) (g : Nat) (F : Nat → Prop) (l : List FileD) (x : Call) (h : (repHolds g 105 112).on w F l) (hok : FOk l) (hst : StrCall x) (hn : callCode x = 0) (h4 : x.kind = 4) (i : Nat) (f : FileD) (hd : dAt l x.name = some i) (hf : l[i]? = some f)
    (hsz : f.text.size ≤ 16) (hxs : x.text.size ≤ 8) (hlong : 16 < f.text.size + x.text.size) :
    Calls Try.prog 14 #[.pointer (some ⟨g, 0, none⟩), .agg x.cells] w (DoPost w g F l x) := by
  have HD := Lib.hid (show fdo l x = (ans 7, l) by rw [fdo_found hn (by omega) (by omega) hd hf, if_neg (by omega), if_pos h4, if_pos hlong])
  have HR := Lib.hid h
  obtain ⟨v, hF, hh⟩ := h
  obtain ⟨A, c, rfl, hc, hcm, hr⟩ := hh.own.form
  have hlt := hh.lt
  have H := Lib.hid hh
  have HOK := Lib.hid hok
  have HF := Lib.hid hF
  have hl6 := hok.len
  have hg1 : (w.heap.size = g) = False := by simp; omega
  have hg2 : (w.heap.size + 1 = g) = False := by simp; omega
  clear hr hok hh hF
  have HC0 := Lib.hid hn
  have HST := Lib.hid hst
  have HDI := Lib.hid hd
  have hk6 : (x.kind == 6) = false := beq_eq_false_iff_ne.2 (by omega)
  have hk1 : (x.kind == 1) = false := beq_eq_false_iff_ne.2 (by omega)
  have hil : i < l.length := (List.getElem?_eq_some_iff.1 hf).1
  obtain ⟨ad, rfl, hadb, hat⟩ := H.out.own.reads i f hf
  have HFI := Lib.hid hf
  have HAT := Lib.hid (show At w (ad.add (i * 2)) f from hat)
  have HQ := Lib.hid H.out.own.some_form
  clear hn hst hd hf hat
  have hk5 : (x.kind == 5) = false := by rw [h4]; rfl
  have hk4 : (x.kind == 4) = true := by rw [h4]; rfl
  have hlong' : (16 : Int) < (f.text.size : Int) + (x.text.size : Int) := by omega
  have hs1 : (0 : Int) ≤ (f.text.size : Int) + (x.text.size : Int) := by omega
  have hs2 : (f.text.size : Int) + (x.text.size : Int) ≤ 24 := by omega
  clear h4
  go_enter Try.func14, Try.ntmps14
  go_wp2_with (first
    |
      (go_at_call 51
       refine (files_check' _ x _ HC0.out HST.out).mono ?_
       rintro e w1 ⟨rfl, hx1⟩
       have hbx1 := hx1.blk (b := w.heap.size) (o := .cells x.cells 31 (0, 0)) (by simp only [heap_alloc_past, heap_alloc_at, World.size_alloc, Nat.lt_add_one]) id
       have hbr1 := hx1.blk (b := w.heap.size + 1) (o := .cells Answer.zero.cells 28 (0, 0)) (by simp only [heap_alloc_at, World.size_alloc]) id
       have ht1 := (((Touch.refl (fun _ => False) w).alloc (.cells x.cells 31)).alloc (.cells Answer.zero.cells 28)).trans hx1
       have hbg1 := ht1.blk H.out.cell id
       have hc10 := cell_of hbx1 0
       have hc11 := cell_of hbx1 1
       have hc12 := cell_of hbx1 2
       have hc13 := cell_of hbx1 3
       have hcg1 := cell_of hbg1 0
       have hlb1 : w.heap.size + 2 ≤ w1.heap.size := by have := hx1.size; simpa using this
       have HE1 := Lib.hid (show Ext w w1 from ht1)
       have HBG1 := Lib.hid hbg1
       clear hx1 ht1)
    |
      (go_at_call 55
       refine (files_found w1 g _ l x.name i HDI.out (H.out.ext HE1.out) HOK.out.srt (by omega)).mono ?_
       rintro e w2 ⟨rfl, hx2⟩
       have hbr2 := hx2.blk (b := w.heap.size + 1) hbr1 id
       have hbg2 := hx2.blk hbg1 id
       have hbx2 := hx2.blk hbx1 id
       have hcg2 := cell_of hbg2 0
       have hcx20 := cell_of hbx2 0
       have hcx22 := cell_of hbx2 2
       have hcx23 := cell_of hbx2 3
       have hlw2 := hx2.size
       have hlx2 : w.heap.size < w2.heap.size := by omega
       have hlr2 : w.heap.size + 1 < w2.heap.size := by omega
       have hlg2 : g < w2.heap.size := by omega
       obtain ⟨_, hbr2'⟩ := Array.getElem?_eq_some_iff.1 hbr2
       obtain ⟨_, hbx2'⟩ := Array.getElem?_eq_some_iff.1 hbx2
       have hnx2 : (w2.heap.size = w.heap.size) = False := by simp; omega
       have hnr2 : (w2.heap.size = w.heap.size + 1) = False := by simp; omega
       have hng2 : (w2.heap.size = g) = False := by simp; omega
       have HE2 := Lib.hid (HE1.out.trans hx2)
       have hLV2 : LV Try.prog 112 (ad.add (i * 2)) w2 = .ok (.agg f.cells) w2 := LV_FileF (HAT.out.of_same (by rw [show (ad.add (i * 2)).block = ad.block by unfold Addr.add; split <;> rfl]; exact HE2.out.block _ hadb id))
       clear hx2)
    |
      (go_at_call 53
       refine (files_no _ 7).mono ?_
       rintro e w3 ⟨rfl, hx3⟩
       have hbr3 := hx3.blk (b := w.heap.size + 1) ((Below.heap_alloc w2 _ _ hlr2).trans hbr2) id
       have HX3 := Lib.hid hx3
       clear hx3)
    )
  refine ret_cell rfl isAnswer (w.heap.size + 1) (ans 7) rfl (setRow_heap _ _ _ _ _ _ hbr3) rfl ?_
  unfold DoPost
  rw [HD.out]
  exact ⟨rfl, Rep.moved HR.out (((HE2.out.alloc _).trans HX3.out).setRow (.inr (by omega)) _)⟩

set_option maxHeartbeats 1000000 in
set_option maxRecDepth 100000 in
theorem files_do_taken (w : World) (g : Nat) (F : Nat → Prop) (l : List FileD) (x : Call) (h : (repHolds g 105 112).on w F l) (hok : FOk l) (hst : StrCall x) (hn : callCode x = 0) (h3 : x.kind = 3) (i j : Nat) (f : FileD) (hd : dAt l x.name = some i) (hf : l[i]? = some f) (hto : dAt l x.to_ = some j) :
    Calls Try.prog 14 #[.pointer (some ⟨g, 0, none⟩), .agg x.cells] w (DoPost w g F l x) := by
  have HD := Lib.hid (show fdo l x = (ans 5, l) by rw [fdo_found hn (by omega) (by omega) hd hf, if_neg (by omega), if_neg (by omega), if_pos h3, hto])
  have HR := Lib.hid h
  obtain ⟨v, hF, hh⟩ := h
  obtain ⟨A, c, rfl, hc, hcm, hr⟩ := hh.own.form
  have hlt := hh.lt
  have H := Lib.hid hh
  have HOK := Lib.hid hok
  have HF := Lib.hid hF
  have hl6 := hok.len
  have hg1 : (w.heap.size = g) = False := by simp; omega
  have hg2 : (w.heap.size + 1 = g) = False := by simp; omega
  clear hr hok hh hF
  have HC0 := Lib.hid hn
  have HST := Lib.hid hst
  have HDI := Lib.hid hd
  have hk6 : (x.kind == 6) = false := beq_eq_false_iff_ne.2 (by omega)
  have hk1 : (x.kind == 1) = false := beq_eq_false_iff_ne.2 (by omega)
  have hil : i < l.length := (List.getElem?_eq_some_iff.1 hf).1
  obtain ⟨ad, rfl, hadb, hat⟩ := H.out.own.reads i f hf
  have HFI := Lib.hid hf
  have HAT := Lib.hid (show At w (ad.add (i * 2)) f from hat)
  have HQ := Lib.hid H.out.own.some_form
  clear hn hst hd hf hat
  have HTO := Lib.hid hto
  have hk5 : (x.kind == 5) = false := by rw [h3]; rfl
  have hk4 : (x.kind == 4) = false := by rw [h3]; rfl
  have hk3 : (x.kind == 3) = true := by rw [h3]; rfl
  clear h3 hto
  go_enter Try.func14, Try.ntmps14
  go_wp2_with (first
    | (go_at_call 55
       refine (files_found _ g _ l x.to_ j HTO.out (H.out.ext (HE2.out.alloc _)) HOK.out.srt (by omega)).mono ?_
       rintro e w4 ⟨rfl, hx4⟩
       have hbr4 := hx4.blk ((Below.heap_alloc w2 _ _ hlr2).trans hbr2) id
       have HX4 := Lib.hid hx4
       clear hx4)
    |
      (go_at_call 51
       refine (files_check' _ x _ HC0.out HST.out).mono ?_
       rintro e w1 ⟨rfl, hx1⟩
       have hbx1 := hx1.blk (b := w.heap.size) (o := .cells x.cells 31 (0, 0)) (by simp only [heap_alloc_past, heap_alloc_at, World.size_alloc, Nat.lt_add_one]) id
       have hbr1 := hx1.blk (b := w.heap.size + 1) (o := .cells Answer.zero.cells 28 (0, 0)) (by simp only [heap_alloc_at, World.size_alloc]) id
       have ht1 := (((Touch.refl (fun _ => False) w).alloc (.cells x.cells 31)).alloc (.cells Answer.zero.cells 28)).trans hx1
       have hbg1 := ht1.blk H.out.cell id
       have hc10 := cell_of hbx1 0
       have hc11 := cell_of hbx1 1
       have hc12 := cell_of hbx1 2
       have hc13 := cell_of hbx1 3
       have hcg1 := cell_of hbg1 0
       have hlb1 : w.heap.size + 2 ≤ w1.heap.size := by have := hx1.size; simpa using this
       have HE1 := Lib.hid (show Ext w w1 from ht1)
       have HBG1 := Lib.hid hbg1
       clear hx1 ht1)
    |
      (go_at_call 55
       refine (files_found w1 g _ l x.name i HDI.out (H.out.ext HE1.out) HOK.out.srt (by omega)).mono ?_
       rintro e w2 ⟨rfl, hx2⟩
       have hbr2 := hx2.blk (b := w.heap.size + 1) hbr1 id
       have hbg2 := hx2.blk hbg1 id
       have hbx2 := hx2.blk hbx1 id
       have hcg2 := cell_of hbg2 0
       have hcx20 := cell_of hbx2 0
       have hcx22 := cell_of hbx2 2
       have hcx23 := cell_of hbx2 3
       have hlw2 := hx2.size
       have hlx2 : w.heap.size < w2.heap.size := by omega
       have hlr2 : w.heap.size + 1 < w2.heap.size := by omega
       have hlg2 : g < w2.heap.size := by omega
       obtain ⟨_, hbr2'⟩ := Array.getElem?_eq_some_iff.1 hbr2
       obtain ⟨_, hbx2'⟩ := Array.getElem?_eq_some_iff.1 hbx2
       have hnx2 : (w2.heap.size = w.heap.size) = False := by simp; omega
       have hnr2 : (w2.heap.size = w.heap.size + 1) = False := by simp; omega
       have hng2 : (w2.heap.size = g) = False := by simp; omega
       have HE2 := Lib.hid (HE1.out.trans hx2)
       have hLV2 : LV Try.prog 112 (ad.add (i * 2)) w2 = .ok (.agg f.cells) w2 := LV_FileF (HAT.out.of_same (by rw [show (ad.add (i * 2)).block = ad.block by unfold Addr.add; split <;> rfl]; exact HE2.out.block _ hadb id))
       clear hx2)
    |
      (go_at_call 53
       refine (files_no _ 5).mono ?_
       rintro e w3 ⟨rfl, hx3⟩
       have hbr3 := hx3.blk (b := w.heap.size + 1) (hbr4) id
       have HX3 := Lib.hid hx3
       clear hx3)
    )
  refine ret_cell rfl isAnswer (w.heap.size + 1) (ans 5) rfl (setRow_heap _ _ _ _ _ _ hbr3) rfl ?_
  unfold DoPost
  rw [HD.out]
  exact ⟨rfl, Rep.moved HR.out ((((HE2.out.alloc _).trans HX4.out).trans HX3.out).setRow (.inr (by omega)) _)⟩
end Go.Proofs.Ytalfbhhldfffkab
