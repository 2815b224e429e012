/- DrawerC4: the reference's Drawer: Do, on. -/
import Derived.Test.YtalfbhhldfffkabDrawerC3
namespace Go.Proofs.Ytalfbhhldfffkab
open Go.RowKit


set_option maxHeartbeats 1000000 in
set_option maxRecDepth 100000 in
theorem drawer_do_lost (w : World) (g : Nat) (F : Nat → Prop) (d : List FileD) (x : Call) (h : (repHolds g 118 120).on w F d) (hok : DOk d) (hst : StrCall x) (hn : callCode x = 0) (h6 : x.kind ≠ 6) (h1 : x.kind ≠ 1) (hd : dAt d x.name = none) :
    Calls Try.prog 61 #[.pointer (some ⟨g, 0, none⟩), .agg x.cells] w (DDPost w g F d x) := by
  have HD := Lib.hid (ddo_lost (d := d) hn h6 h1 hd)
  have HR := Lib.hid h
  obtain ⟨v, hF, hh⟩ := h
  obtain ⟨A, c, rfl, hc, hcm, hr⟩ := hh.own.form
  have hlt := hh.lt
  have H := Lib.hid hh
  have HOK := Lib.hid hok
  have HF := Lib.hid hF
  have hl6 := hok.len
  have hg1 : (w.heap.size = g) = False := by simp; omega
  have hg2 : (w.heap.size + 1 = g) = False := by simp; omega
  have HC0 := Lib.hid hn
  have HST := Lib.hid hst
  clear hr hok hh hF hst
  have HDI := Lib.hid hd
  have hk6 : (x.kind == 6) = false := beq_eq_false_iff_ne.2 (by omega)
  have hk1 : (x.kind == 1) = false := beq_eq_false_iff_ne.2 (by omega)
  clear hn h6 h1 hd
  go_enter Try.func61, Try.ntmps61
  go_wp2_with (first
    |
      (go_at_call 92
       refine (ref_fault' _ x _ HC0.out HST.out).mono ?_
       rintro e w1 ⟨rfl, hx1⟩
       have hbx1 := hx1.blk (b := w.heap.size) (o := .cells x.cells 31 (0, 0)) (by simp only [heap_alloc_past, heap_alloc_at, World.size_alloc, Nat.lt_add_one]) id
       have hbr1 := hx1.blk (b := w.heap.size + 1) (o := .cells Answer.zero.cells 28 (0, 0)) (by simp only [heap_alloc_at, World.size_alloc]) id
       have ht1 := (((Touch.refl (fun _ => False) w).alloc (.cells x.cells 31)).alloc (.cells Answer.zero.cells 28)).trans hx1
       have hbg1 := ht1.blk H.out.cell id
       have hc10 := cell_of hbx1 0
       have hc11 := cell_of hbx1 1
       have hc12 := cell_of hbx1 2
       have hc13 := cell_of hbx1 3
       have hcg1 := cell_of hbg1 0
       have hlb1 : w.heap.size + 2 ≤ w1.heap.size := by have := hx1.size; simpa using this
       have HE1 := Lib.hid (show Ext w w1 from ht1)
       have HBG1 := Lib.hid hbg1
       have HRD := Lib.hid (Reads.ext H.out.reads ht1)
       clear hx1 ht1)
    )
  go_quiet ((go_at_call 93; exact Calls.quiet_of_same (drawer_at_none _ w1.heap.size A c d x.name (HRD.out.below fun _ _ => rfl) (by omega) HDI.out)))
  go_wp2
  refine ret_cell rfl isAnswer (w.heap.size + 1) (ans 6) rfl (setRow_heap _ _ _ _ _ _ hbr1) rfl ?_
  unfold DDPost
  rw [HD.out]
  exact ⟨rfl, Rep.moved HR.out ((HE1.out.drewN _).setRow (.inr (by omega)) _)⟩

set_option maxHeartbeats 1000000 in
set_option maxRecDepth 100000 in
theorem drawer_do_there (w : World) (g : Nat) (F : Nat → Prop) (d : List FileD) (x : Call) (h : (repHolds g 118 120).on w F d) (hok : DOk d) (hst : StrCall x) (hn : callCode x = 0) (h1 : x.kind = 1) (i : Nat) (hd : dAt d x.name = some i) :
    Calls Try.prog 61 #[.pointer (some ⟨g, 0, none⟩), .agg x.cells] w (DDPost w g F d x) := by
  have HD := Lib.hid (show ddo d x = (ans 5, d) by rw [ddo_make hn h1, hd])
  have HR := Lib.hid h
  obtain ⟨v, hF, hh⟩ := h
  obtain ⟨A, c, rfl, hc, hcm, hr⟩ := hh.own.form
  have hlt := hh.lt
  have H := Lib.hid hh
  have HOK := Lib.hid hok
  have HF := Lib.hid hF
  have hl6 := hok.len
  have hg1 : (w.heap.size = g) = False := by simp; omega
  have hg2 : (w.heap.size + 1 = g) = False := by simp; omega
  have HC0 := Lib.hid hn
  have HST := Lib.hid hst
  clear hr hok hh hF hst
  have HDI := Lib.hid hd
  have hk6 : (x.kind == 6) = false := beq_eq_false_iff_ne.2 (by omega)
  have hk1 : (x.kind == 1) = true := by rw [h1]; rfl
  have hi0 : (0 : Int) ≤ (i : Int) := by omega
  clear hn h1 hd
  go_enter Try.func61, Try.ntmps61
  go_wp2_with (first
    |
      (go_at_call 92
       refine (ref_fault' _ x _ HC0.out HST.out).mono ?_
       rintro e w1 ⟨rfl, hx1⟩
       have hbx1 := hx1.blk (b := w.heap.size) (o := .cells x.cells 31 (0, 0)) (by simp only [heap_alloc_past, heap_alloc_at, World.size_alloc, Nat.lt_add_one]) id
       have hbr1 := hx1.blk (b := w.heap.size + 1) (o := .cells Answer.zero.cells 28 (0, 0)) (by simp only [heap_alloc_at, World.size_alloc]) id
       have ht1 := (((Touch.refl (fun _ => False) w).alloc (.cells x.cells 31)).alloc (.cells Answer.zero.cells 28)).trans hx1
       have hbg1 := ht1.blk H.out.cell id
       have hc10 := cell_of hbx1 0
       have hc11 := cell_of hbx1 1
       have hc12 := cell_of hbx1 2
       have hc13 := cell_of hbx1 3
       have hcg1 := cell_of hbg1 0
       have hlb1 : w.heap.size + 2 ≤ w1.heap.size := by have := hx1.size; simpa using this
       have HE1 := Lib.hid (show Ext w w1 from ht1)
       have HBG1 := Lib.hid hbg1
       have HRD := Lib.hid (Reads.ext H.out.reads ht1)
       clear hx1 ht1)
    )
  go_quiet ((go_at_call 93; exact Calls.quiet_of_same (drawer_at_some _ w1.heap.size A c d x.name i (HRD.out.below fun _ _ => rfl) (by omega) HDI.out)))
  go_wp2
  refine ret_cell rfl isAnswer (w.heap.size + 1) (ans 5) rfl (setRow_heap _ _ _ _ _ _ hbr1) rfl ?_
  unfold DDPost
  rw [HD.out]
  exact ⟨rfl, Rep.moved HR.out ((HE1.out.drewN _).setRow (.inr (by omega)) _)⟩

set_option maxHeartbeats 1000000 in
set_option maxRecDepth 100000 in
theorem drawer_do_full (w : World) (g : Nat) (F : Nat → Prop) (d : List FileD) (x : Call) (h : (repHolds g 118 120).on w F d) (hok : DOk d) (hst : StrCall x) (hn : callCode x = 0) (h1 : x.kind = 1) (hd : dAt d x.name = none) (hfull : 6 ≤ d.length) :
    Calls Try.prog 61 #[.pointer (some ⟨g, 0, none⟩), .agg x.cells] w (DDPost w g F d x) := by
  have HD := Lib.hid (show ddo d x = (ans 7, d) by rw [ddo_make hn h1, hd]; simp only [if_pos hfull])
  have HR := Lib.hid h
  obtain ⟨v, hF, hh⟩ := h
  obtain ⟨A, c, rfl, hc, hcm, hr⟩ := hh.own.form
  have hlt := hh.lt
  have H := Lib.hid hh
  have HOK := Lib.hid hok
  have HF := Lib.hid hF
  have hl6 := hok.len
  have hg1 : (w.heap.size = g) = False := by simp; omega
  have hg2 : (w.heap.size + 1 = g) = False := by simp; omega
  have HC0 := Lib.hid hn
  have HST := Lib.hid hst
  clear hr hok hh hF hst
  have HDI := Lib.hid hd
  have hk6 : (x.kind == 6) = false := beq_eq_false_iff_ne.2 (by omega)
  have hk1 : (x.kind == 1) = true := by rw [h1]; rfl
  clear hn h1 hd
  go_enter Try.func61, Try.ntmps61
  go_wp2_with (first
    |
      (go_at_call 92
       refine (ref_fault' _ x _ HC0.out HST.out).mono ?_
       rintro e w1 ⟨rfl, hx1⟩
       have hbx1 := hx1.blk (b := w.heap.size) (o := .cells x.cells 31 (0, 0)) (by simp only [heap_alloc_past, heap_alloc_at, World.size_alloc, Nat.lt_add_one]) id
       have hbr1 := hx1.blk (b := w.heap.size + 1) (o := .cells Answer.zero.cells 28 (0, 0)) (by simp only [heap_alloc_at, World.size_alloc]) id
       have ht1 := (((Touch.refl (fun _ => False) w).alloc (.cells x.cells 31)).alloc (.cells Answer.zero.cells 28)).trans hx1
       have hbg1 := ht1.blk H.out.cell id
       have hc10 := cell_of hbx1 0
       have hc11 := cell_of hbx1 1
       have hc12 := cell_of hbx1 2
       have hc13 := cell_of hbx1 3
       have hcg1 := cell_of hbg1 0
       have hlb1 : w.heap.size + 2 ≤ w1.heap.size := by have := hx1.size; simpa using this
       have HE1 := Lib.hid (show Ext w w1 from ht1)
       have HBG1 := Lib.hid hbg1
       have HRD := Lib.hid (Reads.ext H.out.reads ht1)
       clear hx1 ht1)
    )
  go_quiet ((go_at_call 93; exact Calls.quiet_of_same (drawer_at_none _ w1.heap.size A c d x.name (HRD.out.below fun _ _ => rfl) (by omega) HDI.out)))
  go_wp2
  refine ret_cell rfl isAnswer (w.heap.size + 1) (ans 7) rfl (setRow_heap _ _ _ _ _ _ hbr1) rfl ?_
  unfold DDPost
  rw [HD.out]
  exact ⟨rfl, Rep.moved HR.out ((HE1.out.drewN _).setRow (.inr (by omega)) _)⟩

end Go.Proofs.Ytalfbhhldfffkab
