/- Files7: Do of files, the ways that turn a file. -/
import Derived.Test.YtalfbhhldfffkabFiles6
namespace Go.Proofs.Ytalfbhhldfffkab
open Go.RowKit


/-- behind a step that touched the object, and a call that moved it, a block of one's own is written -/
theorem Moved.write2 {X : Type} {R : Rep X} {w wa w' w'' : World} {F : Nat → Prop} {x : X} (hx : Touch F w wa) (h : Moved R wa F x w') {b : Nat} (hb1 : w.heap.size ≤ b) (hb2 : b < wa.heap.size) (hF : ¬ F b) (ht : Touch (fun k => k = b) w' w'') : Moved R w F x w'' := by
  obtain ⟨F', h1, h2, h3⟩ := h
  have hn : ¬ F' b := fun hk => by
    rcases h3 b hk with h | h
    · exact hF h
    · omega
  refine ⟨F', R.touch h1 ht (fun k hk e => hn (e ▸ hk)), (hx.then h2 fun k hk => .inl hk).then ht fun k hk => .inr (by omega), fun k hk => ?_⟩
  rcases h3 k hk with h | h
  · exact .inl h
  · exact .inr (Nat.le_trans hx.size h)

set_option maxHeartbeats 1000000 in
set_option maxRecDepth 100000 in
theorem files_do_remove (w : World) (g : Nat) (F : Nat → Prop) (l : List FileD) (x : Call) (h : (repHolds g 105 112).on w F l) (hok : FOk l) (hst : StrCall x) (hn : callCode x = 0) (h2 : x.kind = 2) (i : Nat) (f : FileD) (hd : dAt l x.name = some i) (hf : l[i]? = some f) :
    Calls Try.prog 14 #[.pointer (some ⟨g, 0, none⟩), .agg x.cells] w (DoPost w g F l x) := by
  have HD := Lib.hid (show fdo l x = (ans 0, l.eraseIdx i) by rw [fdo_found hn (by omega) (by omega) hd hf, if_neg (by omega), if_neg (by omega), if_neg (by omega)])
  have HR := Lib.hid h
  obtain ⟨v, hF, hh⟩ := h
  obtain ⟨A, c, rfl, hc, hcm, hr⟩ := hh.own.form
  have hlt := hh.lt
  have H := Lib.hid hh
  have HOK := Lib.hid hok
  have HF := Lib.hid hF
  have hl6 := hok.len
  have hg1 : (w.heap.size = g) = False := by simp; omega
  have hg2 : (w.heap.size + 1 = g) = False := by simp; omega
  clear hr hok hh hF
  have HC0 := Lib.hid hn
  have HST := Lib.hid hst
  have HDI := Lib.hid hd
  have hk6 : (x.kind == 6) = false := beq_eq_false_iff_ne.2 (by omega)
  have hk1 : (x.kind == 1) = false := beq_eq_false_iff_ne.2 (by omega)
  have hil : i < l.length := (List.getElem?_eq_some_iff.1 hf).1
  obtain ⟨ad, rfl, hadb, hat⟩ := H.out.own.reads i f hf
  have HFI := Lib.hid hf
  have HAT := Lib.hid (show At w (ad.add (i * 2)) f from hat)
  have HQ := Lib.hid H.out.own.some_form
  clear hn hst hd hf hat
  have HNE := Lib.hid (H.out.own.elem H.out.cell (by decide))
  have hk5 : (x.kind == 5) = false := by rw [h2]; rfl
  have hk4 : (x.kind == 4) = false := by rw [h2]; rfl
  have hk3 : (x.kind == 3) = false := by rw [h2]; rfl
  have hk2 : (x.kind == 2) = true := by rw [h2]; rfl
  have hi1 : (0 : Int) ≤ (i : Int) + 1 := by omega
  have hi2 : (i : Int) + 1 ≤ 7 := by omega
  clear h2
  go_enter Try.func14, Try.ntmps14
  go_wp2_with (first
    |
      (go_at_call 51
       refine (files_check' _ x _ HC0.out HST.out).mono ?_
       rintro e w1 ⟨rfl, hx1⟩
       have hbx1 := hx1.blk (b := w.heap.size) (o := .cells x.cells 31 (0, 0)) (by simp only [heap_alloc_past, heap_alloc_at, World.size_alloc, Nat.lt_add_one]) id
       have hbr1 := hx1.blk (b := w.heap.size + 1) (o := .cells Answer.zero.cells 28 (0, 0)) (by simp only [heap_alloc_at, World.size_alloc]) id
       have ht1 := (((Touch.refl (fun _ => False) w).alloc (.cells x.cells 31)).alloc (.cells Answer.zero.cells 28)).trans hx1
       have hbg1 := ht1.blk H.out.cell id
       have hc10 := cell_of hbx1 0
       have hc11 := cell_of hbx1 1
       have hc12 := cell_of hbx1 2
       have hc13 := cell_of hbx1 3
       have hcg1 := cell_of hbg1 0
       have hlb1 : w.heap.size + 2 ≤ w1.heap.size := by have := hx1.size; simpa using this
       have HE1 := Lib.hid (show Ext w w1 from ht1)
       have HBG1 := Lib.hid hbg1
       clear hx1 ht1)
    |
      (go_at_call 55
       refine (files_found w1 g _ l x.name i HDI.out (H.out.ext HE1.out) HOK.out.srt (by omega)).mono ?_
       rintro e w2 ⟨rfl, hx2⟩
       have hbr2 := hx2.blk (b := w.heap.size + 1) hbr1 id
       have hbg2 := hx2.blk hbg1 id
       have hbx2 := hx2.blk hbx1 id
       have hcg2 := cell_of hbg2 0
       have hcx20 := cell_of hbx2 0
       have hcx22 := cell_of hbx2 2
       have hcx23 := cell_of hbx2 3
       have hlw2 := hx2.size
       have hlx2 : w.heap.size < w2.heap.size := by omega
       have hlr2 : w.heap.size + 1 < w2.heap.size := by omega
       have hlg2 : g < w2.heap.size := by omega
       obtain ⟨_, hbr2'⟩ := Array.getElem?_eq_some_iff.1 hbr2
       obtain ⟨_, hbx2'⟩ := Array.getElem?_eq_some_iff.1 hbx2
       have hnx2 : (w2.heap.size = w.heap.size) = False := by simp; omega
       have hnr2 : (w2.heap.size = w.heap.size + 1) = False := by simp; omega
       have hng2 : (w2.heap.size = g) = False := by simp; omega
       have HE2 := Lib.hid (HE1.out.trans hx2)
       have hLV2 : LV Try.prog 112 (ad.add (i * 2)) w2 = .ok (.agg f.cells) w2 := LV_FileF (HAT.out.of_same (by rw [show (ad.add (i * 2)).block = ad.block by unfold Addr.add; split <;> rfl]; exact HE2.out.block _ hadb id))
       clear hx2)
    |
      (go_at_call 57
       refine (delete_files' _ ad c l i hil ((H.out.ext (HE2.out.alloc _)).own) (by omega)).mono ?_
       rintro e w3 ⟨n3, hn3, rfl, ho3, ht3⟩
       have hbg3 := ht3.blk ((Below.heap_alloc w2 _ _ hlg2).trans hbg2) (fun e => HNE.out (by simp [Value.ownBlock, e]))
       have hbr3 := ht3.blk ((Below.heap_alloc w2 _ _ hlr2).trans hbr2) (fun e => by omega)
       have hbx3 := ht3.blk ((Below.heap_alloc w2 _ _ hlx2).trans hbx2) (fun e => by omega)
       have hbf3 := ht3.blk (heap_alloc_new w2 (.cells f.cells 112)) (fun e => by omega)
       have hcg3 := cell_of hbg3 0
       have hfg3 := frozen_of hbg3 0
       have hcx3 := cell_of hbx3 2
       have hcf3 := cell_of hbf3 1
       have HN3 := Lib.hid hn3
       have HO3 := Lib.hid ho3
       have HT3 := Lib.hid ht3
       have hlw3 : w2.heap.size + 1 ≤ w3.heap.size := by have := ht3.size; simpa using this
       clear hn3 ho3 ht3)
    )
  refine ret_cell rfl isAnswer (w.heap.size + 1) (ans 0) rfl (setRow_heap _ _ _ _ _ _ ((heap_setCell_other _ _ _ _ (show w.heap.size + 1 ≠ g by omega)).trans hbr3)) rfl ?_
  unfold DoPost
  rw [HD.out, List.eraseIdx_eq_take_drop_succ]
  have hll : (l.take i ++ l.drop (i + 1)).length = n3 := by simp; have := HN3.out; omega
  have hrep : (repHolds g 105 112).on (w3.setCell ⟨g, 0, none⟩ (.slice (some ad) n3 c)) F (l.take i ++ l.drop (i + 1)) := ⟨.slice (some ad) n3 c, HF.out, Holds.stored hbg3 HO3.out (by decide)⟩
  have ht : Touch F w (w3.setCell ⟨g, 0, none⟩ (.slice (some ad) n3 c)) :=
    (((HE2.out.alloc _).mono fun _ h => h.elim).then HT3.out fun k hk => .inl ((HF.out k).2 (.inr (by rw [hk]; rfl)))).setCell (.inl ((HF.out g).2 (.inl rfl))) _
  have hnF : ¬ F (w.heap.size + 1) := fun hk => by have := Rep.lt _ HR.out _ hk; omega
  exact ⟨rfl, Moved.write2 ht (Rep.moved hrep (Touch.refl _ _)) (by omega) (by simp; omega) hnF ((Touch.refl (fun k => k = w.heap.size + 1) _).setRow (.inl rfl) _)⟩

set_option maxHeartbeats 1000000 in
set_option maxRecDepth 100000 in
theorem files_do_rename (w : World) (g : Nat) (F : Nat → Prop) (l : List FileD) (x : Call) (h : (repHolds g 105 112).on w F l) (hok : FOk l) (hst : StrCall x) (hn : callCode x = 0) (h3 : x.kind = 3) (i : Nat) (f : FileD) (hd : dAt l x.name = some i) (hf : l[i]? = some f) (hto : dAt l x.to_ = none) :
    Calls Try.prog 14 #[.pointer (some ⟨g, 0, none⟩), .agg x.cells] w (DoPost w g F l x) := by
  have HD := Lib.hid (show fdo l x = (ans 0, insAt (l.eraseIdx i) ⟨x.to_, f.text⟩) by rw [fdo_found hn (by omega) (by omega) hd hf, if_neg (by omega), if_neg (by omega), if_pos h3, hto])
  have HR := Lib.hid h
  obtain ⟨v, hF, hh⟩ := h
  obtain ⟨A, c, rfl, hc, hcm, hr⟩ := hh.own.form
  have hlt := hh.lt
  have H := Lib.hid hh
  have HOK := Lib.hid hok
  have HF := Lib.hid hF
  have hl6 := hok.len
  have hg1 : (w.heap.size = g) = False := by simp; omega
  have hg2 : (w.heap.size + 1 = g) = False := by simp; omega
  clear hr hok hh hF
  have HC0 := Lib.hid hn
  have HST := Lib.hid hst
  have HDI := Lib.hid hd
  have hk6 : (x.kind == 6) = false := beq_eq_false_iff_ne.2 (by omega)
  have hk1 : (x.kind == 1) = false := beq_eq_false_iff_ne.2 (by omega)
  have hil : i < l.length := (List.getElem?_eq_some_iff.1 hf).1
  obtain ⟨ad, rfl, hadb, hat⟩ := H.out.own.reads i f hf
  have HFI := Lib.hid hf
  have HAT := Lib.hid (show At w (ad.add (i * 2)) f from hat)
  have HQ := Lib.hid H.out.own.some_form
  clear hn hst hd hf hat
  have HNE := Lib.hid (H.out.own.elem H.out.cell (by decide))
  have hte : (dAt (l.eraseIdx i) x.to_).isSome = false := by rw [dAt_erase hto]; rfl
  have HTE := Lib.hid hte
  have hts : (dAt l x.to_).isSome = false := by rw [hto]; rfl
  have hk5 : (x.kind == 5) = false := by rw [h3]; rfl
  have hk4 : (x.kind == 4) = false := by rw [h3]; rfl
  have hk3 : (x.kind == 3) = true := by rw [h3]; rfl
  have hi1 : (0 : Int) ≤ (i : Int) + 1 := by omega
  have hi2 : (i : Int) + 1 ≤ 7 := by omega
  have hnF : ¬ F (w.heap.size + 1) := fun hk => by have := Rep.lt _ HR.out _ hk; omega
  have HNF := Lib.hid hnF
  have hse := Lib.hid (HOK.out.srt.erase i)
  have hle : (l.eraseIdx i).length ≤ 6 := by rw [List.length_eraseIdx_of_lt hil]; omega
  clear h3 hto hnF
  go_enter Try.func14, Try.ntmps14
  go_wp2_with (first
    | (go_at_call 56
       have hrep : (repHolds g 105 112).on (w3.setCell ⟨g, 0, none⟩ (.slice (some ad) n3 c)) F (l.eraseIdx i) := ⟨.slice (some ad) n3 c, HF.out, Holds.stored hbg3 (by rw [List.eraseIdx_eq_take_drop_succ]; exact HO3.out) (by decide)⟩
       refine (files_add _ g F (l.eraseIdx i) ⟨x.to_, f.text⟩ hrep hse.out (by omega)).mono ?_
       rintro e w5 ⟨rfl, hm5⟩
       rw [HTE.out] at hm5
       have hbr5 : w5.heap[w.heap.size + 1]? = some (.cells Answer.zero.cells 28 (0, 0)) := by
         obtain ⟨F', _, ht, _⟩ := hm5
         exact ht.blk ((heap_setCell_other _ _ _ _ (show w.heap.size + 1 ≠ g by omega)).trans hbr3) HNF.out
       have HM5 := Lib.hid hm5
       clear hm5 hrep)
    | (go_at_call 55
       refine (files_find _ g _ l x.to_ (H.out.ext HE2.out |>.ext ((Touch.refl _ w2).alloc _)) HOK.out.srt (by omega)).mono ?_
       rintro e w4 ⟨rfl, hx4⟩
       have hbr4 := hx4.blk ((Below.heap_alloc w2 _ _ hlr2).trans hbr2) id
       have hbg4 := hx4.blk ((Below.heap_alloc w2 _ _ hlg2).trans hbg2) id
       have hbx4 := hx4.blk ((Below.heap_alloc w2 _ _ hlx2).trans hbx2) id
       have hbf4 := hx4.blk (heap_alloc_new w2 (.cells f.cells 112)) id
       have hcg4 := cell_of hbg4 0
       have HX4 := Lib.hid hx4
       have hlw4 : w2.heap.size + 1 ≤ w4.heap.size := by have := hx4.size; simpa using this
       clear hx4)
    |
      (go_at_call 51
       refine (files_check' _ x _ HC0.out HST.out).mono ?_
       rintro e w1 ⟨rfl, hx1⟩
       have hbx1 := hx1.blk (b := w.heap.size) (o := .cells x.cells 31 (0, 0)) (by simp only [heap_alloc_past, heap_alloc_at, World.size_alloc, Nat.lt_add_one]) id
       have hbr1 := hx1.blk (b := w.heap.size + 1) (o := .cells Answer.zero.cells 28 (0, 0)) (by simp only [heap_alloc_at, World.size_alloc]) id
       have ht1 := (((Touch.refl (fun _ => False) w).alloc (.cells x.cells 31)).alloc (.cells Answer.zero.cells 28)).trans hx1
       have hbg1 := ht1.blk H.out.cell id
       have hc10 := cell_of hbx1 0
       have hc11 := cell_of hbx1 1
       have hc12 := cell_of hbx1 2
       have hc13 := cell_of hbx1 3
       have hcg1 := cell_of hbg1 0
       have hlb1 : w.heap.size + 2 ≤ w1.heap.size := by have := hx1.size; simpa using this
       have HE1 := Lib.hid (show Ext w w1 from ht1)
       have HBG1 := Lib.hid hbg1
       clear hx1 ht1)
    |
      (go_at_call 55
       refine (files_found w1 g _ l x.name i HDI.out (H.out.ext HE1.out) HOK.out.srt (by omega)).mono ?_
       rintro e w2 ⟨rfl, hx2⟩
       have hbr2 := hx2.blk (b := w.heap.size + 1) hbr1 id
       have hbg2 := hx2.blk hbg1 id
       have hbx2 := hx2.blk hbx1 id
       have hcg2 := cell_of hbg2 0
       have hcx20 := cell_of hbx2 0
       have hcx22 := cell_of hbx2 2
       have hcx23 := cell_of hbx2 3
       have hlw2 := hx2.size
       have hlx2 : w.heap.size < w2.heap.size := by omega
       have hlr2 : w.heap.size + 1 < w2.heap.size := by omega
       have hlg2 : g < w2.heap.size := by omega
       obtain ⟨_, hbr2'⟩ := Array.getElem?_eq_some_iff.1 hbr2
       obtain ⟨_, hbx2'⟩ := Array.getElem?_eq_some_iff.1 hbx2
       have hnx2 : (w2.heap.size = w.heap.size) = False := by simp; omega
       have hnr2 : (w2.heap.size = w.heap.size + 1) = False := by simp; omega
       have hng2 : (w2.heap.size = g) = False := by simp; omega
       have HE2 := Lib.hid (HE1.out.trans hx2)
       have hLV2 : LV Try.prog 112 (ad.add (i * 2)) w2 = .ok (.agg f.cells) w2 := LV_FileF (HAT.out.of_same (by rw [show (ad.add (i * 2)).block = ad.block by unfold Addr.add; split <;> rfl]; exact HE2.out.block _ hadb id))
       clear hx2)
    | (go_at_call 57
       refine (delete_files' _ ad c l i hil ((H.out.ext ((HE2.out.alloc _).trans HX4.out)).own) (by omega)).mono ?_
       rintro e w3 ⟨n3, hn3, rfl, ho3, ht3⟩
       have hbg3 := ht3.blk hbg4 (fun e => HNE.out (by simp [Value.ownBlock, e]))
       have hbr3 := ht3.blk hbr4 (fun e => by omega)
       have hbx3 := ht3.blk hbx4 (fun e => by omega)
       have hbf3 := ht3.blk hbf4 (fun e => by omega)
       have hcg3 := cell_of hbg3 0
       have hfg3 := frozen_of hbg3 0
       have hcx3 := cell_of hbx3 2
       have hcf3 := cell_of hbf3 1
       have HN3 := Lib.hid hn3
       have HO3 := Lib.hid ho3
       have HT3 := Lib.hid ht3
       have hlw3 : w4.heap.size ≤ w3.heap.size := ht3.size
       clear hn3 ho3 ht3))
  refine ret_cell rfl isAnswer (w.heap.size + 1) (ans 0) rfl (setRow_heap _ _ _ _ _ _ hbr5) rfl ?_
  unfold DoPost
  rw [HD.out]
  have ht : Touch F w (w3.setCell ⟨g, 0, none⟩ (.slice (some ad) n3 c)) :=
    ((((HE2.out.alloc _).trans HX4.out).mono fun _ h => h.elim).then HT3.out fun k hk => .inl ((HF.out k).2 (.inr (by rw [hk]; rfl)))).setCell (.inl ((HF.out g).2 (.inl rfl))) _
  exact ⟨rfl, Moved.write2 ht HM5.out (by omega) (by simp; omega) HNF.out ((Touch.refl (fun k => k = w.heap.size + 1) _).setRow (.inl rfl) _)⟩
end Go.Proofs.Ytalfbhhldfffkab
