/- Files8: Do of files: a text put behind; Do, whole. -/
import Derived.Test.YtalfbhhldfffkabFiles7
namespace Go.Proofs.Ytalfbhhldfffkab
open Go.RowKit


theorem flat_text (l : List FileD) (i : Nat) (f : FileD) (hf : l[i]? = some f) (t : ByteArray) : (flat l).set (i * 2 + 1) (.string t) = flat (l.set i ⟨f.name, t⟩) := by
  induction l generalizing i with
  | nil => simp at hf
  | cons x l ih =>
    cases i with
    | zero =>
      simp at hf
      subst hf
      rw [List.set_cons_zero, flat_cons, flat_cons]
      rfl
    | succ i =>
      rw [List.set_cons_succ, flat_cons, flat_cons, ← ih i (by simpa using hf), show (i + 1) * 2 + 1 = (i * 2 + 1) + 2 by omega]
      rfl
theorem Owns.setText {w : World} {e : TypeId} {q n c : Nat} {l : List FileD} (h : Owns w e (.slice (some ⟨q, 0, none⟩) n c) l) {i : Nat} {f : FileD} (hf : l[i]? = some f) (t : ByteArray) :
    Owns (w.setCell ⟨q, i * 2 + 1, none⟩ (.string t)) e (.slice (some ⟨q, 0, none⟩) n c) (l.set i ⟨f.name, t⟩) := by
  have h1 := h.1
  rcases h.2 with ⟨hv, _⟩ | ⟨g', cap, cur, hv, hb, hg, hn, hc, hs, ht⟩
  · cases hv
  · injection hv with e1 e2 e3
    injection e1 with e1
    injection e1 with e1
    subst e1
    refine ⟨by rw [length_flat], .inr ⟨q, cap, cur.setIfInBounds (i * 2 + 1) (.string t), by rw [e2, e3, List.length_set], hb, heap_setCell_same w q (i * 2 + 1) cur e _ hg, by rw [List.length_set]; exact hn, hc, by simpa using hs, ?_⟩⟩
    rw [List.length_set, ← flat_text l i f hf, ← ht, Array.toList_setIfInBounds, List.take_set]

set_option maxHeartbeats 1000000 in
set_option maxRecDepth 100000 in
theorem files_do_append (w : World) (g : Nat) (F : Nat → Prop) (l : List FileD) (x : Call) (h : (repHolds g 105 112).on w F l) (hok : FOk l) (hst : StrCall x) (hn : callCode x = 0) (h4 : x.kind = 4) (i : Nat) (f : FileD) (hd : dAt l x.name = some i) (hf : l[i]? = some f)
    (hsz : f.text.size ≤ 16) (hxs : x.text.size ≤ 8) (hlong : ¬ 16 < f.text.size + x.text.size) :
    Calls Try.prog 14 #[.pointer (some ⟨g, 0, none⟩), .agg x.cells] w (DoPost w g F l x) := by
  have HD := Lib.hid (show fdo l x = (ans 0, l.set i ⟨f.name, f.text ++ x.text⟩) by rw [fdo_found hn (by omega) (by omega) hd hf, if_neg (by omega), if_pos h4, if_neg hlong])
  have HR := Lib.hid h
  obtain ⟨v, hF, hh⟩ := h
  obtain ⟨A, c, rfl, hc, hcm, hr⟩ := hh.own.form
  have hlt := hh.lt
  have H := Lib.hid hh
  have HOK := Lib.hid hok
  have HF := Lib.hid hF
  have hl6 := hok.len
  have hg1 : (w.heap.size = g) = False := by simp; omega
  have hg2 : (w.heap.size + 1 = g) = False := by simp; omega
  clear hr hok hh hF
  have HC0 := Lib.hid hn
  have HST := Lib.hid hst
  have HDI := Lib.hid hd
  have hk6 : (x.kind == 6) = false := beq_eq_false_iff_ne.2 (by omega)
  have hk1 : (x.kind == 1) = false := beq_eq_false_iff_ne.2 (by omega)
  have hil : i < l.length := (List.getElem?_eq_some_iff.1 hf).1
  obtain ⟨ad, rfl, hadb, hat⟩ := H.out.own.reads i f hf
  have HFI := Lib.hid hf
  have HAT := Lib.hid (show At w (ad.add (i * 2)) f from hat)
  have HQ := Lib.hid H.out.own.some_form
  clear hn hst hd hf hat
  have HNE := Lib.hid (H.out.own.elem H.out.cell (by decide))
  have hk5 : (x.kind == 5) = false := by rw [h4]; rfl
  have hk4 : (x.kind == 4) = true := by rw [h4]; rfl
  have hlong' : (f.text.size : Int) + (x.text.size : Int) ≤ 16 := by omega
  have hs1 : (0 : Int) ≤ (f.text.size : Int) + (x.text.size : Int) := by omega
  have hbig : f.text.size + x.text.size ≤ 16 := by omega
  clear h4 hlong
  go_enter Try.func14, Try.ntmps14
  go_wp2_with (first
    |
      (go_at_call 51
       refine (files_check' _ x _ HC0.out HST.out).mono ?_
       rintro e w1 ⟨rfl, hx1⟩
       have hbx1 := hx1.blk (b := w.heap.size) (o := .cells x.cells 31 (0, 0)) (by simp only [heap_alloc_past, heap_alloc_at, World.size_alloc, Nat.lt_add_one]) id
       have hbr1 := hx1.blk (b := w.heap.size + 1) (o := .cells Answer.zero.cells 28 (0, 0)) (by simp only [heap_alloc_at, World.size_alloc]) id
       have ht1 := (((Touch.refl (fun _ => False) w).alloc (.cells x.cells 31)).alloc (.cells Answer.zero.cells 28)).trans hx1
       have hbg1 := ht1.blk H.out.cell id
       have hc10 := cell_of hbx1 0
       have hc11 := cell_of hbx1 1
       have hc12 := cell_of hbx1 2
       have hc13 := cell_of hbx1 3
       have hcg1 := cell_of hbg1 0
       have hlb1 : w.heap.size + 2 ≤ w1.heap.size := by have := hx1.size; simpa using this
       have HE1 := Lib.hid (show Ext w w1 from ht1)
       have HBG1 := Lib.hid hbg1
       clear hx1 ht1)
    |
      (go_at_call 55
       refine (files_found w1 g _ l x.name i HDI.out (H.out.ext HE1.out) HOK.out.srt (by omega)).mono ?_
       rintro e w2 ⟨rfl, hx2⟩
       have hbr2 := hx2.blk (b := w.heap.size + 1) hbr1 id
       have hbg2 := hx2.blk hbg1 id
       have hbx2 := hx2.blk hbx1 id
       have hcg2 := cell_of hbg2 0
       have hcx20 := cell_of hbx2 0
       have hcx22 := cell_of hbx2 2
       have hcx23 := cell_of hbx2 3
       have hlw2 := hx2.size
       have hlx2 : w.heap.size < w2.heap.size := by omega
       have hlr2 : w.heap.size + 1 < w2.heap.size := by omega
       have hlg2 : g < w2.heap.size := by omega
       obtain ⟨_, hbr2'⟩ := Array.getElem?_eq_some_iff.1 hbr2
       obtain ⟨_, hbx2'⟩ := Array.getElem?_eq_some_iff.1 hbx2
       have hnx2 : (w2.heap.size = w.heap.size) = False := by simp; omega
       have hnr2 : (w2.heap.size = w.heap.size + 1) = False := by simp; omega
       have hng2 : (w2.heap.size = g) = False := by simp; omega
       have HE2 := Lib.hid (HE1.out.trans hx2)
       have hLV2 : LV Try.prog 112 (ad.add (i * 2)) w2 = .ok (.agg f.cells) w2 := LV_FileF (HAT.out.of_same (by rw [show (ad.add (i * 2)).block = ad.block by unfold Addr.add; split <;> rfl]; exact HE2.out.block _ hadb id))
       clear hx2)
    )
  have hblk : (ad.add (i * 2)).block = ad.block := by unfold Addr.add; split <;> rfl
  have hbl2 : ad.block < w2.heap.size := by omega
  have hnb2 : (w2.heap.size = ad.block) = False := by simp; omega
  have hct : w2.cell? ⟨ad.block, (ad.add (i * 2)).off + 1, none⟩ = some (.string f.text) := by
    have hadd1 : ∀ a : Addr, a.add 1 = ⟨a.block, a.off + 1, none⟩ := fun a => by simp [Addr.add]
    have h1 : At w2 (ad.add (i * 2)) f := HAT.out.of_same (by rw [hblk]; exact HE2.out.block _ hadb id)
    have h2 := h1 1 (.string f.text) rfl
    rwa [hadd1, hblk] at h2
  have hft : w2.frozen? ⟨ad.block, (ad.add (i * 2)).off + 1, none⟩ = false := by
    rcases (H.out.ext HE2.out).own.2 with ⟨hv, _⟩ | ⟨g', cap, cur, hv, _, hg, _⟩
    · cases hv
    · injection hv with e1
      injection e1 with e1
      have : ad.block = g' := by rw [e1]
      rw [this]
      exact frozen_of hg _
  go_region
  have hbr3 : (w2.setCell ⟨ad.block, (ad.add (i * 2)).off + 1, none⟩ (.string (f.text ++ x.text))).heap[w.heap.size + 1]? = some (.cells Answer.zero.cells 28 (0, 0)) :=
    (heap_setCell_other w2 ⟨ad.block, (ad.add (i * 2)).off + 1, none⟩ _ _ (show w.heap.size + 1 ≠ ad.block by omega)).trans hbr2
  have hS := Lib.hid (show (repHolds g 105 112).on (w2.setCell ⟨ad.block, (ad.add (i * 2)).off + 1, none⟩ (.string (f.text ++ x.text))) F (l.set i ⟨f.name, f.text ++ x.text⟩) from by
    obtain ⟨q, hq⟩ := HQ.out
    subst hq
    have haq : ((⟨q, 0, none⟩ : Addr).add (i * 2)).off + 1 = i * 2 + 1 := by unfold Addr.add; split <;> simp_all
    rw [haq]
    refine ⟨.slice (some ⟨q, 0, none⟩) l.length c, HF.out, ?_, (H.out.ext HE2.out).own.setText HFI.out _⟩
    exact (heap_setCell_other _ _ _ _ (fun e => HNE.out (by simp [Value.ownBlock]; exact e.symm))).trans hbg2)
  have hT := Lib.hid (show Touch F w (w2.setCell ⟨ad.block, (ad.add (i * 2)).off + 1, none⟩ (.string (f.text ++ x.text))) from
    (HE2.out.mono fun _ h => h.elim).setCell (a := ⟨ad.block, (ad.add (i * 2)).off + 1, none⟩) (.inl ((HF.out ad.block).2 (.inr rfl))) _)
  generalize w2.setCell ⟨ad.block, (ad.add (i * 2)).off + 1, none⟩ (.string (f.text ++ x.text)) = w3 at *
  obtain ⟨hlr3, hbr3'⟩ := Array.getElem?_eq_some_iff.1 hbr3
  have hlw3 := hT.out.size
  go_wp2
  refine ret_cell rfl isAnswer (w.heap.size + 1) (ans 0) rfl ((Below.heap_alloc _ _ _ (by simpa using hlr3)).trans (setRow_heap _ _ _ _ _ _ hbr3)) rfl ?_
  unfold DoPost
  rw [HD.out]
  have hnF : ¬ F (w.heap.size + 1) := fun hk => by have := Rep.lt _ HR.out _ hk; omega
  exact ⟨rfl, Moved.write2 hT.out (Rep.moved hS.out (Touch.refl _ _)) (by omega) hlr3 hnF (((Touch.refl (fun k => k = w.heap.size + 1) _).setRow (.inl rfl) _).alloc _).drew⟩

theorem files_do (w : World) (g : Nat) (F : Nat → Prop) (l : List FileD) (x : Call) (h : (repHolds g 105 112).on w F l) (hok : FOk l) (hst : StrCall x) :
    Calls Try.prog 14 #[.pointer (some ⟨g, 0, none⟩), .agg x.cells] w (DoPost w g F l x) := by
  by_cases h0 : callCode x = 0
  · have hk := callCode_kind h0
    by_cases h6 : x.kind = 6
    · exact files_do_list w g F l x h hok hst h0 h6
    by_cases h1 : x.kind = 1
    · cases hd : (dAt l x.name).isSome with
      | true => exact files_do_there w g F l x h hok hst h0 h1 hd
      | false =>
        by_cases hf : 6 ≤ l.length
        · exact files_do_full w g F l x h hok hst h0 h1 (by simpa using hd) hf
        · exact files_do_made w g F l x h hok hst h0 h1 hd (by omega)
    cases hd : dAt l x.name with
    | none => exact files_do_lost w g F l x h hok hst h0 h6 h1 hd
    | some i =>
      obtain ⟨f, hf, _, _⟩ := dAt_some hd
      by_cases h5 : x.kind = 5
      · exact files_do_read w g F l x h hok hst h0 h5 i f hd hf
      by_cases h4 : x.kind = 4
      · have h8 := okText_le (callCode_text h0 h4)
        have h16 := (hok.each f (List.mem_of_getElem? hf)).2
        by_cases hlong : 16 < f.text.size + x.text.size
        · exact files_do_long w g F l x h hok hst h0 h4 i f hd hf h16 h8 hlong
        · exact files_do_append w g F l x h hok hst h0 h4 i f hd hf h16 h8 hlong
      by_cases h3 : x.kind = 3
      · cases hto : dAt l x.to_ with
        | some j => exact files_do_taken w g F l x h hok hst h0 h3 i j f hd hf hto
        | none => exact files_do_rename w g F l x h hok hst h0 h3 i f hd hf hto
      · exact files_do_remove w g F l x h hok hst h0 (by omega) i f hd hf
  · exact files_do_fault w g F l x _ h hok hst rfl h0
end Go.Proofs.Ytalfbhhldfffkab
