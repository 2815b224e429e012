/- DrawerC6: the reference's Drawer: Do, where the files change. -/
import Derived.Test.YtalfbhhldfffkabDrawerC5
namespace Go.Proofs.Ytalfbhhldfffkab
open Go.RowKit

theorem flat_name (l : List FileD) (i : Nat) (f : FileD) (hf : l[i]? = some f) (t : ByteArray) : (flat l).set (i * 2) (.string t) = flat (l.set i ⟨t, f.text⟩) := by
  induction l generalizing i with
  | nil => simp at hf
  | cons x l ih =>
    rw [flat_cons]
    cases i with
    | zero =>
      simp at hf; subst hf
      rw [List.set_cons_zero, flat_cons]
      rfl
    | succ i =>
      rw [List.set_cons_succ, flat_cons, ← ih i (by simpa using hf), show (i + 1) * 2 = i * 2 + 1 + 1 by omega]
      rfl
theorem Owns.setName {w : World} {e : TypeId} {q n c : Nat} {l : List FileD} (h : Owns w e (.slice (some ⟨q, 0, none⟩) n c) l) {i : Nat} {f : FileD} (hf : l[i]? = some f) (t : ByteArray) :
    Owns (w.setCell ⟨q, i * 2, none⟩ (.string t)) e (.slice (some ⟨q, 0, none⟩) n c) (l.set i ⟨t, f.text⟩) := by
  rcases h.2 with ⟨hv, _⟩ | ⟨g', cap, cur, hv, hb, hg, hn, hc, hs, ht⟩
  · cases hv
  · injection hv with e1 e2 e3
    injection e1 with e1
    injection e1 with e1
    subst e1
    refine ⟨by rw [length_flat], .inr ⟨q, cap, cur.setIfInBounds (i * 2) (.string t), by rw [e2, e3, List.length_set], hb, heap_setCell_same w q (i * 2) cur e _ hg, by rw [List.length_set]; exact hn, hc, by simpa using hs, ?_⟩⟩
    rw [List.length_set, ← flat_name l i f hf, ← ht, Array.toList_setIfInBounds, List.take_set]


set_option maxHeartbeats 1000000 in
set_option maxRecDepth 100000 in
theorem drawer_do_append (w : World) (g : Nat) (F : Nat → Prop) (d : List FileD) (x : Call) (h : (repHolds g 118 120).on w F d) (hok : DOk d) (hst : StrCall x) (hn : callCode x = 0) (hkk : x.kind = 4) (i : Nat) (f : FileD) (hd : dAt d x.name = some i) (hf : d[i]? = some f) (hsz : f.text.size ≤ 16) (hxs : x.text.size ≤ 8) (hlong : ¬ 16 < f.text.size + x.text.size) :
    Calls Try.prog 61 #[.pointer (some ⟨g, 0, none⟩), .agg x.cells] w (DDPost w g F d x) := by
  have HD := Lib.hid (show ddo d x = (ans 0, d.set i ⟨f.name, f.text ++ x.text⟩) by rw [ddo_found hn (by omega) (by omega) hd hf, if_neg (by omega), if_pos hkk, if_neg hlong])
  have HR := Lib.hid h
  obtain ⟨v, hF, hh⟩ := h
  obtain ⟨A, c, rfl, hc, hcm, hr⟩ := hh.own.form
  have hlt := hh.lt
  have H := Lib.hid hh
  have HOK := Lib.hid hok
  have HF := Lib.hid hF
  have hl6 := hok.len
  have hg1 : (w.heap.size = g) = False := by simp; omega
  have hg2 : (w.heap.size + 1 = g) = False := by simp; omega
  have HC0 := Lib.hid hn
  have HST := Lib.hid hst
  clear hr hok hh hF hst
  have HDI := Lib.hid hd
  have hk6 : (x.kind == 6) = false := beq_eq_false_iff_ne.2 (by omega)
  have hk1 : (x.kind == 1) = false := beq_eq_false_iff_ne.2 (by omega)
  have hil : i < d.length := (List.getElem?_eq_some_iff.1 hf).1
  obtain ⟨ad, rfl, hadb, hat⟩ := H.out.own.reads i f hf
  have HFI := Lib.hid hf
  have HAT := Lib.hid (show At w (ad.add (i * 2)) f from hat)
  have HQ := Lib.hid H.out.own.some_form
  have HNE := Lib.hid (H.out.own.elem H.out.cell (by decide))
  have hi0 : (0 : Int) ≤ (i : Int) := by omega
  have hi1 : (i : Int) < (d.length : Int) := by omega
  have hi2 : (i : Int) ≤ 1000 := by omega
  clear hd hf hat
  have hk5 : (x.kind == 5) = false := by rw [hkk]; rfl
  have hk4 : (x.kind == 4) = true := by rw [hkk]; rfl
  clear hn hkk
  have hlong' : (f.text.size : Int) + (x.text.size : Int) ≤ 16 := by omega
  have hs1 : (0 : Int) ≤ (f.text.size : Int) + (x.text.size : Int) := by omega
  have hsw : IntKind.i64.wrap ((f.text.size : Int) + (x.text.size : Int)) = (f.text.size : Int) + (x.text.size : Int) := by rw [IntKind.wrap_i64]; omega
  have hbig : f.text.size + x.text.size ≤ 16 := by omega
  clear hlong
  go_enter Try.func61, Try.ntmps61
  go_wp2_with (first
    |
      (go_at_call 92
       refine (ref_fault' _ x _ HC0.out HST.out).mono ?_
       rintro e w1 ⟨rfl, hx1⟩
       have hbx1 := hx1.blk (b := w.heap.size) (o := .cells x.cells 31 (0, 0)) (by simp only [heap_alloc_past, heap_alloc_at, World.size_alloc, Nat.lt_add_one]) id
       have hbr1 := hx1.blk (b := w.heap.size + 1) (o := .cells Answer.zero.cells 28 (0, 0)) (by simp only [heap_alloc_at, World.size_alloc]) id
       have ht1 := (((Touch.refl (fun _ => False) w).alloc (.cells x.cells 31)).alloc (.cells Answer.zero.cells 28)).trans hx1
       have hbg1 := ht1.blk H.out.cell id
       have hc10 := cell_of hbx1 0
       have hc11 := cell_of hbx1 1
       have hc12 := cell_of hbx1 2
       have hc13 := cell_of hbx1 3
       have hcg1 := cell_of hbg1 0
       have hlb1 : w.heap.size + 2 ≤ w1.heap.size := by have := hx1.size; simpa using this
       have HE1 := Lib.hid (show Ext w w1 from ht1)
       have HBG1 := Lib.hid hbg1
       have HRD := Lib.hid (Reads.ext H.out.reads ht1)
       clear hx1 ht1)
    )
  have hblk : (ad.add (i * 2)).block = ad.block := by unfold Addr.add; split <;> rfl
  have hbl1 : ad.block < w1.heap.size := by omega
  have HA1 := Lib.hid (show At w1 (ad.add (i * 2)) f from HAT.out.of_same (by rw [hblk]; exact HE1.out.block _ hadb id))
  have hcn : w1.cell? (ad.add (i * 2)) = some (.string f.name) := HA1.out 0 (.string f.name) rfl
  have hct : w1.cell? ⟨ad.block, (ad.add (i * 2)).off + 1, none⟩ = some (.string f.text) := by
    have hadd1 : ∀ a : Addr, a.add 1 = ⟨a.block, a.off + 1, none⟩ := fun a => by simp [Addr.add]
    have h2 := HA1.out 1 (.string f.text) rfl
    rwa [hadd1, hblk] at h2
  have hfz : ∀ o, w1.frozen? ⟨ad.block, o, none⟩ = false := fun o => by
    rcases (H.out.ext HE1.out).own.2 with ⟨hv, _⟩ | ⟨g', cap, cur, hv, _, hg, _⟩
    · cases hv
    · injection hv with e1
      injection e1 with e1
      have : ad.block = g' := by rw [e1]
      rw [this]
      exact frozen_of hg _
  have hft := hfz ((ad.add (i * 2)).off + 1)
  go_quiet ((go_at_call 93; exact Calls.quiet_of_same (drawer_at_some _ w1.heap.size _ c d x.name i (HRD.out.below fun _ _ => rfl) (by omega) HDI.out)))
  go_wp2_with fail
  go_quiet (fail)
  go_wp2_with fail
  generalize hW : World.drewN w1 _ = w2
  have HE2 := Lib.hid (show Ext w w2 by rw [← hW]; exact HE1.out.drewN _)
  have hbr2 : w2.heap[w.heap.size + 1]? = some (.cells Answer.zero.cells 28 (0, 0)) := by rw [← hW]; exact hbr1
  have hbx2 : w2.heap[w.heap.size]? = some (.cells x.cells 31 (0, 0)) := by rw [← hW]; exact hbx1
  have hbg2 : w2.heap[g]? = some (.cells #[.slice (some ad) d.length c] 118 (0, 0)) := by rw [← hW]; exact hbg1
  have hlw2 : w.heap.size + 2 ≤ w2.heap.size := by rw [← hW]; exact hlb1
  have hlg2 : g < w2.heap.size := by omega
  have hlr2 : w.heap.size + 1 < w2.heap.size := by omega
  have hlx2 : w.heap.size < w2.heap.size := by omega
  have hcg2 := cell_of hbg2 0
  have hcx21 := cell_of hbx2 1
  have hcx22 := cell_of hbx2 2
  have hcx23 := cell_of hbx2 3
  have hcn2 : w2.cell? (ad.add (i * 2)) = some (.string f.name) := by rw [← hW]; exact hcn
  have hct2 : w2.cell? ⟨ad.block, (ad.add (i * 2)).off + 1, none⟩ = some (.string f.text) := by rw [← hW]; exact hct
  have hfz2 : ∀ o, w2.frozen? ⟨ad.block, o, none⟩ = false := fun o => by rw [← hW]; exact hfz o
  have hft2 := hfz2 ((ad.add (i * 2)).off + 1)
  have hfn2 : w2.frozen? (ad.add (i * 2)) = false := by
    have := hfz2 (ad.add (i * 2)).off
    obtain ⟨q, hq⟩ := HQ.out
    subst hq
    rw [show (⟨q, 0, none⟩ : Addr).add (i * 2) = ⟨q, ((⟨q, 0, none⟩ : Addr).add (i * 2)).off, none⟩ from by unfold Addr.add; split <;> rfl]
    exact this
  have hbl2 : ad.block < w2.heap.size := by omega
  have hnb2 : (w2.heap.size = ad.block) = False := by simp; omega
  clear hfz hfz2 hft hbr1 hbx1 hbg1 hcg1 hc10 hc11 hc12 hc13 hcn hct HA1 HBG1 hW HE1 hlb1 hbl1
  go_region
  generalize hV : World.setCell _ ⟨ad.block, (ad.add (i * 2)).off + 1, none⟩ (.string (f.text ++ x.text)) = w3
  have hbr3 : w3.heap[w.heap.size + 1]? = some (.cells Answer.zero.cells 28 (0, 0)) := by
    rw [← hV]; exact (heap_setCell_other _ ⟨ad.block, (ad.add (i * 2)).off + 1, none⟩ _ _ (by show w.heap.size + 1 ≠ _; show _ ≠ ad.block; omega)).trans hbr2
  have hS := Lib.hid (show (repHolds g 118 120).on w3 F (d.set i ⟨f.name, f.text ++ x.text⟩) from by
    rw [← hV]
    obtain ⟨q, hq⟩ := HQ.out
    subst hq
    have haq : ((⟨q, 0, none⟩ : Addr).add (i * 2)).off + 1 = i * 2 + 1 := by unfold Addr.add; split <;> simp_all
    rw [haq]
    refine ⟨.slice (some ⟨q, 0, none⟩) d.length c, HF.out, ?_, (H.out.ext (HE2.out.drewN _)).own.setText HFI.out _⟩
    exact (heap_setCell_other _ _ _ _ (fun e => HNE.out (by simp [Value.ownBlock]; exact e.symm))).trans hbg2)
  have hT := Lib.hid (show Touch F w w3 from by
    rw [← hV]; exact ((HE2.out.drewN _).mono fun _ h => h.elim).setCell (a := ⟨ad.block, (ad.add (i * 2)).off + 1, none⟩) (.inl ((HF.out _).2 (.inr (by show some ad.block = some _; rfl)))) _)
  clear hV
  obtain ⟨hlr3, hbr3'⟩ := Array.getElem?_eq_some_iff.1 hbr3
  have hlw3 := hT.out.size
  go_wp2
  refine ret_cell rfl isAnswer (w.heap.size + 1) (ans 0) rfl (setRow_heap _ _ _ _ _ _ hbr3) rfl ?_
  unfold DDPost
  rw [HD.out]
  have hnF : ¬ F (w.heap.size + 1) := fun hk => by have := Rep.lt _ HR.out _ hk; omega
  exact ⟨rfl, Moved.write2 hT.out (Rep.moved hS.out (Touch.refl _ _)) (by omega) hlr3 hnF ((Touch.refl (fun k => k = w.heap.size + 1) _).setRow (.inl rfl) _)⟩

set_option maxHeartbeats 1000000 in
set_option maxRecDepth 100000 in
theorem drawer_do_rename (w : World) (g : Nat) (F : Nat → Prop) (d : List FileD) (x : Call) (h : (repHolds g 118 120).on w F d) (hok : DOk d) (hst : StrCall x) (hn : callCode x = 0) (hkk : x.kind = 3) (i : Nat) (f : FileD) (hd : dAt d x.name = some i) (hf : d[i]? = some f) (hto : dAt d x.to_ = none) :
    Calls Try.prog 61 #[.pointer (some ⟨g, 0, none⟩), .agg x.cells] w (DDPost w g F d x) := by
  have HD := Lib.hid (show ddo d x = (ans 0, d.set i ⟨x.to_, f.text⟩) by rw [ddo_found hn (by omega) (by omega) hd hf, if_neg (by omega), if_neg (by omega), if_pos hkk, hto])
  have HR := Lib.hid h
  obtain ⟨v, hF, hh⟩ := h
  obtain ⟨A, c, rfl, hc, hcm, hr⟩ := hh.own.form
  have hlt := hh.lt
  have H := Lib.hid hh
  have HOK := Lib.hid hok
  have HF := Lib.hid hF
  have hl6 := hok.len
  have hg1 : (w.heap.size = g) = False := by simp; omega
  have hg2 : (w.heap.size + 1 = g) = False := by simp; omega
  have HC0 := Lib.hid hn
  have HST := Lib.hid hst
  clear hr hok hh hF hst
  have HDI := Lib.hid hd
  have hk6 : (x.kind == 6) = false := beq_eq_false_iff_ne.2 (by omega)
  have hk1 : (x.kind == 1) = false := beq_eq_false_iff_ne.2 (by omega)
  have hil : i < d.length := (List.getElem?_eq_some_iff.1 hf).1
  obtain ⟨ad, rfl, hadb, hat⟩ := H.out.own.reads i f hf
  have HFI := Lib.hid hf
  have HAT := Lib.hid (show At w (ad.add (i * 2)) f from hat)
  have HQ := Lib.hid H.out.own.some_form
  have HNE := Lib.hid (H.out.own.elem H.out.cell (by decide))
  have hi0 : (0 : Int) ≤ (i : Int) := by omega
  have hi1 : (i : Int) < (d.length : Int) := by omega
  have hi2 : (i : Int) ≤ 1000 := by omega
  clear hd hf hat
  have hk5 : (x.kind == 5) = false := by rw [hkk]; rfl
  have hk4 : (x.kind == 4) = false := by rw [hkk]; rfl
  have hk3 : (x.kind == 3) = true := by rw [hkk]; rfl
  clear hn hkk
  have HTO := Lib.hid hto
  clear hto
  go_enter Try.func61, Try.ntmps61
  go_wp2_with (first
    |
      (go_at_call 92
       refine (ref_fault' _ x _ HC0.out HST.out).mono ?_
       rintro e w1 ⟨rfl, hx1⟩
       have hbx1 := hx1.blk (b := w.heap.size) (o := .cells x.cells 31 (0, 0)) (by simp only [heap_alloc_past, heap_alloc_at, World.size_alloc, Nat.lt_add_one]) id
       have hbr1 := hx1.blk (b := w.heap.size + 1) (o := .cells Answer.zero.cells 28 (0, 0)) (by simp only [heap_alloc_at, World.size_alloc]) id
       have ht1 := (((Touch.refl (fun _ => False) w).alloc (.cells x.cells 31)).alloc (.cells Answer.zero.cells 28)).trans hx1
       have hbg1 := ht1.blk H.out.cell id
       have hc10 := cell_of hbx1 0
       have hc11 := cell_of hbx1 1
       have hc12 := cell_of hbx1 2
       have hc13 := cell_of hbx1 3
       have hcg1 := cell_of hbg1 0
       have hlb1 : w.heap.size + 2 ≤ w1.heap.size := by have := hx1.size; simpa using this
       have HE1 := Lib.hid (show Ext w w1 from ht1)
       have HBG1 := Lib.hid hbg1
       have HRD := Lib.hid (Reads.ext H.out.reads ht1)
       clear hx1 ht1)
    )
  have hblk : (ad.add (i * 2)).block = ad.block := by unfold Addr.add; split <;> rfl
  have hbl1 : ad.block < w1.heap.size := by omega
  have HA1 := Lib.hid (show At w1 (ad.add (i * 2)) f from HAT.out.of_same (by rw [hblk]; exact HE1.out.block _ hadb id))
  have hcn : w1.cell? (ad.add (i * 2)) = some (.string f.name) := HA1.out 0 (.string f.name) rfl
  have hct : w1.cell? ⟨ad.block, (ad.add (i * 2)).off + 1, none⟩ = some (.string f.text) := by
    have hadd1 : ∀ a : Addr, a.add 1 = ⟨a.block, a.off + 1, none⟩ := fun a => by simp [Addr.add]
    have h2 := HA1.out 1 (.string f.text) rfl
    rwa [hadd1, hblk] at h2
  have hfz : ∀ o, w1.frozen? ⟨ad.block, o, none⟩ = false := fun o => by
    rcases (H.out.ext HE1.out).own.2 with ⟨hv, _⟩ | ⟨g', cap, cur, hv, _, hg, _⟩
    · cases hv
    · injection hv with e1
      injection e1 with e1
      have : ad.block = g' := by rw [e1]
      rw [this]
      exact frozen_of hg _
  have hft := hfz ((ad.add (i * 2)).off + 1)
  go_quiet ((go_at_call 93; exact Calls.quiet_of_same (drawer_at_some _ w1.heap.size _ c d x.name i (HRD.out.below fun _ _ => rfl) (by omega) HDI.out)))
  go_wp2_with fail
  go_quiet ((go_at_call 93; exact quiet_more (drawer_at_none _ w1.heap.size _ c d x.to_ (HRD.out.below fun _ _ => rfl) (by omega) HTO.out)))
  go_wp2_with fail
  generalize hW : World.drewN w1 _ = w2
  have HE2 := Lib.hid (show Ext w w2 by rw [← hW]; exact HE1.out.drewN _)
  have hbr2 : w2.heap[w.heap.size + 1]? = some (.cells Answer.zero.cells 28 (0, 0)) := by rw [← hW]; exact hbr1
  have hbx2 : w2.heap[w.heap.size]? = some (.cells x.cells 31 (0, 0)) := by rw [← hW]; exact hbx1
  have hbg2 : w2.heap[g]? = some (.cells #[.slice (some ad) d.length c] 118 (0, 0)) := by rw [← hW]; exact hbg1
  have hlw2 : w.heap.size + 2 ≤ w2.heap.size := by rw [← hW]; exact hlb1
  have hlg2 : g < w2.heap.size := by omega
  have hlr2 : w.heap.size + 1 < w2.heap.size := by omega
  have hlx2 : w.heap.size < w2.heap.size := by omega
  have hcg2 := cell_of hbg2 0
  have hcx21 := cell_of hbx2 1
  have hcx22 := cell_of hbx2 2
  have hcx23 := cell_of hbx2 3
  have hcn2 : w2.cell? (ad.add (i * 2)) = some (.string f.name) := by rw [← hW]; exact hcn
  have hct2 : w2.cell? ⟨ad.block, (ad.add (i * 2)).off + 1, none⟩ = some (.string f.text) := by rw [← hW]; exact hct
  have hfz2 : ∀ o, w2.frozen? ⟨ad.block, o, none⟩ = false := fun o => by rw [← hW]; exact hfz o
  have hft2 := hfz2 ((ad.add (i * 2)).off + 1)
  have hfn2 : w2.frozen? (ad.add (i * 2)) = false := by
    have := hfz2 (ad.add (i * 2)).off
    obtain ⟨q, hq⟩ := HQ.out
    subst hq
    rw [show (⟨q, 0, none⟩ : Addr).add (i * 2) = ⟨q, ((⟨q, 0, none⟩ : Addr).add (i * 2)).off, none⟩ from by unfold Addr.add; split <;> rfl]
    exact this
  have hbl2 : ad.block < w2.heap.size := by omega
  have hnb2 : (w2.heap.size = ad.block) = False := by simp; omega
  clear hfz hfz2 hft hbr1 hbx1 hbg1 hcg1 hc10 hc11 hc12 hc13 hcn hct HA1 HBG1 hW HE1 hlb1 hbl1
  go_region
  generalize hV : World.setCell _ (ad.add (i * 2)) (.string (x.to_)) = w3
  have hbr3 : w3.heap[w.heap.size + 1]? = some (.cells Answer.zero.cells 28 (0, 0)) := by
    rw [← hV]; exact (heap_setCell_other _ (ad.add (i * 2)) _ _ (by show w.heap.size + 1 ≠ _; rw [hblk]; omega)).trans hbr2
  have hS := Lib.hid (show (repHolds g 118 120).on w3 F (d.set i ⟨x.to_, f.text⟩) from by
    rw [← hV]
    obtain ⟨q, hq⟩ := HQ.out
    subst hq
    rw [show (⟨q, 0, none⟩ : Addr).add (i * 2) = ⟨q, i * 2, none⟩ from by unfold Addr.add; split <;> simp_all]
    refine ⟨.slice (some ⟨q, 0, none⟩) d.length c, HF.out, ?_, (H.out.ext (HE2.out.drewN _)).own.setName HFI.out _⟩
    exact (heap_setCell_other _ _ _ _ (fun e => HNE.out (by simp [Value.ownBlock]; exact e.symm))).trans hbg2)
  have hT := Lib.hid (show Touch F w w3 from by
    rw [← hV]; exact ((HE2.out.drewN _).mono fun _ h => h.elim).setCell (a := (ad.add (i * 2))) (.inl ((HF.out _).2 (.inr (by show some ad.block = some _; rw [hblk])))) _)
  clear hV
  obtain ⟨hlr3, hbr3'⟩ := Array.getElem?_eq_some_iff.1 hbr3
  have hlw3 := hT.out.size
  go_wp2
  refine ret_cell rfl isAnswer (w.heap.size + 1) (ans 0) rfl (setRow_heap _ _ _ _ _ _ hbr3) rfl ?_
  unfold DDPost
  rw [HD.out]
  have hnF : ¬ F (w.heap.size + 1) := fun hk => by have := Rep.lt _ HR.out _ hk; omega
  exact ⟨rfl, Moved.write2 hT.out (Rep.moved hS.out (Touch.refl _ _)) (by omega) hlr3 hnF ((Touch.refl (fun k => k = w.heap.size + 1) _).setRow (.inl rfl) _)⟩

end Go.Proofs.Ytalfbhhldfffkab
