/- DrawerC7: the reference's Drawer: Do, whole. -/
import Derived.Test.YtalfbhhldfffkabDrawerC6
namespace Go.Proofs.Ytalfbhhldfffkab
open Go.RowKit


set_option maxHeartbeats 1000000 in
set_option maxRecDepth 100000 in
theorem drawer_do_made (w : World) (g : Nat) (F : Nat → Prop) (d : List FileD) (x : Call) (h : (repHolds g 118 120).on w F d) (hok : DOk d) (hst : StrCall x) (hn : callCode x = 0) (h1 : x.kind = 1) (hd : dAt d x.name = none) (hroom : d.length < 6) :
    Calls Try.prog 61 #[.pointer (some ⟨g, 0, none⟩), .agg x.cells] w (DDPost w g F d x) := by
  have HD := Lib.hid (show ddo d x = (ans 0, d ++ [⟨x.name, noText⟩]) by rw [ddo_make hn h1, hd]; simp only [if_neg (show ¬ 6 ≤ d.length by omega)])
  have HR := Lib.hid h
  obtain ⟨v, hF, hh⟩ := h
  obtain ⟨A, c, rfl, hc, hcm, hr⟩ := hh.own.form
  have hlt := hh.lt
  have H := Lib.hid hh
  have HOK := Lib.hid hok
  have HF := Lib.hid hF
  have hl6 := hok.len
  have hg1 : (w.heap.size = g) = False := by simp; omega
  have hg2 : (w.heap.size + 1 = g) = False := by simp; omega
  have HC0 := Lib.hid hn
  have HST := Lib.hid hst
  clear hr hok hh hF hst
  have HDI := Lib.hid hd
  have HNE := Lib.hid (H.out.own.elem H.out.cell (by decide))
  have hk6 : (x.kind == 6) = false := beq_eq_false_iff_ne.2 (by omega)
  have hk1 : (x.kind == 1) = true := by rw [h1]; rfl
  clear hn h1 hd
  go_enter Try.func61, Try.ntmps61
  go_wp2_with (first
    |
      (go_at_call 92
       refine (ref_fault' _ x _ HC0.out HST.out).mono ?_
       rintro e w1 ⟨rfl, hx1⟩
       have hbx1 := hx1.blk (b := w.heap.size) (o := .cells x.cells 31 (0, 0)) (by simp only [heap_alloc_past, heap_alloc_at, World.size_alloc, Nat.lt_add_one]) id
       have hbr1 := hx1.blk (b := w.heap.size + 1) (o := .cells Answer.zero.cells 28 (0, 0)) (by simp only [heap_alloc_at, World.size_alloc]) id
       have ht1 := (((Touch.refl (fun _ => False) w).alloc (.cells x.cells 31)).alloc (.cells Answer.zero.cells 28)).trans hx1
       have hbg1 := ht1.blk H.out.cell id
       have hc10 := cell_of hbx1 0
       have hc11 := cell_of hbx1 1
       have hc12 := cell_of hbx1 2
       have hc13 := cell_of hbx1 3
       have hcg1 := cell_of hbg1 0
       have hlb1 : w.heap.size + 2 ≤ w1.heap.size := by have := hx1.size; simpa using this
       have HE1 := Lib.hid (show Ext w w1 from ht1)
       have HBG1 := Lib.hid hbg1
       have HRD := Lib.hid (Reads.ext H.out.reads ht1)
       clear hx1 ht1)
    )
  go_quiet ((go_at_call 93; exact Calls.quiet_of_same (drawer_at_none _ w1.heap.size _ c d x.name (HRD.out.below fun _ _ => rfl) (by omega) HDI.out)))
  go_wp2_with fail
  generalize hW : World.drewN w1 _ = w2
  have HE2 := Lib.hid (show Ext w w2 by rw [← hW]; exact HE1.out.drewN _)
  have hbr2 : w2.heap[w.heap.size + 1]? = some (.cells Answer.zero.cells 28 (0, 0)) := by rw [← hW]; exact hbr1
  have hbx2 : w2.heap[w.heap.size]? = some (.cells x.cells 31 (0, 0)) := by rw [← hW]; exact hbx1
  have hbg2 : w2.heap[g]? = some (.cells #[.slice A d.length c] 118 (0, 0)) := by rw [← hW]; exact hbg1
  have hlw2 : w.heap.size + 2 ≤ w2.heap.size := by rw [← hW]; exact hlb1
  have hlg2 : g < w2.heap.size := by omega
  have hlr2 : w.heap.size + 1 < w2.heap.size := by omega
  have hlx2 : w.heap.size < w2.heap.size := by omega
  have hcg2 := cell_of hbg2 0
  have hcx20 := cell_of hbx2 0
  have hcx21 := cell_of hbx2 1
  have HRD2 := Lib.hid (Reads.ext H.out.reads HE2.out)
  clear hbr1 hbx1 hbg1 hcg1 hc10 hc11 hc12 hc13 HBG1 hW HE1 hlb1 HRD
  go_region_law (
    (refine step_append_own (by rfl) (.tmp 63) (.tmp 67) 118 (by rfl) elemFileR Try.underlying118 (v := .slice A d.length c) (l := d) (by rfl) (H.out.own.ext (by first | exact (HE2.out.drewN _).alloc _ | exact (HE2.out.drew).alloc _ | exact HE2.out.alloc _ | exact ((HE2.out.alloc _).drew) | exact ((HE2.out.alloc _).drewN _))) [⟨x.name, noText⟩] (by rfl) (d.length + 1) (by rfl) (by rfl) (reads_block (x := (⟨x.name, noText⟩ : FileD)) (t := 120) (fr := (0, 0)) (b := w2.heap.size) (by first | exact heap_alloc_new _ _ | (simp only [heap_alloc_at, heap_drew', heap_drewN', World.size_alloc]; rfl)) (w2.heap.size + 2) (by omega)) (by simp; omega) ?_
     intro A4 c4 w4 hown4 hgrow4 hat4
     have hx4 : Touch (fun k => (Value.slice A d.length c).ownBlock = some k) w w4 := Touch.grown (by first | exact ((HE2.out.drewN _).alloc _).mono (fun _ h => h.elim) | exact ((HE2.out.drew).alloc _).mono (fun _ h => h.elim) | exact (HE2.out.alloc _).mono (fun _ h => h.elim)) hgrow4 (fun q hq => .inl hq)
     have hbg4 := World.grownBy.blk hgrow4 (b := g) (o := .cells #[.slice A d.length c] 118 (0, 0)) (by first | exact (Below.heap_alloc _ _ _ hlg2).trans hbg2 | (simp only [heap_alloc_past, heap_drew', heap_drewN', hlg2, World.size_alloc, lt_size_add]; exact hbg2)) HNE.out
     have hbr4 := World.grownBy.blk hgrow4 (b := w.heap.size + 1) (o := .cells Answer.zero.cells 28 (0, 0)) (by first | exact (Below.heap_alloc _ _ _ hlr2).trans hbr2 | (simp only [heap_alloc_past, heap_drew', heap_drewN', hlr2, World.size_alloc, lt_size_add]; exact hbr2)) (fun e => by have := H.out.own.lt _ e; omega)
     have hc4 := cell_of hbg4 0
     have hf4 := frozen_of hbg4 0
     have hat4' : ∀ k, (Value.slice A4 (d.length + 1) c4).ownBlock = some k → (Value.slice A d.length c).ownBlock = some k ∨ w2.heap.size ≤ k := fun k hk => by
       rcases hat4 with h1 | h1
       · exact .inl (h1 ▸ hk)
       · rw [h1] at hk; injection hk with hk; refine .inr ?_; (try simp at hk); omega
     have HO4 := Lib.hid hown4
     have HX4 := Lib.hid hx4
     have HA4 := Lib.hid hat4'
     clear hown4 hgrow4 hat4 hat4' hx4))
  all_goals
    go_wp2
    refine ret_cell rfl isAnswer (w.heap.size + 1) (ans 0) rfl (setRow_heap _ _ _ _ _ _ ((heap_setCell_other _ ⟨g, 0, none⟩ _ _ (by show w.heap.size + 1 ≠ g; omega)).trans hbr4)) rfl ?_
    unfold DDPost
    rw [HD.out]
    have hnF : ¬ F (w.heap.size + 1) := fun hk => by have := Rep.lt _ HR.out _ hk; omega
    refine ⟨rfl, Holds.movedBy (l := d) HF.out ((Holds.stored hbg4 HO4.out (by decide)).setRow (b := w.heap.size + 1) (fun hk => ?_) _) (((HX4.out.mono fun k hk => .inl (.inr hk)).setCell (a := ⟨g, 0, none⟩) (.inl (.inl rfl)) _).setRow (.inr (by omega)) _) (fun k hk => (HA4.out k hk).imp_right fun h => by omega)⟩
    rcases hk with e | e
    · omega
    · rcases HA4.out _ e with h | h
      · have := H.out.own.lt _ h; omega
      · omega

set_option maxHeartbeats 1000000 in
set_option maxRecDepth 100000 in
theorem drawer_do_remove (w : World) (g : Nat) (F : Nat → Prop) (d : List FileD) (x : Call) (h : (repHolds g 118 120).on w F d) (hok : DOk d) (hst : StrCall x) (hn : callCode x = 0) (hkk : x.kind = 2) (i : Nat) (f : FileD) (hd : dAt d x.name = some i) (hf : d[i]? = some f) :
    Calls Try.prog 61 #[.pointer (some ⟨g, 0, none⟩), .agg x.cells] w (DDPost w g F d x) := by
  have HD := Lib.hid (show ddo d x = (ans 0, d.take i ++ d.drop (i + 1)) by rw [ddo_found hn (by omega) (by omega) hd hf, if_neg (by omega), if_neg (by omega), if_neg (by omega), List.eraseIdx_eq_take_drop_succ])
  have HR := Lib.hid h
  obtain ⟨v, hF, hh⟩ := h
  obtain ⟨A, c, rfl, hc, hcm, hr⟩ := hh.own.form
  have hlt := hh.lt
  have H := Lib.hid hh
  have HOK := Lib.hid hok
  have HF := Lib.hid hF
  have hl6 := hok.len
  have hg1 : (w.heap.size = g) = False := by simp; omega
  have hg2 : (w.heap.size + 1 = g) = False := by simp; omega
  have HC0 := Lib.hid hn
  have HST := Lib.hid hst
  clear hr hok hh hF hst
  have HDI := Lib.hid hd
  have hk6 : (x.kind == 6) = false := beq_eq_false_iff_ne.2 (by omega)
  have hk1 : (x.kind == 1) = false := beq_eq_false_iff_ne.2 (by omega)
  have hil : i < d.length := (List.getElem?_eq_some_iff.1 hf).1
  obtain ⟨ad, rfl, hadb, hat⟩ := H.out.own.reads i f hf
  have HFI := Lib.hid hf
  have HAT := Lib.hid (show At w (ad.add (i * 2)) f from hat)
  have HQ := Lib.hid H.out.own.some_form
  have HNE := Lib.hid (H.out.own.elem H.out.cell (by decide))
  have hi0 : (0 : Int) ≤ (i : Int) := by omega
  have hi1 : (i : Int) < (d.length : Int) := by omega
  have hi2 : (i : Int) ≤ 1000 := by omega
  clear hd hf hat
  have hk5 : (x.kind == 5) = false := by rw [hkk]; rfl
  have hk4 : (x.kind == 4) = false := by rw [hkk]; rfl
  have hk3 : (x.kind == 3) = false := by rw [hkk]; rfl
  have hk2 : (x.kind == 2) = true := by rw [hkk]; rfl
  clear hn hkk
  obtain ⟨A1, hA1⟩ : ∃ A1, (if c = i + 1 then some ad else some (ad.add ((i + 1) * 2))) = A1 := ⟨_, rfl⟩
  have HR1 := Lib.hid (H.out.own.reads.take i)
  have HR2 := Lib.hid (H.out.own.reads.cut (i + 1) c hc hA1)
  have hi4 : (0 : Int) ≤ (i : Int) + 1 := by omega
  have hi5 : (i : Int) + 1 ≤ (d.length : Int) := by omega
  have hi6 : i ≤ c := by omega
  have hi7 : i + 1 ≤ d.length := by omega
  go_enter Try.func61, Try.ntmps61
  go_wp2_with (first
    |
      (go_at_call 92
       refine (ref_fault' _ x _ HC0.out HST.out).mono ?_
       rintro e w1 ⟨rfl, hx1⟩
       have hbx1 := hx1.blk (b := w.heap.size) (o := .cells x.cells 31 (0, 0)) (by simp only [heap_alloc_past, heap_alloc_at, World.size_alloc, Nat.lt_add_one]) id
       have hbr1 := hx1.blk (b := w.heap.size + 1) (o := .cells Answer.zero.cells 28 (0, 0)) (by simp only [heap_alloc_at, World.size_alloc]) id
       have ht1 := (((Touch.refl (fun _ => False) w).alloc (.cells x.cells 31)).alloc (.cells Answer.zero.cells 28)).trans hx1
       have hbg1 := ht1.blk H.out.cell id
       have hc10 := cell_of hbx1 0
       have hc11 := cell_of hbx1 1
       have hc12 := cell_of hbx1 2
       have hc13 := cell_of hbx1 3
       have hcg1 := cell_of hbg1 0
       have hlb1 : w.heap.size + 2 ≤ w1.heap.size := by have := hx1.size; simpa using this
       have HE1 := Lib.hid (show Ext w w1 from ht1)
       have HBG1 := Lib.hid hbg1
       have HRD := Lib.hid (Reads.ext H.out.reads ht1)
       clear hx1 ht1)
    )
  go_quiet ((go_at_call 93; exact Calls.quiet_of_same (drawer_at_some _ w1.heap.size _ c d x.name i (HRD.out.below fun _ _ => rfl) (by omega) HDI.out)))
  go_wp2_with fail
  generalize hW : World.drewN w1 _ = w2
  have HE2 := Lib.hid (show Ext w w2 by rw [← hW]; exact HE1.out.drewN _)
  have hbr2 : w2.heap[w.heap.size + 1]? = some (.cells Answer.zero.cells 28 (0, 0)) := by rw [← hW]; exact hbr1
  have hbx2 : w2.heap[w.heap.size]? = some (.cells x.cells 31 (0, 0)) := by rw [← hW]; exact hbx1
  have hbg2 : w2.heap[g]? = some (.cells #[.slice (some ad) d.length c] 118 (0, 0)) := by rw [← hW]; exact hbg1
  have hlw2 : w.heap.size + 2 ≤ w2.heap.size := by rw [← hW]; exact hlb1
  have hlg2 : g < w2.heap.size := by omega
  have hlr2 : w.heap.size + 1 < w2.heap.size := by omega
  have hlx2 : w.heap.size < w2.heap.size := by omega
  have hcg2 := cell_of hbg2 0
  have hcx20 := cell_of hbx2 0
  have hcx21 := cell_of hbx2 1
  have HRD2 := Lib.hid (Reads.ext H.out.reads HE2.out)
  clear hbr1 hbx1 hbg1 hcg1 hc10 hc11 hc12 hc13 HBG1 hW HE1 hlb1 HRD
  have HT : Hid (i = (d.take i).length) := by show i = _; rw [List.length_take]; omega
  have HDR : Hid (d.length - (i + 1) = (d.drop (i + 1)).length) := by show _ = _; rw [List.length_drop]
  have HRW := Lib.hid (HR1.out.below (w' := w2) (fun k hk => HE2.out.block k hk id))
  have HRD := Lib.hid (HR2.out.below (w' := w2) (fun k hk => HE2.out.block k hk id))
  have hwr : IntKind.i64.wrap ((i : Int) + 1) = (i : Int) + 1 := IntWalk.i64_in _ (by omega)
  have hwn : ((i : Int) + 1).toNat = i + 1 := by omega
  have hl4 := Lib.hid hl6
  have hil' := Lib.hid hil
  go_region_law (first
    | (refine step_append_own (by rfl) (.tmp 135) (.tmp 140) 118 (by rfl) elemFileR Try.underlying118 (v := .slice none 0 0) (l := []) (by rfl) (Owns.nil _ _) (d.take i) HT.out i (by simp) (by rfl) HRW.out (by have := HT.out; have := hil'.out; have := hl4.out; simp; omega) ?_
       intro A2 c2 w3 hown2 hgrow2 hat2
       simp only [List.nil_append] at hown2
       have hob2 : ∀ k, (Value.slice A2 i c2).ownBlock = some k → w2.heap.size ≤ k := fun k hk => by
         rcases hat2 with h1 | h1 <;> rw [h1] at hk <;> simp [Value.ownBlock] at hk
         omega
       have hy2 := World.grownBy.blk hgrow2 (b := g) (o := .cells #[.slice (some ad) d.length c] 118 (0, 0)) hbg2 (by simp [Value.ownBlock])
       have hy21 := World.grownBy.blk hgrow2 (b := w.heap.size + 1) (o := .cells Answer.zero.cells 28 (0, 0)) hbr2 (by simp [Value.ownBlock])
       have hc2 := cell_of hy2 0
       have hsz2 : w2.heap.size ≤ w3.heap.size := hgrow2.size)
    | (refine step_append_own (by rfl) (.tmp 141) (.tmp 147) 118 (by rfl) elemFileR Try.underlying118 (v := .slice A2 i c2) (l := d.take i) (by rfl) hown2 (d.drop (i + 1)) HDR.out (i + (d.length - (i + 1))) (by rw [← HT.out]) (by rfl) (HRD.out.below fun k hk => hgrow2.block k (by have := HE2.out.size; show k < w2.heap.size; omega) (by simp [Value.ownBlock])) (by have := hl4.out; simp; omega) ?_
       intro A3 c3 w4 hown3 hgrow3 hat3
       have hob3 : ∀ k, (Value.slice A3 (i + (d.length - (i + 1))) c3).ownBlock = some k → w2.heap.size ≤ k := fun k hk => by
         rcases hat3 with h1 | h1
         · exact hob2 k (h1 ▸ hk)
         · rw [h1] at hk; injection hk with hk; have : w3.heap.size = k := hk; omega
       have hy3 := World.grownBy.blk hgrow3 hy2 (fun e => by have := hob2 _ e; omega)
       have hy31 := World.grownBy.blk hgrow3 hy21 (fun e => by have := hob2 _ e; omega)
       have hc3 := cell_of hy3 0
       have hf3 := frozen_of hy3 0
       have HO3 := Lib.hid hown3
       have HG2 := Lib.hid hgrow2
       have HG3 := Lib.hid hgrow3
       have HB2 := Lib.hid hob2
       have HB3 := Lib.hid hob3
       clear hown3 hown2 hob2 hob3 hat2 hat3 hgrow2 hgrow3))
  all_goals
    go_wp2
    refine ret_cell rfl isAnswer (w.heap.size + 1) (ans 0) rfl (setRow_heap _ _ _ _ _ _ ((heap_setCell_other _ ⟨g, 0, none⟩ _ _ (by show w.heap.size + 1 ≠ g; omega)).trans hy31)) rfl ?_
    unfold DDPost
    rw [HD.out]
    have hxx : Touch (fun _ => False) w w4 := ((HE2.out.drewN _).grown HG2.out (fun k hk => by simp [Value.ownBlock] at hk)).grown HG3.out (fun k hk => .inr (by have := HB2.out _ hk; omega))
    refine ⟨rfl, Holds.movedBy (l := d) HF.out ((Holds.stored hy3 HO3.out (by decide)).setRow (b := w.heap.size + 1) (fun hk => ?_) _) (((hxx.mono fun k hk => hk.elim).setCell (a := ⟨g, 0, none⟩) (.inl (.inl rfl)) _).setRow (.inr (by omega)) _) (fun k hk => .inr (by have := HB3.out _ hk; omega))⟩
    rcases hk with e | e
    · omega
    · have := HB3.out _ e; omega

theorem drawer_do (w : World) (g : Nat) (F : Nat → Prop) (d : List FileD) (x : Call) (h : (repHolds g 118 120).on w F d) (hok : DOk d) (hst : StrCall x) :
    Calls Try.prog 61 #[.pointer (some ⟨g, 0, none⟩), .agg x.cells] w (DDPost w g F d x) := by
  by_cases h0 : callCode x = 0
  · have hk := callCode_kind h0
    by_cases h6 : x.kind = 6
    · exact drawer_do_list w g F d x h hok hst h0 h6
    by_cases h1 : x.kind = 1
    · cases hd : dAt d x.name with
      | some i => exact drawer_do_there w g F d x h hok hst h0 h1 i hd
      | none =>
        by_cases hf : 6 ≤ d.length
        · exact drawer_do_full w g F d x h hok hst h0 h1 hd hf
        · exact drawer_do_made w g F d x h hok hst h0 h1 hd (by omega)
    cases hd : dAt d x.name with
    | none => exact drawer_do_lost w g F d x h hok hst h0 h6 h1 hd
    | some i =>
      obtain ⟨f, hf, _, _⟩ := dAt_some hd
      by_cases h5 : x.kind = 5
      · exact drawer_do_read w g F d x h hok hst h0 h5 i f hd hf
      by_cases h4 : x.kind = 4
      · have h8 := okText_le (callCode_text h0 h4)
        have h16 := (hok.each f (List.mem_of_getElem? hf)).2
        by_cases hlong : 16 < f.text.size + x.text.size
        · exact drawer_do_long w g F d x h hok hst h0 h4 i f hd hf h16 h8 hlong
        · exact drawer_do_append w g F d x h hok hst h0 h4 i f hd hf h16 h8 hlong
      by_cases h3 : x.kind = 3
      · cases hto : dAt d x.to_ with
        | some j => exact drawer_do_taken w g F d x h hok hst h0 h3 i j f hd hf hto
        | none => exact drawer_do_rename w g F d x h hok hst h0 h3 i f hd hf hto
      · exact drawer_do_remove w g F d x h hok hst h0 (by omega) i f hd hf
  · exact drawer_do_fault w g F d x _ h hok hst rfl h0
end Go.Proofs.Ytalfbhhldfffkab
