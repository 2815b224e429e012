/- DrawerC5: the reference's Drawer: Do, where the file is found. -/
import Derived.Test.YtalfbhhldfffkabDrawerC4
namespace Go.Proofs.Ytalfbhhldfffkab
open Go.RowKit

theorem quiet_more {P : Program} {f : FuncId} {args : Array Value} {w : World} {a n : Nat} {v : Value} (h : Calls P f args (w.drewN (a + n)) fun e w' => e = .returned v ∧ w' = w.drewN (a + n)) :
    Calls P f args (w.drewN (a + n)) fun e w'' => e = .returned v ∧ ∃ m, w'' = w.drewN (a + m) := h.mono fun _ _ ⟨he, hm⟩ => ⟨he, n, hm⟩
theorem Holds.movedBy {α : Type} [Lies α] {w w' : World} {F : Nat → Prop} {g : Nat} {T E : TypeId} {v v' : Value} {l l' : List α} (hF : ∀ k, F k ↔ foot g v k) (h' : Holds w' g T E v' l') (ht : Touch (foot g v) w w') (hf : ∀ k, v'.ownBlock = some k → v.ownBlock = some k ∨ w.heap.size ≤ k) :
    Moved (repHolds g T E) w F l' w' := by
  have e : F = foot g v := funext fun k => propext (hF k)
  subst e
  refine ⟨foot g v', ⟨v', fun _ => Iff.rfl, h'⟩, ht, fun k hk => ?_⟩
  rcases hk with rfl | hk
  · exact .inl (.inl rfl)
  · rcases hf k hk with h | h
    · exact .inl (.inr h)
    · exact .inr h


set_option maxHeartbeats 1000000 in
set_option maxRecDepth 100000 in
theorem drawer_do_read (w : World) (g : Nat) (F : Nat → Prop) (d : List FileD) (x : Call) (h : (repHolds g 118 120).on w F d) (hok : DOk d) (hst : StrCall x) (hn : callCode x = 0) (hkk : x.kind = 5) (i : Nat) (f : FileD) (hd : dAt d x.name = some i) (hf : d[i]? = some f) :
    Calls Try.prog 61 #[.pointer (some ⟨g, 0, none⟩), .agg x.cells] w (DDPost w g F d x) := by
  have HD := Lib.hid (show ddo d x = (⟨0, f.text⟩, d) by rw [ddo_found hn (by omega) (by omega) hd hf, if_pos hkk])
  have HR := Lib.hid h
  obtain ⟨v, hF, hh⟩ := h
  obtain ⟨A, c, rfl, hc, hcm, hr⟩ := hh.own.form
  have hlt := hh.lt
  have H := Lib.hid hh
  have HOK := Lib.hid hok
  have HF := Lib.hid hF
  have hl6 := hok.len
  have hg1 : (w.heap.size = g) = False := by simp; omega
  have hg2 : (w.heap.size + 1 = g) = False := by simp; omega
  have HC0 := Lib.hid hn
  have HST := Lib.hid hst
  clear hr hok hh hF hst
  have HDI := Lib.hid hd
  have hk6 : (x.kind == 6) = false := beq_eq_false_iff_ne.2 (by omega)
  have hk1 : (x.kind == 1) = false := beq_eq_false_iff_ne.2 (by omega)
  have hil : i < d.length := (List.getElem?_eq_some_iff.1 hf).1
  obtain ⟨ad, rfl, hadb, hat⟩ := H.out.own.reads i f hf
  have HFI := Lib.hid hf
  have HAT := Lib.hid (show At w (ad.add (i * 2)) f from hat)
  have HQ := Lib.hid H.out.own.some_form
  have HNE := Lib.hid (H.out.own.elem H.out.cell (by decide))
  have hi0 : (0 : Int) ≤ (i : Int) := by omega
  have hi1 : (i : Int) < (d.length : Int) := by omega
  have hi2 : (i : Int) ≤ 1000 := by omega
  clear hd hf hat
  have hk5 : (x.kind == 5) = true := by rw [hkk]; rfl
  clear hn hkk
  go_enter Try.func61, Try.ntmps61
  go_wp2_with (first
    |
      (go_at_call 92
       refine (ref_fault' _ x _ HC0.out HST.out).mono ?_
       rintro e w1 ⟨rfl, hx1⟩
       have hbx1 := hx1.blk (b := w.heap.size) (o := .cells x.cells 31 (0, 0)) (by simp only [heap_alloc_past, heap_alloc_at, World.size_alloc, Nat.lt_add_one]) id
       have hbr1 := hx1.blk (b := w.heap.size + 1) (o := .cells Answer.zero.cells 28 (0, 0)) (by simp only [heap_alloc_at, World.size_alloc]) id
       have ht1 := (((Touch.refl (fun _ => False) w).alloc (.cells x.cells 31)).alloc (.cells Answer.zero.cells 28)).trans hx1
       have hbg1 := ht1.blk H.out.cell id
       have hc10 := cell_of hbx1 0
       have hc11 := cell_of hbx1 1
       have hc12 := cell_of hbx1 2
       have hc13 := cell_of hbx1 3
       have hcg1 := cell_of hbg1 0
       have hlb1 : w.heap.size + 2 ≤ w1.heap.size := by have := hx1.size; simpa using this
       have HE1 := Lib.hid (show Ext w w1 from ht1)
       have HBG1 := Lib.hid hbg1
       have HRD := Lib.hid (Reads.ext H.out.reads ht1)
       clear hx1 ht1)
    )
  have hblk : (ad.add (i * 2)).block = ad.block := by unfold Addr.add; split <;> rfl
  have hbl1 : ad.block < w1.heap.size := by omega
  have HA1 := Lib.hid (show At w1 (ad.add (i * 2)) f from HAT.out.of_same (by rw [hblk]; exact HE1.out.block _ hadb id))
  have hcn : w1.cell? (ad.add (i * 2)) = some (.string f.name) := HA1.out 0 (.string f.name) rfl
  have hct : w1.cell? ⟨ad.block, (ad.add (i * 2)).off + 1, none⟩ = some (.string f.text) := by
    have hadd1 : ∀ a : Addr, a.add 1 = ⟨a.block, a.off + 1, none⟩ := fun a => by simp [Addr.add]
    have h2 := HA1.out 1 (.string f.text) rfl
    rwa [hadd1, hblk] at h2
  have hfz : ∀ o, w1.frozen? ⟨ad.block, o, none⟩ = false := fun o => by
    rcases (H.out.ext HE1.out).own.2 with ⟨hv, _⟩ | ⟨g', cap, cur, hv, _, hg, _⟩
    · cases hv
    · injection hv with e1
      injection e1 with e1
      have : ad.block = g' := by rw [e1]
      rw [this]
      exact frozen_of hg _
  have hft := hfz ((ad.add (i * 2)).off + 1)
  go_quiet ((go_at_call 93; exact Calls.quiet_of_same (drawer_at_some _ w1.heap.size _ c d x.name i (HRD.out.below fun _ _ => rfl) (by omega) HDI.out)))
  go_wp2
  refine ret_cell rfl isAnswer (w.heap.size + 1) ((⟨0, f.text⟩ : Answer)) rfl (setRow_heap _ _ _ _ _ _ hbr1) rfl ?_
  unfold DDPost
  rw [HD.out]
  exact ⟨rfl, Rep.moved HR.out ((HE1.out.drewN _).setRow (.inr (by omega)) _)⟩

set_option maxHeartbeats 1000000 in
set_option maxRecDepth 100000 in
theorem drawer_do_long (w : World) (g : Nat) (F : Nat → Prop) (d : List FileD) (x : Call) (h : (repHolds g 118 120).on w F d) (hok : DOk d) (hst : StrCall x) (hn : callCode x = 0) (hkk : x.kind = 4) (i : Nat) (f : FileD) (hd : dAt d x.name = some i) (hf : d[i]? = some f) (hsz : f.text.size ≤ 16) (hxs : x.text.size ≤ 8) (hlong : 16 < f.text.size + x.text.size) :
    Calls Try.prog 61 #[.pointer (some ⟨g, 0, none⟩), .agg x.cells] w (DDPost w g F d x) := by
  have HD := Lib.hid (show ddo d x = (ans 7, d) by rw [ddo_found hn (by omega) (by omega) hd hf, if_neg (by omega), if_pos hkk, if_pos hlong])
  have HR := Lib.hid h
  obtain ⟨v, hF, hh⟩ := h
  obtain ⟨A, c, rfl, hc, hcm, hr⟩ := hh.own.form
  have hlt := hh.lt
  have H := Lib.hid hh
  have HOK := Lib.hid hok
  have HF := Lib.hid hF
  have hl6 := hok.len
  have hg1 : (w.heap.size = g) = False := by simp; omega
  have hg2 : (w.heap.size + 1 = g) = False := by simp; omega
  have HC0 := Lib.hid hn
  have HST := Lib.hid hst
  clear hr hok hh hF hst
  have HDI := Lib.hid hd
  have hk6 : (x.kind == 6) = false := beq_eq_false_iff_ne.2 (by omega)
  have hk1 : (x.kind == 1) = false := beq_eq_false_iff_ne.2 (by omega)
  have hil : i < d.length := (List.getElem?_eq_some_iff.1 hf).1
  obtain ⟨ad, rfl, hadb, hat⟩ := H.out.own.reads i f hf
  have HFI := Lib.hid hf
  have HAT := Lib.hid (show At w (ad.add (i * 2)) f from hat)
  have HQ := Lib.hid H.out.own.some_form
  have HNE := Lib.hid (H.out.own.elem H.out.cell (by decide))
  have hi0 : (0 : Int) ≤ (i : Int) := by omega
  have hi1 : (i : Int) < (d.length : Int) := by omega
  have hi2 : (i : Int) ≤ 1000 := by omega
  clear hd hf hat
  have hk5 : (x.kind == 5) = false := by rw [hkk]; rfl
  have hk4 : (x.kind == 4) = true := by rw [hkk]; rfl
  clear hn hkk
  have hlong' : (16 : Int) < (f.text.size : Int) + (x.text.size : Int) := by omega
  have hs1 : (0 : Int) ≤ (f.text.size : Int) + (x.text.size : Int) := by omega
  have hs2 : (f.text.size : Int) + (x.text.size : Int) ≤ 24 := by omega
  have hsw : IntKind.i64.wrap ((f.text.size : Int) + (x.text.size : Int)) = (f.text.size : Int) + (x.text.size : Int) := by rw [IntKind.wrap_i64]; omega
  go_enter Try.func61, Try.ntmps61
  go_wp2_with (first
    |
      (go_at_call 92
       refine (ref_fault' _ x _ HC0.out HST.out).mono ?_
       rintro e w1 ⟨rfl, hx1⟩
       have hbx1 := hx1.blk (b := w.heap.size) (o := .cells x.cells 31 (0, 0)) (by simp only [heap_alloc_past, heap_alloc_at, World.size_alloc, Nat.lt_add_one]) id
       have hbr1 := hx1.blk (b := w.heap.size + 1) (o := .cells Answer.zero.cells 28 (0, 0)) (by simp only [heap_alloc_at, World.size_alloc]) id
       have ht1 := (((Touch.refl (fun _ => False) w).alloc (.cells x.cells 31)).alloc (.cells Answer.zero.cells 28)).trans hx1
       have hbg1 := ht1.blk H.out.cell id
       have hc10 := cell_of hbx1 0
       have hc11 := cell_of hbx1 1
       have hc12 := cell_of hbx1 2
       have hc13 := cell_of hbx1 3
       have hcg1 := cell_of hbg1 0
       have hlb1 : w.heap.size + 2 ≤ w1.heap.size := by have := hx1.size; simpa using this
       have HE1 := Lib.hid (show Ext w w1 from ht1)
       have HBG1 := Lib.hid hbg1
       have HRD := Lib.hid (Reads.ext H.out.reads ht1)
       clear hx1 ht1)
    )
  have hblk : (ad.add (i * 2)).block = ad.block := by unfold Addr.add; split <;> rfl
  have hbl1 : ad.block < w1.heap.size := by omega
  have HA1 := Lib.hid (show At w1 (ad.add (i * 2)) f from HAT.out.of_same (by rw [hblk]; exact HE1.out.block _ hadb id))
  have hcn : w1.cell? (ad.add (i * 2)) = some (.string f.name) := HA1.out 0 (.string f.name) rfl
  have hct : w1.cell? ⟨ad.block, (ad.add (i * 2)).off + 1, none⟩ = some (.string f.text) := by
    have hadd1 : ∀ a : Addr, a.add 1 = ⟨a.block, a.off + 1, none⟩ := fun a => by simp [Addr.add]
    have h2 := HA1.out 1 (.string f.text) rfl
    rwa [hadd1, hblk] at h2
  have hfz : ∀ o, w1.frozen? ⟨ad.block, o, none⟩ = false := fun o => by
    rcases (H.out.ext HE1.out).own.2 with ⟨hv, _⟩ | ⟨g', cap, cur, hv, _, hg, _⟩
    · cases hv
    · injection hv with e1
      injection e1 with e1
      have : ad.block = g' := by rw [e1]
      rw [this]
      exact frozen_of hg _
  have hft := hfz ((ad.add (i * 2)).off + 1)
  go_quiet ((go_at_call 93; exact Calls.quiet_of_same (drawer_at_some _ w1.heap.size _ c d x.name i (HRD.out.below fun _ _ => rfl) (by omega) HDI.out)))
  go_wp2_with fail
  go_quiet (fail)
  go_wp2
  refine ret_cell rfl isAnswer (w.heap.size + 1) (ans 7) rfl (setRow_heap _ _ _ _ _ _ hbr1) rfl ?_
  unfold DDPost
  rw [HD.out]
  exact ⟨rfl, Rep.moved HR.out ((HE1.out.drewN _).setRow (.inr (by omega)) _)⟩

set_option maxHeartbeats 1000000 in
set_option maxRecDepth 100000 in
theorem drawer_do_taken (w : World) (g : Nat) (F : Nat → Prop) (d : List FileD) (x : Call) (h : (repHolds g 118 120).on w F d) (hok : DOk d) (hst : StrCall x) (hn : callCode x = 0) (hkk : x.kind = 3) (i j : Nat) (f : FileD) (hd : dAt d x.name = some i) (hf : d[i]? = some f) (hto : dAt d x.to_ = some j) :
    Calls Try.prog 61 #[.pointer (some ⟨g, 0, none⟩), .agg x.cells] w (DDPost w g F d x) := by
  have HD := Lib.hid (show ddo d x = (ans 5, d) by rw [ddo_found hn (by omega) (by omega) hd hf, if_neg (by omega), if_neg (by omega), if_pos hkk, hto])
  have HR := Lib.hid h
  obtain ⟨v, hF, hh⟩ := h
  obtain ⟨A, c, rfl, hc, hcm, hr⟩ := hh.own.form
  have hlt := hh.lt
  have H := Lib.hid hh
  have HOK := Lib.hid hok
  have HF := Lib.hid hF
  have hl6 := hok.len
  have hg1 : (w.heap.size = g) = False := by simp; omega
  have hg2 : (w.heap.size + 1 = g) = False := by simp; omega
  have HC0 := Lib.hid hn
  have HST := Lib.hid hst
  clear hr hok hh hF hst
  have HDI := Lib.hid hd
  have hk6 : (x.kind == 6) = false := beq_eq_false_iff_ne.2 (by omega)
  have hk1 : (x.kind == 1) = false := beq_eq_false_iff_ne.2 (by omega)
  have hil : i < d.length := (List.getElem?_eq_some_iff.1 hf).1
  obtain ⟨ad, rfl, hadb, hat⟩ := H.out.own.reads i f hf
  have HFI := Lib.hid hf
  have HAT := Lib.hid (show At w (ad.add (i * 2)) f from hat)
  have HQ := Lib.hid H.out.own.some_form
  have HNE := Lib.hid (H.out.own.elem H.out.cell (by decide))
  have hi0 : (0 : Int) ≤ (i : Int) := by omega
  have hi1 : (i : Int) < (d.length : Int) := by omega
  have hi2 : (i : Int) ≤ 1000 := by omega
  clear hd hf hat
  have hk5 : (x.kind == 5) = false := by rw [hkk]; rfl
  have hk4 : (x.kind == 4) = false := by rw [hkk]; rfl
  have hk3 : (x.kind == 3) = true := by rw [hkk]; rfl
  clear hn hkk
  have HTO := Lib.hid hto
  have hj0 : (0 : Int) ≤ (j : Int) := by omega
  clear hto
  go_enter Try.func61, Try.ntmps61
  go_wp2_with (first
    |
      (go_at_call 92
       refine (ref_fault' _ x _ HC0.out HST.out).mono ?_
       rintro e w1 ⟨rfl, hx1⟩
       have hbx1 := hx1.blk (b := w.heap.size) (o := .cells x.cells 31 (0, 0)) (by simp only [heap_alloc_past, heap_alloc_at, World.size_alloc, Nat.lt_add_one]) id
       have hbr1 := hx1.blk (b := w.heap.size + 1) (o := .cells Answer.zero.cells 28 (0, 0)) (by simp only [heap_alloc_at, World.size_alloc]) id
       have ht1 := (((Touch.refl (fun _ => False) w).alloc (.cells x.cells 31)).alloc (.cells Answer.zero.cells 28)).trans hx1
       have hbg1 := ht1.blk H.out.cell id
       have hc10 := cell_of hbx1 0
       have hc11 := cell_of hbx1 1
       have hc12 := cell_of hbx1 2
       have hc13 := cell_of hbx1 3
       have hcg1 := cell_of hbg1 0
       have hlb1 : w.heap.size + 2 ≤ w1.heap.size := by have := hx1.size; simpa using this
       have HE1 := Lib.hid (show Ext w w1 from ht1)
       have HBG1 := Lib.hid hbg1
       have HRD := Lib.hid (Reads.ext H.out.reads ht1)
       clear hx1 ht1)
    )
  have hblk : (ad.add (i * 2)).block = ad.block := by unfold Addr.add; split <;> rfl
  have hbl1 : ad.block < w1.heap.size := by omega
  have HA1 := Lib.hid (show At w1 (ad.add (i * 2)) f from HAT.out.of_same (by rw [hblk]; exact HE1.out.block _ hadb id))
  have hcn : w1.cell? (ad.add (i * 2)) = some (.string f.name) := HA1.out 0 (.string f.name) rfl
  have hct : w1.cell? ⟨ad.block, (ad.add (i * 2)).off + 1, none⟩ = some (.string f.text) := by
    have hadd1 : ∀ a : Addr, a.add 1 = ⟨a.block, a.off + 1, none⟩ := fun a => by simp [Addr.add]
    have h2 := HA1.out 1 (.string f.text) rfl
    rwa [hadd1, hblk] at h2
  have hfz : ∀ o, w1.frozen? ⟨ad.block, o, none⟩ = false := fun o => by
    rcases (H.out.ext HE1.out).own.2 with ⟨hv, _⟩ | ⟨g', cap, cur, hv, _, hg, _⟩
    · cases hv
    · injection hv with e1
      injection e1 with e1
      have : ad.block = g' := by rw [e1]
      rw [this]
      exact frozen_of hg _
  have hft := hfz ((ad.add (i * 2)).off + 1)
  go_quiet ((go_at_call 93; exact Calls.quiet_of_same (drawer_at_some _ w1.heap.size _ c d x.name i (HRD.out.below fun _ _ => rfl) (by omega) HDI.out)))
  go_wp2_with fail
  go_quiet ((go_at_call 93; exact quiet_more (drawer_at_some _ w1.heap.size _ c d x.to_ j (HRD.out.below fun _ _ => rfl) (by omega) HTO.out)))
  go_wp2
  refine ret_cell rfl isAnswer (w.heap.size + 1) (ans 5) rfl (setRow_heap _ _ _ _ _ _ hbr1) rfl ?_
  unfold DDPost
  rw [HD.out]
  exact ⟨rfl, Rep.moved HR.out ((HE1.out.drewN _).setRow (.inr (by omega)) _)⟩

end Go.Proofs.Ytalfbhhldfffkab
