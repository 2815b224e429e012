/- Files5: Do of files, the ways that find no file. -/
import Derived.Test.YtalfbhhldfffkabFiles4
import Derived.Test.YtalfbhhldfffkabCalls
namespace Go.Proofs.Ytalfbhhldfffkab
open Go.RowKit

/-- behind a call that moved the object, a block of one's own is written -/
theorem Moved.write {X : Type} {R : Rep X} {w wa w' w'' : World} {F : Nat → Prop} {x : X} (hx : Ext w wa) (h : Moved R wa F x w') {b : Nat} (hb1 : w.heap.size ≤ b) (hb2 : b < wa.heap.size) (hF : ¬ F b) (ht : Touch (fun k => k = b) w' w'') : Moved R w F x w'' := by
  obtain ⟨F', h1, h2, h3⟩ := h
  have hn : ¬ F' b := fun hk => by
    rcases h3 b hk with h | h
    · exact hF h
    · omega
  refine ⟨F', R.touch h1 ht (fun k hk e => hn (e ▸ hk)), ((hx.mono fun _ h => h.elim).then h2 fun k hk => .inl hk).then ht fun k hk => .inr (by omega), fun k hk => ?_⟩
  rcases h3 k hk with h | h
  · exact .inl h
  · exact .inr (Nat.le_trans hx.size h)
theorem join_le {m : Nat} {xs : List ByteArray} (h : ∀ s ∈ xs, s.size ≤ m) : (Lib.join (xs.map (·.data.toList)) [32]).length ≤ xs.length * (m + 1) := by
  have ht : ∀ (r : List ByteArray), (∀ s ∈ r, s.size ≤ m) → (Lib.joinTail [32] (r.map (·.data.toList))).length ≤ r.length * (m + 1) := by
    intro r hr
    induction r with
    | nil => simp [Lib.joinTail]
    | cons x r ih =>
      have h1 := ih fun s hs => hr s (List.mem_cons_of_mem _ hs)
      have h2 : x.data.toList.length ≤ m := hr x List.mem_cons_self
      have e : (Lib.joinTail [32] ((x :: r).map (·.data.toList))).length = 1 + x.data.toList.length + (Lib.joinTail [32] (r.map (·.data.toList))).length := by simp [Lib.joinTail]; omega
      rw [e, List.length_cons, Nat.add_mul]
      omega
  cases xs with
  | nil => simp [Lib.join_nil]
  | cons x r =>
    rw [List.map_cons, Lib.join_cons, List.length_append, List.length_cons, Nat.add_mul]
    have h1 := ht r fun s hs => h s (List.mem_cons_of_mem _ hs)
    have h2 : x.data.toList.length ≤ m := h x List.mem_cons_self
    omega
theorem okText_le {lo hi m : Nat} {s : ByteArray} (h : okText lo hi m s = true) : s.size ≤ m := by
  unfold okText at h
  simp at h
  omega
theorem FOk.names_le {l : List FileD} (h : FOk l) : (Lib.join ((l.map (·.name)).map (·.data.toList)) [32]).length ≤ 140737488355328 := by
  have h1 := join_le (m := 5) (xs := l.map (·.name)) (fun s hs => by
    obtain ⟨f, hf, rfl⟩ := List.mem_map.1 hs
    exact okText_le (h.each f hf).1)
  rw [List.length_map] at h1
  have := h.len
  have h2 : l.length * 6 ≤ 6 * 6 := Nat.mul_le_mul_right _ this
  omega

def DoPost (w : World) (g : Nat) (F : Nat → Prop) (l : List FileD) (x : Call) (e : Ending) (w' : World) : Prop :=
  e = .returned (.agg (fdo l x).1.cells) ∧ Moved (repHolds g 105 112) w F (fdo l x).2 w'


set_option maxHeartbeats 1000000 in
set_option maxRecDepth 100000 in
theorem files_do_fault (w : World) (g : Nat) (F : Nat → Prop) (l : List FileD) (x : Call) (n : Int) (h : (repHolds g 105 112).on w F l) (hok : FOk l) (hst : StrCall x) (hn : callCode x = n) (h0 : n ≠ 0) :
    Calls Try.prog 14 #[.pointer (some ⟨g, 0, none⟩), .agg x.cells] w (DoPost w g F l x) := by
  have HR := Lib.hid h
  obtain ⟨v, hF, hh⟩ := h
  obtain ⟨A, c, rfl, hc, hcm, hr⟩ := hh.own.form
  have hlt := hh.lt
  have H := Lib.hid hh
  have HOK := Lib.hid hok
  have HF := Lib.hid hF
  have hl6 := hok.len
  have hg1 : (w.heap.size = g) = False := by simp; omega
  have hg2 : (w.heap.size + 1 = g) = False := by simp; omega
  clear hr hok hh hF
  have HC0 := Lib.hid hn
  have HST := Lib.hid hst
  have HD := Lib.hid (show fdo l x = (ans n, l) from by unfold fdo; rw [hn, if_pos h0])
  have hn1 : (n == 0) = false := beq_eq_false_iff_ne.2 h0
  clear hn hst h0
  go_enter Try.func14, Try.ntmps14
  go_wp2_with (first
    |
      (go_at_call 51
       refine (files_check' _ x _ HC0.out HST.out).mono ?_
       rintro e w1 ⟨rfl, hx1⟩
       have hbx1 := hx1.blk (b := w.heap.size) (o := .cells x.cells 31 (0, 0)) (by simp only [heap_alloc_past, heap_alloc_at, World.size_alloc, Nat.lt_add_one]) id
       have hbr1 := hx1.blk (b := w.heap.size + 1) (o := .cells Answer.zero.cells 28 (0, 0)) (by simp only [heap_alloc_at, World.size_alloc]) id
       have ht1 := (((Touch.refl (fun _ => False) w).alloc (.cells x.cells 31)).alloc (.cells Answer.zero.cells 28)).trans hx1
       have hbg1 := ht1.blk H.out.cell id
       have hc10 := cell_of hbx1 0
       have hc11 := cell_of hbx1 1
       have hc12 := cell_of hbx1 2
       have hc13 := cell_of hbx1 3
       have hcg1 := cell_of hbg1 0
       have hlb1 : w.heap.size + 2 ≤ w1.heap.size := by have := hx1.size; simpa using this
       have HE1 := Lib.hid (show Ext w w1 from ht1)
       have HBG1 := Lib.hid hbg1
       clear hx1 ht1)
    | (go_at_call 53
       refine (files_no _ n).mono ?_
       rintro e w2 ⟨rfl, hx2⟩
       have hbr2 := hx2.blk (b := w.heap.size + 1) hbr1 id
       have HX2 := Lib.hid hx2
       clear hx2))
  refine ret_cell rfl isAnswer (w.heap.size + 1) (ans n) rfl (setRow_heap _ _ _ _ _ _ hbr2) rfl ?_
  unfold DoPost
  rw [HD.out]
  exact ⟨rfl, Rep.moved HR.out ((HE1.out.trans HX2.out).setRow (.inr (by omega)) _)⟩

theorem fdo_list {l : List FileD} {x : Call} (h0 : callCode x = 0) (h6 : x.kind = 6) : fdo l x = (⟨0, joinSp (l.map (·.name))⟩, l) := by
  unfold fdo; rw [if_neg (by simp [h0]), if_pos h6]
theorem fdo_make {l : List FileD} {x : Call} (h0 : callCode x = 0) (h1 : x.kind = 1) : fdo l x = (match dAt l x.name with | some _ => (ans 5, l) | none => if 6 ≤ l.length then (ans 7, l) else (ans 0, insAt l ⟨x.name, noText⟩)) := by
  unfold fdo; rw [if_neg (by simp [h0]), if_neg (by omega), if_pos h1]; cases dAt l x.name <;> rfl
theorem fdo_lost {l : List FileD} {x : Call} (h0 : callCode x = 0) (h6 : x.kind ≠ 6) (h1 : x.kind ≠ 1) (hd : dAt l x.name = none) : fdo l x = (ans 6, l) := by
  unfold fdo; rw [if_neg (by simp [h0]), if_neg h6, if_neg h1, hd]

set_option maxHeartbeats 1000000 in
set_option maxRecDepth 100000 in
theorem files_do_list (w : World) (g : Nat) (F : Nat → Prop) (l : List FileD) (x : Call) (h : (repHolds g 105 112).on w F l) (hok : FOk l) (hst : StrCall x) (hn : callCode x = 0) (h6 : x.kind = 6) :
    Calls Try.prog 14 #[.pointer (some ⟨g, 0, none⟩), .agg x.cells] w (DoPost w g F l x) := by
  have HR := Lib.hid h
  obtain ⟨v, hF, hh⟩ := h
  obtain ⟨A, c, rfl, hc, hcm, hr⟩ := hh.own.form
  have hlt := hh.lt
  have H := Lib.hid hh
  have HOK := Lib.hid hok
  have HF := Lib.hid hF
  have hl6 := hok.len
  have hg1 : (w.heap.size = g) = False := by simp; omega
  have hg2 : (w.heap.size + 1 = g) = False := by simp; omega
  clear hr hok hh hF
  have HC0 := Lib.hid hn
  have HST := Lib.hid hst
  have HD := Lib.hid (fdo_list (l := l) hn h6)
  have hk6 : (x.kind == 6) = true := by rw [h6]; rfl
  clear hn hst h6
  go_enter Try.func14, Try.ntmps14
  go_wp2_with (first
    |
      (go_at_call 51
       refine (files_check' _ x _ HC0.out HST.out).mono ?_
       rintro e w1 ⟨rfl, hx1⟩
       have hbx1 := hx1.blk (b := w.heap.size) (o := .cells x.cells 31 (0, 0)) (by simp only [heap_alloc_past, heap_alloc_at, World.size_alloc, Nat.lt_add_one]) id
       have hbr1 := hx1.blk (b := w.heap.size + 1) (o := .cells Answer.zero.cells 28 (0, 0)) (by simp only [heap_alloc_at, World.size_alloc]) id
       have ht1 := (((Touch.refl (fun _ => False) w).alloc (.cells x.cells 31)).alloc (.cells Answer.zero.cells 28)).trans hx1
       have hbg1 := ht1.blk H.out.cell id
       have hc10 := cell_of hbx1 0
       have hc11 := cell_of hbx1 1
       have hc12 := cell_of hbx1 2
       have hc13 := cell_of hbx1 3
       have hcg1 := cell_of hbg1 0
       have hlb1 : w.heap.size + 2 ≤ w1.heap.size := by have := hx1.size; simpa using this
       have HE1 := Lib.hid (show Ext w w1 from ht1)
       have HBG1 := Lib.hid hbg1
       clear hx1 ht1)
    | (go_at_call 17
       refine (files_names w1 g _ l (H.out.ext HE1.out) (by omega)).mono ?_
       rintro e w2 ⟨A2, c2, he2, ho2, hx2, hf2⟩
       rw [List.length_map] at he2 ho2
       subst he2
       have hbr2 := hx2.blk (b := w.heap.size + 1) hbr1 id
       have HO2 := Lib.hid ho2
       have HX2 := Lib.hid hx2
       clear ho2 hx2 hf2)
    | (go_at_call 54
       refine (join_names w2 _ _ _ _ HO2.out (by rw [List.length_map]; omega) HOK.out.names_le).mono ?_
       rintro e w3 ⟨rfl, hx3⟩
       have hbr3 := hx3.blk (b := w.heap.size + 1) hbr2 id
       have HX3 := Lib.hid hx3
       clear hx3))
  refine ret_cell rfl isAnswer (w.heap.size + 1) (⟨0, joinSp (l.map (·.name))⟩ : Answer) rfl (setRow_heap _ _ _ _ _ _ hbr3) rfl ?_
  unfold DoPost
  rw [HD.out]
  exact ⟨rfl, Rep.moved HR.out (((HE1.out.trans HX2.out).trans HX3.out).setRow (.inr (by omega)) _)⟩

set_option maxHeartbeats 1000000 in
set_option maxRecDepth 100000 in
theorem files_do_lost (w : World) (g : Nat) (F : Nat → Prop) (l : List FileD) (x : Call) (h : (repHolds g 105 112).on w F l) (hok : FOk l) (hst : StrCall x) (hn : callCode x = 0) (h6 : x.kind ≠ 6) (h1 : x.kind ≠ 1) (hd : dAt l x.name = none) :
    Calls Try.prog 14 #[.pointer (some ⟨g, 0, none⟩), .agg x.cells] w (DoPost w g F l x) := by
  have HR := Lib.hid h
  obtain ⟨v, hF, hh⟩ := h
  obtain ⟨A, c, rfl, hc, hcm, hr⟩ := hh.own.form
  have hlt := hh.lt
  have H := Lib.hid hh
  have HOK := Lib.hid hok
  have HF := Lib.hid hF
  have hl6 := hok.len
  have hg1 : (w.heap.size = g) = False := by simp; omega
  have hg2 : (w.heap.size + 1 = g) = False := by simp; omega
  clear hr hok hh hF
  have HC0 := Lib.hid hn
  have HST := Lib.hid hst
  have HD := Lib.hid (fdo_lost (l := l) hn h6 h1 hd)
  have hk6 : (x.kind == 6) = false := beq_eq_false_iff_ne.2 h6
  have hk1 : (x.kind == 1) = false := beq_eq_false_iff_ne.2 h1
  have hds : (dAt l x.name).isSome = false := by rw [hd]; rfl
  clear hn hst h6 h1 hd
  go_enter Try.func14, Try.ntmps14
  go_wp2_with (first
    |
      (go_at_call 51
       refine (files_check' _ x _ HC0.out HST.out).mono ?_
       rintro e w1 ⟨rfl, hx1⟩
       have hbx1 := hx1.blk (b := w.heap.size) (o := .cells x.cells 31 (0, 0)) (by simp only [heap_alloc_past, heap_alloc_at, World.size_alloc, Nat.lt_add_one]) id
       have hbr1 := hx1.blk (b := w.heap.size + 1) (o := .cells Answer.zero.cells 28 (0, 0)) (by simp only [heap_alloc_at, World.size_alloc]) id
       have ht1 := (((Touch.refl (fun _ => False) w).alloc (.cells x.cells 31)).alloc (.cells Answer.zero.cells 28)).trans hx1
       have hbg1 := ht1.blk H.out.cell id
       have hc10 := cell_of hbx1 0
       have hc11 := cell_of hbx1 1
       have hc12 := cell_of hbx1 2
       have hc13 := cell_of hbx1 3
       have hcg1 := cell_of hbg1 0
       have hlb1 : w.heap.size + 2 ≤ w1.heap.size := by have := hx1.size; simpa using this
       have HE1 := Lib.hid (show Ext w w1 from ht1)
       have HBG1 := Lib.hid hbg1
       clear hx1 ht1)
    | (go_at_call 55
       refine (files_find w1 g _ l x.name (H.out.ext HE1.out) HOK.out.srt (by omega)).mono ?_
       rintro e w2 ⟨rfl, hx2⟩
       have hbr2 := hx2.blk (b := w.heap.size + 1) hbr1 id
       have HX2 := Lib.hid hx2
       clear hx2)
    | (go_at_call 53
       refine (files_no _ 6).mono ?_
       rintro e w3 ⟨rfl, hx3⟩
       have hbr3 := hx3.blk (b := w.heap.size + 1) hbr2 id
       have HX3 := Lib.hid hx3
       clear hx3))
  refine ret_cell rfl isAnswer (w.heap.size + 1) (ans 6) rfl (setRow_heap _ _ _ _ _ _ hbr3) rfl ?_
  unfold DoPost
  rw [HD.out]
  exact ⟨rfl, Rep.moved HR.out (((HE1.out.trans HX2.out).trans HX3.out).setRow (.inr (by omega)) _)⟩

set_option maxHeartbeats 1000000 in
set_option maxRecDepth 100000 in
theorem files_do_full (w : World) (g : Nat) (F : Nat → Prop) (l : List FileD) (x : Call) (h : (repHolds g 105 112).on w F l) (hok : FOk l) (hst : StrCall x) (hn : callCode x = 0) (h1 : x.kind = 1) (hd : dAt l x.name = none) (hfull : 6 ≤ l.length) :
    Calls Try.prog 14 #[.pointer (some ⟨g, 0, none⟩), .agg x.cells] w (DoPost w g F l x) := by
  have HR := Lib.hid h
  obtain ⟨v, hF, hh⟩ := h
  obtain ⟨A, c, rfl, hc, hcm, hr⟩ := hh.own.form
  have hlt := hh.lt
  have H := Lib.hid hh
  have HOK := Lib.hid hok
  have HF := Lib.hid hF
  have hl6 := hok.len
  have hg1 : (w.heap.size = g) = False := by simp; omega
  have hg2 : (w.heap.size + 1 = g) = False := by simp; omega
  clear hr hok hh hF
  have HC0 := Lib.hid hn
  have HST := Lib.hid hst
  have HD := Lib.hid (show fdo l x = (ans 7, l) by rw [fdo_make hn h1, hd]; simp only [if_pos hfull])
  have hk6 : (x.kind == 6) = false := by rw [h1]; rfl
  have hk1 : (x.kind == 1) = true := by rw [h1]; rfl
  have hds : (dAt l x.name).isSome = false := by rw [hd]; rfl
  have hfull' : (6 : Int) ≤ l.length := by omega
  clear hn hst h1 hd
  go_enter Try.func14, Try.ntmps14
  go_wp2_with (first
    |
      (go_at_call 51
       refine (files_check' _ x _ HC0.out HST.out).mono ?_
       rintro e w1 ⟨rfl, hx1⟩
       have hbx1 := hx1.blk (b := w.heap.size) (o := .cells x.cells 31 (0, 0)) (by simp only [heap_alloc_past, heap_alloc_at, World.size_alloc, Nat.lt_add_one]) id
       have hbr1 := hx1.blk (b := w.heap.size + 1) (o := .cells Answer.zero.cells 28 (0, 0)) (by simp only [heap_alloc_at, World.size_alloc]) id
       have ht1 := (((Touch.refl (fun _ => False) w).alloc (.cells x.cells 31)).alloc (.cells Answer.zero.cells 28)).trans hx1
       have hbg1 := ht1.blk H.out.cell id
       have hc10 := cell_of hbx1 0
       have hc11 := cell_of hbx1 1
       have hc12 := cell_of hbx1 2
       have hc13 := cell_of hbx1 3
       have hcg1 := cell_of hbg1 0
       have hlb1 : w.heap.size + 2 ≤ w1.heap.size := by have := hx1.size; simpa using this
       have HE1 := Lib.hid (show Ext w w1 from ht1)
       have HBG1 := Lib.hid hbg1
       clear hx1 ht1)
    | (go_at_call 55
       refine (files_find w1 g _ l x.name (H.out.ext HE1.out) HOK.out.srt (by omega)).mono ?_
       rintro e w2 ⟨rfl, hx2⟩
       have hbr2 := hx2.blk (b := w.heap.size + 1) hbr1 id
       have hbg2 := hx2.blk hbg1 id
       have hcg2 := cell_of hbg2 0
       have HX2 := Lib.hid hx2
       clear hx2)
    | (go_at_call 53
       refine (files_no _ 7).mono ?_
       rintro e w3 ⟨rfl, hx3⟩
       have hbr3 := hx3.blk (b := w.heap.size + 1) hbr2 id
       have HX3 := Lib.hid hx3
       clear hx3))
  refine ret_cell rfl isAnswer (w.heap.size + 1) (ans 7) rfl (setRow_heap _ _ _ _ _ _ hbr3) rfl ?_
  unfold DoPost
  rw [HD.out]
  exact ⟨rfl, Rep.moved HR.out (((HE1.out.trans HX2.out).trans HX3.out).setRow (.inr (by omega)) _)⟩

theorem fdo_add {l : List FileD} {x : Call} (h0 : callCode x = 0) (h1 : x.kind = 1) (h : (dAt l x.name).isSome = true ∨ l.length < 6) :
    fdo l x = (ans (if (dAt l x.name).isSome then 5 else 0), if (dAt l x.name).isSome then l else insAt l ⟨x.name, noText⟩) := by
  rw [fdo_make h0 h1]
  cases hd : dAt l x.name with
  | none =>
    have : ¬ 6 ≤ l.length := by rcases h with h | h; rw [hd] at h; cases h; omega
    simp [this]
  | some i => rfl
set_option maxHeartbeats 1000000 in
set_option maxRecDepth 100000 in
theorem files_do_there (w : World) (g : Nat) (F : Nat → Prop) (l : List FileD) (x : Call) (h : (repHolds g 105 112).on w F l) (hok : FOk l) (hst : StrCall x) (hn : callCode x = 0) (h1 : x.kind = 1) (hds : (dAt l x.name).isSome = true) :
    Calls Try.prog 14 #[.pointer (some ⟨g, 0, none⟩), .agg x.cells] w (DoPost w g F l x) := by
  have hadd := Or.inl (b := l.length < 6) hds
  have HR := Lib.hid h
  obtain ⟨v, hF, hh⟩ := h
  obtain ⟨A, c, rfl, hc, hcm, hr⟩ := hh.own.form
  have hlt := hh.lt
  have H := Lib.hid hh
  have HOK := Lib.hid hok
  have HF := Lib.hid hF
  have hl6 := hok.len
  have hg1 : (w.heap.size = g) = False := by simp; omega
  have hg2 : (w.heap.size + 1 = g) = False := by simp; omega
  clear hr hok hh hF
  have HC0 := Lib.hid hn
  have HST := Lib.hid hst
  have HD := Lib.hid (show fdo l x = (ans 5, l) by have h2 := fdo_add (l := l) hn h1 hadd; rw [hds] at h2; exact h2)
  have hk6 : (x.kind == 6) = false := by rw [h1]; rfl
  have hk1 : (x.kind == 1) = true := by rw [h1]; rfl
  clear hn hst h1 hadd
  go_enter Try.func14, Try.ntmps14
  go_wp2_with (first
    |
      (go_at_call 51
       refine (files_check' _ x _ HC0.out HST.out).mono ?_
       rintro e w1 ⟨rfl, hx1⟩
       have hbx1 := hx1.blk (b := w.heap.size) (o := .cells x.cells 31 (0, 0)) (by simp only [heap_alloc_past, heap_alloc_at, World.size_alloc, Nat.lt_add_one]) id
       have hbr1 := hx1.blk (b := w.heap.size + 1) (o := .cells Answer.zero.cells 28 (0, 0)) (by simp only [heap_alloc_at, World.size_alloc]) id
       have ht1 := (((Touch.refl (fun _ => False) w).alloc (.cells x.cells 31)).alloc (.cells Answer.zero.cells 28)).trans hx1
       have hbg1 := ht1.blk H.out.cell id
       have hc10 := cell_of hbx1 0
       have hc11 := cell_of hbx1 1
       have hc12 := cell_of hbx1 2
       have hc13 := cell_of hbx1 3
       have hcg1 := cell_of hbg1 0
       have hlb1 : w.heap.size + 2 ≤ w1.heap.size := by have := hx1.size; simpa using this
       have HE1 := Lib.hid (show Ext w w1 from ht1)
       have HBG1 := Lib.hid hbg1
       clear hx1 ht1)
    | (go_at_call 55
       refine (files_find w1 g _ l x.name (H.out.ext HE1.out) HOK.out.srt (by omega)).mono ?_
       rintro e w2 ⟨rfl, hx2⟩
       have hbr2 := hx2.blk (b := w.heap.size + 1) hbr1 id
       have hbg2 := hx2.blk hbg1 id
       have hbx2 := hx2.blk hbx1 id
       have hcg2 := cell_of hbg2 0
       have hcx2 := cell_of hbx2 1
       have hlw2 := hx2.size
       have HX2 := Lib.hid hx2
       clear hx2)
    | (go_at_call 56
       refine (files_add w2 g F l ⟨x.name, noText⟩ (Rep.ext HR.out (HE1.out.trans HX2.out)) HOK.out.srt (by omega)).mono ?_
       rintro e w3 ⟨rfl, hm3⟩
       rw [hds] at hm3
       have hnF : ¬ F (w.heap.size + 1) := fun hk => by have := Rep.lt _ HR.out _ hk; omega
       have hbr3 : w3.heap[w.heap.size + 1]? = some (.cells Answer.zero.cells 28 (0, 0)) := by
         obtain ⟨F', _, ht, _⟩ := hm3
         exact ht.blk hbr2 hnF
       have HM3 := Lib.hid hm3
       clear hm3))
  refine ret_cell rfl isAnswer (w.heap.size + 1) (ans 5) rfl (setRow_heap _ _ _ _ _ _ hbr3) rfl ?_
  unfold DoPost
  rw [HD.out]
  exact ⟨rfl, Moved.write (HE1.out.trans HX2.out) HM3.out (by omega) (by omega) hnF ((Touch.refl (fun k => k = w.heap.size + 1) w3).setRow (.inl rfl) _)⟩
set_option maxHeartbeats 1000000 in
set_option maxRecDepth 100000 in
theorem files_do_made (w : World) (g : Nat) (F : Nat → Prop) (l : List FileD) (x : Call) (h : (repHolds g 105 112).on w F l) (hok : FOk l) (hst : StrCall x) (hn : callCode x = 0) (h1 : x.kind = 1) (hds : (dAt l x.name).isSome = false) (hroom : l.length < 6) :
    Calls Try.prog 14 #[.pointer (some ⟨g, 0, none⟩), .agg x.cells] w (DoPost w g F l x) := by
  have hadd := Or.inr (a := (dAt l x.name).isSome = true) hroom
  have hroom' : (l.length : Int) < 6 := by omega
  have HR := Lib.hid h
  obtain ⟨v, hF, hh⟩ := h
  obtain ⟨A, c, rfl, hc, hcm, hr⟩ := hh.own.form
  have hlt := hh.lt
  have H := Lib.hid hh
  have HOK := Lib.hid hok
  have HF := Lib.hid hF
  have hl6 := hok.len
  have hg1 : (w.heap.size = g) = False := by simp; omega
  have hg2 : (w.heap.size + 1 = g) = False := by simp; omega
  clear hr hok hh hF
  have HC0 := Lib.hid hn
  have HST := Lib.hid hst
  have HD := Lib.hid (show fdo l x = (ans 0, insAt l ⟨x.name, noText⟩) by have h2 := fdo_add (l := l) hn h1 hadd; rw [hds] at h2; exact h2)
  have hk6 : (x.kind == 6) = false := by rw [h1]; rfl
  have hk1 : (x.kind == 1) = true := by rw [h1]; rfl
  clear hn hst h1 hadd
  go_enter Try.func14, Try.ntmps14
  go_wp2_with (first
    |
      (go_at_call 51
       refine (files_check' _ x _ HC0.out HST.out).mono ?_
       rintro e w1 ⟨rfl, hx1⟩
       have hbx1 := hx1.blk (b := w.heap.size) (o := .cells x.cells 31 (0, 0)) (by simp only [heap_alloc_past, heap_alloc_at, World.size_alloc, Nat.lt_add_one]) id
       have hbr1 := hx1.blk (b := w.heap.size + 1) (o := .cells Answer.zero.cells 28 (0, 0)) (by simp only [heap_alloc_at, World.size_alloc]) id
       have ht1 := (((Touch.refl (fun _ => False) w).alloc (.cells x.cells 31)).alloc (.cells Answer.zero.cells 28)).trans hx1
       have hbg1 := ht1.blk H.out.cell id
       have hc10 := cell_of hbx1 0
       have hc11 := cell_of hbx1 1
       have hc12 := cell_of hbx1 2
       have hc13 := cell_of hbx1 3
       have hcg1 := cell_of hbg1 0
       have hlb1 : w.heap.size + 2 ≤ w1.heap.size := by have := hx1.size; simpa using this
       have HE1 := Lib.hid (show Ext w w1 from ht1)
       have HBG1 := Lib.hid hbg1
       clear hx1 ht1)
    | (go_at_call 55
       refine (files_find w1 g _ l x.name (H.out.ext HE1.out) HOK.out.srt (by omega)).mono ?_
       rintro e w2 ⟨rfl, hx2⟩
       have hbr2 := hx2.blk (b := w.heap.size + 1) hbr1 id
       have hbg2 := hx2.blk hbg1 id
       have hbx2 := hx2.blk hbx1 id
       have hcg2 := cell_of hbg2 0
       have hcx2 := cell_of hbx2 1
       have hlw2 := hx2.size
       have HX2 := Lib.hid hx2
       clear hx2)
    | (go_at_call 56
       refine (files_add w2 g F l ⟨x.name, noText⟩ (Rep.ext HR.out (HE1.out.trans HX2.out)) HOK.out.srt (by omega)).mono ?_
       rintro e w3 ⟨rfl, hm3⟩
       rw [hds] at hm3
       have hnF : ¬ F (w.heap.size + 1) := fun hk => by have := Rep.lt _ HR.out _ hk; omega
       have hbr3 : w3.heap[w.heap.size + 1]? = some (.cells Answer.zero.cells 28 (0, 0)) := by
         obtain ⟨F', _, ht, _⟩ := hm3
         exact ht.blk hbr2 hnF
       have HM3 := Lib.hid hm3
       clear hm3))
  refine ret_cell rfl isAnswer (w.heap.size + 1) (ans 0) rfl (setRow_heap _ _ _ _ _ _ hbr3) rfl ?_
  unfold DoPost
  rw [HD.out]
  exact ⟨rfl, Moved.write (HE1.out.trans HX2.out) HM3.out (by omega) (by omega) hnF ((Touch.refl (fun k => k = w.heap.size + 1) w3).setRow (.inl rfl) _)⟩
end Go.Proofs.Ytalfbhhldfffkab
