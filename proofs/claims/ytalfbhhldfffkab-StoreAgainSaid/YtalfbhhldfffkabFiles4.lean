/- Files4: files made, searched, listed by name, added to. -/
import Derived.Test.YtalfbhhldfffkabFiles3
namespace Go.Proofs.Ytalfbhhldfffkab
open Go.RowKit

theorem files_new (w : World) : Calls Try.prog 13 #[] w fun e w' => e = .returned (.pointer (some ⟨w.heap.size, 0, none⟩)) ∧ w' = w.alloc (.cells #[.slice none 0 0] 105) := by
  go_enter Try.func13, Try.ntmps13
  go_wp2
  go_ret
  exact ⟨rfl, rfl⟩

theorem files_find (w : World) (g : Nat) (v : Value) (l : List FileD) (s : ByteArray) (h : Holds w g 105 112 v l) (hs : Sorted l) (hl : l.length ≤ 1000) :
    Calls Try.prog 55 #[.pointer (some ⟨g, 0, none⟩), .string s] w (SrchPost w l s) := by
  obtain ⟨A, c, rfl, hc, hcm, hr⟩ := h.own.form
  have hc0 := cell_of h.cell 0
  have HR := Lib.hid hr
  have HS := Lib.hid hs
  clear h hr hs
  go_enter Try.func55, Try.ntmps55
  go_wp2_with (go_at_call 86; refine (files_search w A c l s HR.out HS.out hl).mono ?_; rintro e w' ⟨rfl, hx⟩; have HX := Lib.hid hx; clear hx)
  go_ret2
  exact ⟨rfl, HX.out⟩

def NamesRel (w : World) (l : List FileD) (out i : Value) (wr : World) : Prop :=
  ∃ (k : Nat) (A1 : Option Addr) (c1 : Nat), i = .int .i64 k ∧ k ≤ l.length ∧ out = .slice A1 k c1 ∧ Owns wr 9 (.slice A1 k c1) ((l.take k).map (·.name)) ∧ Ext w wr ∧ ∀ q, (Value.slice A1 k c1).ownBlock = some q → w.heap.size ≤ q
set_option maxHeartbeats 1000000 in
set_option maxRecDepth 100000 in
theorem files_names (w : World) (g : Nat) (v : Value) (l : List FileD) (h : Holds w g 105 112 v l) (hl : l.length ≤ 1000) :
    Calls Try.prog 17 #[.pointer (some ⟨g, 0, none⟩)] w (NewList w 9 (l.map (·.name))) := by
  obtain ⟨A, c, rfl, hc, hcm, hr⟩ := h.own.form
  have hc0 := cell_of h.cell 0
  have HR := Lib.hid hr
  clear h hr
  go_enter Try.func17, Try.ntmps17
  go_wp2
  go_loopw [3, 11] (fun out i wr => NamesRel w l out i wr) (fun _ i _ => l.length - (intOf i).toNat)
  case atStart => exact ⟨0, none, 0, rfl, Nat.zero_le _, rfl, Owns.nil _ _, Touch.refl _ w, fun k hk => by simp [Value.ownBlock] at hk⟩
  case round =>
    obtain ⟨k, A1, c1, rfl, hk, rfl, ho, hx, hf⟩ := hrel
    have HO := Lib.hid ho
    have HX := Lib.hid hx
    have HB := Lib.hid hf
    clear ho hx hf
    by_cases hlt : k < l.length
    · obtain ⟨f, hf⟩ : ∃ f, l[k]? = some f := ⟨l[k], by simp [hlt]⟩
      obtain ⟨ad, rfl, hb, hat⟩ := HR.out _ f hf
      have hLV : LV Try.prog 112 (ad.add (k * 2)) wr = .ok (.agg f.cells) wr := LV_FileF ((hat.of_same (w' := wr) (by rw [show (ad.add (k * Lies.size FileD)).block = ad.block by unfold Addr.add; split <;> rfl]; exact HX.out.block _ hb id)))
      have HF := Lib.hid hf
      clear hf hat
      go_wp2_with (at_builtin
                   go_loud (refine wpList_append_own' (by rfl) (.tmp 15) (.tmp 18) 32 (by rfl) elemString Try.underlying32 (v := _) (l := (l.take k).map (·.name)) (by rfl) ((HO.out.ext ((Touch.refl _ wr).alloc _)).ext ((Touch.refl _ _).alloc _)) [f.name] (by rfl) (k + 1) (by simp; omega) (by rfl) (reads_block (x := f.name) (b := wr.heap.size + 1) (by simp only [heap_alloc_at, World.size_alloc]; rfl) (wr.heap.size + 2) (by omega)) (by simp; omega) ?_)
                   intro A2 c2 w2 hown2 hgrow2 hat2
                   have HO2 := Lib.hid hown2
                   have HG2 := Lib.hid hgrow2
                   have HA2 := Lib.hid hat2
                   clear hown2 hgrow2 hat2)
      go_roundw
      case rel =>
        have hsub : (l.take k).map (·.name) ++ [f.name] = (l.take (k + 1)).map (·.name) := by rw [List.take_add_one, HF.out]; simp
        refine ⟨k + 1, A2, c2, by go_num, by omega, rfl, by rw [← hsub]; exact HO2.out, ?_, fun q hq => ?_⟩
        · exact ((HX.out.alloc _).alloc _).grown HG2.out fun q hq => .inr (HB.out q hq)
        · rcases HA2.out with h | h
          · rw [h] at hq; exact HB.out q hq
          · rw [h] at hq; injection hq with hq; have := HX.out.size; simp at hq; omega
      case measure => simp [intOf]; omega
    · obtain rfl : k = l.length := by omega
      go_wp2
      go_ret
      have HO' := HO.out
      rw [List.take_length] at HO'
      exact ⟨A1, c1, by rw [List.length_map]; rfl, by rw [List.length_map]; exact HO', HX.out, by rw [List.length_map]; exact HB.out⟩

/-! ### add -/
theorem insert_at (w : World) (A : Option Addr) (c : Nat) (l : List FileD) (x : FileD) (h : Owns w 112 (.slice A l.length c) l) (hl : l.length ≤ 1000) (b : Nat)
    (hb : w.heap[b]? = some (.cells x.cells 112 (0, 0))) (hbg : (Value.slice A l.length c).ownBlock ≠ some b) :
    Calls Try.prog 89 #[.slice A l.length c, .int .i64 (pos l x.name : Int), .slice (some ⟨b, 0, none⟩) 1 1] w (InsPost w 112 (.slice A l.length c) (insAt l x)) :=
  insert_files w A c l (pos l x.name) (pos_le _ _) h hl b x hb hbg
theorem file_all (x : FileD) (T : TypeId) (fr : Nat × Nat) : objPart 0 2 (some (.cells x.cells T fr)) = some x.cells := by rw [objPart_cells 0 2 x.cells T fr (by simp)]; rw [x.ext_all]
def AddPost (w : World) (g : Nat) (F : Nat → Prop) (l : List FileD) (x : FileD) (e : Ending) (w' : World) : Prop :=
  e = .returned (.agg (ans (if (dAt l x.name).isSome then 5 else 0)).cells) ∧ Moved (repHolds g 105 112) w F (if (dAt l x.name).isSome then l else insAt l x) w'
set_option maxHeartbeats 1000000 in
set_option maxRecDepth 100000 in
theorem files_add (w : World) (g : Nat) (F : Nat → Prop) (l : List FileD) (x : FileD) (h : (repHolds g 105 112).on w F l) (hs : Sorted l) (hl : l.length ≤ 999) :
    Calls Try.prog 56 #[.pointer (some ⟨g, 0, none⟩), .agg x.cells] w (AddPost w g F l x) := by
  have HR := Lib.hid h
  obtain ⟨v, hF, hh⟩ := h
  obtain ⟨A, c, rfl, hc, hcm, hr⟩ := hh.own.form
  have hlt := hh.lt
  have H := Lib.hid hh
  have HS := Lib.hid hs
  have HF := Lib.hid hF
  have hg1 : (w.heap.size = g) = False := by simp; omega
  have hg2 : (w.heap.size + 1 = g) = False := by simp; omega
  clear hr hs hh hF
  cases hd : (dAt l x.name).isSome with
  | true =>
    have HD := Lib.hid hd
    go_enter Try.func56, Try.ntmps56
    go_wp2_with (first
      | (go_at_call 55
         refine (files_find _ g _ l x.name (H.out.ext (((Touch.refl _ w).alloc _).alloc _)) HS.out (by omega)).mono ?_
         rintro e w1 ⟨rfl, hx1⟩
         have hbr := hx1.blk (b := w.heap.size + 1) (o := .cells Answer.zero.cells 28 (0, 0)) (by simp only [heap_alloc_at, World.size_alloc]) id
         have HX1 := Lib.hid hx1
         clear hx1)
      | (go_at_call 53
         refine (files_no _ 5).mono ?_
         rintro e w2 ⟨rfl, hx2⟩
         have hbr2 := hx2.blk (b := w.heap.size + 1) hbr id
         have HX2 := Lib.hid hx2
         clear hx2))
    refine ret_cell rfl isAnswer (w.heap.size + 1) (ans 5) rfl (setRow_heap _ _ _ _ _ _ hbr2) rfl ?_
    unfold AddPost
    rw [HD.out]
    exact ⟨rfl, Rep.moved HR.out (((((Touch.refl _ w).alloc _).alloc _).trans HX1.out).trans HX2.out |>.setRow (.inr (by omega)) _)⟩
  | false =>
    have HD := Lib.hid hd
    go_enter Try.func56, Try.ntmps56
    go_wp2_with (first | (go_at_call 55
                          refine (files_find _ g _ l x.name (H.out.ext (((Touch.refl _ w).alloc _).alloc _)) HS.out (by omega)).mono ?_
                          rintro e w1 ⟨rfl, hx1⟩
                          have hbr := hx1.blk (b := w.heap.size + 1) (o := .cells Answer.zero.cells 28 (0, 0)) (by simp only [heap_alloc_at, World.size_alloc]) id
                          have hbx := hx1.blk (b := w.heap.size) (o := .cells x.cells 112 (0, 0)) (by simp only [heap_alloc_past, heap_alloc_at, World.size_alloc, Nat.lt_add_one]) id
                          have hbg := (((Touch.refl (fun _ => False) w).alloc (.cells x.cells 112)).alloc (.cells Answer.zero.cells 28)).trans hx1
                          have hbg := hbg.blk H.out.cell id
                          have hc1 := cell_of hbg 0
                          have HX1 := Lib.hid hx1
                          clear hx1))
    have HBG := Lib.hid hbg
    have hw1 : w.heap.size + 2 ≤ w1.heap.size := by have := HX1.out.size; simpa using this
    have HNE := Lib.hid (H.out.own.elem H.out.cell (by decide))
    have hown1 := Lib.hid (H.out.own.ext ((((Touch.refl (fun _ => False) w).alloc (.cells x.cells 112)).alloc (.cells Answer.zero.cells 28)).trans HX1.out))
    have hbxx : objPart 0 2 (w1.heap[w.heap.size]?) = some x.cells := by rw [hbx]; exact file_all x _ _
    have hlt1 : w.heap.size < w1.heap.size := by omega
    have hg3 : (g = w.heap.size) = False := by simp; omega
    have hg4 : (w1.heap.size = g) = False := by simp; omega
    have hltg : g < w1.heap.size := by omega
    obtain ⟨hlx, hbx'⟩ := Array.getElem?_eq_some_iff.1 hbx
    go_region_with
      (first
        | (go_at_call 89
           refine (insert_at _ A c l x (hown1.out.ext ((Touch.refl _ w1).alloc _).drew) (by omega) w1.heap.size (heap_alloc_new w1 (.cells x.cells 112)) (fun e => absurd (hown1.out.lt _ e) (by omega))).mono ?_
           rintro e w2 ⟨A2, c2, rfl, ho2, ht2, hf2⟩
           have hbg2 := ht2.blk (b := g) (o := .cells #[.slice A l.length c] 105 (0, 0)) ((Below.heap_alloc w1 _ _ hltg).trans HBG.out) HNE.out
           have hc2 := cell_of hbg2 0
           have hf2' := frozen_of hbg2 0
           have hl2 : g < w2.heap.size := (Array.getElem?_eq_some_iff.1 hbg2).1
           have HO2 := Lib.hid ho2
           have HT2 := Lib.hid ht2
           have HF2 := Lib.hid hf2
           have hbx2 := ht2.blk (b := w.heap.size) (o := .cells x.cells 112 (0, 0)) ((Below.heap_alloc w1 _ _ hlt1).trans hbx) (fun e => absurd (H.out.own.lt _ e) (by omega))))
    all_goals
      have hbr2 := HT2.out.blk (b := w.heap.size + 1) (o := .cells Answer.zero.cells 28 (0, 0)) ((Below.heap_alloc w1 _ _ (by omega)).trans hbr) (fun e => absurd (H.out.own.lt _ e) (by omega))
      have hlr2 : w.heap.size + 1 < w2.heap.size := (Array.getElem?_eq_some_iff.1 hbr2).1
      obtain ⟨_, hbr2'⟩ := Array.getElem?_eq_some_iff.1 hbr2
      have HNF := Lib.hid (show ¬ foot g (.slice A2 (insAt l x).length c2) (w.heap.size + 1) from fun hk => by
        rcases hk with e | e
        · omega
        · rcases HF2.out _ e with h | h
          · exact absurd (H.out.own.lt _ h) (by omega)
          · have h : (w1.alloc (.cells x.cells 112)).heap.size ≤ w.heap.size + 1 := h
            rw [World.size_alloc] at h; omega)
      go_wp2
      refine ret_cell rfl isAnswer (w.heap.size + 1) (ans 0) rfl (setRow_heap _ _ _ _ _ _ ((heap_setCell_other _ _ _ _ (show w.heap.size + 1 ≠ g by omega)).trans hbr2)) rfl ?_
      unfold AddPost
      rw [HD.out]
      refine ⟨rfl, foot g (.slice A2 (insAt l x).length c2), ⟨_, fun k => Iff.rfl, (Holds.stored hbg2 HO2.out (by decide)).setRow HNF.out _⟩, ?_, fun k hk => ?_⟩
      · have t1 : Touch F w w1 := ((((Touch.refl (fun _ => False) w).alloc (.cells x.cells 112)).alloc (.cells Answer.zero.cells 28)).trans HX1.out).mono fun _ h => h.elim
        exact (((t1.alloc _).drew.then HT2.out fun k hk => .inl ((HF.out k).2 (.inr hk))).setCell (.inl ((HF.out g).2 (.inl rfl))) _).setRow (.inr (by omega)) _
      · rcases hk with e | e
        · exact .inl ((HF.out k).2 (.inl e))
        · rcases HF2.out _ e with h | h
          · exact .inl ((HF.out k).2 (.inr h))
          · have h : (w1.alloc (.cells x.cells 112)).heap.size ≤ k := h
            rw [World.size_alloc] at h; exact .inr (by omega)
end Go.Proofs.Ytalfbhhldfffkab
