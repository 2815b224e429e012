/- Post4: the walks of package post and of the reference Bag, on. -/
import Derived.Test.YtalfbhhldfffkaaPost3
namespace Go.Proofs.Ytalfbhhldfffkaa
open Go.RowKit

set_option maxHeartbeats 1000000 in
set_option maxRecDepth 100000 in
theorem bag_take_some (w : World) (g : Nat) (ad : Addr) (c : Nat) (l : List Packet) (n : Int) (h : Holds w g 27 33 (.slice (some ad) l.length c) l) (hl : l.length ≤ 40) (hpos : 0 < l.length) :
    Calls Try.prog 19 #[.pointer (some ⟨g, 0, none⟩), .int .i64 n] w (TakePost w 27 g (.slice (some ad) l.length c) l n) := by
  obtain ⟨A, c', hv, hc, hcm, hr⟩ := h.own.form
  injection hv with hv1 hv2 hv3
  subst hv3
  subst hv1
  have hi := rnd_lt n l.length hpos
  obtain ⟨m, hm⟩ : ∃ m, l[rnd n l.length]? = some m := ⟨l[rnd n l.length], by simp [hi]⟩
  obtain ⟨ad', he, hadb, hat⟩ := hr _ m hm
  injection he with he
  subst he
  obtain ⟨i, hii⟩ : ∃ i, rnd n l.length = i := ⟨_, rfl⟩
  rw [hii] at hi hm hat
  have hLV : ∀ o, LV Try.prog 33 (ad.add (i * 9)) (w.alloc o) = .ok (.agg m.cells) (w.alloc o) := fun o => LV_Packet (hat.of_same (Below.heap_alloc _ _ _ (by unfold Addr.add; split <;> exact hadb)))
  have hne := h.own.elem h.cell (by decide)
  have hadg : ad.block ≠ g := fun e => hne (by simp [Value.ownBlock, e])
  have hlt := h.lt
  have hc0 := cell_of h.cell 0
  have H := Lib.hid h
  have HM := Lib.hid hm
  have HI := Lib.hid hii
  have hi0 : (0 : Int) ≤ (i : Int) := by omega
  have hi2 : (i : Int) < l.length := by omega
  have hi3 : (i : Int) ≤ 100 := by omega
  have hi4 : (0 : Int) ≤ (i : Int) + 1 := by omega
  have hi5 : (i : Int) + 1 ≤ l.length := by omega
  have hi6 : i ≤ c := by omega
  have hi7 : i + 1 ≤ l.length := by omega
  have hl4 := Lib.hid hl
  have hpos' := Lib.hid hpos
  have hi' := Lib.hid hi
  have hcL := Lib.hid hc
  have hg1 : (w.heap.size = g) = False := by simp; omega
  have hg2 : (w.heap.size + 1 = g) = False := by simp; omega
  have HNE := Lib.hid hadg
  have hl0 : ((l.length : Int) == 0) = false := beq_eq_false_iff_ne.2 (by omega)
  obtain ⟨A1, hA1⟩ : ∃ A1, (if c = i + 1 then some ad else some (ad.add ((i + 1) * 9))) = A1 := ⟨_, rfl⟩
  have HR1 := Lib.hid (hr.take i)
  have HR2 := Lib.hid (hr.cut (i + 1) c hc hA1)
  clear h hr hcm hm hat hne hl hadg hii hv2
  go_enter Try.func19, Try.ntmps19
  go_wp2_with (go_at_call 64; refine (bag_at _ g _ l n (H.out.ext ((Touch.refl _ w).alloc _)) hpos'.out).mono ?_; rw [HI.out]; rintro e w' ⟨rfl, rfl⟩)
  have hx : Ext w ((w.alloc (.cells Packet.zero.cells 33)).alloc (.cells m.cells 33)) := ((Touch.refl _ w).alloc _).alloc _
  have hz0 : ((w.alloc (.cells Packet.zero.cells 33)).alloc (.cells m.cells 33)).heap[w.heap.size]? = some (.cells Packet.zero.cells 33 (0, 0)) := by simp only [heap_alloc_at, heap_alloc_past, World.size_alloc, Nat.lt_add_one]
  have hz1 : ((w.alloc (.cells Packet.zero.cells 33)).alloc (.cells m.cells 33)).heap[w.heap.size + 1]? = some (.cells m.cells 33 (0, 0)) := by simp only [heap_alloc_at, World.size_alloc]
  generalize hW : (w.alloc (.cells Packet.zero.cells 33)).alloc (.cells m.cells 33) = W at *
  have hWs : w.heap.size + 2 = W.heap.size := by rw [← hW]; simp
  have hz2 := hx.blk H.out.cell id
  have hc1 := cell_of hz2 0
  have hRW := HR1.out.below (w' := W) (fun k hk => hx.block k hk id)
  have HT : Hid (i = (l.take i).length) := by show i = _; rw [List.length_take]; have := hi'.out; omega
  have HD : Hid (l.length - (i + 1) = (l.drop (i + 1)).length) := by show _ = _; rw [List.length_drop]
  have HRW := Lib.hid hRW
  have HRD := Lib.hid (HR2.out.below (w' := W) (fun k hk => hx.block k hk id))
  have HX := Lib.hid hx
  have HWS := Lib.hid hWs
  clear hW hRW hx hWs
  have hwr : IntKind.i64.wrap ((i : Int) + 1) = (i : Int) + 1 := IntWalk.i64_in _ (by omega)
  have hwn : ((i : Int) + 1).toNat = i + 1 := by omega
  go_region_law (first
    | (refine step_append_own (by rfl) (.tmp 25) (.tmp 30) 27 (by rfl) elemPacket Try.underlying27 (v := .slice none 0 0) (l := []) (by rfl) (Owns.nil _ _) (l.take i) HT.out i (by simp) (by rfl) HRW.out (by have := HT.out; have := hi'.out; have := hl4.out; simp; omega) ?_
       intro A2 c2 w2 hown2 hgrow2 hat2
       simp only [List.nil_append] at hown2
       have hob2 : ∀ k, (Value.slice A2 i c2).ownBlock = some k → W.heap.size ≤ k := fun k hk => by
         rcases hat2 with h1 | h1 <;> rw [h1] at hk <;> simp [Value.ownBlock] at hk
         omega
       have hy2 := World.grownBy.blk hgrow2 hz2 (by simp [Value.ownBlock])
       have hy20 := World.grownBy.blk hgrow2 hz0 (by simp [Value.ownBlock])
       have hy21 := World.grownBy.blk hgrow2 hz1 (by simp [Value.ownBlock])
       have hc2 := cell_of hy2 0
       have hsz2 : W.heap.size ≤ w2.heap.size := hgrow2.size)
    | (refine step_append_own (by rfl) (.tmp 31) (.tmp 37) 27 (by rfl) elemPacket Try.underlying27 (v := .slice A2 i c2) (l := l.take i) (by rfl) hown2 (l.drop (i + 1)) HD.out (i + (l.length - (i + 1))) (by rw [← HT.out]) (by rfl) (HRD.out.below fun k hk => hgrow2.block k (by have := HWS.out; show k < W.heap.size; omega) (by simp [Value.ownBlock])) (by have := hl4.out; simp; omega) ?_
       intro A3 c3 w3 hown3 hgrow3 hat3
       have hlts := HWS.out
       have hob3 : ∀ k, (Value.slice A3 (i + (l.length - (i + 1))) c3).ownBlock = some k → W.heap.size ≤ k := fun k hk => by
         rcases hat3 with h1 | h1
         · exact hob2 k (h1 ▸ hk)
         · rw [h1] at hk; injection hk with hk; have : w2.heap.size = k := hk; omega
       have hy3 := World.grownBy.blk hgrow3 hy2 (fun e => by have := hob2 _ e; omega)
       have hy30 := World.grownBy.blk hgrow3 hy20 (fun e => by have := hob2 _ e; omega)
       have hy31 := World.grownBy.blk hgrow3 hy21 (fun e => by have := hob2 _ e; omega)
       have hc3 := cell_of hy3 0
       have hf3 := frozen_of hy3 0
       have HO3 := Lib.hid hown3
       have HG2 := Lib.hid hgrow2
       have HG3 := Lib.hid hgrow3
       have HB2 := Lib.hid hob2
       have HB3 := Lib.hid hob3
       clear hlts hown3 hown2 hob2 hob3 hat2 hat3 hgrow2 hgrow3))
  all_goals
    go_wp2
    have HH := (Holds.stored hy3 HO3.out (by decide)).setRow (b := w.heap.size) (fun hk => by
      rcases hk with e | e
      · simp at hg1; omega
      · have := HB3.out _ e; have := HWS.out; omega) m.cells
    refine bodyPost_ret (results_cell_tmp rfl _ _ ⟨w.heap.size, 0, none⟩ (.agg m.cells) rfl ?_) rfl (.inr ⟨m, by rw [HI.out]; exact HM.out, rfl, _, by rw [HI.out]; exact HH, ?_, fun k hk => .inr (by have := HB3.out _ hk; have := HWS.out; omega)⟩)
    · exact load_block (x := m) isPacket (setRow_heap _ _ _ _ _ _ ((heap_setCell_other _ _ _ _ (by simpa using hg1)).trans hy30))
    · exact ((((HX.out.mono (S := foot g _) (fun _ e => e.elim)).drew).grown HG2.out (fun k hk => by simp [Value.ownBlock] at hk)).grown HG3.out (fun k hk => .inr (by have := HB2.out _ hk; have := HWS.out; omega))).setCell (.inl (.inl rfl)) _ |>.setRow (.inr (Nat.le_refl _)) _
end Go.Proofs.Ytalfbhhldfffkaa
