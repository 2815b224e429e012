/- Post3: the walks of package post and of the reference Bag, on. -/
import Derived.Test.YtalfbhhldfffkaaPost2
namespace Go.Proofs.Ytalfbhhldfffkaa
open Go.RowKit

theorem delete_packets' (w : World) (ad : Addr) (cap : Nat) (l : List Packet) (i : Nat) (hi : i < l.length) (h : Owns w 33 (.slice (some ad) l.length cap) l) (hl : l.length ≤ 100000) :
    Calls Try.prog 63 #[.slice (some ad) l.length cap, .int .i64 (i : Int), .int .i64 ((i : Int) + 1)] w fun e w' =>
      ∃ n, n + 1 = l.length ∧ e = .returned (.slice (some ad) n cap) ∧ Owns w' 33 (.slice (some ad) n cap) (l.take i ++ l.drop (i + 1)) ∧ Touch (fun k => k = ad.block) w w' := by
  obtain ⟨g, rfl⟩ := h.some_form
  refine (delete_packets w g cap l i hi h hl).mono fun e w' ⟨he, ho, ht⟩ => ?_
  have hll : (l.take i ++ l.drop (i + 1)).length = l.length - 1 := by simp; omega
  rw [hll] at he ho
  exact ⟨l.length - 1, by omega, he, ho, ht⟩

abbrev Packet.zero : Packet := ⟨false, 0, 0, ⟨0, ⟨#[]⟩, ⟨#[]⟩, ⟨#[]⟩⟩, ⟨0, ⟨#[]⟩⟩⟩

/-- Behind Take. -/
def TakePost (w : World) (T g : Nat) (v : Value) (l : List Packet) (n : Int) (e : Ending) (w' : World) : Prop :=
  (l = [] ∧ e = .returned (.tuple #[.agg Packet.zero.cells, .bool false]) ∧ Ext w w') ∨
  (∃ m, l[rnd n l.length]? = some m ∧ e = .returned (.tuple #[.agg m.cells, .bool true]) ∧
    ∃ v', Holds w' g T 33 v' (l.take (rnd n l.length) ++ l.drop (rnd n l.length + 1)) ∧ Touch (foot g v) w w' ∧ ∀ k, v'.ownBlock = some k → v.ownBlock = some k ∨ w.heap.size ≤ k)

set_option maxHeartbeats 1000000 in
set_option maxRecDepth 100000 in
theorem post_take (w : World) (g : Nat) (v : Value) (l : List Packet) (n : Int) (h : Holds w g 96 33 v l) (hl : l.length ≤ 40) :
    Calls Try.prog 18 #[.pointer (some ⟨g, 0, none⟩), .int .i64 n] w (TakePost w 96 g v l n) := by
  by_cases hl0 : l = []
  · subst hl0
    obtain ⟨A, c, rfl, hc, hcm, hr⟩ := h.own.form
    have H := Lib.hid h
    clear h hr hcm
    go_enter Try.func18, Try.ntmps18
    go_wp2_with (go_at_call 62; refine (post_at_nil _ g _ n (H.out.ext ((Touch.refl _ w).alloc _))).mono ?_; rintro e w' ⟨rfl, rfl⟩)
    refine bodyPost_ret (results_cell_tmp rfl _ _ ⟨w.heap.size, 0, none⟩ (.agg Packet.zero.cells) rfl ?_) rfl (.inl ⟨rfl, rfl, (Touch.refl _ w).alloc _⟩)
    exact load_block (x := Packet.zero) isPacket (heap_alloc_new _ _)
  · obtain ⟨A, c, rfl, hc, hcm, hr⟩ := h.own.form
    have hpos : 0 < l.length := List.length_pos_iff.2 hl0
    have hi := rnd_lt n l.length hpos
    obtain ⟨m, hm⟩ : ∃ m, l[rnd n l.length]? = some m := ⟨l[rnd n l.length], by simp [hi]⟩
    obtain ⟨ad, rfl, hadb, hat⟩ := hr _ m hm
    have hLV : ∀ o, LV Try.prog 33 (ad.add (rnd n l.length * 9)) (w.alloc o) = .ok (.agg m.cells) (w.alloc o) := fun o => LV_Packet (hat.of_same (Below.heap_alloc _ _ _ (by unfold Addr.add; split <;> exact hadb)))
    have hne := h.own.elem h.cell (by decide)
    have hadg : ad.block ≠ g := fun e => hne (by simp [Value.ownBlock, e])
    have hlt := h.lt
    have hc0 := cell_of h.cell 0
    have H := Lib.hid h
    have HM := Lib.hid hm
    have hi0 : (0 : Int) ≤ rnd n l.length := by omega
    have hi1 : ((rnd n l.length : Int) < 0) = False := by simp
    have hi2 : (rnd n l.length : Int) < l.length := by omega
    have hi3 : (rnd n l.length : Int) ≤ 100 := by omega
    have hl4 := Lib.hid hl
    have hpos' := Lib.hid hpos
    have hi' := Lib.hid hi
    have hg1 : (w.heap.size = g) = False := by simp; omega
    have hg2 : (w.heap.size + 1 = g) = False := by simp; omega
    have HNE := Lib.hid hadg
    clear h hr hcm hm hat hne hl hadg
    go_enter Try.func18, Try.ntmps18
    go_wp2_with (first
      | (go_at_call 62; refine (post_at_pos _ g _ l n (H.out.ext ((Touch.refl _ w).alloc _)) hpos'.out).mono ?_; rintro e w' ⟨rfl, rfl⟩)
      | (go_at_call 63
         refine (delete_packets' _ ad c l (rnd n l.length) hi'.out ((H.out.ext (((Touch.refl _ w).alloc _).alloc _)).own) (by have := hl4.out; omega)).mono ?_
         rintro e w1 ⟨n1, hn1, rfl, ho1, ht1⟩
         have hb0 := ht1.blk (b := g) (o := .cells #[.slice (some ad) l.length c] 96 (0, 0)) (by simp only [heap_alloc_past, hlt, World.size_alloc, lt_size_add]; exact H.out.cell) (fun e => HNE.out e.symm)
         have hc1 := cell_of hb0 0
         have hf1 := frozen_of hb0 0
         have hb1 := ht1.blk (b := w.heap.size + 1) (o := .cells m.cells 33 (0, 0)) (by simp only [heap_alloc_at, World.size_alloc]) (fun e => by have := hadb; omega)
         have hb2 := ht1.blk (b := w.heap.size) (o := .cells Packet.zero.cells 33 (0, 0)) (by simp only [heap_alloc_at, heap_alloc_past, World.size_alloc, Nat.lt_add_one]) (fun e => by have := hadb; omega)
         have HN1 := Lib.hid hn1
         have HO1 := Lib.hid ho1
         clear hn1 ho1))
    have hadb' : ad.block < w.heap.size := hadb
    have HH := (Holds.stored hb0 HO1.out (by decide)).setRow (b := w.heap.size) (fun hk => by rcases hk with e | e <;> simp [Value.ownBlock] at e hg1 <;> omega) m.cells
    refine bodyPost_ret (results_cell_tmp rfl _ _ ⟨w.heap.size, 0, none⟩ (.agg m.cells) rfl ?_) rfl (.inr ⟨m, HM.out, rfl, _, HH, ?_, fun k hk => .inl hk⟩)
    · exact load_block (x := m) isPacket (setRow_heap _ _ _ _ _ _ ((heap_setCell_other _ _ _ _ (by simpa using hg1)).trans hb2))
    · exact ((((Touch.refl (foot g _) w).alloc _).alloc _).then ht1 (fun k hk => .inl (.inr (by subst hk; rfl)))).setCell (.inl (.inl rfl)) _ |>.setRow (.inr (Nat.le_refl _)) _
end Go.Proofs.Ytalfbhhldfffkaa
