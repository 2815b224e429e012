/- Post: the walks of package post and of the reference's Bag. -/
import Derived.Test.YtalfbhhldfffkaaTypes
import Derived.Test.YtalfbhhldfffkaaPostP
import Derived.Deep.RegionHeld3
import Derived.Deep.RegionLaw
namespace Go.Proofs.Ytalfbhhldfffkaa
open Go.RowKit

def SendPost (w : World) (T g : Nat) (v : Value) (l : List Packet) (m : Packet) (e : Ending) (w' : World) : Prop :=
  if l.length < 40 then e = .returned (.bool true) ∧ ∃ v', Holds w' g T 33 v' (l ++ [m]) ∧ Touch (foot g v) w w' ∧ ∀ k, v'.ownBlock = some k → v.ownBlock = some k ∨ w.heap.size ≤ k
  else e = .returned (.bool false) ∧ Ext w w'

set_option maxHeartbeats 400000 in
theorem post_send (w : World) (g : Nat) (v : Value) (l : List Packet) (m : Packet) (h : Holds w g 96 33 v l) :
    Calls Try.prog 16 #[.pointer (some ⟨g, 0, none⟩), .agg m.cells] w (SendPost w 96 g v l m) := by
  obtain ⟨A, c, rfl, hc, hcm, hr⟩ := h.own.form
  have hlt := h.lt
  have hm := hcm
  unfold maxLen at hm
  have hc0 := cell_of h.cell 0
  have H := Lib.hid h
  clear h hr hcm
  by_cases hl : l.length < 40
  · have hlh := Lib.hid hl
    have hl' : ¬ (40 ≤ l.length) := by omega
    go_enter Try.func16, Try.ntmps16
    go_wp2
    have HO := H.out.own
    have HC := H.out.cell
    go_region_law (
      (refine step_append_own (by rfl) (.tmp 15) (.tmp 17) 26 (by rfl) elemPacket Try.underlying26 (v := .slice A l.length c) (l := l) (by rfl) (HO.keep fun k hk => ?hk1) [m] (by rfl) (l.length + 1) (by rfl) (by rfl) (reads_block (x := m) (t := 33) (fr := (0, 0)) ?hn1 (w.heap.size + 2) (by omega)) (by simp; omega) ?_
       case hk1 => exact ((Touch.refl (fun _ => False) w).alloc _ |>.alloc _ |>.drew).block k (HO.lt k hk) id
       case hn1 => simp only [heap_alloc_at, heap_drew', World.size_alloc]; rfl
       intro A1 c1 w1 hown1 hgrow1 hat1
       have hg1 := World.grownBy.blk hgrow1 (b := g) (o := .cells #[.slice A l.length c] 96 (0, 0)) (by simp only [heap_alloc_past, heap_drew', hlt, World.size_alloc, lt_size_add]; exact HC) (HO.elem HC (by decide))
       have hc1 := cell_of hg1 0
       have hf1 := frozen_of hg1 0))
    all_goals
      go_wp2
      go_ret
      rw [SendPost, if_pos hlh.out]
      exact ⟨rfl, _, Holds.appended H.out ((Touch.refl _ w).alloc _ |>.alloc _ |>.drew) (by decide) hown1 hgrow1 hat1⟩
  · have hl' : 40 ≤ l.length := by omega
    go_enter Try.func16, Try.ntmps16
    go_wp2
    go_ret
    rw [SendPost, if_neg hl]
    exact ⟨rfl, (Touch.refl _ w).alloc _⟩

set_option maxHeartbeats 400000 in
theorem bag_send (w : World) (g : Nat) (v : Value) (l : List Packet) (m : Packet) (h : Holds w g 27 33 v l) :
    Calls Try.prog 17 #[.pointer (some ⟨g, 0, none⟩), .agg m.cells] w (SendPost w 27 g v l m) := by
  obtain ⟨A, c, rfl, hc, hcm, hr⟩ := h.own.form
  have hlt := h.lt
  have hm := hcm
  unfold maxLen at hm
  have hc0 := cell_of h.cell 0
  have H := Lib.hid h
  clear h hr hcm
  by_cases hl : l.length < 40
  · have hlh := Lib.hid hl
    have hl' : ¬ (40 ≤ l.length) := by omega
    go_enter Try.func17, Try.ntmps17
    go_wp2
    have HO := H.out.own
    have HC := H.out.cell
    go_region_law (
      (refine step_append_own (by rfl) (.tmp 13) (.tmp 15) 27 (by rfl) elemPacket Try.underlying27 (v := .slice A l.length c) (l := l) (by rfl) (HO.keep fun k hk => ?hk1) [m] (by rfl) (l.length + 1) (by rfl) (by rfl) (reads_block (x := m) (t := 33) (fr := (0, 0)) ?hn1 (w.heap.size + 2) (by omega)) (by simp; omega) ?_
       case hk1 => exact ((Touch.refl (fun _ => False) w).alloc _ |>.alloc _ |>.drew).block k (HO.lt k hk) id
       case hn1 => simp only [heap_alloc_at, heap_drew', World.size_alloc]; rfl
       intro A1 c1 w1 hown1 hgrow1 hat1
       have hg1 := World.grownBy.blk hgrow1 (b := g) (o := .cells #[.slice A l.length c] 27 (0, 0)) (by simp only [heap_alloc_past, heap_drew', hlt, World.size_alloc, lt_size_add]; exact HC) (HO.elem HC (by decide))
       have hc1 := cell_of hg1 0
       have hf1 := frozen_of hg1 0))
    all_goals
      go_wp2
      go_ret
      rw [SendPost, if_pos hlh.out]
      exact ⟨rfl, _, Holds.appended H.out ((Touch.refl _ w).alloc _ |>.alloc _ |>.drew) (by decide) hown1 hgrow1 hat1⟩
  · have hl' : 40 ≤ l.length := by omega
    go_enter Try.func17, Try.ntmps17
    go_wp2
    go_ret
    rw [SendPost, if_neg hl]
    exact ⟨rfl, (Touch.refl _ w).alloc _⟩

theorem post_new (w : World) : Calls Try.prog 15 #[] w fun e w' => e = .returned (.pointer (some ⟨w.heap.size, 0, none⟩)) ∧ w.alloc (.cells #[.slice none 0 0] 96) = w' := by
  go_enter Try.func15, Try.ntmps15
  go_wp2
  go_ret
  exact ⟨rfl, rfl⟩

theorem post_len (w : World) (g : Nat) (v : Value) (l : List Packet) (h : Holds w g 96 33 v l) :
    Calls Try.prog 22 #[.pointer (some ⟨g, 0, none⟩)] w fun e w' => e = .returned (.int .i64 l.length) ∧ w = w' := by
  obtain ⟨A, c, rfl, hc, hcm, hr⟩ := h.own.form
  have hc0 := cell_of h.cell 0
  clear h hr
  go_enter Try.func22, Try.ntmps22
  go_wp2
  go_ret
  exact ⟨rfl, rfl⟩

def AtPost (w : World) (l : List Packet) (n : Int) (e : Ending) (w' : World) : Prop := e = .returned (.int .i64 (if l.length = 0 then -1 else (rnd n l.length : Int))) ∧ w = w'
set_option maxHeartbeats 400000 in
theorem post_at (w : World) (g : Nat) (v : Value) (l : List Packet) (n : Int) (h : Holds w g 96 33 v l) :
    Calls Try.prog 62 #[.pointer (some ⟨g, 0, none⟩), .int .i64 n] w (AtPost w l n) := by
  obtain ⟨A, c, rfl, hc, hcm, hr⟩ := h.own.form
  have hm := hcm
  unfold maxLen at hm
  have hc0 := cell_of h.cell 0
  have H := Lib.hid h
  have hlen := Lib.hid (show l.length ≤ 9223372036854775807 by omega)
  clear h hr hcm
  by_cases hl : l.length = 0
  · have HL := Lib.hid hl
    have hl0 : ((l.length : Int) == 0) = true := beq_iff_eq.2 (by omega)
    clear hl
    go_enter Try.func62, Try.ntmps62
    go_wp2
    go_ret
    exact ⟨by rw [if_pos HL.out]; rfl, rfl⟩
  · have hl0 : ((l.length : Int) == 0) = false := beq_eq_false_iff_ne.2 (by omega)
    have hpos : 0 < l.length := by omega
    go_enter Try.func62, Try.ntmps62
    go_wp2
    go_ret
    exact ⟨by rw [if_neg hl, ← rnd_wrap n l.length hpos hlen.out]; rfl, rfl⟩

theorem post_at_nil (w : World) (g : Nat) (v : Value) (n : Int) (h : Holds (α := Packet) w g 96 33 v []) :
    Calls Try.prog 62 #[.pointer (some ⟨g, 0, none⟩), .int .i64 n] w fun e w' => e = .returned (.int .i64 (-1)) ∧ w = w' :=
  (post_at w g v [] n h).mono fun _ _ h => h
theorem post_at_pos (w : World) (g : Nat) (v : Value) (l : List Packet) (n : Int) (h : Holds w g 96 33 v l) (hl : 0 < l.length) :
    Calls Try.prog 62 #[.pointer (some ⟨g, 0, none⟩), .int .i64 n] w fun e w' => e = .returned (.int .i64 (rnd n l.length : Int)) ∧ w = w' :=
  (post_at w g v l n h).mono fun _ _ ⟨h1, h2⟩ => ⟨by rw [h1, if_neg (by omega)], h2⟩

set_option maxHeartbeats 400000 in
theorem bag_at (w : World) (g : Nat) (v : Value) (l : List Packet) (n : Int) (h : Holds w g 27 33 v l) (hpos : 0 < l.length) :
    Calls Try.prog 64 #[.pointer (some ⟨g, 0, none⟩), .int .i64 n] w fun e w' => e = .returned (.int .i64 (rnd n l.length : Int)) ∧ w = w' := by
  obtain ⟨A, c, rfl, hc, hcm, hr⟩ := h.own.form
  have hm := hcm
  unfold maxLen at hm
  have hc0 := cell_of h.cell 0
  have H := Lib.hid h
  have hlen := Lib.hid (show l.length ≤ 9223372036854775807 by omega)
  clear h hr hcm
  have hl0 : ((l.length : Int) == 0) = false := beq_eq_false_iff_ne.2 (by omega)
  go_enter Try.func64, Try.ntmps64
  go_wp2
  go_ret
  rw [← rnd_wrap n l.length hpos hlen.out]
  exact ⟨rfl, rfl⟩

set_option maxHeartbeats 400000 in
theorem clone_packets (w : World) (B : Nat) (A : Option Addr) (c : Nat) (l : List Packet) (hr : Reads w B A l) (hB : B ≤ w.heap.size) (hn : A = none → l = []) (hl : l.length ≤ 100000) :
    Calls Try.prog 65 #[.slice A l.length c] w (NewList w 33 l) := by
  rcases A with _ | ad
  · have h0 := hn rfl
    subst h0
    go_enter Try.func65, Try.ntmps65
    go_wp2
    go_ret
    exact ⟨none, 0, rfl, Owns.nil _ _, Touch.refl _ _, fun k hk => by simp [Value.ownBlock] at hk⟩
  · have HR := Lib.hid hr
    have HB := Lib.hid hB
    clear hr hn hB
    go_enter Try.func65, Try.ntmps65
    go_wp2_with (at_builtin; refine wpList_append_own' (by rfl) (.tmp 5) (.tmp 6) 26 (by rfl) elemPacket Try.underlying26 (v := .slice (some ⟨w.heap.size, 0, none⟩) 0 0) (l := []) (by rfl) (own_empty (heap_alloc_new _ _)) l (by rfl) l.length (by simp) (by rfl) (HR.out.below fun k hk => Below.heap_alloc _ _ _ (Nat.lt_of_lt_of_le hk HB.out)) (by simp; omega) ?_
                 intro A1 c1 w1 hown1 hgrow1 hat1)
    go_ret
    simp only [List.nil_append] at hown1
    exact ⟨A1, c1, rfl, hown1, ((Touch.refl _ w).alloc _).grown hgrow1 (fun k hk => by simp [Value.ownBlock] at hk; omega), fun k hk => by rcases hat1 with h1 | h1 <;> rw [h1] at hk <;> simp [Value.ownBlock] at hk <;> omega⟩
end Go.Proofs.Ytalfbhhldfffkaa
