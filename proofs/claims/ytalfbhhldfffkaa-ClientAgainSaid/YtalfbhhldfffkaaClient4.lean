/- Client4: the walks of Hear where the packet is what is waited for. -/
import Derived.Test.YtalfbhhldfffkaaClient3
import Derived.BigRegion
namespace Go.Proofs.Ytalfbhhldfffkaa
open Go.RowKit

/-- append, as a word of its own (so that the walk's simp takes a run equation for it). -/
def appendS (ts : Array TypeId) (ty : TypeId) (vs : Array Value) : Sem Value := Builtin.append_ ts ty vs
theorem append_word (ts : Array TypeId) (ty : TypeId) (vs : Array Value) : Builtin.append_ ts ty vs = appendS ts ty vs := rfl
attribute [local go_sem ↓] append_word

set_option maxHeartbeats 1000000 in
set_option maxRecDepth 100000 in
theorem client_hear_yes (w : World) (g : Nat) (v : Value) (x : Guest) (p : Packet) (h : GuestAt w g 102 63 v x) (hy : gHears x p) (hl : x.done.length ≤ 1000) :
    Calls Try.prog 35 #[.pointer (some ⟨g, 0, none⟩), .agg p.cells] w (HearGuest w g 102 v x p) := by
  obtain ⟨A, c, rfl, hcap, hcm, hrd⟩ := h.own.form
  have hm := hcm
  unfold maxLen at hm
  clear hcm hrd
  obtain ⟨hlt, hg'⟩ := Array.getElem?_eq_some_iff.1 h.cell
  have hg := h.cell
  have hY := Lib.hid hy
  obtain ⟨ho, hr, h1, h2, h3⟩ := hy
  have hc6 : w.cell? ⟨g, 6, none⟩ = some (.bool true) := by rw [cell_of h.cell 6, Guest.get6, ho]
  have hc0 : w.cell? ⟨g, 0, none⟩ = some (.int .i64 x.me) := by rw [cell_of h.cell 0, Guest.get0]
  have hc1 : w.cell? ⟨g, 1, none⟩ = some (.int .i64 x.no) := by rw [cell_of h.cell 1, Guest.get1]
  have h1a : (p.client == x.me) = true := beq_iff_eq.2 h1
  have h1b : (p.client != x.me) = false := bne_eq_false_iff_eq.2 h1
  have h2a : (p.no == x.no) = true := beq_iff_eq.2 h2
  have h2b : (p.no != x.no) = false := bne_eq_false_iff_eq.2 h2
  have h3a : decide (p.call = x.call) = true := decide_eq_true h3
  have HH := Lib.hid h
  clear h h1 h2 h3 ho
  go_enter Try.func35, Try.ntmps35
  go_wp2
  go_quiet (fail)
  go_wp2
  have hx : Ext w ((w.alloc (.cells p.cells 33)).drewN nq) := ((Touch.refl _ _).alloc _).drewN _
  have hb : ((w.alloc (.cells p.cells 33)).drewN nq).heap[w.heap.size]? = some (.cells p.cells 33) := heap_alloc_new _ _
  generalize (w.alloc (.cells p.cells 33)).drewN nq = w2 at hx hb ⊢
  have H2 := HH.out.ext hx
  clear hc6 hc0 hc1 hg hg'
  obtain ⟨A1, c1, w1, hrun, hown1, hgrow1, hat1⟩ := run_append_reads (w := (w2.alloc (.cells (gRec x p.answer).cells 63)).drew) elemRecord 51 51 Try.underlying51 (Owns.ext H2.own (((Touch.refl _ _).alloc _).drew)) (r := [gRec x p.answer]) (c := 1)
    (reads_block (x := gRec x p.answer) (t := 63) (fr := (0, 0)) (heap_alloc_new _ _) (w2.heap.size + 1) (by omega)) (by simp; omega)
  have hrunS : (appendS #[51, 51] 51 #[.slice A x.done.length c, .slice (some ⟨w2.heap.size, 0, none⟩) 1 1]).run Try.prog (w2.alloc (.cells (⟨x.me, x.no, x.call, p.answer⟩ : Record).cells 63)).drew = .ok (.slice A1 (x.done.length + 1) c1) w1 := hrun
  clear hrun
  have HO1 := Lib.hid hown1
  have HR1 := Lib.hid hgrow1
  have HA1 := Lib.hid hat1
  clear hown1 hgrow1 hat1
  obtain ⟨hlt, hg'⟩ := Array.getElem?_eq_some_iff.1 H2.cell
  have hg := H2.cell
  have hc0 : w2.cell? ⟨g, 0, none⟩ = some (.int .i64 x.me) := by rw [cell_of H2.cell 0, Guest.get0]
  have hc1 : w2.cell? ⟨g, 1, none⟩ = some (.int .i64 x.no) := by rw [cell_of H2.cell 1, Guest.get1]
  have hc7 : w2.cell? ⟨g, 7, none⟩ = some (.slice A x.done.length c) := by rw [cell_of H2.cell 7, Guest.get7]
  have hg1 := World.grownBy.blk HR1.out (b := g) (o := .cells (x.cells (.slice A x.done.length c)) 102 (0, 0)) (((Touch.refl (fun _ => False) w2).alloc _).drew.blk H2.cell id) (H2.own.elem H2.cell (by decide))
  have hc71 : w1.cell? ⟨g, 7, none⟩ = some (.slice A x.done.length c) := by rw [cell_of hg1 7, Guest.get7]
  have hc61 : w1.cell? ⟨g, 6, none⟩ = some (.bool x.isOpen) := by rw [cell_of hg1 6, Guest.get6]
  have hf71 := frozen_of hg1 7
  have hf61 := frozen_of hg1 6
  have HG1 := Lib.hid hg1
  have HH2 := Lib.hid H2
  have HX := Lib.hid hx
  clear hg1 H2 hx
  go_region
  all_goals
    go_wp2
    go_ret
    have e1 : gHear x p = (true, { x with done := x.done ++ [gRec x p.answer], isOpen := false }) := by unfold gHear; rw [if_pos hY.out]
    unfold HearGuest
    rw [e1]
    refine ⟨rfl, fun F hF => GuestAt.appended HH.out hF (wx := (w2.alloc (.cells (gRec x p.answer).cells 63)).drew) ((HX.out.alloc _).drew) (by decide) HO1.out HR1.out HA1.out ?_ ?_⟩
    · exact Touch.setCell_at (Touch.setCell_at (Touch.refl _ _) _ _) _ _
    · exact heap_setCell_same _ g 6 _ _ _ (heap_setCell_same _ g 7 _ _ _ HG1.out)
set_option maxHeartbeats 1000000 in
set_option maxRecDepth 100000 in
theorem guest_hear_yes (w : World) (g : Nat) (v : Value) (x : Guest) (p : Packet) (h : GuestAt w g 53 63 v x) (hy : gHears x p) (hl : x.done.length ≤ 1000) :
    Calls Try.prog 67 #[.pointer (some ⟨g, 0, none⟩), .agg p.cells] w (HearGuest w g 53 v x p) := by
  obtain ⟨A, c, rfl, hcap, hcm, hrd⟩ := h.own.form
  have hm := hcm
  unfold maxLen at hm
  clear hcm hrd
  obtain ⟨hlt, hg'⟩ := Array.getElem?_eq_some_iff.1 h.cell
  have hg := h.cell
  have hY := Lib.hid hy
  obtain ⟨ho, hr, h1, h2, h3⟩ := hy
  have hc6 : w.cell? ⟨g, 6, none⟩ = some (.bool true) := by rw [cell_of h.cell 6, Guest.get6, ho]
  have hc0 : w.cell? ⟨g, 0, none⟩ = some (.int .i64 x.me) := by rw [cell_of h.cell 0, Guest.get0]
  have hc1 : w.cell? ⟨g, 1, none⟩ = some (.int .i64 x.no) := by rw [cell_of h.cell 1, Guest.get1]
  have h1a : (p.client == x.me) = true := beq_iff_eq.2 h1
  have h1b : (p.client != x.me) = false := bne_eq_false_iff_eq.2 h1
  have h2a : (p.no == x.no) = true := beq_iff_eq.2 h2
  have h2b : (p.no != x.no) = false := bne_eq_false_iff_eq.2 h2
  have h3a : decide (p.call = x.call) = true := decide_eq_true h3
  have HH := Lib.hid h
  clear h h1 h2 h3 ho
  go_enter Try.func67, Try.ntmps67
  go_wp2
  go_quiet (fail)
  go_wp2
  have hx : Ext w ((w.alloc (.cells p.cells 33)).drewN nq) := ((Touch.refl _ _).alloc _).drewN _
  have hb : ((w.alloc (.cells p.cells 33)).drewN nq).heap[w.heap.size]? = some (.cells p.cells 33) := heap_alloc_new _ _
  generalize (w.alloc (.cells p.cells 33)).drewN nq = w2 at hx hb ⊢
  have H2 := HH.out.ext hx
  clear hc6 hc0 hc1 hg hg'
  obtain ⟨A1, c1, w1, hrun, hown1, hgrow1, hat1⟩ := run_append_reads (w := (w2.alloc (.cells (gRec x p.answer).cells 63)).drew) elemRecord 51 51 Try.underlying51 (Owns.ext H2.own (((Touch.refl _ _).alloc _).drew)) (r := [gRec x p.answer]) (c := 1)
    (reads_block (x := gRec x p.answer) (t := 63) (fr := (0, 0)) (heap_alloc_new _ _) (w2.heap.size + 1) (by omega)) (by simp; omega)
  have hrunS : (appendS #[51, 51] 51 #[.slice A x.done.length c, .slice (some ⟨w2.heap.size, 0, none⟩) 1 1]).run Try.prog (w2.alloc (.cells (⟨x.me, x.no, x.call, p.answer⟩ : Record).cells 63)).drew = .ok (.slice A1 (x.done.length + 1) c1) w1 := hrun
  clear hrun
  have HO1 := Lib.hid hown1
  have HR1 := Lib.hid hgrow1
  have HA1 := Lib.hid hat1
  clear hown1 hgrow1 hat1
  obtain ⟨hlt, hg'⟩ := Array.getElem?_eq_some_iff.1 H2.cell
  have hg := H2.cell
  have hc0 : w2.cell? ⟨g, 0, none⟩ = some (.int .i64 x.me) := by rw [cell_of H2.cell 0, Guest.get0]
  have hc1 : w2.cell? ⟨g, 1, none⟩ = some (.int .i64 x.no) := by rw [cell_of H2.cell 1, Guest.get1]
  have hc7 : w2.cell? ⟨g, 7, none⟩ = some (.slice A x.done.length c) := by rw [cell_of H2.cell 7, Guest.get7]
  have hg1 := World.grownBy.blk HR1.out (b := g) (o := .cells (x.cells (.slice A x.done.length c)) 53 (0, 0)) (((Touch.refl (fun _ => False) w2).alloc _).drew.blk H2.cell id) (H2.own.elem H2.cell (by decide))
  have hc71 : w1.cell? ⟨g, 7, none⟩ = some (.slice A x.done.length c) := by rw [cell_of hg1 7, Guest.get7]
  have hc61 : w1.cell? ⟨g, 6, none⟩ = some (.bool x.isOpen) := by rw [cell_of hg1 6, Guest.get6]
  have hf71 := frozen_of hg1 7
  have hf61 := frozen_of hg1 6
  have HG1 := Lib.hid hg1
  have HH2 := Lib.hid H2
  have HX := Lib.hid hx
  clear hg1 H2 hx
  go_region
  all_goals
    go_wp2
    go_ret
    have e1 : gHear x p = (true, { x with done := x.done ++ [gRec x p.answer], isOpen := false }) := by unfold gHear; rw [if_pos hY.out]
    unfold HearGuest
    rw [e1]
    refine ⟨rfl, fun F hF => GuestAt.appended HH.out hF (wx := (w2.alloc (.cells (gRec x p.answer).cells 63)).drew) ((HX.out.alloc _).drew) (by decide) HO1.out HR1.out HA1.out ?_ ?_⟩
    · exact Touch.setCell_at (Touch.setCell_at (Touch.refl _ _) _ _) _ _
    · exact heap_setCell_same _ g 6 _ _ _ (heap_setCell_same _ g 7 _ _ _ HG1.out)

/-! ### What all of them come to -/
theorem client_ask' (w : World) (F : Nat → Prop) (g : Nat) (x : Guest) (c : Call) (h : (repGuest g 102 63).on w F x) (hno : 0 ≤ x.no ∧ x.no ≤ 200) (h1 : c.name.size ≤ 140737488351232) (h2 : c.to_.size ≤ 140737488351232) (h3 : c.text.size ≤ 140737488351232) :
    Calls Try.prog 34 #[.pointer (some ⟨g, 0, none⟩), .agg c.cells] w (Moves (repGuest g 102 63) w F (gAsk x c).2 (.int .i64 (gAsk x c).1)) := by
  obtain ⟨v, hF, h⟩ := h
  exact (client_call w g v x c h hno h1 h2 h3).mono fun e w' ⟨he, hc, ht⟩ => ⟨he, h.turned (by decide) hF hc ht (gAsk_done x c)⟩
theorem client_hear' (w : World) (F : Nat → Prop) (g : Nat) (x : Guest) (p : Packet) (h : (repGuest g 102 63).on w F x) (hl : x.done.length ≤ 1000) :
    Calls Try.prog 35 #[.pointer (some ⟨g, 0, none⟩), .agg p.cells] w (Moves (repGuest g 102 63) w F (gHear x p).2 (.bool (gHear x p).1)) := by
  obtain ⟨v, hF, h⟩ := h
  by_cases hy : gHears x p
  · exact (client_hear_yes w g v x p h hy hl).mono fun e w' ⟨he, hm⟩ => ⟨he, hm F hF⟩
  · exact (client_hear_no w g v x p h hy).mono fun e w' ⟨he, hm⟩ => ⟨he, hm F hF⟩
theorem client_send' (w : World) (F : Nat → Prop) (g : Nat) (x : Guest) (h : (repGuest g 102 63).on w F x) :
    Calls Try.prog 30 #[.pointer (some ⟨g, 0, none⟩)] w (SendGuest w x) := by
  obtain ⟨v, hF, h⟩ := h
  exact client_send w g v x h
theorem guest_ask' (w : World) (F : Nat → Prop) (g : Nat) (x : Guest) (c : Call) (h : (repGuest g 53 63).on w F x) (hno : 0 ≤ x.no ∧ x.no ≤ 200) (h1 : c.name.size ≤ 140737488351232) (h2 : c.to_.size ≤ 140737488351232) (h3 : c.text.size ≤ 140737488351232) :
    Calls Try.prog 66 #[.pointer (some ⟨g, 0, none⟩), .agg c.cells] w (Moves (repGuest g 53 63) w F (gAsk x c).2 (.int .i64 (gAsk x c).1)) := by
  obtain ⟨v, hF, h⟩ := h
  exact (guest_ask w g v x c h hno h1 h2 h3).mono fun e w' ⟨he, hc, ht⟩ => ⟨he, h.turned (by decide) hF hc ht (gAsk_done x c)⟩
theorem guest_hear' (w : World) (F : Nat → Prop) (g : Nat) (x : Guest) (p : Packet) (h : (repGuest g 53 63).on w F x) (hl : x.done.length ≤ 1000) :
    Calls Try.prog 67 #[.pointer (some ⟨g, 0, none⟩), .agg p.cells] w (Moves (repGuest g 53 63) w F (gHear x p).2 (.bool (gHear x p).1)) := by
  obtain ⟨v, hF, h⟩ := h
  by_cases hy : gHears x p
  · exact (guest_hear_yes w g v x p h hy hl).mono fun e w' ⟨he, hm⟩ => ⟨he, hm F hF⟩
  · exact (guest_hear_no w g v x p h hy).mono fun e w' ⟨he, hm⟩ => ⟨he, hm F hF⟩
theorem guest_send' (w : World) (F : Nat → Prop) (g : Nat) (x : Guest) (h : (repGuest g 53 63).on w F x) :
    Calls Try.prog 31 #[.pointer (some ⟨g, 0, none⟩)] w (SendGuest w x) := by
  obtain ⟨v, hF, h⟩ := h
  exact guest_send w g v x h
theorem client_open' (w : World) (F : Nat → Prop) (g : Nat) (x : Guest) (h : (repGuest g 102 63).on w F x) :
    Calls Try.prog 29 #[.pointer (some ⟨g, 0, none⟩)] w fun e w' => e = .returned (.bool x.isOpen) ∧ w = w' := by
  obtain ⟨v, hF, h⟩ := h
  exact client_open w g v x h
theorem client_done' (w : World) (F : Nat → Prop) (g : Nat) (x : Guest) (h : (repGuest g 102 63).on w F x) (hl : x.done.length ≤ 100000) :
    Calls Try.prog 33 #[.pointer (some ⟨g, 0, none⟩)] w (NewList w 63 x.done) := by
  obtain ⟨v, hF, h⟩ := h
  exact client_done w g v x h hl
end Go.Proofs.Ytalfbhhldfffkaa
