/- ClientBegun: the walk of clientBegun. -/
import Derived.Test.YtalfbhhldfffkaaClient4
import Derived.Test.YtalfbhhldfffkaaLater
namespace Go.Proofs.Ytalfbhhldfffkaa
open Go.RowKit

theorem new_guest (W w : World) (T E : TypeId) (me : Int) (hx : Ext W w) : Has (repGuest w.heap.size T E) W (w.alloc (.cells ((gNew me).cells (.slice none 0 0)) T)) (gNew me) :=
  Has.first (F := fun k => k = w.heap.size) ⟨.slice none 0 0, fun k => ⟨fun h => .inl h, fun h => by rcases h with h | h; exact h; simp [Value.ownBlock] at h⟩, ⟨heap_alloc_new _ _, Owns.nil _ _⟩⟩ (fun k hk => by rw [hk]; exact hx.size) (hx.alloc _)

def cbX : Call := ⟨5, ⟨#[97]⟩, ⟨#[]⟩, ⟨#[]⟩⟩
def cbG : Guest := ⟨1, 1, cbX, true, []⟩
def cbA : Answer := ⟨0, ⟨#[121]⟩⟩
def cbH : Guest := ⟨1, 1, cbX, false, [⟨1, 1, cbX, cbA⟩]⟩
theorem cb_code : callCode cbX = 0 := by
  unfold callCode cbX okText
  simp [ByteArray.toList_eq, ByteArray.size]
theorem cb_ask : gAsk (gNew 1) cbX = (0, cbG) := by unfold gAsk; rw [if_neg (by simp [cb_code])]; rfl
theorem cb_busy : gAsk cbG cbX = (11, cbG) := by unfold gAsk; rw [if_neg (by simp [cb_code])]; rfl
theorem cb_send : gSend cbG = (⟨false, 1, 1, cbX, Answer.zero⟩, true) := rfl
theorem cb_no : gHear cbG ⟨false, 1, 1, cbX, Answer.zero⟩ = (false, cbG) := by unfold gHear; rw [if_neg (fun h => by have := h.2.1; cases this)]
theorem cb_yes : gHear cbG ⟨true, 1, 1, cbX, cbA⟩ = (true, cbH) := by unfold gHear; rw [if_pos ⟨rfl, rfl, rfl, rfl, rfl⟩]; rfl
theorem cb_again : gHear cbH ⟨true, 1, 1, cbX, cbA⟩ = (false, cbH) := by unfold gHear; rw [if_neg (fun h => by have := h.1; cases this)]

theorem cb_c1 (w : World) (F : Nat → Prop) (g : Nat) (h : (repGuest g 102 63).on w F (gNew 1)) : Calls Try.prog 34 #[.pointer (some ⟨g, 0, none⟩), .agg cbX.cells] w (Moves (repGuest g 102 63) w F cbG (.int .i64 0)) := by
  have := client_ask' w F g _ cbX h (by decide) (by decide) (by decide) (by decide)
  rwa [cb_ask] at this
theorem cb_c2 (w : World) (F : Nat → Prop) (g : Nat) (h : (repGuest g 102 63).on w F cbG) : Calls Try.prog 34 #[.pointer (some ⟨g, 0, none⟩), .agg cbX.cells] w (Moves (repGuest g 102 63) w F cbG (.int .i64 11)) := by
  have := client_ask' w F g _ cbX h (by decide) (by decide) (by decide) (by decide)
  rwa [cb_busy] at this
theorem cb_c3 (w : World) (F : Nat → Prop) (g : Nat) (h : (repGuest g 102 63).on w F cbG) : Calls Try.prog 30 #[.pointer (some ⟨g, 0, none⟩)] w fun e w' => e = .returned (.tuple #[.agg (⟨false, 1, 1, cbX, Answer.zero⟩ : Packet).cells, .bool true]) ∧ Ext w w' := by
  have := client_send' w F g _ h
  unfold SendGuest at this
  rwa [cb_send] at this
theorem cb_h (w : World) (F : Nat → Prop) (g : Nat) (x y : Guest) (p : Packet) (b : Bool) (e : gHear x p = (b, y)) (hl : x.done.length ≤ 1000) (h : (repGuest g 102 63).on w F x) : Calls Try.prog 35 #[.pointer (some ⟨g, 0, none⟩), .agg p.cells] w (Moves (repGuest g 102 63) w F y (.bool b)) := by
  have := client_hear' w F g _ p h hl
  rwa [e] at this

set_option maxHeartbeats 2000000 in
set_option maxRecDepth 100000 in
theorem client_begun (W : World) : Calls Try.prog 25 #[] W fun e w' => e = .returned (.bool true) ∧ Ext W w' := by
  go_enter Try.func25, Try.ntmps25
  go_wp2_with fail
  refine (client_new_yes _ 1 (by decide)).mono ?_
  rintro e w1 ⟨rfl, rfl⟩
  have H0 := Lib.hid (new_guest W W 102 63 1 (Touch.refl _ _))
  generalize hw1 : W.alloc (.cells ((gNew 1).cells (.slice none 0 0)) 102) = w1 at H0 ⊢
  generalize W.heap.size = g at H0 ⊢
  clear hw1
  go_wp2_with fail
  refine (client_new_no _ 3 (by decide)).mono ?_
  rintro e w2 ⟨rfl, rfl⟩
  go_wp2_with fail
  have H3 := Lib.hid (H0.out.box cbX.cells 29)
  change Code.wp Try.prog _ _ _ (w1.alloc (.cells cbX.cells 29))
  generalize w1.alloc (.cells cbX.cells 29) = w3 at H3 ⊢
  generalize w1.heap.size = b at H3 ⊢
  clear H0
  have hx3 : w3.drew.heap[b]? = some (.cells cbX.cells 29) := H3.out.blk
  go_region_held3 (fun w' => objPart 0 4 (w'.heap[b]?) = some cbX.cells) (first | (rw [hx5]; exact objPart_cells 0 4 cbX.cells _ _ (by decide)) | (rw [hx4]; exact objPart_cells 0 4 cbX.cells _ _ (by decide)) | (rw [hx3]; exact objPart_cells 0 4 cbX.cells _ _ (by decide)))
    (first
      | (go_at_call 34
         obtain ⟨F5, hF5, hm5⟩ := H4.out.fst
         refine (cb_c2 _ F5 g hF5).mono ?_
         rintro e w5 ⟨rfl, hv5⟩
         have H5 := Lib.hid (hm5 _ _ hv5)
         have hx5 : w5.heap[b]? = some (.cells cbX.cells 29) := H5.out.blk
         clear hF5 hm5 hv5)
      | (go_at_call 34
         obtain ⟨F4, hF4, hm4⟩ := (H3.out.step ((Touch.refl _ _).drew)).fst
         refine (cb_c1 _ F4 g hF4).mono ?_
         rintro e w4 ⟨rfl, hv4⟩
         have H4 := Lib.hid (hm4 _ _ hv4)
         have hx4 : w4.heap[b]? = some (.cells cbX.cells 29) := H4.out.blk
         clear hF4 hm4 hv4))
  have H6 := Lib.hid H5.out.left
  clear H5 H4 H3 hx3 hx4 hx5
  go_wp2_with fail
  obtain ⟨F6, hF6, _⟩ := H6.out.one
  refine (cb_c3 _ F6 g hF6).mono ?_
  rintro e w7 ⟨rfl, he7⟩
  have H7 := Lib.hid ((H6.out.step he7).box (⟨false, 1, 1, cbX, Answer.zero⟩ : Packet).cells 33)
  clear hF6 he7 H6
  go_wp2_with fail
  generalize (w7.alloc (.cells (⟨false, 1, 1, cbX, Answer.zero⟩ : Packet).cells 33)) = w8 at H7 ⊢
  generalize w7.heap.size = c at H7 ⊢
  obtain ⟨F8, hF8, hm8⟩ := H7.out.fst
  refine (cb_h _ F8 g _ _ _ _ cb_no (by decide) hF8).mono ?_
  rintro e w9 ⟨rfl, hv9⟩
  have H9 := Lib.hid (hm8 _ _ hv9)
  clear hF8 hm8 hv9 H7
  have hx9 := H9.out.blk
  have hg9 : w9.cell? ⟨c, 0, none⟩ = some (.bool false) := cell_of hx9 0
  have hf9 := fun o => frozen_of hx9 o
  obtain ⟨hl9, hx9'⟩ := Array.getElem?_eq_some_iff.1 hx9
  go_wp2_with fail
  have H10 := Lib.hid (H9.out.turn (w' := World.setRow (World.setCell w9 ⟨c, 0, none⟩ (.bool true)) c (⟨true, 1, 1, cbX, cbA⟩ : Packet).cells) (cs' := (⟨true, 1, 1, cbX, cbA⟩ : Packet).cells) (Touch.setRow_at (Touch.setCell_at (Touch.refl _ _) _ _) _) (by rw [heap_setRow_map, heap_setCell_map, hx9]; rfl))
  change Calls Try.prog _ _ (World.setRow (World.setCell w9 ⟨c, 0, none⟩ (.bool true)) c (⟨true, 1, 1, cbX, cbA⟩ : Packet).cells) _
  generalize World.setRow (World.setCell w9 ⟨c, 0, none⟩ (.bool true)) c (⟨true, 1, 1, cbX, cbA⟩ : Packet).cells = w10 at H10 ⊢
  clear H9 hx9 hg9 hf9 hl9 hx9'
  obtain ⟨F10, hF10, hm10⟩ := H10.out.fst
  refine (cb_h _ F10 g _ _ _ _ cb_yes (by decide) hF10).mono ?_
  rintro e w11 ⟨rfl, hv11⟩
  have H11 := Lib.hid (hm10 _ _ hv11)
  clear hF10 hm10 hv11 H10
  have hx11 := H11.out.blk
  go_wp2_with fail
  obtain ⟨F11, hF11, hm11⟩ := H11.out.fst
  refine (cb_h _ F11 g _ _ _ _ cb_again (by decide) hF11).mono ?_
  rintro e w12 ⟨rfl, hv12⟩
  have H12 := Lib.hid (hm11 _ _ hv12)
  clear hF11 hm11 hv12 H11 hx11
  go_wp2_with fail
  obtain ⟨F12, hF12, _⟩ := H12.out.fst
  refine (client_done' _ F12 g _ hF12 (by decide)).mono ?_
  rintro e w13 ⟨A, n, rfl, ho, he, _⟩
  have H13 := Lib.hid (H12.out.step he)
  have hx13 := H13.out.blk
  have hg1 : w13.cell? ⟨c, 1, none⟩ = some (.int .i64 1) := cell_of hx13 1
  have hg2 : w13.cell? ⟨c, 2, none⟩ = some (.int .i64 1) := cell_of hx13 2
  obtain ⟨ad, hA, hadb, hat⟩ := (Owns.reads ho) 0 _ rfl
  subst hA
  have hat7 : w13.cell? ⟨ad.block, ad.off + 6 + 1, none⟩ = some (.string ⟨#[121]⟩) := by have := hat 7 (.string ⟨#[121]⟩) rfl; rwa [addr_add_add, show (0 * Lies.size Record + 7) = 7 from rfl, show ad.add 7 = ⟨ad.block, ad.off + 6 + 1, none⟩ by unfold Addr.add; simp] at this
  have e1 : cbH.done.length = 1 := rfl
  clear hF12 he H12 ho hat hx13
  go_wp2_with fail
  obtain ⟨F13, hF13, _⟩ := H13.out.fst
  refine (client_open' _ F13 g _ hF13).mono ?_
  rintro e w14 ⟨rfl, rfl⟩
  clear hF13
  have E13 := Lib.hid H13.out.ext
  go_wp2
  go_ret
  exact ⟨rfl, E13.out⟩
end Go.Proofs.Ytalfbhhldfffkaa
