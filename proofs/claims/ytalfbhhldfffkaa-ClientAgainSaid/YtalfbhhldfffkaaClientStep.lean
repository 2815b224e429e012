/- ClientStep: the walk of clientStep. -/
import Derived.Test.YtalfbhhldfffkaaClient4
import Derived.Test.YtalfbhhldfffkaaGreat
namespace Go.Proofs.Ytalfbhhldfffkaa
open Go.RowKit

abbrev repTwo (gc gg : Nat) : Rep (Guest × Guest) := (repGuest gc 102 63).and (repGuest gg 53 63)
structure ShortStep (x : ClientStep) : Prop where
  c : StrCall x.c
  p : StrCall x.p.call

theorem objPart_ok (o n : Nat) (cs : Array Value) (t : TypeId) (fr : Nat × Nat) (ds : Array Value) (h : o + n ≤ cs.size) (e : cs.extract o (o + n) = ds) : objPart o n (some (.cells cs t fr)) = some ds := by rw [objPart_cells _ _ _ _ _ h, e]

set_option maxHeartbeats 4000000 in
set_option maxRecDepth 100000 in
theorem client_step (W w : World) (gc gg : Nat) (G : Guest) (x : ClientStep) (m : Int) (hG : GuestOk m G) (hs : ShortStep x) (H : Has (repTwo gc gg) W w (G, G)) :
    Calls Try.prog 28 #[.pointer (some ⟨gc, 0, none⟩), .pointer (some ⟨gg, 0, none⟩), .agg x.cells] w fun e w' => e = .returned (.bool true) ∧ Has (repTwo gc gg) W w' (gStep G x, gStep G x) := by
  have HG := Lib.hid hG
  have HS := Lib.hid hs
  have hno : 0 ≤ G.no ∧ G.no ≤ 200 := ⟨by have := hG.no; split at this <;> omega, hG.le⟩
  have HNO := Lib.hid hno
  have HD := Lib.hid (show G.done.length ≤ 1000 by have := gOk_done hG; omega)
  clear hG hs hno
  have H3 := Lib.hid (H.box x.cells 56)
  clear H
  by_cases h0 : x.do_ = 0
  · have hd0 : (x.do_ == 0) = true := beq_iff_eq.2 h0
    have H0 := Lib.hid h0
    clear h0
    go_enter Try.func28, Try.ntmps28
    go_wp2_with fail
    generalize w.alloc (.cells x.cells 56) = w3 at H3 ⊢
    generalize w.heap.size = b at H3 ⊢
    have hx3 : w3.drew.heap[b]? = some (.cells x.cells 56) := H3.out.blk
    go_region_held3 (fun w' => objPart 1 4 (w'.heap[b]?) = some x.c.cells) (first | (rw [hx5]; exact objPart_ok _ _ _ _ _ _ (by simp) x.ext_c) | (rw [hx4]; exact objPart_ok _ _ _ _ _ _ (by simp) x.ext_c) | (rw [hx3]; exact objPart_ok _ _ _ _ _ _ (by simp) x.ext_c))
      (first
        | (go_at_call 66
           obtain ⟨F5, hF5, hm5⟩ := H4.out.fs
           refine (guest_ask' _ F5 gg G _ hF5 HNO.out HS.out.c.h1 HS.out.c.h2 HS.out.c.h3).mono ?_
           rintro e w5 ⟨rfl, hv5⟩
           have H5 := Lib.hid (hm5 _ _ hv5)
           have hx5 : w5.heap[b]? = some (.cells x.cells 56) := H5.out.blk
           clear hF5 hm5 hv5)
        | (go_at_call 34
           obtain ⟨F4, hF4, hm4⟩ := (H3.out.step ((Touch.refl _ _).drew)).ff
           refine (client_ask' _ F4 gc G _ hF4 HNO.out HS.out.c.h1 HS.out.c.h2 HS.out.c.h3).mono ?_
           rintro e w4 ⟨rfl, hv4⟩
           have H4 := Lib.hid (hm4 _ _ hv4)
           have hx4 : w4.heap[b]? = some (.cells x.cells 56) := H4.out.blk
           clear hF4 hm4 hv4))
    go_wp2
    go_ret
    exact ⟨by simp, by unfold gStep; rw [if_pos H0.out]; exact H5.out.left⟩
  have hd0 : (x.do_ == 0) = false := beq_eq_false_iff_ne.2 h0
  by_cases h1 : x.do_ = 1
  · have hd1 : (x.do_ == 1) = true := beq_iff_eq.2 h1
    have H0 := Lib.hid h0
    have H1 := Lib.hid h1
    clear h0 h1
    go_enter Try.func28, Try.ntmps28
    go_wp2_with fail
    generalize w.alloc (.cells x.cells 56) = w3 at H3 ⊢
    generalize w.heap.size = b at H3 ⊢
    have hx3 : w3.drew.heap[b]? = some (.cells x.cells 56) := H3.out.blk
    go_region_held3 (fun w' => objPart 5 9 (w'.heap[b]?) = some x.p.cells) (first | (rw [hx5]; exact objPart_ok _ _ _ _ _ _ (by simp) x.ext_p) | (rw [hx4]; exact objPart_ok _ _ _ _ _ _ (by simp) x.ext_p) | (rw [hx3]; exact objPart_ok _ _ _ _ _ _ (by simp) x.ext_p))
      (first
        | (go_at_call 67
           obtain ⟨F5, hF5, hm5⟩ := H4.out.fs
           refine (guest_hear' _ F5 gg G _ hF5 HD.out).mono ?_
           rintro e w5 ⟨rfl, hv5⟩
           have H5 := Lib.hid (hm5 _ _ hv5)
           have hx5 : w5.heap[b]? = some (.cells x.cells 56) := H5.out.blk
           clear hF5 hm5 hv5)
        | (go_at_call 35
           obtain ⟨F4, hF4, hm4⟩ := (H3.out.step ((Touch.refl _ _).drew)).ff
           refine (client_hear' _ F4 gc G _ hF4 HD.out).mono ?_
           rintro e w4 ⟨rfl, hv4⟩
           have H4 := Lib.hid (hm4 _ _ hv4)
           have hx4 : w4.heap[b]? = some (.cells x.cells 56) := H4.out.blk
           clear hF4 hm4 hv4))
    go_wp2
    go_ret
    exact ⟨by simp, by unfold gStep; rw [if_neg H0.out, if_pos H1.out]; exact H5.out.left⟩
  have hd1 : (x.do_ == 1) = false := beq_eq_false_iff_ne.2 h1
  by_cases h2 : x.do_ = 2
  · have hd2 : (x.do_ == 2) = true := beq_iff_eq.2 h2
    have H0 := Lib.hid h0
    have H1 := Lib.hid h1
    have H2 := Lib.hid h2
    clear h0 h1 h2
    go_enter Try.func28, Try.ntmps28
    go_wp2_with fail
    generalize w.alloc (.cells x.cells 56) = w3 at H3 ⊢
    generalize w.heap.size = b at H3 ⊢
    obtain ⟨F4, hF4, _⟩ := H3.out.ff
    refine (client_send' _ F4 gc G hF4).mono ?_
    rintro e w4 ⟨rfl, he4⟩
    have hlt4 : b < w4.heap.size := (Array.getElem?_eq_some_iff.1 (H3.out.step he4).blk).1
    have H4 := Lib.hid ((H3.out.step he4).box (gSend G).1.cells 33)
    clear hF4 he4 H3
    go_wp2_with fail
    generalize w4.alloc (.cells (gSend G).1.cells 33) = w5 at H4 ⊢
    have hbp : (b = w4.heap.size) = False := by simp; omega
    clear hlt4
    generalize w4.heap.size = bp at H4 hbp ⊢
    obtain ⟨F5, hF5, _⟩ := H4.out.left.fs
    refine (guest_send' _ F5 gg G hF5).mono ?_
    rintro e w6 ⟨rfl, he6⟩
    have H6 := Lib.hid ((H4.out.step he6).box (gSend G).1.cells 33)
    have hb6 := (H4.out.step he6).left.blk
    have hp6 := (H4.out.step he6).blk
    obtain ⟨hlb, hb6'⟩ := Array.getElem?_eq_some_iff.1 hb6
    obtain ⟨hlp, hp6'⟩ := Array.getElem?_eq_some_iff.1 hp6
    have hgb : (bp = w6.heap.size) = False := by simp; omega
    clear hF5 he6 H4
    go_wp2_with fail
    generalize w6.alloc (.cells (gSend G).1.cells 33) = w7 at H6 ⊢
    clear hb6' hp6'
    clear hb6 hp6 hlb hlp hgb
    generalize w6.heap.size = bq at H6 ⊢
    have hb6 := H6.out.left.left.blk
    have hp6 := H6.out.left.blk
    have hp0 : w7.cell? ⟨bp, 0, none⟩ = some (.bool (gSend G).1.reply) := by rw [cell_of hp6 0, Packet.get0]
    have hpf := fun o => frozen_of hp6 o
    go_region_held3 (fun w' => objPart 14 2 (w'.heap[b]?) = some x.a.cells) (simp only [heap_setCell', heap_setRow', hbp, heap_drew', hb6, objPart_ok _ _ _ _ _ _ (show 14 + 2 ≤ x.cells.size by simp) x.ext_a]) (fail)
    have H7 := Lib.hid (Has.step (H6.out.left.turn (w' := World.setRow (World.setCell w7 ⟨bp, 0, none⟩ (.bool true)) bp (⟨true, (gSend G).1.client, (gSend G).1.no, (gSend G).1.call, x.a⟩ : Packet).cells) (cs' := (⟨true, (gSend G).1.client, (gSend G).1.no, (gSend G).1.call, x.a⟩ : Packet).cells) (Touch.setRow_at (Touch.setCell_at (Touch.refl _ _) _ _) _) (by rw [heap_setRow_map, heap_setCell_map, hp6]; rfl)).drop ((Touch.refl _ _).drew))
    generalize World.drew (World.setRow (World.setCell w7 ⟨bp, 0, none⟩ (.bool true)) bp (⟨true, (gSend G).1.client, (gSend G).1.no, (gSend G).1.call, x.a⟩ : Packet).cells) = w3 at H7 ⊢
    clear hb6 hp6 hp0 hpf H6
    have H3 := H7
    have hx3 : w3.drew.heap[bp]? = some (.cells (⟨true, (gSend G).1.client, (gSend G).1.no, (gSend G).1.call, x.a⟩ : Packet).cells 33) := H3.out.blk
    go_wp2_with fail
    go_region_held3 (fun w' => objPart 0 9 (w'.heap[bp]?) = some (⟨true, (gSend G).1.client, (gSend G).1.no, (gSend G).1.call, x.a⟩ : Packet).cells) (first | (rw [hx5]; exact objPart_ok _ _ _ _ _ _ (by simp) rfl) | (rw [hx4]; exact objPart_ok _ _ _ _ _ _ (by simp) rfl) | (rw [hx3]; exact objPart_ok _ _ _ _ _ _ (by simp) rfl))
      (first
        | (go_at_call 67
           obtain ⟨F5, hF5, hm5⟩ := H4.out.fs
           refine (guest_hear' _ F5 gg G _ hF5 HD.out).mono ?_
           rintro e w5 ⟨rfl, hv5⟩
           have H5 := Lib.hid (hm5 _ _ hv5)
           have hx5 : w5.heap[bp]? = some (.cells (⟨true, (gSend G).1.client, (gSend G).1.no, (gSend G).1.call, x.a⟩ : Packet).cells 33) := H5.out.blk
           clear hF5 hm5 hv5)
        | (go_at_call 35
           obtain ⟨F4, hF4, hm4⟩ := (H3.out.step ((Touch.refl _ _).drew)).ff
           refine (client_hear' _ F4 gc G _ hF4 HD.out).mono ?_
           rintro e w4 ⟨rfl, hv4⟩
           have H4 := Lib.hid (hm4 _ _ hv4)
           have hx4 : w4.heap[bp]? = some (.cells (⟨true, (gSend G).1.client, (gSend G).1.no, (gSend G).1.call, x.a⟩ : Packet).cells 33) := H4.out.blk
           clear hF4 hm4 hv4))
    go_wp2
    go_ret
    exact ⟨by simp, by unfold gStep; rw [if_neg H0.out, if_neg H1.out, if_pos H2.out]; exact H5.out.left⟩
  · have hd2 : (x.do_ == 2) = false := beq_eq_false_iff_ne.2 h2
    have H0 := Lib.hid h0
    have H1 := Lib.hid h1
    have H2 := Lib.hid h2
    clear h0 h1 h2
    go_enter Try.func28, Try.ntmps28
    go_wp2
    go_ret
    exact ⟨rfl, by unfold gStep; rw [if_neg H0.out, if_neg H1.out, if_neg H2.out]; exact H3.out.left⟩
end Go.Proofs.Ytalfbhhldfffkaa
