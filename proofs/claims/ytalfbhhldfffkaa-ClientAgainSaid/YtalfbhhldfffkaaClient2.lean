/- Client2: the walks of Call of package client, and of the reference's Ask. -/
import Derived.Test.YtalfbhhldfffkaaClient
import Derived.Test.YtalfbhhldfffkaaCheck3
import Derived.Test.YtalfbhhldfffkaaFault2
namespace Go.Proofs.Ytalfbhhldfffkaa
open Go.RowKit

theorem Touch.setCell_at {g : Nat} {w w' : World} (h : Touch (fun k => k = g) w w') (o : Nat) (v : Value) : Touch (fun k => k = g) w (w'.setCell ⟨g, o, none⟩ v) := h.setCell (.inl rfl) v
theorem Touch.setRow_at {g : Nat} {w w' : World} (h : Touch (fun k => k = g) w w') (cs : Array Value) : Touch (fun k => k = g) w (w'.setRow g cs) := h.setRow (.inl rfl) cs
/-- Behind a call that turns the cells of a client alone, and answers r. -/
def GuestTurn (w : World) (g : Nat) (T : TypeId) (v : Value) (y : Guest) (r : Value) (e : Ending) (w' : World) : Prop :=
  e = .returned r ∧ w'.heap[g]? = some (.cells (y.cells v) T (0, 0)) ∧ Touch (fun k => k = g) w w'

theorem GuestTurn.same {w w' : World} {g : Nat} {T : TypeId} {v : Value} {x : Guest} {r : Value} {e : Ending} (hg : w.heap[g]? = some (.cells (x.cells v) T (0, 0))) (he : e = .returned r) (hx : Ext w w') : GuestTurn w g T v x r e w' :=
  ⟨he, (hx.block g (Array.getElem?_eq_some_iff.1 hg).1 id).trans hg, hx.mono fun _ h => h.elim⟩
set_option maxHeartbeats 1000000 in
theorem guest_ask (w : World) (g : Nat) (v : Value) (x : Guest) (c : Call) (h : GuestAt w g 53 63 v x) (hno : 0 ≤ x.no ∧ x.no ≤ 200) (h1 : c.name.size ≤ 140737488351232) (h2 : c.to_.size ≤ 140737488351232) (h3 : c.text.size ≤ 140737488351232) :
    Calls Try.prog 66 #[.pointer (some ⟨g, 0, none⟩), .agg c.cells] w (GuestTurn w g 53 v (gAsk x c).2 (.int .i64 (gAsk x c).1)) := by
  obtain ⟨hlt, hg'⟩ := Array.getElem?_eq_some_iff.1 h.cell
  have hg := h.cell
  have hc6 : w.cell? ⟨g, 6, none⟩ = some (.bool x.isOpen) := by rw [cell_of h.cell 6, Guest.get6]
  have hc1 : w.cell? ⟨g, 1, none⟩ = some (.int .i64 x.no) := by rw [cell_of h.cell 1, Guest.get1]
  have hf := fun o => frozen_of h.cell o
  have HG := Lib.hid h.cell
  obtain ⟨hno0, hno1⟩ := hno
  clear h
  by_cases hcode : callCode c ≠ 0
  · have hcb : (callCode c != 0) = true := bne_iff_ne.2 hcode
    have HC := Lib.hid hcode
    clear hcode
    go_enter Try.func66, Try.ntmps66
    go_wp2_with (go_at_call 51; refine (ref_fault _ c h1 h2 h3).mono ?_; rintro e w1 ⟨rfl, rfl⟩)
    go_ret
    unfold GuestTurn gAsk
    rw [if_pos HC.out]
    exact GuestTurn.same HG.out rfl (by repeat (first | exact Touch.refl _ _ | refine Touch.alloc ?_ _ | refine Touch.drew ?_))
  have hcode' : callCode c = 0 := by simpa using hcode
  have hcb : (callCode c != 0) = false := bne_eq_false_iff_eq.2 hcode'
  have HC := Lib.hid hcode
  clear hcode hcode'
  by_cases ho : x.isOpen = true
  · have HO := Lib.hid ho
    rw [ho] at hc6
    clear ho
    go_enter Try.func66, Try.ntmps66
    go_wp2_with (go_at_call 51; refine (ref_fault _ c h1 h2 h3).mono ?_; rintro e w1 ⟨rfl, rfl⟩)
    go_ret
    unfold gAsk
    rw [if_neg HC.out, if_pos HO.out]
    exact GuestTurn.same HG.out rfl (by repeat (first | exact Touch.refl _ _ | refine Touch.alloc ?_ _ | refine Touch.drew ?_))
  have ho' : x.isOpen = false := by simpa using ho
  have HO := Lib.hid ho
  rw [ho'] at hc6
  clear ho ho'
  by_cases hn : 200 ≤ x.no
  · have HN := Lib.hid hn
    go_enter Try.func66, Try.ntmps66
    go_wp2_with (go_at_call 51; refine (ref_fault _ c h1 h2 h3).mono ?_; rintro e w1 ⟨rfl, rfl⟩)
    go_ret
    unfold gAsk
    rw [if_neg HC.out, if_neg HO.out, if_pos HN.out]
    exact GuestTurn.same HG.out rfl (by repeat (first | exact Touch.refl _ _ | refine Touch.alloc ?_ _ | refine Touch.drew ?_))
  · have HN := Lib.hid hn
    go_enter Try.func66, Try.ntmps66
    go_wp2_with (go_at_call 51; refine (ref_fault _ c h1 h2 h3).mono ?_; rintro e w1 ⟨rfl, rfl⟩)
    (go_region; go_wp2)
    go_ret
    unfold gAsk
    rw [if_neg HC.out, if_neg HO.out, if_neg (by have := HN.out; omega)]
    refine ⟨rfl, ?_, ?_⟩
    · simp [go_sem, hg', hlt]
    · repeat (first | exact Touch.refl _ _ | refine Touch.alloc ?_ _ | refine Touch.drew ?_ | refine Touch.setCell_at ?_ _ _ | refine Touch.setRow_at ?_ _)
set_option maxHeartbeats 1000000 in
theorem client_call (w : World) (g : Nat) (v : Value) (x : Guest) (c : Call) (h : GuestAt w g 102 63 v x) (hno : 0 ≤ x.no ∧ x.no ≤ 200) (h1 : c.name.size ≤ 140737488351232) (h2 : c.to_.size ≤ 140737488351232) (h3 : c.text.size ≤ 140737488351232) :
    Calls Try.prog 34 #[.pointer (some ⟨g, 0, none⟩), .agg c.cells] w (GuestTurn w g 102 v (gAsk x c).2 (.int .i64 (gAsk x c).1)) := by
  obtain ⟨hlt, hg'⟩ := Array.getElem?_eq_some_iff.1 h.cell
  have hg := h.cell
  have hc6 : w.cell? ⟨g, 6, none⟩ = some (.bool x.isOpen) := by rw [cell_of h.cell 6, Guest.get6]
  have hc1 : w.cell? ⟨g, 1, none⟩ = some (.int .i64 x.no) := by rw [cell_of h.cell 1, Guest.get1]
  have hf := fun o => frozen_of h.cell o
  have HG := Lib.hid h.cell
  obtain ⟨hno0, hno1⟩ := hno
  clear h
  by_cases hcode : callCode c ≠ 0
  · have hcb : (callCode c != 0) = true := bne_iff_ne.2 hcode
    have HC := Lib.hid hcode
    clear hcode
    go_enter Try.func34, Try.ntmps34
    go_wp2_with (go_at_call 50; refine (files_check _ c h1 h2 h3).mono ?_; rintro e w1 ⟨rfl, rfl⟩)
    go_ret
    unfold GuestTurn gAsk
    rw [if_pos HC.out]
    exact GuestTurn.same HG.out rfl (by repeat (first | exact Touch.refl _ _ | refine Touch.alloc ?_ _ | refine Touch.drew ?_))
  have hcode' : callCode c = 0 := by simpa using hcode
  have hcb : (callCode c != 0) = false := bne_eq_false_iff_eq.2 hcode'
  have HC := Lib.hid hcode
  clear hcode hcode'
  by_cases ho : x.isOpen = true
  · have HO := Lib.hid ho
    rw [ho] at hc6
    clear ho
    go_enter Try.func34, Try.ntmps34
    go_wp2_with (go_at_call 50; refine (files_check _ c h1 h2 h3).mono ?_; rintro e w1 ⟨rfl, rfl⟩)
    go_ret
    unfold gAsk
    rw [if_neg HC.out, if_pos HO.out]
    exact GuestTurn.same HG.out rfl (by repeat (first | exact Touch.refl _ _ | refine Touch.alloc ?_ _ | refine Touch.drew ?_))
  have ho' : x.isOpen = false := by simpa using ho
  have HO := Lib.hid ho
  rw [ho'] at hc6
  clear ho ho'
  by_cases hn : 200 ≤ x.no
  · have HN := Lib.hid hn
    go_enter Try.func34, Try.ntmps34
    go_wp2_with (go_at_call 50; refine (files_check _ c h1 h2 h3).mono ?_; rintro e w1 ⟨rfl, rfl⟩)
    go_ret
    unfold gAsk
    rw [if_neg HC.out, if_neg HO.out, if_pos HN.out]
    exact GuestTurn.same HG.out rfl (by repeat (first | exact Touch.refl _ _ | refine Touch.alloc ?_ _ | refine Touch.drew ?_))
  · have HN := Lib.hid hn
    go_enter Try.func34, Try.ntmps34
    go_wp2_with (go_at_call 50; refine (files_check _ c h1 h2 h3).mono ?_; rintro e w1 ⟨rfl, rfl⟩)
    skip
    go_ret
    unfold gAsk
    rw [if_neg HC.out, if_neg HO.out, if_neg (by have := HN.out; omega)]
    refine ⟨rfl, ?_, ?_⟩
    · simp [go_sem, hg', hlt]
    · repeat (first | exact Touch.refl _ _ | refine Touch.alloc ?_ _ | refine Touch.drew ?_ | refine Touch.setCell_at ?_ _ _ | refine Touch.setRow_at ?_ _)
end Go.Proofs.Ytalfbhhldfffkaa
