/- Client3: the walks of Hear of package client, and of the reference's. -/
import Derived.Test.YtalfbhhldfffkaaClient2
namespace Go.Proofs.Ytalfbhhldfffkaa
open Go.RowKit

/-- Behind Hear. -/
def HearGuest (w : World) (g : Nat) (T : TypeId) (v : Value) (x : Guest) (p : Packet) (e : Ending) (w' : World) : Prop :=
  e = .returned (.bool (gHear x p).1) ∧ ∀ F, (∀ k, F k ↔ foot g v k) → Moved (repGuest g T 63) w F (gHear x p).2 w'
theorem HearGuest.no {w w' : World} {g : Nat} {T : TypeId} {v : Value} {x : Guest} {p : Packet} {e : Ending} (h : GuestAt w g T 63 v x) (hn : ¬ gHears x p) (he : e = .returned (.bool false)) (hx : Ext w w') : HearGuest w g T v x p e w' := by
  unfold HearGuest gHear
  rw [if_neg hn]
  exact ⟨he, fun F hF => Rep.moved (R := repGuest g T 63) ⟨v, hF, h⟩ hx⟩

set_option maxHeartbeats 1000000 in
set_option maxRecDepth 100000 in
theorem client_hear_no (w : World) (g : Nat) (v : Value) (x : Guest) (p : Packet) (h : GuestAt w g 102 63 v x) (hn : ¬ gHears x p) :
    Calls Try.prog 35 #[.pointer (some ⟨g, 0, none⟩), .agg p.cells] w (HearGuest w g 102 v x p) := by
  obtain ⟨hlt, hg'⟩ := Array.getElem?_eq_some_iff.1 h.cell
  have hg := h.cell
  have hc6 : w.cell? ⟨g, 6, none⟩ = some (.bool x.isOpen) := by rw [cell_of h.cell 6, Guest.get6]
  have hc0 : w.cell? ⟨g, 0, none⟩ = some (.int .i64 x.me) := by rw [cell_of h.cell 0, Guest.get0]
  have hc1 : w.cell? ⟨g, 1, none⟩ = some (.int .i64 x.no) := by rw [cell_of h.cell 1, Guest.get1]
  have HH := Lib.hid h
  have HN := Lib.hid hn
  clear h
  by_cases ho : x.isOpen = true
  case neg =>
    have ho' : x.isOpen = false := by simpa using ho
    clear hn ho
    rw [ho'] at hc6
    clear ho'
    go_enter Try.func35, Try.ntmps35
    go_wp2
    go_quiet (fail)
    go_wp2
    go_ret
    exact HearGuest.no HH.out HN.out rfl (by repeat (first | exact Touch.refl _ _ | refine Touch.alloc ?_ _ | refine Touch.drew ?_ | refine Touch.drewN ?_ _))
  rw [ho] at hc6
  by_cases hr : p.reply = true
  case neg =>
    have hr' : p.reply = false := by simpa using hr
    clear hn ho hr
    go_enter Try.func35, Try.ntmps35
    go_wp2
    go_quiet (fail)
    go_wp2
    go_ret
    exact HearGuest.no HH.out HN.out rfl (by repeat (first | exact Touch.refl _ _ | refine Touch.alloc ?_ _ | refine Touch.drew ?_ | refine Touch.drewN ?_ _))
  by_cases h1 : p.client = x.me
  case neg =>
    have h1a : (p.client == x.me) = false := beq_eq_false_iff_ne.2 h1
    have h1b : (p.client != x.me) = true := bne_iff_ne.2 h1
    clear hn ho h1
    go_enter Try.func35, Try.ntmps35
    go_wp2
    go_quiet (fail)
    go_wp2
    go_ret
    exact HearGuest.no HH.out HN.out rfl (by repeat (first | exact Touch.refl _ _ | refine Touch.alloc ?_ _ | refine Touch.drew ?_ | refine Touch.drewN ?_ _))
  have h1a : (p.client == x.me) = true := beq_iff_eq.2 h1
  have h1b : (p.client != x.me) = false := bne_eq_false_iff_eq.2 h1
  by_cases h2 : p.no = x.no
  case neg =>
    have h2a : (p.no == x.no) = false := beq_eq_false_iff_ne.2 h2
    have h2b : (p.no != x.no) = true := bne_iff_ne.2 h2
    clear hn ho h1 h2
    go_enter Try.func35, Try.ntmps35
    go_wp2
    go_quiet (fail)
    go_wp2
    go_ret
    exact HearGuest.no HH.out HN.out rfl (by repeat (first | exact Touch.refl _ _ | refine Touch.alloc ?_ _ | refine Touch.drew ?_ | refine Touch.drewN ?_ _))
  have h2a : (p.no == x.no) = true := beq_iff_eq.2 h2
  have h2b : (p.no != x.no) = false := bne_eq_false_iff_eq.2 h2
  have h3 : p.call ≠ x.call := fun e => hn ⟨ho, hr, h1, h2, e⟩
  have h3a : decide (p.call = x.call) = false := decide_eq_false h3
  clear hn ho h1 h2 h3
  go_enter Try.func35, Try.ntmps35
  go_wp2
  go_quiet (fail)
  go_wp2
  go_ret
  exact HearGuest.no HH.out HN.out rfl (by repeat (first | exact Touch.refl _ _ | refine Touch.alloc ?_ _ | refine Touch.drew ?_ | refine Touch.drewN ?_ _))
set_option maxHeartbeats 1000000 in
set_option maxRecDepth 100000 in
theorem guest_hear_no (w : World) (g : Nat) (v : Value) (x : Guest) (p : Packet) (h : GuestAt w g 53 63 v x) (hn : ¬ gHears x p) :
    Calls Try.prog 67 #[.pointer (some ⟨g, 0, none⟩), .agg p.cells] w (HearGuest w g 53 v x p) := by
  obtain ⟨hlt, hg'⟩ := Array.getElem?_eq_some_iff.1 h.cell
  have hg := h.cell
  have hc6 : w.cell? ⟨g, 6, none⟩ = some (.bool x.isOpen) := by rw [cell_of h.cell 6, Guest.get6]
  have hc0 : w.cell? ⟨g, 0, none⟩ = some (.int .i64 x.me) := by rw [cell_of h.cell 0, Guest.get0]
  have hc1 : w.cell? ⟨g, 1, none⟩ = some (.int .i64 x.no) := by rw [cell_of h.cell 1, Guest.get1]
  have HH := Lib.hid h
  have HN := Lib.hid hn
  clear h
  by_cases ho : x.isOpen = true
  case neg =>
    have ho' : x.isOpen = false := by simpa using ho
    clear hn ho
    rw [ho'] at hc6
    clear ho'
    go_enter Try.func67, Try.ntmps67
    go_wp2
    go_quiet (fail)
    go_wp2
    go_ret
    exact HearGuest.no HH.out HN.out rfl (by repeat (first | exact Touch.refl _ _ | refine Touch.alloc ?_ _ | refine Touch.drew ?_ | refine Touch.drewN ?_ _))
  rw [ho] at hc6
  by_cases hr : p.reply = true
  case neg =>
    have hr' : p.reply = false := by simpa using hr
    clear hn ho hr
    go_enter Try.func67, Try.ntmps67
    go_wp2
    go_quiet (fail)
    go_wp2
    go_ret
    exact HearGuest.no HH.out HN.out rfl (by repeat (first | exact Touch.refl _ _ | refine Touch.alloc ?_ _ | refine Touch.drew ?_ | refine Touch.drewN ?_ _))
  by_cases h1 : p.client = x.me
  case neg =>
    have h1a : (p.client == x.me) = false := beq_eq_false_iff_ne.2 h1
    have h1b : (p.client != x.me) = true := bne_iff_ne.2 h1
    clear hn ho h1
    go_enter Try.func67, Try.ntmps67
    go_wp2
    go_quiet (fail)
    go_wp2
    go_ret
    exact HearGuest.no HH.out HN.out rfl (by repeat (first | exact Touch.refl _ _ | refine Touch.alloc ?_ _ | refine Touch.drew ?_ | refine Touch.drewN ?_ _))
  have h1a : (p.client == x.me) = true := beq_iff_eq.2 h1
  have h1b : (p.client != x.me) = false := bne_eq_false_iff_eq.2 h1
  by_cases h2 : p.no = x.no
  case neg =>
    have h2a : (p.no == x.no) = false := beq_eq_false_iff_ne.2 h2
    have h2b : (p.no != x.no) = true := bne_iff_ne.2 h2
    clear hn ho h1 h2
    go_enter Try.func67, Try.ntmps67
    go_wp2
    go_quiet (fail)
    go_wp2
    go_ret
    exact HearGuest.no HH.out HN.out rfl (by repeat (first | exact Touch.refl _ _ | refine Touch.alloc ?_ _ | refine Touch.drew ?_ | refine Touch.drewN ?_ _))
  have h2a : (p.no == x.no) = true := beq_iff_eq.2 h2
  have h2b : (p.no != x.no) = false := bne_eq_false_iff_eq.2 h2
  have h3 : p.call ≠ x.call := fun e => hn ⟨ho, hr, h1, h2, e⟩
  have h3a : decide (p.call = x.call) = false := decide_eq_false h3
  clear hn ho h1 h2 h3
  go_enter Try.func67, Try.ntmps67
  go_wp2
  go_quiet (fail)
  go_wp2
  go_ret
  exact HearGuest.no HH.out HN.out rfl (by repeat (first | exact Touch.refl _ _ | refine Touch.alloc ?_ _ | refine Touch.drew ?_ | refine Touch.drewN ?_ _))
end Go.Proofs.Ytalfbhhldfffkaa
