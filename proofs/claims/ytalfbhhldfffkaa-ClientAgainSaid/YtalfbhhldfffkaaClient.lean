/- Client: the walks of New, Open, Send and Done of package client, and of the reference's Guest. -/
import Derived.Test.YtalfbhhldfffkaaTypes
import Derived.Test.YtalfbhhldfffkaaGuest2
import Derived.Deep.RegionHeld3
import Derived.Deep.RegionLaw
namespace Go.Proofs.Ytalfbhhldfffkaa
open Go.RowKit

theorem client_new_yes (w : World) (me : Int) (h : 0 ≤ me ∧ me < 3) :
    Calls Try.prog 27 #[.int .i64 me] w fun e w' => e = .returned (.pointer (some ⟨w.heap.size, 0, none⟩)) ∧ w.alloc (.cells ((gNew me).cells (.slice none 0 0)) 102) = w' := by
  obtain ⟨h0, h1⟩ := h
  have h0' : ¬ me < 0 := by omega
  have h1' : ¬ 3 ≤ me := by omega
  go_enter Try.func27, Try.ntmps27
  go_wp2
  go_ret
  exact ⟨rfl, rfl⟩
theorem client_new_no (w : World) (me : Int) (h : me < 0 ∨ 3 ≤ me) :
    Calls Try.prog 27 #[.int .i64 me] w fun e w' => e = .returned (.pointer none) ∧ w = w' := by
  rcases h with h | h
  · go_enter Try.func27, Try.ntmps27
    go_wp2
    go_ret
    exact ⟨rfl, rfl⟩
  · have h0' : ¬ me < 0 := by omega
    go_enter Try.func27, Try.ntmps27
    go_wp2
    go_ret
    exact ⟨rfl, rfl⟩

theorem client_open (w : World) (g : Nat) (v : Value) (x : Guest) (h : GuestAt w g 102 63 v x) :
    Calls Try.prog 29 #[.pointer (some ⟨g, 0, none⟩)] w fun e w' => e = .returned (.bool x.isOpen) ∧ w = w' := by
  have hc := cell_of h.cell 6
  clear h
  go_enter Try.func29, Try.ntmps29
  go_wp2
  go_ret
  exact ⟨rfl, rfl⟩

def SendGuest (w : World) (x : Guest) (e : Ending) (w' : World) : Prop := e = .returned (.tuple #[.agg (gSend x).1.cells, .bool (gSend x).2]) ∧ Ext w w'
set_option maxHeartbeats 400000 in
theorem client_send (w : World) (g : Nat) (v : Value) (x : Guest) (h : GuestAt w g 102 63 v x) :
    Calls Try.prog 30 #[.pointer (some ⟨g, 0, none⟩)] w (SendGuest w x) := by
  have hg := h.cell
  obtain ⟨hlt, hg'⟩ := Array.getElem?_eq_some_iff.1 h.cell
  by_cases ho : x.isOpen = true
  · have hc : w.cell? ⟨g, 6, none⟩ = some (.bool true) := by rw [cell_of h.cell 6, Guest.get6, ho]
    have hc0 : w.cell? ⟨g, 0, none⟩ = some (.int .i64 x.me) := by rw [cell_of h.cell 0, Guest.get0]
    have hc1 : w.cell? ⟨g, 1, none⟩ = some (.int .i64 x.no) := by rw [cell_of h.cell 1, Guest.get1]
    have HO := Lib.hid ho
    clear ho h
    go_enter Try.func30, Try.ntmps30
    go_wp2
    go_region
    all_goals
      go_wp2
      refine bodyPost_ret (results_cell_tmp rfl _ _ ⟨w.heap.size, 0, none⟩ (.agg (gSend x).1.cells) rfl ?_) rfl ?_
      · unfold gSend
        rw [if_pos HO.out]
        exact load_block isPacket (by simp only [heap_drew']; exact heap_alloc_new _ _)
      · unfold SendGuest gSend
        rw [if_pos HO.out]
        exact ⟨rfl, ((Touch.refl _ w).alloc _).drew⟩
  · have ho' : x.isOpen = false := by simpa using ho
    have hc : w.cell? ⟨g, 6, none⟩ = some (.bool false) := by rw [cell_of h.cell 6, Guest.get6, ho']
    have HO := Lib.hid ho
    clear ho ho' h
    go_enter Try.func30, Try.ntmps30
    go_wp2
    refine bodyPost_ret (results_cell_tmp rfl _ _ ⟨w.heap.size, 0, none⟩ (.agg (gSend x).1.cells) rfl ?_) rfl ?_
    · unfold gSend
      rw [if_neg HO.out]
      exact load_block isPacket (heap_alloc_new _ _)
    · unfold SendGuest gSend
      rw [if_neg HO.out]
      exact ⟨rfl, (Touch.refl _ w).alloc _⟩
set_option maxHeartbeats 400000 in
theorem guest_send (w : World) (g : Nat) (v : Value) (x : Guest) (h : GuestAt w g 53 63 v x) :
    Calls Try.prog 31 #[.pointer (some ⟨g, 0, none⟩)] w (SendGuest w x) := by
  have hg := h.cell
  obtain ⟨hlt, hg'⟩ := Array.getElem?_eq_some_iff.1 h.cell
  by_cases ho : x.isOpen = true
  · have hc : w.cell? ⟨g, 6, none⟩ = some (.bool true) := by rw [cell_of h.cell 6, Guest.get6, ho]
    have hc0 : w.cell? ⟨g, 0, none⟩ = some (.int .i64 x.me) := by rw [cell_of h.cell 0, Guest.get0]
    have hc1 : w.cell? ⟨g, 1, none⟩ = some (.int .i64 x.no) := by rw [cell_of h.cell 1, Guest.get1]
    have HO := Lib.hid ho
    clear ho h
    go_enter Try.func31, Try.ntmps31
    go_wp2
    go_region
    all_goals
      go_wp2
      refine bodyPost_ret (results_cell_tmp rfl _ _ ⟨w.heap.size, 0, none⟩ (.agg (gSend x).1.cells) rfl ?_) rfl ?_
      · unfold gSend
        rw [if_pos HO.out]
        exact load_block isPacket (by simp only [heap_drew']; exact heap_alloc_new _ _)
      · unfold SendGuest gSend
        rw [if_pos HO.out]
        exact ⟨rfl, ((Touch.refl _ w).alloc _).drew⟩
  · have ho' : x.isOpen = false := by simpa using ho
    have hc : w.cell? ⟨g, 6, none⟩ = some (.bool false) := by rw [cell_of h.cell 6, Guest.get6, ho']
    have HO := Lib.hid ho
    clear ho ho' h
    go_enter Try.func31, Try.ntmps31
    go_wp2
    refine bodyPost_ret (results_cell_tmp rfl _ _ ⟨w.heap.size, 0, none⟩ (.agg (gSend x).1.cells) rfl ?_) rfl ?_
    · unfold gSend
      rw [if_neg HO.out]
      exact load_block isPacket (heap_alloc_new _ _)
    · unfold SendGuest gSend
      rw [if_neg HO.out]
      exact ⟨rfl, (Touch.refl _ w).alloc _⟩

set_option maxHeartbeats 400000 in
theorem clone_records (w : World) (B : Nat) (A : Option Addr) (c : Nat) (l : List Record) (hr : Reads w B A l) (hB : B ≤ w.heap.size) (hn : A = none → l = []) (hl : l.length ≤ 100000) :
    Calls Try.prog 68 #[.slice A l.length c] w (NewList w 63 l) := by
  rcases A with _ | ad
  · have h0 := hn rfl
    subst h0
    go_enter Try.func68, Try.ntmps68
    go_wp2
    go_ret
    exact ⟨none, 0, rfl, Owns.nil _ _, Touch.refl _ _, fun k hk => by simp [Value.ownBlock] at hk⟩
  · have HR := Lib.hid hr
    have HB := Lib.hid hB
    clear hr hn hB
    go_enter Try.func68, Try.ntmps68
    go_wp2_with (at_builtin; refine wpList_append_own' (by rfl) (.tmp 5) (.tmp 6) 51 (by rfl) elemRecord Try.underlying51 (v := .slice (some ⟨w.heap.size, 0, none⟩) 0 0) (l := []) (by rfl) (own_empty (heap_alloc_new _ _)) l (by rfl) l.length (by simp) (by rfl) (HR.out.below fun k hk => Below.heap_alloc _ _ _ (Nat.lt_of_lt_of_le hk HB.out)) (by simp; omega) ?_
                 intro A1 c1 w1 hown1 hgrow1 hat1)
    go_ret
    simp only [List.nil_append] at hown1
    exact ⟨A1, c1, rfl, hown1, ((Touch.refl _ w).alloc _).grown hgrow1 (fun k hk => by simp [Value.ownBlock] at hk; omega), fun k hk => by rcases hat1 with h1 | h1 <;> rw [h1] at hk <;> simp [Value.ownBlock] at hk <;> omega⟩

set_option maxHeartbeats 400000 in
theorem client_done (w : World) (g : Nat) (v : Value) (x : Guest) (h : GuestAt w g 102 63 v x) (hl : x.done.length ≤ 100000) :
    Calls Try.prog 33 #[.pointer (some ⟨g, 0, none⟩)] w (NewList w 63 x.done) := by
  obtain ⟨A, c, rfl, hc, hcm, hr⟩ := h.own.form
  have hc7 : w.cell? ⟨g, 7, none⟩ = some (.slice A x.done.length c) := by rw [cell_of h.cell 7, Guest.get7]
  have hnil := Lib.hid (fun (e : A = none) => (show x.done = [] by subst e; exact h.own.none_nil))
  have HR := Lib.hid hr
  clear h hr
  go_enter Try.func33, Try.ntmps33
  go_wp2_with (go_at_call 68; refine (clone_records w w.heap.size A c x.done HR.out (Nat.le_refl _) hnil.out hl).mono ?_; rintro e w' ⟨A1, c1, rfl, ho, he, hf⟩)
  go_ret
  exact ⟨A1, c1, rfl, ho, he, hf⟩
end Go.Proofs.Ytalfbhhldfffkaa
