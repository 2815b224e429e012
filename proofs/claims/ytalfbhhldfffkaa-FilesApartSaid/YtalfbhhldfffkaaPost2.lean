/- Post2: the walks of package post and of the reference Bag, on. -/
import Derived.Test.YtalfbhhldfffkaaPost
namespace Go.Proofs.Ytalfbhhldfffkaa
open Go.RowKit

set_option maxHeartbeats 400000 in
theorem post_list (w : World) (g : Nat) (v : Value) (l : List Packet) (h : Holds w g 96 33 v l) (hl : l.length ≤ 40) :
    Calls Try.prog 24 #[.pointer (some ⟨g, 0, none⟩)] w (NewList w 33 l) := by
  obtain ⟨A, c, rfl, hc, hcm, hr⟩ := h.own.form
  have hc0 := cell_of h.cell 0
  have hnil := Lib.hid (fun (e : A = none) => (show l = [] by subst e; exact h.own.none_nil))
  have HR := Lib.hid hr
  clear h hr
  go_enter Try.func24, Try.ntmps24
  go_wp2_with (go_at_call 65; refine (clone_packets w w.heap.size A c l HR.out (Nat.le_refl _) hnil.out (by omega)).mono ?_; rintro e w' ⟨A1, c1, rfl, ho, he, hf⟩)
  go_ret
  exact ⟨A1, c1, rfl, ho, he, hf⟩

/-- Behind slices.Delete(s, i, i+1) -/
def Deleted {α : Type} [Lies α] (w : World) (E : TypeId) (g cap : Nat) (l : List α) (e : Ending) (w' : World) : Prop :=
  e = .returned (.slice (some ⟨g, 0, none⟩) l.length cap) ∧ Owns w' E (.slice (some ⟨g, 0, none⟩) l.length cap) l ∧ Touch (fun k => k = g) w w'

set_option maxHeartbeats 1000000 in
theorem delete_packets_at (w : World) (g cap : Nat) (l : List Packet) (i : Nat) (hi : i < l.length) (A1 : Addr) (h : Owns w 33 (.slice (some ⟨g, 0, none⟩) l.length cap) l) (hl : l.length ≤ 100000)
    (hA1 : cap = i + 1 ∧ A1 = ⟨g, 0, none⟩ ∨ (cap = i + 1) = False ∧ A1 = ⟨g, (i + 1) * 9, none⟩) :
    Calls Try.prog 63 #[.slice (some ⟨g, 0, none⟩) l.length cap, .int .i64 (i : Int), .int .i64 ((i : Int) + 1)] w (Deleted w 33 g cap (l.take i ++ l.drop (i + 1))) := by
  obtain ⟨A, c, hv, hc, hcm, hr⟩ := h.form
  injection hv with hv1 hv2 hv3
  subst hv3
  have hm := hcm
  unfold maxLen at hm
  have H := Lib.hid h
  clear h hr hcm hv1 hv2
  have hne : ((i : Int) == (i : Int) + 1) = false := beq_eq_false_iff_ne.2 (by omega)
  have hi1 : (i : Int) + 1 ≤ l.length := by omega
  have hic : i ≤ cap := by omega
  have hil : i + 1 ≤ l.length := by omega
  have hi0 : (0 : Int) ≤ (i : Int) + 1 := by omega
  obtain ⟨w1, hrun1, hown1, ht1⟩ := run_append_cut (w := w.drew) elemPacket 26 26 Try.underlying26 (c' := cap - (i + 1)) H.out i (i + 1) (by omega) (by omega) (A := some A1)
    (by rcases hA1 with ⟨h1, rfl⟩ | ⟨h1, rfl⟩ <;> simp [h1] <;> rfl)
  obtain ⟨n, hn⟩ : ∃ n, i + (l.length - (i + 1)) = n := ⟨_, rfl⟩
  rw [hn] at hrun1 hown1
  have hn1 : n + 1 = l.length := by omega
  have HN := Lib.hid hn1
  have hnc : n + 1 ≤ cap := by omega
  have hnl : n + 1 ≤ l.length := by omega
  clear hn hn1
  have hll : (l.take i ++ l.drop (i + 1)).length = n := by simp; have := HN.out; omega
  have hown1' : Owns w1 33 (.slice (some ⟨g, 0, none⟩) (l.take i ++ l.drop (i + 1)).length cap) (l.take i ++ l.drop (i + 1)) := by rw [hll]; exact hown1
  obtain ⟨w2, hrun2, hown2, ht2⟩ := run_clear_tail elemPacket 26 0 Try.underlying26 (m := l.length - n) (c' := cap - n) hown1' (by rw [hll]; omega) rfl
  rw [hll, if_neg (by omega), show (Lies.size Packet) = 9 from rfl] at hrun2
  have HL := Lib.hid hll
  have HO2 := Lib.hid hown2
  have HR1 := Lib.hid hrun1
  have HR2 := Lib.hid hrun2
  clear hll hown2 hown1 hown1' hrun1 hrun2
  rcases hA1 with ⟨h1, rfl⟩ | ⟨h1, rfl⟩
  · subst h1
    have hic2 : (i : Int) ≤ (i : Int) + 1 := by omega
    have HR1' := HR1.out
    rw [show l.length - (i + 1) = 0 by omega, Nat.sub_self] at HR1'
    have HR1 := Lib.hid HR1'
    clear HR1'
    go_enter Try.func63, Try.ntmps63
    go_wp2
    go_region_law ((refine step_append_eq (by rfl) (.tmp 22) (.tmp 25) 26 (by rfl) _ _ _ (by rfl) (by rfl) HR1.out ?_))
    iterate 19 go_step
    refine wpList_clear_eq rfl (.tmp 31) 26 rfl _ _ ?hs HR2.out ?_
    case hs => rfl
    go_wp2
    go_ret
    exact ⟨by rw [HL.out]; rfl, HO2.out, (Touch.refl _ w).drew.trans (ht1.trans ht2)⟩
  · go_enter Try.func63, Try.ntmps63
    go_wp2
    go_region_law ((refine step_append_eq (by rfl) (.tmp 22) (.tmp 25) 26 (by rfl) _ _ _ (by rfl) (by rfl) HR1.out ?_))
    iterate 19 go_step
    refine wpList_clear_eq rfl (.tmp 31) 26 rfl _ _ ?hs HR2.out ?_
    case hs => rfl
    go_wp2
    go_ret
    exact ⟨by rw [HL.out]; rfl, HO2.out, (Touch.refl _ w).drew.trans (ht1.trans ht2)⟩
theorem delete_packets (w : World) (g cap : Nat) (l : List Packet) (i : Nat) (hi : i < l.length) (h : Owns w 33 (.slice (some ⟨g, 0, none⟩) l.length cap) l) (hl : l.length ≤ 100000) :
    Calls Try.prog 63 #[.slice (some ⟨g, 0, none⟩) l.length cap, .int .i64 (i : Int), .int .i64 ((i : Int) + 1)] w (Deleted w 33 g cap (l.take i ++ l.drop (i + 1))) := by
  by_cases hc : cap = i + 1
  · exact delete_packets_at w g cap l i hi _ h hl (.inl ⟨hc, rfl⟩)
  · exact delete_packets_at w g cap l i hi _ h hl (.inr ⟨by simp [hc], rfl⟩)
end Go.Proofs.Ytalfbhhldfffkaa
