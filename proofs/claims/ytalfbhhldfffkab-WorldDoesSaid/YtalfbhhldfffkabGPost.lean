/- Post: the walks of package post and of the reference's Bag.
   Post2: the walks of package post and of the reference Bag, on.
   Post3: the walks of package post and of the reference Bag, on.
   Post4: the walks of package post and of the reference Bag, on.
   Post5: the walks of package post and of the reference Bag, on.
   Post6: the walks of package post and of the reference Bag, on.
   Post7: what Send, Take and Double come to. -/
import Derived.Test.YtalfbhhldfffkabTypes
import Derived.Test.YtalfbhhldfffkabGPlain
import Derived.Deep.RegionHeld3
import Derived.Deep.RegionLaw
namespace Go.Proofs.Ytalfbhhldfffkab
open Go.RowKit

def SendPost (w : World) (T g : Nat) (v : Value) (l : List Packet) (m : Packet) (e : Ending) (w' : World) : Prop :=
  if l.length < 40 then e = .returned (.bool true) ∧ ∃ v', Holds w' g T 131 v' (l ++ [m]) ∧ Touch (foot g v) w w' ∧ ∀ k, v'.ownBlock = some k → v.ownBlock = some k ∨ w.heap.size ≤ k
  else e = .returned (.bool false) ∧ Ext w w'

set_option maxHeartbeats 400000 in
theorem post_send (w : World) (g : Nat) (v : Value) (l : List Packet) (m : Packet) (h : Holds w g 154 131 v l) :
    Calls Try.prog 97 #[.pointer (some ⟨g, 0, none⟩), .agg m.cells] w (SendPost w 154 g v l m) := by
  obtain ⟨A, c, rfl, hc, hcm, hr⟩ := h.own.form
  have hlt := h.lt
  have hm := hcm
  unfold maxLen at hm
  have hc0 := cell_of h.cell 0
  have H := Lib.hid h
  clear h hr hcm
  by_cases hl : l.length < 40
  · have hlh := Lib.hid hl
    have hl' : ¬ (40 ≤ l.length) := by omega
    go_enter Try.func97, Try.ntmps97
    go_wp2
    have HO := H.out.own
    have HC := H.out.cell
    go_region_law (
      (refine step_append_own (by rfl) (.tmp 15) (.tmp 17) 86 (by rfl) elemPacket Try.underlying86 (v := .slice A l.length c) (l := l) (by rfl) (HO.keep fun k hk => ?hk1) [m] (by rfl) (l.length + 1) (by rfl) (by rfl) (reads_block (x := m) (t := 131) (fr := (0, 0)) ?hn1 (w.heap.size + 2) (by omega)) (by simp; omega) ?_
       case hk1 => exact ((Touch.refl (fun _ => False) w).alloc _ |>.alloc _ |>.drew).block k (HO.lt k hk) id
       case hn1 => simp only [heap_alloc_at, heap_drew', World.size_alloc]; rfl
       intro A1 c1 w1 hown1 hgrow1 hat1
       have hg1 := World.grownBy.blk hgrow1 (b := g) (o := .cells #[.slice A l.length c] 154 (0, 0)) (by simp only [heap_alloc_past, heap_drew', hlt, World.size_alloc, lt_size_add]; exact HC) (HO.elem HC (by decide))
       have hc1 := cell_of hg1 0
       have hf1 := frozen_of hg1 0))
    all_goals
      go_wp2
      go_ret
      rw [SendPost, if_pos hlh.out]
      exact ⟨rfl, _, Holds.appended H.out ((Touch.refl _ w).alloc _ |>.alloc _ |>.drew) (by decide) hown1 hgrow1 hat1⟩
  · have hl' : 40 ≤ l.length := by omega
    go_enter Try.func97, Try.ntmps97
    go_wp2
    go_ret
    rw [SendPost, if_neg hl]
    exact ⟨rfl, (Touch.refl _ w).alloc _⟩

set_option maxHeartbeats 400000 in
theorem bag_send (w : World) (g : Nat) (v : Value) (l : List Packet) (m : Packet) (h : Holds w g 87 131 v l) :
    Calls Try.prog 75 #[.pointer (some ⟨g, 0, none⟩), .agg m.cells] w (SendPost w 87 g v l m) := by
  obtain ⟨A, c, rfl, hc, hcm, hr⟩ := h.own.form
  have hlt := h.lt
  have hm := hcm
  unfold maxLen at hm
  have hc0 := cell_of h.cell 0
  have H := Lib.hid h
  clear h hr hcm
  by_cases hl : l.length < 40
  · have hlh := Lib.hid hl
    have hl' : ¬ (40 ≤ l.length) := by omega
    go_enter Try.func75, Try.ntmps75
    go_wp2
    have HO := H.out.own
    have HC := H.out.cell
    go_region_law (
      (refine step_append_own (by rfl) (.tmp 13) (.tmp 15) 87 (by rfl) elemPacket Try.underlying87 (v := .slice A l.length c) (l := l) (by rfl) (HO.keep fun k hk => ?hk1) [m] (by rfl) (l.length + 1) (by rfl) (by rfl) (reads_block (x := m) (t := 131) (fr := (0, 0)) ?hn1 (w.heap.size + 2) (by omega)) (by simp; omega) ?_
       case hk1 => exact ((Touch.refl (fun _ => False) w).alloc _ |>.alloc _ |>.drew).block k (HO.lt k hk) id
       case hn1 => simp only [heap_alloc_at, heap_drew', World.size_alloc]; rfl
       intro A1 c1 w1 hown1 hgrow1 hat1
       have hg1 := World.grownBy.blk hgrow1 (b := g) (o := .cells #[.slice A l.length c] 87 (0, 0)) (by simp only [heap_alloc_past, heap_drew', hlt, World.size_alloc, lt_size_add]; exact HC) (HO.elem HC (by decide))
       have hc1 := cell_of hg1 0
       have hf1 := frozen_of hg1 0))
    all_goals
      go_wp2
      go_ret
      rw [SendPost, if_pos hlh.out]
      exact ⟨rfl, _, Holds.appended H.out ((Touch.refl _ w).alloc _ |>.alloc _ |>.drew) (by decide) hown1 hgrow1 hat1⟩
  · have hl' : 40 ≤ l.length := by omega
    go_enter Try.func75, Try.ntmps75
    go_wp2
    go_ret
    rw [SendPost, if_neg hl]
    exact ⟨rfl, (Touch.refl _ w).alloc _⟩

theorem post_new (w : World) : Calls Try.prog 66 #[] w fun e w' => e = .returned (.pointer (some ⟨w.heap.size, 0, none⟩)) ∧ w.alloc (.cells #[.slice none 0 0] 154) = w' := by
  go_enter Try.func66, Try.ntmps66
  go_wp2
  go_ret
  exact ⟨rfl, rfl⟩

theorem post_len (w : World) (g : Nat) (v : Value) (l : List Packet) (h : Holds w g 154 131 v l) :
    Calls Try.prog 79 #[.pointer (some ⟨g, 0, none⟩)] w fun e w' => e = .returned (.int .i64 l.length) ∧ w = w' := by
  obtain ⟨A, c, rfl, hc, hcm, hr⟩ := h.own.form
  have hc0 := cell_of h.cell 0
  clear h hr
  go_enter Try.func79, Try.ntmps79
  go_wp2
  go_ret
  exact ⟨rfl, rfl⟩

def AtPost (w : World) (l : List Packet) (n : Int) (e : Ending) (w' : World) : Prop := e = .returned (.int .i64 (if l.length = 0 then -1 else (rnd n l.length : Int))) ∧ w = w'
set_option maxHeartbeats 400000 in
theorem post_at (w : World) (g : Nat) (v : Value) (l : List Packet) (n : Int) (h : Holds w g 154 131 v l) :
    Calls Try.prog 101 #[.pointer (some ⟨g, 0, none⟩), .int .i64 n] w (AtPost w l n) := by
  obtain ⟨A, c, rfl, hc, hcm, hr⟩ := h.own.form
  have hm := hcm
  unfold maxLen at hm
  have hc0 := cell_of h.cell 0
  have H := Lib.hid h
  have hlen := Lib.hid (show l.length ≤ 9223372036854775807 by omega)
  clear h hr hcm
  by_cases hl : l.length = 0
  · have HL := Lib.hid hl
    have hl0 : ((l.length : Int) == 0) = true := beq_iff_eq.2 (by omega)
    clear hl
    go_enter Try.func101, Try.ntmps101
    go_wp2
    go_ret
    exact ⟨by rw [if_pos HL.out]; rfl, rfl⟩
  · have hl0 : ((l.length : Int) == 0) = false := beq_eq_false_iff_ne.2 (by omega)
    have hpos : 0 < l.length := by omega
    go_enter Try.func101, Try.ntmps101
    go_wp2
    go_ret
    exact ⟨by rw [if_neg hl, ← rnd_wrap n l.length hpos hlen.out]; rfl, rfl⟩

theorem post_at_nil (w : World) (g : Nat) (v : Value) (n : Int) (h : Holds (α := Packet) w g 154 131 v []) :
    Calls Try.prog 101 #[.pointer (some ⟨g, 0, none⟩), .int .i64 n] w fun e w' => e = .returned (.int .i64 (-1)) ∧ w = w' :=
  (post_at w g v [] n h).mono fun _ _ h => h
theorem post_at_pos (w : World) (g : Nat) (v : Value) (l : List Packet) (n : Int) (h : Holds w g 154 131 v l) (hl : 0 < l.length) :
    Calls Try.prog 101 #[.pointer (some ⟨g, 0, none⟩), .int .i64 n] w fun e w' => e = .returned (.int .i64 (rnd n l.length : Int)) ∧ w = w' :=
  (post_at w g v l n h).mono fun _ _ ⟨h1, h2⟩ => ⟨by rw [h1, if_neg (by omega)], h2⟩

set_option maxHeartbeats 400000 in
theorem bag_at (w : World) (g : Nat) (v : Value) (l : List Packet) (n : Int) (h : Holds w g 87 131 v l) (hpos : 0 < l.length) :
    Calls Try.prog 99 #[.pointer (some ⟨g, 0, none⟩), .int .i64 n] w fun e w' => e = .returned (.int .i64 (rnd n l.length : Int)) ∧ w = w' := by
  obtain ⟨A, c, rfl, hc, hcm, hr⟩ := h.own.form
  have hm := hcm
  unfold maxLen at hm
  have hc0 := cell_of h.cell 0
  have H := Lib.hid h
  have hlen := Lib.hid (show l.length ≤ 9223372036854775807 by omega)
  clear h hr hcm
  have hl0 : ((l.length : Int) == 0) = false := beq_eq_false_iff_ne.2 (by omega)
  go_enter Try.func99, Try.ntmps99
  go_wp2
  go_ret
  rw [← rnd_wrap n l.length hpos hlen.out]
  exact ⟨rfl, rfl⟩

set_option maxHeartbeats 400000 in
theorem clone_packets (w : World) (B : Nat) (A : Option Addr) (c : Nat) (l : List Packet) (hr : Reads w B A l) (hB : B ≤ w.heap.size) (hn : A = none → l = []) (hl : l.length ≤ 100000) :
    Calls Try.prog 95 #[.slice A l.length c] w (NewList w 131 l) := by
  rcases A with _ | ad
  · have h0 := hn rfl
    subst h0
    go_enter Try.func95, Try.ntmps95
    go_wp2
    go_ret
    exact ⟨none, 0, rfl, Owns.nil _ _, Touch.refl _ _, fun k hk => by simp [Value.ownBlock] at hk⟩
  · have HR := Lib.hid hr
    have HB := Lib.hid hB
    clear hr hn hB
    go_enter Try.func95, Try.ntmps95
    go_wp2_with (at_builtin; refine wpList_append_own' (by rfl) (.tmp 5) (.tmp 6) 86 (by rfl) elemPacket Try.underlying86 (v := .slice (some ⟨w.heap.size, 0, none⟩) 0 0) (l := []) (by rfl) (own_empty (heap_alloc_new _ _)) l (by rfl) l.length (by simp) (by rfl) (HR.out.below fun k hk => Below.heap_alloc _ _ _ (Nat.lt_of_lt_of_le hk HB.out)) (by simp; omega) ?_
                 intro A1 c1 w1 hown1 hgrow1 hat1)
    go_ret
    simp only [List.nil_append] at hown1
    exact ⟨A1, c1, rfl, hown1, ((Touch.refl _ w).alloc _).grown hgrow1 (fun k hk => by simp [Value.ownBlock] at hk; omega), fun k hk => by rcases hat1 with h1 | h1 <;> rw [h1] at hk <;> simp [Value.ownBlock] at hk <;> omega⟩
end Go.Proofs.Ytalfbhhldfffkab
namespace Go.Proofs.Ytalfbhhldfffkab
open Go.RowKit

set_option maxHeartbeats 400000 in
theorem post_list (w : World) (g : Nat) (v : Value) (l : List Packet) (h : Holds w g 154 131 v l) (hl : l.length ≤ 40) :
    Calls Try.prog 69 #[.pointer (some ⟨g, 0, none⟩)] w (NewList w 131 l) := by
  obtain ⟨A, c, rfl, hc, hcm, hr⟩ := h.own.form
  have hc0 := cell_of h.cell 0
  have hnil := Lib.hid (fun (e : A = none) => (show l = [] by subst e; exact h.own.none_nil))
  have HR := Lib.hid hr
  clear h hr
  go_enter Try.func69, Try.ntmps69
  go_wp2_with (go_at_call 95; refine (clone_packets w w.heap.size A c l HR.out (Nat.le_refl _) hnil.out (by omega)).mono ?_; rintro e w' ⟨A1, c1, rfl, ho, he, hf⟩)
  go_ret
  exact ⟨A1, c1, rfl, ho, he, hf⟩

def Deleted {α : Type} [Lies α] (w : World) (E : TypeId) (g cap : Nat) (l : List α) (e : Ending) (w' : World) : Prop :=
  e = .returned (.slice (some ⟨g, 0, none⟩) l.length cap) ∧ Owns w' E (.slice (some ⟨g, 0, none⟩) l.length cap) l ∧ Touch (fun k => k = g) w w'

set_option maxHeartbeats 1000000 in
theorem delete_packets_at (w : World) (g cap : Nat) (l : List Packet) (i : Nat) (hi : i < l.length) (A1 : Addr) (h : Owns w 131 (.slice (some ⟨g, 0, none⟩) l.length cap) l) (hl : l.length ≤ 100000)
    (hA1 : cap = i + 1 ∧ A1 = ⟨g, 0, none⟩ ∨ (cap = i + 1) = False ∧ A1 = ⟨g, (i + 1) * 9, none⟩) :
    Calls Try.prog 102 #[.slice (some ⟨g, 0, none⟩) l.length cap, .int .i64 (i : Int), .int .i64 ((i : Int) + 1)] w (Deleted w 131 g cap (l.take i ++ l.drop (i + 1))) := by
  obtain ⟨A, c, hv, hc, hcm, hr⟩ := h.form
  injection hv with hv1 hv2 hv3
  subst hv3
  have hm := hcm
  unfold maxLen at hm
  have H := Lib.hid h
  clear h hr hcm hv1 hv2
  have hne : ((i : Int) == (i : Int) + 1) = false := beq_eq_false_iff_ne.2 (by omega)
  have hi1 : (i : Int) + 1 ≤ l.length := by omega
  have hic : i ≤ cap := by omega
  have hil : i + 1 ≤ l.length := by omega
  have hi0 : (0 : Int) ≤ (i : Int) + 1 := by omega
  obtain ⟨w1, hrun1, hown1, ht1⟩ := run_append_cut (w := w.drew) elemPacket 86 86 Try.underlying86 (c' := cap - (i + 1)) H.out i (i + 1) (by omega) (by omega) (A := some A1)
    (by rcases hA1 with ⟨h1, rfl⟩ | ⟨h1, rfl⟩ <;> simp [h1] <;> rfl)
  obtain ⟨n, hn⟩ : ∃ n, i + (l.length - (i + 1)) = n := ⟨_, rfl⟩
  rw [hn] at hrun1 hown1
  have hn1 : n + 1 = l.length := by omega
  have HN := Lib.hid hn1
  have hnc : n + 1 ≤ cap := by omega
  have hnl : n + 1 ≤ l.length := by omega
  clear hn hn1
  have hll : (l.take i ++ l.drop (i + 1)).length = n := by simp; have := HN.out; omega
  have hown1' : Owns w1 131 (.slice (some ⟨g, 0, none⟩) (l.take i ++ l.drop (i + 1)).length cap) (l.take i ++ l.drop (i + 1)) := by rw [hll]; exact hown1
  obtain ⟨w2, hrun2, hown2, ht2⟩ := run_clear_tail elemPacket 86 0 Try.underlying86 (m := l.length - n) (c' := cap - n) hown1' (by rw [hll]; omega) rfl
  rw [hll, if_neg (by omega), show (Lies.size Packet) = 9 from rfl] at hrun2
  have HL := Lib.hid hll
  have HO2 := Lib.hid hown2
  have HR1 := Lib.hid hrun1
  have HR2 := Lib.hid hrun2
  clear hll hown2 hown1 hown1' hrun1 hrun2
  rcases hA1 with ⟨h1, rfl⟩ | ⟨h1, rfl⟩
  · subst h1
    have hic2 : (i : Int) ≤ (i : Int) + 1 := by omega
    have HR1' := HR1.out
    rw [show l.length - (i + 1) = 0 by omega, Nat.sub_self] at HR1'
    have HR1 := Lib.hid HR1'
    clear HR1'
    go_enter Try.func102, Try.ntmps102
    go_wp2
    go_region_law ((refine step_append_eq (by rfl) (.tmp 22) (.tmp 25) 86 (by rfl) _ _ _ (by rfl) (by rfl) HR1.out ?_))
    iterate 19 go_step
    refine wpList_clear_eq rfl (.tmp 31) 86 rfl _ _ ?hs HR2.out ?_
    case hs => rfl
    go_wp2
    go_ret
    exact ⟨by rw [HL.out]; rfl, HO2.out, (Touch.refl _ w).drew.trans (ht1.trans ht2)⟩
  · go_enter Try.func102, Try.ntmps102
    go_wp2
    go_region_law ((refine step_append_eq (by rfl) (.tmp 22) (.tmp 25) 86 (by rfl) _ _ _ (by rfl) (by rfl) HR1.out ?_))
    iterate 19 go_step
    refine wpList_clear_eq rfl (.tmp 31) 86 rfl _ _ ?hs HR2.out ?_
    case hs => rfl
    go_wp2
    go_ret
    exact ⟨by rw [HL.out]; rfl, HO2.out, (Touch.refl _ w).drew.trans (ht1.trans ht2)⟩
theorem delete_packets (w : World) (g cap : Nat) (l : List Packet) (i : Nat) (hi : i < l.length) (h : Owns w 131 (.slice (some ⟨g, 0, none⟩) l.length cap) l) (hl : l.length ≤ 100000) :
    Calls Try.prog 102 #[.slice (some ⟨g, 0, none⟩) l.length cap, .int .i64 (i : Int), .int .i64 ((i : Int) + 1)] w (Deleted w 131 g cap (l.take i ++ l.drop (i + 1))) := by
  by_cases hc : cap = i + 1
  · exact delete_packets_at w g cap l i hi _ h hl (.inl ⟨hc, rfl⟩)
  · exact delete_packets_at w g cap l i hi _ h hl (.inr ⟨by simp [hc], rfl⟩)
end Go.Proofs.Ytalfbhhldfffkab
namespace Go.Proofs.Ytalfbhhldfffkab
open Go.RowKit

theorem delete_packets' (w : World) (ad : Addr) (cap : Nat) (l : List Packet) (i : Nat) (hi : i < l.length) (h : Owns w 131 (.slice (some ad) l.length cap) l) (hl : l.length ≤ 100000) :
    Calls Try.prog 102 #[.slice (some ad) l.length cap, .int .i64 (i : Int), .int .i64 ((i : Int) + 1)] w fun e w' =>
      ∃ n, n + 1 = l.length ∧ e = .returned (.slice (some ad) n cap) ∧ Owns w' 131 (.slice (some ad) n cap) (l.take i ++ l.drop (i + 1)) ∧ Touch (fun k => k = ad.block) w w' := by
  obtain ⟨g, rfl⟩ := h.some_form
  refine (delete_packets w g cap l i hi h hl).mono fun e w' ⟨he, ho, ht⟩ => ?_
  have hll : (l.take i ++ l.drop (i + 1)).length = l.length - 1 := by simp; omega
  rw [hll] at he ho
  exact ⟨l.length - 1, by omega, he, ho, ht⟩


def TakePost (w : World) (T g : Nat) (v : Value) (l : List Packet) (n : Int) (e : Ending) (w' : World) : Prop :=
  (l = [] ∧ e = .returned (.tuple #[.agg Packet.zero.cells, .bool false]) ∧ Ext w w') ∨
  (∃ m, l[rnd n l.length]? = some m ∧ e = .returned (.tuple #[.agg m.cells, .bool true]) ∧
    ∃ v', Holds w' g T 131 v' (l.take (rnd n l.length) ++ l.drop (rnd n l.length + 1)) ∧ Touch (foot g v) w w' ∧ ∀ k, v'.ownBlock = some k → v.ownBlock = some k ∨ w.heap.size ≤ k)

set_option maxHeartbeats 1000000 in
set_option maxRecDepth 100000 in
theorem post_take (w : World) (g : Nat) (v : Value) (l : List Packet) (n : Int) (h : Holds w g 154 131 v l) (hl : l.length ≤ 40) :
    Calls Try.prog 80 #[.pointer (some ⟨g, 0, none⟩), .int .i64 n] w (TakePost w 154 g v l n) := by
  by_cases hl0 : l = []
  · subst hl0
    obtain ⟨A, c, rfl, hc, hcm, hr⟩ := h.own.form
    have H := Lib.hid h
    clear h hr hcm
    go_enter Try.func80, Try.ntmps80
    go_wp2_with (go_at_call 101; refine (post_at_nil _ g _ n (H.out.ext ((Touch.refl _ w).alloc _))).mono ?_; rintro e w' ⟨rfl, rfl⟩)
    refine bodyPost_ret (results_cell_tmp rfl _ _ ⟨w.heap.size, 0, none⟩ (.agg Packet.zero.cells) rfl ?_) rfl (.inl ⟨rfl, rfl, (Touch.refl _ w).alloc _⟩)
    exact load_block (x := Packet.zero) isPacket (heap_alloc_new _ _)
  · obtain ⟨A, c, rfl, hc, hcm, hr⟩ := h.own.form
    have hpos : 0 < l.length := List.length_pos_iff.2 hl0
    have hi := rnd_lt n l.length hpos
    obtain ⟨m, hm⟩ : ∃ m, l[rnd n l.length]? = some m := ⟨l[rnd n l.length], by simp [hi]⟩
    obtain ⟨ad, rfl, hadb, hat⟩ := hr _ m hm
    have hLV : ∀ o, LV Try.prog 131 (ad.add (rnd n l.length * 9)) (w.alloc o) = .ok (.agg m.cells) (w.alloc o) := fun o => LV_Packet (hat.of_same (Below.heap_alloc _ _ _ (by unfold Addr.add; split <;> exact hadb)))
    have hne := h.own.elem h.cell (by decide)
    have hadg : ad.block ≠ g := fun e => hne (by simp [Value.ownBlock, e])
    have hlt := h.lt
    have hc0 := cell_of h.cell 0
    have H := Lib.hid h
    have HM := Lib.hid hm
    have hi0 : (0 : Int) ≤ rnd n l.length := by omega
    have hi1 : ((rnd n l.length : Int) < 0) = False := by simp
    have hi2 : (rnd n l.length : Int) < l.length := by omega
    have hi3 : (rnd n l.length : Int) ≤ 100 := by omega
    have hl4 := Lib.hid hl
    have hpos' := Lib.hid hpos
    have hi' := Lib.hid hi
    have hg1 : (w.heap.size = g) = False := by simp; omega
    have hg2 : (w.heap.size + 1 = g) = False := by simp; omega
    have HNE := Lib.hid hadg
    clear h hr hcm hm hat hne hl hadg
    go_enter Try.func80, Try.ntmps80
    go_wp2_with (first
      | (go_at_call 101; refine (post_at_pos _ g _ l n (H.out.ext ((Touch.refl _ w).alloc _)) hpos'.out).mono ?_; rintro e w' ⟨rfl, rfl⟩)
      | (go_at_call 102
         refine (delete_packets' _ ad c l (rnd n l.length) hi'.out ((H.out.ext (((Touch.refl _ w).alloc _).alloc _)).own) (by have := hl4.out; omega)).mono ?_
         rintro e w1 ⟨n1, hn1, rfl, ho1, ht1⟩
         have hb0 := ht1.blk (b := g) (o := .cells #[.slice (some ad) l.length c] 154 (0, 0)) (by simp only [heap_alloc_past, hlt, World.size_alloc, lt_size_add]; exact H.out.cell) (fun e => HNE.out e.symm)
         have hc1 := cell_of hb0 0
         have hf1 := frozen_of hb0 0
         have hb1 := ht1.blk (b := w.heap.size + 1) (o := .cells m.cells 131 (0, 0)) (by simp only [heap_alloc_at, World.size_alloc]) (fun e => by have := hadb; omega)
         have hb2 := ht1.blk (b := w.heap.size) (o := .cells Packet.zero.cells 131 (0, 0)) (by simp only [heap_alloc_at, heap_alloc_past, World.size_alloc, Nat.lt_add_one]) (fun e => by have := hadb; omega)
         have HN1 := Lib.hid hn1
         have HO1 := Lib.hid ho1
         clear hn1 ho1))
    have hadb' : ad.block < w.heap.size := hadb
    have HH := (Holds.stored hb0 HO1.out (by decide)).setRow (b := w.heap.size) (fun hk => by rcases hk with e | e <;> simp [Value.ownBlock] at e hg1 <;> omega) m.cells
    refine bodyPost_ret (results_cell_tmp rfl _ _ ⟨w.heap.size, 0, none⟩ (.agg m.cells) rfl ?_) rfl (.inr ⟨m, HM.out, rfl, _, HH, ?_, fun k hk => .inl hk⟩)
    · exact load_block (x := m) isPacket (setRow_heap _ _ _ _ _ _ ((heap_setCell_other _ _ _ _ (by simpa using hg1)).trans hb2))
    · exact ((((Touch.refl (foot g _) w).alloc _).alloc _).then ht1 (fun k hk => .inl (.inr (by subst hk; rfl)))).setCell (.inl (.inl rfl)) _ |>.setRow (.inr (Nat.le_refl _)) _
end Go.Proofs.Ytalfbhhldfffkab
namespace Go.Proofs.Ytalfbhhldfffkab
open Go.RowKit

set_option maxHeartbeats 1000000 in
set_option maxRecDepth 100000 in
theorem bag_take_some (w : World) (g : Nat) (ad : Addr) (c : Nat) (l : List Packet) (n : Int) (h : Holds w g 87 131 (.slice (some ad) l.length c) l) (hl : l.length ≤ 40) (hpos : 0 < l.length) :
    Calls Try.prog 77 #[.pointer (some ⟨g, 0, none⟩), .int .i64 n] w (TakePost w 87 g (.slice (some ad) l.length c) l n) := by
  obtain ⟨A, c', hv, hc, hcm, hr⟩ := h.own.form
  injection hv with hv1 hv2 hv3
  subst hv3
  subst hv1
  have hi := rnd_lt n l.length hpos
  obtain ⟨m, hm⟩ : ∃ m, l[rnd n l.length]? = some m := ⟨l[rnd n l.length], by simp [hi]⟩
  obtain ⟨ad', he, hadb, hat⟩ := hr _ m hm
  injection he with he
  subst he
  obtain ⟨i, hii⟩ : ∃ i, rnd n l.length = i := ⟨_, rfl⟩
  rw [hii] at hi hm hat
  have hLV : ∀ o, LV Try.prog 131 (ad.add (i * 9)) (w.alloc o) = .ok (.agg m.cells) (w.alloc o) := fun o => LV_Packet (hat.of_same (Below.heap_alloc _ _ _ (by unfold Addr.add; split <;> exact hadb)))
  have hne := h.own.elem h.cell (by decide)
  have hadg : ad.block ≠ g := fun e => hne (by simp [Value.ownBlock, e])
  have hlt := h.lt
  have hc0 := cell_of h.cell 0
  have H := Lib.hid h
  have HM := Lib.hid hm
  have HI := Lib.hid hii
  have hi0 : (0 : Int) ≤ (i : Int) := by omega
  have hi2 : (i : Int) < l.length := by omega
  have hi3 : (i : Int) ≤ 100 := by omega
  have hi4 : (0 : Int) ≤ (i : Int) + 1 := by omega
  have hi5 : (i : Int) + 1 ≤ l.length := by omega
  have hi6 : i ≤ c := by omega
  have hi7 : i + 1 ≤ l.length := by omega
  have hl4 := Lib.hid hl
  have hpos' := Lib.hid hpos
  have hi' := Lib.hid hi
  have hcL := Lib.hid hc
  have hg1 : (w.heap.size = g) = False := by simp; omega
  have hg2 : (w.heap.size + 1 = g) = False := by simp; omega
  have HNE := Lib.hid hadg
  have hl0 : ((l.length : Int) == 0) = false := beq_eq_false_iff_ne.2 (by omega)
  obtain ⟨A1, hA1⟩ : ∃ A1, (if c = i + 1 then some ad else some (ad.add ((i + 1) * 9))) = A1 := ⟨_, rfl⟩
  have HR1 := Lib.hid (hr.take i)
  have HR2 := Lib.hid (hr.cut (i + 1) c hc hA1)
  clear h hr hcm hm hat hne hl hadg hii hv2
  go_enter Try.func77, Try.ntmps77
  go_wp2_with (go_at_call 99; refine (bag_at _ g _ l n (H.out.ext ((Touch.refl _ w).alloc _)) hpos'.out).mono ?_; rw [HI.out]; rintro e w' ⟨rfl, rfl⟩)
  have hx : Ext w ((w.alloc (.cells Packet.zero.cells 131)).alloc (.cells m.cells 131)) := ((Touch.refl _ w).alloc _).alloc _
  have hz0 : ((w.alloc (.cells Packet.zero.cells 131)).alloc (.cells m.cells 131)).heap[w.heap.size]? = some (.cells Packet.zero.cells 131 (0, 0)) := by simp only [heap_alloc_at, heap_alloc_past, World.size_alloc, Nat.lt_add_one]
  have hz1 : ((w.alloc (.cells Packet.zero.cells 131)).alloc (.cells m.cells 131)).heap[w.heap.size + 1]? = some (.cells m.cells 131 (0, 0)) := by simp only [heap_alloc_at, World.size_alloc]
  generalize hW : (w.alloc (.cells Packet.zero.cells 131)).alloc (.cells m.cells 131) = W at *
  have hWs : w.heap.size + 2 = W.heap.size := by rw [← hW]; simp
  have hz2 := hx.blk H.out.cell id
  have hc1 := cell_of hz2 0
  have hRW := HR1.out.below (w' := W) (fun k hk => hx.block k hk id)
  have HT : Hid (i = (l.take i).length) := by show i = _; rw [List.length_take]; have := hi'.out; omega
  have HD : Hid (l.length - (i + 1) = (l.drop (i + 1)).length) := by show _ = _; rw [List.length_drop]
  have HRW := Lib.hid hRW
  have HRD := Lib.hid (HR2.out.below (w' := W) (fun k hk => hx.block k hk id))
  have HX := Lib.hid hx
  have HWS := Lib.hid hWs
  clear hW hRW hx hWs
  have hwr : IntKind.i64.wrap ((i : Int) + 1) = (i : Int) + 1 := IntWalk.i64_in _ (by omega)
  have hwn : ((i : Int) + 1).toNat = i + 1 := by omega
  go_region_law (first
    | (refine step_append_own (by rfl) (.tmp 25) (.tmp 30) 87 (by rfl) elemPacket Try.underlying87 (v := .slice none 0 0) (l := []) (by rfl) (Owns.nil _ _) (l.take i) HT.out i (by simp) (by rfl) HRW.out (by have := HT.out; have := hi'.out; have := hl4.out; simp; omega) ?_
       intro A2 c2 w2 hown2 hgrow2 hat2
       simp only [List.nil_append] at hown2
       have hob2 : ∀ k, (Value.slice A2 i c2).ownBlock = some k → W.heap.size ≤ k := fun k hk => by
         rcases hat2 with h1 | h1 <;> rw [h1] at hk <;> simp [Value.ownBlock] at hk
         omega
       have hy2 := World.grownBy.blk hgrow2 hz2 (by simp [Value.ownBlock])
       have hy20 := World.grownBy.blk hgrow2 hz0 (by simp [Value.ownBlock])
       have hy21 := World.grownBy.blk hgrow2 hz1 (by simp [Value.ownBlock])
       have hc2 := cell_of hy2 0
       have hsz2 : W.heap.size ≤ w2.heap.size := hgrow2.size)
    | (refine step_append_own (by rfl) (.tmp 31) (.tmp 37) 87 (by rfl) elemPacket Try.underlying87 (v := .slice A2 i c2) (l := l.take i) (by rfl) hown2 (l.drop (i + 1)) HD.out (i + (l.length - (i + 1))) (by rw [← HT.out]) (by rfl) (HRD.out.below fun k hk => hgrow2.block k (by have := HWS.out; show k < W.heap.size; omega) (by simp [Value.ownBlock])) (by have := hl4.out; simp; omega) ?_
       intro A3 c3 w3 hown3 hgrow3 hat3
       have hlts := HWS.out
       have hob3 : ∀ k, (Value.slice A3 (i + (l.length - (i + 1))) c3).ownBlock = some k → W.heap.size ≤ k := fun k hk => by
         rcases hat3 with h1 | h1
         · exact hob2 k (h1 ▸ hk)
         · rw [h1] at hk; injection hk with hk; have : w2.heap.size = k := hk; omega
       have hy3 := World.grownBy.blk hgrow3 hy2 (fun e => by have := hob2 _ e; omega)
       have hy30 := World.grownBy.blk hgrow3 hy20 (fun e => by have := hob2 _ e; omega)
       have hy31 := World.grownBy.blk hgrow3 hy21 (fun e => by have := hob2 _ e; omega)
       have hc3 := cell_of hy3 0
       have hf3 := frozen_of hy3 0
       have HO3 := Lib.hid hown3
       have HG2 := Lib.hid hgrow2
       have HG3 := Lib.hid hgrow3
       have HB2 := Lib.hid hob2
       have HB3 := Lib.hid hob3
       clear hlts hown3 hown2 hob2 hob3 hat2 hat3 hgrow2 hgrow3))
  all_goals
    go_wp2
    have HH := (Holds.stored hy3 HO3.out (by decide)).setRow (b := w.heap.size) (fun hk => by
      rcases hk with e | e
      · simp at hg1; omega
      · have := HB3.out _ e; have := HWS.out; omega) m.cells
    refine bodyPost_ret (results_cell_tmp rfl _ _ ⟨w.heap.size, 0, none⟩ (.agg m.cells) rfl ?_) rfl (.inr ⟨m, by rw [HI.out]; exact HM.out, rfl, _, by rw [HI.out]; exact HH, ?_, fun k hk => .inr (by have := HB3.out _ hk; have := HWS.out; omega)⟩)
    · exact load_block (x := m) isPacket (setRow_heap _ _ _ _ _ _ ((heap_setCell_other _ _ _ _ (by simpa using hg1)).trans hy30))
    · exact ((((HX.out.mono (S := foot g _) (fun _ e => e.elim)).drew).grown HG2.out (fun k hk => by simp [Value.ownBlock] at hk)).grown HG3.out (fun k hk => .inr (by have := HB2.out _ hk; have := HWS.out; omega))).setCell (.inl (.inl rfl)) _ |>.setRow (.inr (Nat.le_refl _)) _
end Go.Proofs.Ytalfbhhldfffkab
namespace Go.Proofs.Ytalfbhhldfffkab
open Go.RowKit

set_option maxHeartbeats 400000 in
set_option maxRecDepth 100000 in
theorem bag_take (w : World) (g : Nat) (v : Value) (l : List Packet) (n : Int) (h : Holds w g 87 131 v l) (hl : l.length ≤ 40) :
    Calls Try.prog 77 #[.pointer (some ⟨g, 0, none⟩), .int .i64 n] w (TakePost w 87 g v l n) := by
  by_cases hl0 : l = []
  · subst hl0
    obtain ⟨A, c, rfl, hc, hcm, hr⟩ := h.own.form
    have hc0 := cell_of h.cell 0
    have hlt := h.lt
    have H := Lib.hid h
    clear h hr hcm hc
    go_enter Try.func77, Try.ntmps77
    go_wp2
    refine bodyPost_ret (results_cell_tmp rfl _ _ ⟨w.heap.size, 0, none⟩ (.agg Packet.zero.cells) rfl ?_) rfl (.inl ⟨rfl, rfl, (Touch.refl _ w).alloc _⟩)
    exact load_block (x := Packet.zero) isPacket (heap_alloc_new _ _)
  · obtain ⟨A, c, rfl, hc, hcm, hr⟩ := h.own.form
    have hpos : 0 < l.length := List.length_pos_iff.2 hl0
    obtain ⟨ad, rfl, _⟩ := hr 0 l[0] (by simp)
    exact bag_take_some w g ad c l n h hl hpos

def DoublePost (w : World) (T g : Nat) (v : Value) (l : List Packet) (n : Int) (e : Ending) (w' : World) : Prop :=
  (¬ (0 < l.length ∧ l.length < 40) ∧ e = .returned (.bool false) ∧ Ext w w') ∨
  (0 < l.length ∧ l.length < 40 ∧ ∃ m, l[rnd n l.length]? = some m ∧ e = .returned (.bool true) ∧
    ∃ v', Holds w' g T 131 v' (l ++ [m]) ∧ Touch (foot g v) w w' ∧ ∀ k, v'.ownBlock = some k → v.ownBlock = some k ∨ w.heap.size ≤ k)
theorem DoublePost.of_send {w : World} {T g : Nat} {v : Value} {l : List Packet} {n : Int} {m : Packet} (hpos : 0 < l.length) (hm : l[rnd n l.length]? = some m) {e : Ending} {w' : World} (h : SendPost w T g v l m e w') : DoublePost w T g v l n e w' := by
  unfold SendPost at h
  split at h
  · rename_i hl
    obtain ⟨he, v', h1, h2, h3⟩ := h
    exact .inr ⟨hpos, hl, m, hm, he, v', h1, h2, h3⟩
  · rename_i hl
    exact .inl ⟨fun hh => hl hh.2, h⟩

set_option maxHeartbeats 400000 in
set_option maxRecDepth 100000 in
theorem post_double (w : World) (g : Nat) (v : Value) (l : List Packet) (n : Int) (h : Holds w g 154 131 v l) (hl : l.length ≤ 40) :
    Calls Try.prog 98 #[.pointer (some ⟨g, 0, none⟩), .int .i64 n] w (DoublePost w 154 g v l n) := by
  by_cases hl0 : l = []
  · subst hl0
    have H := Lib.hid h
    clear h
    go_enter Try.func98, Try.ntmps98
    go_wp2_with (go_at_call 101; refine (post_at_nil _ g _ n H.out).mono ?_; rintro e w' ⟨rfl, rfl⟩)
    go_ret
    exact .inl ⟨by simp, rfl, Touch.refl _ w⟩
  · obtain ⟨A, c, rfl, hc, hcm, hr⟩ := h.own.form
    have hpos : 0 < l.length := List.length_pos_iff.2 hl0
    have hi := rnd_lt n l.length hpos
    obtain ⟨m, hm⟩ : ∃ m, l[rnd n l.length]? = some m := ⟨l[rnd n l.length], by simp [hi]⟩
    obtain ⟨ad, rfl, hadb, hat⟩ := hr _ m hm
    have hLV : LV Try.prog 131 (ad.add (rnd n l.length * 9)) w = .ok (.agg m.cells) w := LV_Packet hat
    have hc0 := cell_of h.cell 0
    have H := Lib.hid h
    have HM := Lib.hid hm
    have hi0 : (0 : Int) ≤ rnd n l.length := by omega
    have hi2 : (rnd n l.length : Int) < l.length := by omega
    have hi3 : (rnd n l.length : Int) ≤ 100 := by omega
    have hpos' := Lib.hid hpos
    clear h hr hcm hm hat hl hc hl0
    go_enter Try.func98, Try.ntmps98
    go_wp2_with (first
      | (go_at_call 101; refine (post_at_pos _ g _ l n H.out hpos'.out).mono ?_; rintro e w' ⟨rfl, rfl⟩)
      | (go_at_call 97; refine (post_send _ g _ l m H.out).mono ?_
         intro e w1 hs
         have hs1 := DoublePost.of_send (n := n) hpos'.out HM.out hs
         obtain ⟨b, hb⟩ : ∃ b, e = .returned (.bool b) := by rcases hs1 with ⟨_, he, _⟩ | ⟨_, _, _, _, he, _⟩ <;> exact ⟨_, he⟩
         subst hb
         have HS := Lib.hid hs1
         clear hs hs1))
    go_ret
    exact HS.out

set_option maxHeartbeats 400000 in
set_option maxRecDepth 100000 in
theorem bag_double (w : World) (g : Nat) (v : Value) (l : List Packet) (n : Int) (h : Holds w g 87 131 v l) (hl : l.length ≤ 40) :
    Calls Try.prog 76 #[.pointer (some ⟨g, 0, none⟩), .int .i64 n] w (DoublePost w 87 g v l n) := by
  by_cases hl0 : l = []
  · subst hl0
    obtain ⟨A, c, rfl, hc, hcm, hr⟩ := h.own.form
    have hc0 := cell_of h.cell 0
    have H := Lib.hid h
    clear h hr hcm hc
    go_enter Try.func76, Try.ntmps76
    go_wp2
    go_ret
    exact .inl ⟨by simp, rfl, Touch.refl _ w⟩
  · obtain ⟨A, c, rfl, hc, hcm, hr⟩ := h.own.form
    have hpos : 0 < l.length := List.length_pos_iff.2 hl0
    have hi := rnd_lt n l.length hpos
    obtain ⟨m, hm⟩ : ∃ m, l[rnd n l.length]? = some m := ⟨l[rnd n l.length], by simp [hi]⟩
    obtain ⟨ad, rfl, hadb, hat⟩ := hr _ m hm
    have hLV : LV Try.prog 131 (ad.add (rnd n l.length * 9)) w = .ok (.agg m.cells) w := LV_Packet hat
    have hLVd : LV Try.prog 131 (ad.add (rnd n l.length * 9)) w.drew = .ok (.agg m.cells) w.drew := LV_Packet (w := w.drew) hat
    have hc0 := cell_of h.cell 0
    have H := Lib.hid h
    have HM := Lib.hid hm
    have hi0 : (0 : Int) ≤ rnd n l.length := by omega
    have hi2 : (rnd n l.length : Int) < l.length := by omega
    have hi3 : (rnd n l.length : Int) ≤ 100 := by omega
    have hl0' : ((l.length : Int) == 0) = false := beq_eq_false_iff_ne.2 (by omega)
    have hpos' := Lib.hid hpos
    clear h hr hcm hm hat hl hc hl0
    go_enter Try.func76, Try.ntmps76
    go_wp2_with fail
    go_region_law (first
      | (go_simp; go_at_call 99; refine (bag_at _ g _ l n (H.out.ext ((Touch.refl _ w).drew)) hpos'.out).mono ?_; rintro e w' ⟨rfl, rfl⟩)
      | (go_simp; go_at_call 75; refine (bag_send _ g _ l m (H.out.ext ((Touch.refl _ w).drew))).mono ?_
         intro e w1 hs
         have hs1 := DoublePost.of_send (n := n) hpos'.out HM.out hs
         obtain ⟨b, hb⟩ : ∃ b, e = .returned (.bool b) := by rcases hs1 with ⟨_, he, _⟩ | ⟨_, _, _, _, he, _⟩ <;> exact ⟨_, he⟩
         subst hb
         have HS := Lib.hid hs1
         clear hs hs1))
    all_goals
      go_wp2
      go_ret
      rcases HS.out with ⟨h1, he, ht⟩ | ⟨h1, h2, m', h3, he, v', h4, ht, h5⟩
      · exact .inl ⟨h1, he, ((Touch.refl _ w).drew).trans ht⟩
      · exact .inr ⟨h1, h2, m', h3, he, v', h4, ((Touch.refl _ w).drew).trans ht, h5⟩

theorem samePackets_of_take {l r : List Packet} (h : l.length = r.length) (k : Nat) (hk : l.length ≤ k) (ht : l.take k = r.take k) : l = r := by
  rw [List.take_of_length_le hk, List.take_of_length_le (by omega)] at ht; exact ht
set_option maxHeartbeats 400000 in
set_option maxRecDepth 100000 in
theorem samePackets (w : World) (B : Nat) (A A' : Option Addr) (l r : List Packet) (c c' : Nat) (hl : Reads w B A l) (hr : Reads w B A' r) (hm : l.length < 1000000) (hm' : r.length < 10000000) :
    Calls Try.prog 45 #[.slice A l.length c, .slice A' r.length c'] w (SamePost w l r) := by
  have H := Lib.hid hl
  have H' := Lib.hid hr
  clear hl hr
  by_cases hlen : l.length = r.length
  · have HL := Lib.hid hlen
    have e1 : ((l.length : Int) != (r.length : Int)) = false := by simp [hlen]
    clear hlen
    go_enter Try.func45, Try.ntmps45
    go_wp2
    go_loopw [5] (fun i wr => ∃ k n : Nat, wr = w.drewN n ∧ i = .int .i64 k ∧ k ≤ l.length ∧ l.take k = r.take k) (fun i _ => l.length - (intOf i).toNat)
    case atStart => exact ⟨0, 0, rfl, rfl, Nat.zero_le _, by simp⟩
    case round =>
      obtain ⟨k, n, rfl, rfl, hk, ht⟩ := hrel
      have HT := Lib.hid ht
      clear ht
      by_cases hlt : k < l.length
      · obtain ⟨p, hp⟩ : ∃ p, l[k]? = some p := ⟨l[k], by simp⟩
        have hlt' : k < r.length := by have := HL.out; omega
        obtain ⟨q, hq⟩ : ∃ q, r[k]? = some q := ⟨r[k], by simp⟩
        obtain ⟨ad, rfl, had, hrow⟩ := H.out k p hp
        obtain ⟨ad', rfl, had', hrow'⟩ := H'.out k q hq
        have h1 : ∀ n, LV Try.prog 131 (ad.add (k * 9)) (w.drewN n) = .ok (.agg p.cells) (w.drewN n) := fun n => LV_Packet (w := w.drewN n) hrow
        have h2 : ∀ n, LV Try.prog 131 (ad'.add (k * 9)) (w.drewN n) = .ok (.agg q.cells) (w.drewN n) := fun n => LV_Packet (w := w.drewN n) hrow'
        have HP := Lib.hid hp
        have HQ := Lib.hid hq
        clear hp hq hrow hrow'
        by_cases hpq : p = q
        · subst hpq
          go_wp2
          go_quiet (fail)
          go_wp2
          go_roundw
          case rel => exact ⟨k + 1, _, rfl, by go_num, by omega, take_succ_eq HP.out HQ.out HT.out⟩
          case measure => simp [intOf]; omega
        · have hd : decide (p = q) = false := by simp [hpq]
          have HPQ := Lib.hid hpq
          clear hpq
          go_wp2
          go_quiet (fail)
          go_wp2
          go_ret
          exact ⟨by rw [decide_eq_false (by rintro rfl; have h1 := HP.out; rw [HQ.out] at h1; exact HPQ.out (Option.some.inj h1).symm)]; rfl, n + nq, by first | rfl | rw [World.drewN_drewN]⟩
      · go_wp2
        go_ret
        exact ⟨by rw [decide_eq_true (samePackets_of_take HL.out k (by omega) HT.out)]; rfl, n, rfl⟩
  · have e1 : ((l.length : Int) != (r.length : Int)) = true := by rw [bne_iff_ne]; omega
    have HL := Lib.hid hlen
    clear hlen
    go_enter Try.func45, Try.ntmps45
    go_wp2
    go_ret
    exact ⟨by rw [decide_eq_false (by rintro rfl; exact HL.out rfl)]; rfl, 0, rfl⟩
end Go.Proofs.Ytalfbhhldfffkab
namespace Go.Proofs.Ytalfbhhldfffkab
open Go.RowKit

theorem post_send_lt (w : World) (g : Nat) (v : Value) (l : List Packet) (m : Packet) (h : Holds w g 154 131 v l) (hl : l.length < 40) :
    Calls Try.prog 97 #[.pointer (some ⟨g, 0, none⟩), .agg m.cells] w fun e w' => e = .returned (.bool true) ∧ ∃ v', Holds w' g 154 131 v' (l ++ [m]) ∧ Touch (foot g v) w w' ∧ ∀ k, v'.ownBlock = some k → v.ownBlock = some k ∨ w.heap.size ≤ k :=
  (post_send w g v l m h).mono fun e w' hs => by rw [SendPost, if_pos hl] at hs; exact hs

end Go.Proofs.Ytalfbhhldfffkab
namespace Go.Proofs.Ytalfbhhldfffkab
open Go.RowKit

/-! ### What Send, Take and Double come to -/
def Mut {α : Type} [Lies α] (w : World) (g : Nat) (T E : TypeId) (v : Value) (l' : List α) (r : Value) (e : Ending) (w' : World) : Prop :=
  e = .returned r ∧ ∃ v', Holds w' g T E v' l' ∧ Touch (foot g v) w w' ∧ ∀ k, v'.ownBlock = some k → v.ownBlock = some k ∨ w.heap.size ≤ k
theorem Mut.same {α : Type} [Lies α] {w : World} {g : Nat} {T E : TypeId} {v : Value} {l : List α} {r : Value} {e : Ending} {w' : World} (h : Holds w g T E v l) (he : e = .returned r) (hx : Ext w w') : Mut w g T E v l r e w' :=
  ⟨he, v, h.ext hx, hx.mono fun _ hk => hk.elim, fun _ hk => .inl hk⟩

theorem mut_of_send {w : World} {T g : Nat} {v : Value} {l : List Packet} {m : Packet} (h : Holds w g T 131 v l) {e : Ending} {w' : World} (hs : SendPost w T g v l m e w') : Mut w g T 131 v (pSend l m).2 (.bool (pSend l m).1) e w' := by
  unfold SendPost at hs
  unfold pSend
  split at hs
  · rename_i hl
    rw [if_pos hl]
    exact hs
  · rename_i hl
    rw [if_neg hl]
    exact Mut.same h hs.1 hs.2
theorem mut_of_take {w : World} {T g : Nat} {v : Value} {l : List Packet} {n : Int} (h : Holds w g T 131 v l) {e : Ending} {w' : World} (hs : TakePost w T g v l n e w') : Mut w g T 131 v (pTake l n).2.2 (.tuple #[.agg (pTake l n).1.cells, .bool (pTake l n).2.1]) e w' := by
  unfold pTake
  rcases hs with ⟨rfl, he, hx⟩ | ⟨m, hm, he, hs⟩
  · exact Mut.same h he hx
  · rw [hm]
    exact ⟨he, hs⟩
theorem mut_of_double {w : World} {T g : Nat} {v : Value} {l : List Packet} {n : Int} (h : Holds w g T 131 v l) {e : Ending} {w' : World} (hs : DoublePost w T g v l n e w') : Mut w g T 131 v (pDouble l n).2 (.bool (pDouble l n).1) e w' := by
  unfold pDouble
  rcases hs with ⟨hl, he, hx⟩ | ⟨hp, hl, m, hm, he, hs⟩
  · split
    · rename_i m hm
      have : 0 < l.length := by
        have := (List.getElem?_eq_some_iff.1 hm).1; omega
      unfold pSend
      rw [if_neg (fun h => hl ⟨this, h⟩)]
      exact Mut.same h he hx
    · exact Mut.same h he hx
  · rw [hm]
    simp only [pSend, if_pos hl]
    exact ⟨he, hs⟩

theorem post_send' (w : World) (g : Nat) (v : Value) (l : List Packet) (m : Packet) (h : Holds w g 154 131 v l) :
    Calls Try.prog 97 #[.pointer (some ⟨g, 0, none⟩), .agg m.cells] w (Mut w g 154 131 v (pSend l m).2 (.bool (pSend l m).1)) := (post_send w g v l m h).mono fun _ _ hs => mut_of_send h hs
theorem bag_send' (w : World) (g : Nat) (v : Value) (l : List Packet) (m : Packet) (h : Holds w g 87 131 v l) :
    Calls Try.prog 75 #[.pointer (some ⟨g, 0, none⟩), .agg m.cells] w (Mut w g 87 131 v (pSend l m).2 (.bool (pSend l m).1)) := (bag_send w g v l m h).mono fun _ _ hs => mut_of_send h hs
theorem post_take' (w : World) (g : Nat) (v : Value) (l : List Packet) (n : Int) (h : Holds w g 154 131 v l) (hl : l.length ≤ 40) :
    Calls Try.prog 80 #[.pointer (some ⟨g, 0, none⟩), .int .i64 n] w (Mut w g 154 131 v (pTake l n).2.2 (.tuple #[.agg (pTake l n).1.cells, .bool (pTake l n).2.1])) := (post_take w g v l n h hl).mono fun _ _ hs => mut_of_take h hs
theorem bag_take' (w : World) (g : Nat) (v : Value) (l : List Packet) (n : Int) (h : Holds w g 87 131 v l) (hl : l.length ≤ 40) :
    Calls Try.prog 77 #[.pointer (some ⟨g, 0, none⟩), .int .i64 n] w (Mut w g 87 131 v (pTake l n).2.2 (.tuple #[.agg (pTake l n).1.cells, .bool (pTake l n).2.1])) := (bag_take w g v l n h hl).mono fun _ _ hs => mut_of_take h hs
theorem post_double' (w : World) (g : Nat) (v : Value) (l : List Packet) (n : Int) (h : Holds w g 154 131 v l) (hl : l.length ≤ 40) :
    Calls Try.prog 98 #[.pointer (some ⟨g, 0, none⟩), .int .i64 n] w (Mut w g 154 131 v (pDouble l n).2 (.bool (pDouble l n).1)) := (post_double w g v l n h hl).mono fun _ _ hs => mut_of_double h hs
theorem bag_double' (w : World) (g : Nat) (v : Value) (l : List Packet) (n : Int) (h : Holds w g 87 131 v l) (hl : l.length ≤ 40) :
    Calls Try.prog 76 #[.pointer (some ⟨g, 0, none⟩), .int .i64 n] w (Mut w g 87 131 v (pDouble l n).2 (.bool (pDouble l n).1)) := (bag_double w g v l n h hl).mono fun _ _ hs => mut_of_double h hs
end Go.Proofs.Ytalfbhhldfffkab
