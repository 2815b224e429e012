/- Post: the walks of package post and of the reference's Bag. (And behind it: Post2, Post3, Post4, Post5, Post6, Post7.) -/
import Derived.Test.YtalfbhhldfffkaaGreatDoorTypes
import Derived.Test.YtalfbhhldfffkaaGreatDoorGPlain
import Derived.Deep.RegionHeld3
import Derived.Deep.RegionLaw
set_option maxHeartbeats 8000000
set_option maxRecDepth 100000
namespace Go.Proofs.YtalfbhhldfffkaaGreatDoor
open Go.RowKit
def SendPost (w : World) (T g : Nat) (v : Value) (l : List Packet) (m : Packet) (e : Ending) (w' : World) : Prop :=
 if l.length < 40 then e = .returned (.bool true) /\ ∃ v', Holds w' g T 103 v' (l ++ [m]) /\ Touch (foot g v) w w' /\ ∀ k, v'.ownBlock = some k -> v.ownBlock = some k \/ w.heap.size <= k
 else e = .returned (.bool false) /\ Ext w w'
theorem post_send (w : World) (g : Nat) (v : Value) (l : List Packet) (m : Packet) (h : Holds w g 117 103 v l) :
 Calls Tryz.prog 127 #[.pointer (some ⟨g, 0, none⟩), .agg m.cells] w (SendPost w 117 g v l m) := by
 obtain ⟨A, c, rfl, hc, hcm, hr⟩ := h.own.form;have hlt := h.lt;have hm := hcm;unfold maxLen at hm;have hc0 := cell_of h.cell 0;have H := lh h;clear h hr hcm;by_cases hl : l.length < 40
 ·have hlh := lh hl;have hl' : ¬ (40 <= l.length) := by omega
  go_enter Tryz.func127, Tryz.ntmps127
  go_wp2
  have HO := H.out.own;have HC := H.out.cell
  go_region_law (
   (refine step_append_own (by rfl) (.tmp 15) (.tmp 17) 70 (by rfl) elemPacket Tryz.underlying70 (v := .slice A l.length c) (l := l) (by rfl) (HO.keep fun k hk => ?hk1) [m] (by rfl) (l.length + 1) (by rfl) (by rfl) (reads_block (x := m) (t := 103) (fr := (0, 0)) ?hn1 (w.heap.size + 2) (by omega)) (by simp; omega) ?_
    case hk1 => exact ((Touch.refl (fun _ => False) w).alloc _ |>.alloc _ |>.drew).block k (HO.lt k hk) id
    case hn1 => simp only [heap_alloc_at, heap_drew', World.size_alloc]; rfl
    intro A1 c1 w1 hown1 hgrow1 hat1;have hg1 := World.grownBy.blk hgrow1 (b := g) (o := .cells #[.slice A l.length c] 117 (0, 0)) (by simp only [heap_alloc_past, heap_drew', hlt, World.size_alloc, lt_size_add]; exact HC) (HO.elem HC (by decide));have hc1 := cell_of hg1 0;have hf1 := frozen_of hg1 0))
  all_goals
   go_wp2
   go_ret
   rw [SendPost, if_pos hlh.out];exact ⟨rfl, _, Holds.appended H.out ((Touch.refl _ w).alloc _ |>.alloc _ |>.drew) (by decide) hown1 hgrow1 hat1⟩
 ·have hl' : 40 <= l.length := by omega
  go_enter Tryz.func127, Tryz.ntmps127
  go_wp2
  go_ret
  rw [SendPost, if_neg hl];exact ⟨rfl, (Touch.refl _ w).alloc _⟩
theorem post_new (w : World) : Calls Tryz.prog 20 #[] w fun e w' => e = .returned (.pointer (some ⟨w.heap.size, 0, none⟩)) /\ w.alloc (.cells #[.slice none 0 0] 117) = w' := by
 go_enter Tryz.func20, Tryz.ntmps20
 go_wp2
 go_ret
 exact ⟨rfl, rfl⟩
theorem post_len (w : World) (g : Nat) (v : Value) (l : List Packet) (h : Holds w g 117 103 v l) :
 Calls Tryz.prog 90 #[.pointer (some ⟨g, 0, none⟩)] w fun e w' => e = .returned (.int .i64 l.length) /\ w = w' := by
 obtain ⟨A, c, rfl, hc, hcm, hr⟩ := h.own.form;have hc0 := cell_of h.cell 0;clear h hr;go_enter Tryz.func90, Tryz.ntmps90
 go_wp2
 go_ret
 exact ⟨rfl, rfl⟩
def AtPost (w : World) (l : List Packet) (n : Int) (e : Ending) (w' : World) : Prop := e = .returned (.int .i64 (if l.length = 0 then -1 else (rnd n l.length : Int))) /\ w = w'
theorem post_at (w : World) (g : Nat) (v : Value) (l : List Packet) (n : Int) (h : Holds w g 117 103 v l) :
 Calls Tryz.prog 131 #[.pointer (some ⟨g, 0, none⟩), .int .i64 n] w (AtPost w l n) := by
 obtain ⟨A, c, rfl, hc, hcm, hr⟩ := h.own.form;have hm := hcm;unfold maxLen at hm;have hc0 := cell_of h.cell 0;have H := lh h;have hlen := lh (show l.length <= 9223372036854775807 by omega);clear h hr hcm;by_cases hl : l.length = 0
 ·have HL := lh hl;have hl0 : ((l.length : Int) == 0) = true := beq_iff_eq.2 (by omega);clear hl;go_enter Tryz.func131, Tryz.ntmps131
  go_wp2
  go_ret
  exact ⟨by rw [if_pos HL.out]; rfl, rfl⟩
 ·have hl0 : ((l.length : Int) == 0) = false := bF (by omega);have hpos : 0 < l.length := by omega
  go_enter Tryz.func131, Tryz.ntmps131
  go_wp2
  go_ret
  exact ⟨by rw [if_neg hl, <- rnd_wrap n l.length hpos hlen.out]; rfl, rfl⟩
theorem post_at_nil (w : World) (g : Nat) (v : Value) (n : Int) (h : Holds (α := Packet) w g 117 103 v []) :
 Calls Tryz.prog 131 #[.pointer (some ⟨g, 0, none⟩), .int .i64 n] w fun e w' => e = .returned (.int .i64 (-1)) /\ w = w' :=
 (post_at w g v [] n h).mono fun _ _ h => h
theorem post_at_pos (w : World) (g : Nat) (v : Value) (l : List Packet) (n : Int) (h : Holds w g 117 103 v l) (hl : 0 < l.length) :
 Calls Tryz.prog 131 #[.pointer (some ⟨g, 0, none⟩), .int .i64 n] w fun e w' => e = .returned (.int .i64 (rnd n l.length : Int)) /\ w = w' :=
 (post_at w g v l n h).mono fun _ _ ⟨h1, h2⟩ => ⟨by rw [h1, if_neg (by omega)], h2⟩
theorem clone_packets (w : World) (B : Nat) (A : Option Addr) (c : Nat) (l : List Packet) (hr : Reads w B A l) (hB : B <= w.heap.size) (hn : A = none -> l = []) (hl : l.length <= 100000) :
 Calls Tryz.prog 155 #[.slice A l.length c] w (NewList w 103 l) := by
 rcases A with _ | ad
 ·have h0 := hn rfl;subst h0;go_enter Tryz.func155, Tryz.ntmps155
  go_wp2
  go_ret
  exact ⟨none, 0, rfl, Owns.nil _ _, Touch.refl _ _, fun k hk => by simp [Value.ownBlock] at hk⟩
 ·have HR := lh hr;have HB := lh hB;clear hr hn hB;go_enter Tryz.func155, Tryz.ntmps155
  go_wp2_with (at_builtin; refine wpList_append_own' (by rfl) (.tmp 5) (.tmp 6) 70 (by rfl) elemPacket Tryz.underlying70 (v := .slice (some ⟨w.heap.size, 0, none⟩) 0 0) (l := []) (by rfl) (own_empty (heap_alloc_new _ _)) l (by rfl) l.length (by simp) (by rfl) (HR.out.below fun k hk => Below.heap_alloc _ _ _ (Nat.lt_of_lt_of_le hk HB.out)) (by simp; omega) ?_
               intro A1 c1 w1 hown1 hgrow1 hat1)
  go_ret
  simp only [List.nil_append] at hown1;exact ⟨A1, c1, rfl, hown1, ((Touch.refl _ w).alloc _).grown hgrow1 (fun k hk => by simp [Value.ownBlock] at hk; omega), fun k hk => by rcases hat1 with h1 | h1 <;> rw [h1] at hk <;> simp [Value.ownBlock] at hk <;> omega⟩
theorem post_list (w : World) (g : Nat) (v : Value) (l : List Packet) (h : Holds w g 117 103 v l) (hl : l.length <= 40) :
 Calls Tryz.prog 135 #[.pointer (some ⟨g, 0, none⟩)] w (NewList w 103 l) := by
 obtain ⟨A, c, rfl, hc, hcm, hr⟩ := h.own.form;have hc0 := cell_of h.cell 0;have hnil := lh (fun (e : A = none) => (show l = [] by subst e; exact h.own.none_nil));have HR := lh hr;clear h hr;go_enter Tryz.func135, Tryz.ntmps135
 go_wp2_with (go_at_call 155; refine (clone_packets w w.heap.size A c l HR.out (Nat.le_refl _) hnil.out (by omega)).mono ?_; rintro e w' ⟨A1, c1, rfl, ho, he, hf⟩)
 go_ret
 exact ⟨A1, c1, rfl, ho, he, hf⟩
def Deleted {α : Type} [Lies α] (w : World) (E : TypeId) (g cap : Nat) (l : List α) (e : Ending) (w' : World) : Prop :=
 e = .returned (.slice (some ⟨g, 0, none⟩) l.length cap) /\ Owns w' E (.slice (some ⟨g, 0, none⟩) l.length cap) l /\ Touch (fun k => k = g) w w'
theorem delete_packets_at (w : World) (g cap : Nat) (l : List Packet) (i : Nat) (hi : i < l.length) (A1 : Addr) (h : Owns w 103 (.slice (some ⟨g, 0, none⟩) l.length cap) l) (hl : l.length <= 100000)
 (hA1 : cap = i + 1 /\ A1 = ⟨g, 0, none⟩ \/ (cap = i + 1) = False /\ A1 = ⟨g, (i + 1) * 9, none⟩) :
 Calls Tryz.prog 132 #[.slice (some ⟨g, 0, none⟩) l.length cap, .int .i64 (i : Int), .int .i64 ((i : Int) + 1)] w (Deleted w 103 g cap (l.take i ++ l.drop (i + 1))) := by
 obtain ⟨A, c, hv, hc, hcm, hr⟩ := h.form;injection hv with hv1 hv2 hv3;subst hv3;have hm := hcm;unfold maxLen at hm;have H := lh h;clear h hr hcm hv1 hv2;have hne : ((i : Int) == (i : Int) + 1) = false := bF (by omega);have hi1 : (i : Int) + 1 <= l.length := by omega
 have hic : i <= cap := by omega
 have hil : i + 1 <= l.length := by omega
 have hi0 : (0 : Int) <= (i : Int) + 1 := by omega
 obtain ⟨w1, hrun1, hown1, ht1⟩ := run_append_cut (w := w.drew) elemPacket 70 70 Tryz.underlying70 (c' := cap - (i + 1)) H.out i (i + 1) (by omega) (by omega) (A := some A1)
  (by rcases hA1 with ⟨h1, rfl⟩ | ⟨h1, rfl⟩ <;> simp [h1] <;> rfl)
 obtain ⟨n, hn⟩ : ∃ n, i + (l.length - (i + 1)) = n := ⟨_, rfl⟩
 rw [hn] at hrun1 hown1;have hn1 : n + 1 = l.length := by omega
 have HN := lh hn1;have hnc : n + 1 <= cap := by omega
 have hnl : n + 1 <= l.length := by omega
 clear hn hn1;have hll : (l.take i ++ l.drop (i + 1)).length = n := by simp; have := HN.out; omega
 have hown1' : Owns w1 103 (.slice (some ⟨g, 0, none⟩) (l.take i ++ l.drop (i + 1)).length cap) (l.take i ++ l.drop (i + 1)) := by rw [hll]; exact hown1
 obtain ⟨w2, hrun2, hown2, ht2⟩ := run_clear_tail elemPacket 70 0 Tryz.underlying70 (m := l.length - n) (c' := cap - n) hown1' (by rw [hll]; omega) rfl;rw [hll, if_neg (by omega), show (Lies.size Packet) = 9 from rfl] at hrun2;have HL := lh hll;have HO2 := lh hown2;have HR1 := lh hrun1;have HR2 := lh hrun2;clear hll hown2 hown1 hown1' hrun1 hrun2;rcases hA1 with ⟨h1, rfl⟩ | ⟨h1, rfl⟩
 ·subst h1;have hic2 : (i : Int) <= (i : Int) + 1 := by omega
  have HR1' := HR1.out;rw [show l.length - (i + 1) = 0 by omega, Nat.sub_self] at HR1';have HR1 := lh HR1';clear HR1';go_enter Tryz.func132, Tryz.ntmps132
  go_wp2
  go_region_law ((refine step_append_eq (by rfl) (.tmp 22) (.tmp 25) 70 (by rfl) _ _ _ (by rfl) (by rfl) HR1.out ?_))
  iterate 19 go_step
  refine wpList_clear_eq rfl (.tmp 31) 70 rfl _ _ ?hs HR2.out ?_
  case hs => rfl
  go_wp2
  go_ret
  exact ⟨by rw [HL.out]; rfl, HO2.out, (Touch.refl _ w).drew.trans (ht1.trans ht2)⟩
 ·go_enter Tryz.func132, Tryz.ntmps132
  go_wp2
  go_region_law ((refine step_append_eq (by rfl) (.tmp 22) (.tmp 25) 70 (by rfl) _ _ _ (by rfl) (by rfl) HR1.out ?_))
  iterate 19 go_step
  refine wpList_clear_eq rfl (.tmp 31) 70 rfl _ _ ?hs HR2.out ?_
  case hs => rfl
  go_wp2
  go_ret
  exact ⟨by rw [HL.out]; rfl, HO2.out, (Touch.refl _ w).drew.trans (ht1.trans ht2)⟩
theorem delete_packets (w : World) (g cap : Nat) (l : List Packet) (i : Nat) (hi : i < l.length) (h : Owns w 103 (.slice (some ⟨g, 0, none⟩) l.length cap) l) (hl : l.length <= 100000) :
 Calls Tryz.prog 132 #[.slice (some ⟨g, 0, none⟩) l.length cap, .int .i64 (i : Int), .int .i64 ((i : Int) + 1)] w (Deleted w 103 g cap (l.take i ++ l.drop (i + 1))) := by
 by_cases hc : cap = i + 1
 ·exact delete_packets_at w g cap l i hi _ h hl (.inl ⟨hc, rfl⟩)
 ·exact delete_packets_at w g cap l i hi _ h hl (.inr ⟨by simp [hc], rfl⟩)
theorem delete_packets' (w : World) (ad : Addr) (cap : Nat) (l : List Packet) (i : Nat) (hi : i < l.length) (h : Owns w 103 (.slice (some ad) l.length cap) l) (hl : l.length <= 100000) :
 Calls Tryz.prog 132 #[.slice (some ad) l.length cap, .int .i64 (i : Int), .int .i64 ((i : Int) + 1)] w fun e w' =>
  ∃ n, n + 1 = l.length /\ e = .returned (.slice (some ad) n cap) /\ Owns w' 103 (.slice (some ad) n cap) (l.take i ++ l.drop (i + 1)) /\ Touch (fun k => k = ad.block) w w' := by
 obtain ⟨g, rfl⟩ := h.some_form;refine (delete_packets w g cap l i hi h hl).mono fun e w' ⟨he, ho, ht⟩ => ?_;have hll : (l.take i ++ l.drop (i + 1)).length = l.length - 1 := by simp; omega
 rw [hll] at he ho;exact ⟨l.length - 1, by omega, he, ho, ht⟩
def TakePost (w : World) (T g : Nat) (v : Value) (l : List Packet) (n : Int) (e : Ending) (w' : World) : Prop :=
 (l = [] /\ e = .returned (.tuple #[.agg Packet.zero.cells, .bool false]) /\ Ext w w') \/
 (∃ m, l[rnd n l.length]? = some m /\ e = .returned (.tuple #[.agg m.cells, .bool true]) /\
  ∃ v', Holds w' g T 103 v' (l.take (rnd n l.length) ++ l.drop (rnd n l.length + 1)) /\ Touch (foot g v) w w' /\ ∀ k, v'.ownBlock = some k -> v.ownBlock = some k \/ w.heap.size <= k)
theorem post_take (w : World) (g : Nat) (v : Value) (l : List Packet) (n : Int) (h : Holds w g 117 103 v l) (hl : l.length <= 40) :
 Calls Tryz.prog 91 #[.pointer (some ⟨g, 0, none⟩), .int .i64 n] w (TakePost w 117 g v l n) := by
 by_cases hl0 : l = []
 ·subst hl0;obtain ⟨A, c, rfl, hc, hcm, hr⟩ := h.own.form;have H := lh h;clear h hr hcm;go_enter Tryz.func91, Tryz.ntmps91
  go_wp2_with (go_at_call 131; refine (post_at_nil _ g _ n (H.out.ext ((Touch.refl _ w).alloc _))).mono ?_; rintro e w' ⟨rfl, rfl⟩)
  refine bodyPost_ret (results_cell_tmp rfl _ _ ⟨w.heap.size, 0, none⟩ (.agg Packet.zero.cells) rfl ?_) rfl (.inl ⟨rfl, rfl, (Touch.refl _ w).alloc _⟩);exact load_block (x := Packet.zero) isPacket (heap_alloc_new _ _)
 ·obtain ⟨A, c, rfl, hc, hcm, hr⟩ := h.own.form;have hpos : 0 < l.length := List.length_pos_iff.2 hl0;have hi := rnd_lt n l.length hpos;obtain ⟨m, hm⟩ : ∃ m, l[rnd n l.length]? = some m := ⟨l[rnd n l.length], by simp [hi]⟩
  obtain ⟨ad, rfl, hadb, hat⟩ := hr _ m hm;have hLV : ∀ o, LV Tryz.prog 103 (ad.add (rnd n l.length * 9)) (w.alloc o) = .ok (.agg m.cells) (w.alloc o) := fun o => LV_Packet (hat.of_same (Below.heap_alloc _ _ _ (by unfold Addr.add; split <;> exact hadb)));have hne := h.own.elem h.cell (by decide);have hadg : ad.block ≠ g := fun e => hne (by simp [Value.ownBlock, e]);have hlt := h.lt;have hc0 := cell_of h.cell 0;have H := lh h;have HM := lh hm;have hi0 : (0 : Int) <= rnd n l.length := by omega
  have hi1 : ((rnd n l.length : Int) < 0) = False := by simp
  have hi2 : (rnd n l.length : Int) < l.length := by omega
  have hi3 : (rnd n l.length : Int) <= 100 := by omega
  have hl4 := lh hl;have hpos' := lh hpos;have hi' := lh hi;have hg1 : (w.heap.size = g) = False := by simp; omega
  have hg2 : (w.heap.size + 1 = g) = False := by simp; omega
  have HNE := lh hadg;clear h hr hcm hm hat hne hl hadg;go_enter Tryz.func91, Tryz.ntmps91
  go_wp2_with (first
   | (go_at_call 131; refine (post_at_pos _ g _ l n (H.out.ext ((Touch.refl _ w).alloc _)) hpos'.out).mono ?_; rintro e w' ⟨rfl, rfl⟩)
   | (go_at_call 132
      refine (delete_packets' _ ad c l (rnd n l.length) hi'.out ((H.out.ext (((Touch.refl _ w).alloc _).alloc _)).own) (by have := hl4.out; omega)).mono ?_;rintro e w1 ⟨n1, hn1, rfl, ho1, ht1⟩;have hb0 := ht1.blk (b := g) (o := .cells #[.slice (some ad) l.length c] 117 (0, 0)) (by simp only [heap_alloc_past, hlt, World.size_alloc, lt_size_add]; exact H.out.cell) (fun e => HNE.out e.symm);have hc1 := cell_of hb0 0;have hf1 := frozen_of hb0 0;have hb1 := ht1.blk (b := w.heap.size + 1) (o := .cells m.cells 103 (0, 0)) (by simp only [heap_alloc_at, World.size_alloc]) (fun e => by have := hadb; omega);have hb2 := ht1.blk (b := w.heap.size) (o := .cells Packet.zero.cells 103 (0, 0)) (by simp only [heap_alloc_at, heap_alloc_past, World.size_alloc, Nat.lt_add_one]) (fun e => by have := hadb; omega);have HN1 := lh hn1;have HO1 := lh ho1;clear hn1 ho1))
  have hadb' : ad.block < w.heap.size := hadb;have HH := (Holds.stored hb0 HO1.out (by decide)).setRow (b := w.heap.size) (fun hk => by rcases hk with e | e <;> simp [Value.ownBlock] at e hg1 <;> omega) m.cells;refine bodyPost_ret (results_cell_tmp rfl _ _ ⟨w.heap.size, 0, none⟩ (.agg m.cells) rfl ?_) rfl (.inr ⟨m, HM.out, rfl, _, HH, ?_, fun k hk => .inl hk⟩)
  ·exact load_block (x := m) isPacket (setRow_heap _ _ _ _ _ _ ((heap_setCell_other _ _ _ _ (by simpa using hg1)).trans hb2))
  ·exact ((((Touch.refl (foot g _) w).alloc _).alloc _).then ht1 (fun k hk => .inl (.inr (by subst hk; rfl)))).setCell (.inl (.inl rfl)) _ |>.setRow (.inr (Nat.le_refl _)) _
def DoublePost (w : World) (T g : Nat) (v : Value) (l : List Packet) (n : Int) (e : Ending) (w' : World) : Prop :=
 (¬ (0 < l.length /\ l.length < 40) /\ e = .returned (.bool false) /\ Ext w w') \/
 (0 < l.length /\ l.length < 40 /\ ∃ m, l[rnd n l.length]? = some m /\ e = .returned (.bool true) /\
  ∃ v', Holds w' g T 103 v' (l ++ [m]) /\ Touch (foot g v) w w' /\ ∀ k, v'.ownBlock = some k -> v.ownBlock = some k \/ w.heap.size <= k)
theorem DoublePost.of_send {w : World} {T g : Nat} {v : Value} {l : List Packet} {n : Int} {m : Packet} (hpos : 0 < l.length) (hm : l[rnd n l.length]? = some m) {e : Ending} {w' : World} (h : SendPost w T g v l m e w') : DoublePost w T g v l n e w' := by
 unfold SendPost at h;split at h
 ·rename_i hl;obtain ⟨he, v', h1, h2, h3⟩ := h;exact .inr ⟨hpos, hl, m, hm, he, v', h1, h2, h3⟩
 ·rename_i hl;exact .inl ⟨fun hh => hl hh.2, h⟩
theorem post_double (w : World) (g : Nat) (v : Value) (l : List Packet) (n : Int) (h : Holds w g 117 103 v l) (hl : l.length <= 40) :
 Calls Tryz.prog 128 #[.pointer (some ⟨g, 0, none⟩), .int .i64 n] w (DoublePost w 117 g v l n) := by
 by_cases hl0 : l = []
 ·subst hl0;have H := lh h;clear h;go_enter Tryz.func128, Tryz.ntmps128
  go_wp2_with (go_at_call 131; refine (post_at_nil _ g _ n H.out).mono ?_; rintro e w' ⟨rfl, rfl⟩)
  go_ret
  exact .inl ⟨by simp, rfl, Touch.refl _ w⟩
 ·obtain ⟨A, c, rfl, hc, hcm, hr⟩ := h.own.form;have hpos : 0 < l.length := List.length_pos_iff.2 hl0;have hi := rnd_lt n l.length hpos;obtain ⟨m, hm⟩ : ∃ m, l[rnd n l.length]? = some m := ⟨l[rnd n l.length], by simp [hi]⟩
  obtain ⟨ad, rfl, hadb, hat⟩ := hr _ m hm;have hLV : LV Tryz.prog 103 (ad.add (rnd n l.length * 9)) w = .ok (.agg m.cells) w := LV_Packet hat
  have hc0 := cell_of h.cell 0;have H := lh h;have HM := lh hm;have hi0 : (0 : Int) <= rnd n l.length := by omega
  have hi2 : (rnd n l.length : Int) < l.length := by omega
  have hi3 : (rnd n l.length : Int) <= 100 := by omega
  have hpos' := lh hpos;clear h hr hcm hm hat hl hc hl0;go_enter Tryz.func128, Tryz.ntmps128
  go_wp2_with (first
   | (go_at_call 131; refine (post_at_pos _ g _ l n H.out hpos'.out).mono ?_; rintro e w' ⟨rfl, rfl⟩)
   | (go_at_call 127; refine (post_send _ g _ l m H.out).mono ?_
      intro e w1 hs;have hs1 := DoublePost.of_send (n := n) hpos'.out HM.out hs;obtain ⟨b, hb⟩ : ∃ b, e = .returned (.bool b) := by rcases hs1 with ⟨_, he, _⟩ | ⟨_, _, _, _, he, _⟩ <;> exact ⟨_, he⟩
      subst hb;have HS := lh hs1;clear hs hs1))
  go_ret
  exact HS.out
def Mut {α : Type} [Lies α] (w : World) (g : Nat) (T E : TypeId) (v : Value) (l' : List α) (r : Value) (e : Ending) (w' : World) : Prop :=
 e = .returned r /\ ∃ v', Holds w' g T E v' l' /\ Touch (foot g v) w w' /\ ∀ k, v'.ownBlock = some k -> v.ownBlock = some k \/ w.heap.size <= k
theorem Mut.same {α : Type} [Lies α] {w : World} {g : Nat} {T E : TypeId} {v : Value} {l : List α} {r : Value} {e : Ending} {w' : World} (h : Holds w g T E v l) (he : e = .returned r) (hx : Ext w w') : Mut w g T E v l r e w' :=
 ⟨he, v, h.ext hx, hx.mono fun _ hk => hk.elim, fun _ hk => .inl hk⟩
theorem mut_of_send {w : World} {T g : Nat} {v : Value} {l : List Packet} {m : Packet} (h : Holds w g T 103 v l) {e : Ending} {w' : World} (hs : SendPost w T g v l m e w') : Mut w g T 103 v (pSend l m).2 (.bool (pSend l m).1) e w' := by
 unfold SendPost at hs;unfold pSend;split at hs
 ·rename_i hl;rw [if_pos hl];exact hs
 ·rename_i hl;rw [if_neg hl];exact Mut.same h hs.1 hs.2
theorem mut_of_take {w : World} {T g : Nat} {v : Value} {l : List Packet} {n : Int} (h : Holds w g T 103 v l) {e : Ending} {w' : World} (hs : TakePost w T g v l n e w') : Mut w g T 103 v (pTake l n).2.2 (.tuple #[.agg (pTake l n).1.cells, .bool (pTake l n).2.1]) e w' := by
 unfold pTake;rcases hs with ⟨rfl, he, hx⟩ | ⟨m, hm, he, hs⟩
 ·exact Mut.same h he hx
 ·rw [hm];exact ⟨he, hs⟩
theorem mut_of_double {w : World} {T g : Nat} {v : Value} {l : List Packet} {n : Int} (h : Holds w g T 103 v l) {e : Ending} {w' : World} (hs : DoublePost w T g v l n e w') : Mut w g T 103 v (pDouble l n).2 (.bool (pDouble l n).1) e w' := by
 unfold pDouble;rcases hs with ⟨hl, he, hx⟩ | ⟨hp, hl, m, hm, he, hs⟩
 ·split
  ·rename_i m hm
   have : 0 < l.length := by
    have := (lG hm).1; omega
   unfold pSend;rw [if_neg (fun h => hl ⟨this, h⟩)];exact Mut.same h he hx
  ·exact Mut.same h he hx
 ·rw [hm];simp only [pSend, if_pos hl];exact ⟨he, hs⟩
theorem post_send' (w : World) (g : Nat) (v : Value) (l : List Packet) (m : Packet) (h : Holds w g 117 103 v l) :
 Calls Tryz.prog 127 #[.pointer (some ⟨g, 0, none⟩), .agg m.cells] w (Mut w g 117 103 v (pSend l m).2 (.bool (pSend l m).1)) := (post_send w g v l m h).mono fun _ _ hs => mut_of_send h hs
theorem post_take' (w : World) (g : Nat) (v : Value) (l : List Packet) (n : Int) (h : Holds w g 117 103 v l) (hl : l.length <= 40) :
 Calls Tryz.prog 91 #[.pointer (some ⟨g, 0, none⟩), .int .i64 n] w (Mut w g 117 103 v (pTake l n).2.2 (.tuple #[.agg (pTake l n).1.cells, .bool (pTake l n).2.1])) := (post_take w g v l n h hl).mono fun _ _ hs => mut_of_take h hs
theorem post_double' (w : World) (g : Nat) (v : Value) (l : List Packet) (n : Int) (h : Holds w g 117 103 v l) (hl : l.length <= 40) :
 Calls Tryz.prog 128 #[.pointer (some ⟨g, 0, none⟩), .int .i64 n] w (Mut w g 117 103 v (pDouble l n).2 (.bool (pDouble l n).1)) := (post_double w g v l n h hl).mono fun _ _ hs => mut_of_double h hs
end Go.Proofs.YtalfbhhldfffkaaGreatDoor
