/- Post5: the walks of package post and of the reference Bag, on. -/
import Derived.Test.YtalfbhhldfffkaaPost4
namespace Go.Proofs.Ytalfbhhldfffkaa
open Go.RowKit

set_option maxHeartbeats 400000 in
set_option maxRecDepth 100000 in
theorem bag_take (w : World) (g : Nat) (v : Value) (l : List Packet) (n : Int) (h : Holds w g 27 33 v l) (hl : l.length ≤ 40) :
    Calls Try.prog 19 #[.pointer (some ⟨g, 0, none⟩), .int .i64 n] w (TakePost w 27 g v l n) := by
  by_cases hl0 : l = []
  · subst hl0
    obtain ⟨A, c, rfl, hc, hcm, hr⟩ := h.own.form
    have hc0 := cell_of h.cell 0
    have hlt := h.lt
    have H := Lib.hid h
    clear h hr hcm hc
    go_enter Try.func19, Try.ntmps19
    go_wp2
    refine bodyPost_ret (results_cell_tmp rfl _ _ ⟨w.heap.size, 0, none⟩ (.agg Packet.zero.cells) rfl ?_) rfl (.inl ⟨rfl, rfl, (Touch.refl _ w).alloc _⟩)
    exact load_block (x := Packet.zero) isPacket (heap_alloc_new _ _)
  · obtain ⟨A, c, rfl, hc, hcm, hr⟩ := h.own.form
    have hpos : 0 < l.length := List.length_pos_iff.2 hl0
    obtain ⟨ad, rfl, _⟩ := hr 0 l[0] (by simp)
    exact bag_take_some w g ad c l n h hl hpos

/-- Behind Double. -/
def DoublePost (w : World) (T g : Nat) (v : Value) (l : List Packet) (n : Int) (e : Ending) (w' : World) : Prop :=
  (¬ (0 < l.length ∧ l.length < 40) ∧ e = .returned (.bool false) ∧ Ext w w') ∨
  (0 < l.length ∧ l.length < 40 ∧ ∃ m, l[rnd n l.length]? = some m ∧ e = .returned (.bool true) ∧
    ∃ v', Holds w' g T 33 v' (l ++ [m]) ∧ Touch (foot g v) w w' ∧ ∀ k, v'.ownBlock = some k → v.ownBlock = some k ∨ w.heap.size ≤ k)
theorem DoublePost.of_send {w : World} {T g : Nat} {v : Value} {l : List Packet} {n : Int} {m : Packet} (hpos : 0 < l.length) (hm : l[rnd n l.length]? = some m) {e : Ending} {w' : World} (h : SendPost w T g v l m e w') : DoublePost w T g v l n e w' := by
  unfold SendPost at h
  split at h
  · rename_i hl
    obtain ⟨he, v', h1, h2, h3⟩ := h
    exact .inr ⟨hpos, hl, m, hm, he, v', h1, h2, h3⟩
  · rename_i hl
    exact .inl ⟨fun hh => hl hh.2, h⟩

set_option maxHeartbeats 400000 in
set_option maxRecDepth 100000 in
theorem post_double (w : World) (g : Nat) (v : Value) (l : List Packet) (n : Int) (h : Holds w g 96 33 v l) (hl : l.length ≤ 40) :
    Calls Try.prog 20 #[.pointer (some ⟨g, 0, none⟩), .int .i64 n] w (DoublePost w 96 g v l n) := by
  by_cases hl0 : l = []
  · subst hl0
    have H := Lib.hid h
    clear h
    go_enter Try.func20, Try.ntmps20
    go_wp2_with (go_at_call 62; refine (post_at_nil _ g _ n H.out).mono ?_; rintro e w' ⟨rfl, rfl⟩)
    go_ret
    exact .inl ⟨by simp, rfl, Touch.refl _ w⟩
  · obtain ⟨A, c, rfl, hc, hcm, hr⟩ := h.own.form
    have hpos : 0 < l.length := List.length_pos_iff.2 hl0
    have hi := rnd_lt n l.length hpos
    obtain ⟨m, hm⟩ : ∃ m, l[rnd n l.length]? = some m := ⟨l[rnd n l.length], by simp [hi]⟩
    obtain ⟨ad, rfl, hadb, hat⟩ := hr _ m hm
    have hLV : LV Try.prog 33 (ad.add (rnd n l.length * 9)) w = .ok (.agg m.cells) w := LV_Packet hat
    have hc0 := cell_of h.cell 0
    have H := Lib.hid h
    have HM := Lib.hid hm
    have hi0 : (0 : Int) ≤ rnd n l.length := by omega
    have hi2 : (rnd n l.length : Int) < l.length := by omega
    have hi3 : (rnd n l.length : Int) ≤ 100 := by omega
    have hpos' := Lib.hid hpos
    clear h hr hcm hm hat hl hc hl0
    go_enter Try.func20, Try.ntmps20
    go_wp2_with (first
      | (go_at_call 62; refine (post_at_pos _ g _ l n H.out hpos'.out).mono ?_; rintro e w' ⟨rfl, rfl⟩)
      | (go_at_call 16; refine (post_send _ g _ l m H.out).mono ?_
         intro e w1 hs
         have hs1 := DoublePost.of_send (n := n) hpos'.out HM.out hs
         obtain ⟨b, hb⟩ : ∃ b, e = .returned (.bool b) := by rcases hs1 with ⟨_, he, _⟩ | ⟨_, _, _, _, he, _⟩ <;> exact ⟨_, he⟩
         subst hb
         have HS := Lib.hid hs1
         clear hs hs1))
    go_ret
    exact HS.out

set_option maxHeartbeats 400000 in
set_option maxRecDepth 100000 in
theorem bag_double (w : World) (g : Nat) (v : Value) (l : List Packet) (n : Int) (h : Holds w g 27 33 v l) (hl : l.length ≤ 40) :
    Calls Try.prog 21 #[.pointer (some ⟨g, 0, none⟩), .int .i64 n] w (DoublePost w 27 g v l n) := by
  by_cases hl0 : l = []
  · subst hl0
    obtain ⟨A, c, rfl, hc, hcm, hr⟩ := h.own.form
    have hc0 := cell_of h.cell 0
    have H := Lib.hid h
    clear h hr hcm hc
    go_enter Try.func21, Try.ntmps21
    go_wp2
    go_ret
    exact .inl ⟨by simp, rfl, Touch.refl _ w⟩
  · obtain ⟨A, c, rfl, hc, hcm, hr⟩ := h.own.form
    have hpos : 0 < l.length := List.length_pos_iff.2 hl0
    have hi := rnd_lt n l.length hpos
    obtain ⟨m, hm⟩ : ∃ m, l[rnd n l.length]? = some m := ⟨l[rnd n l.length], by simp [hi]⟩
    obtain ⟨ad, rfl, hadb, hat⟩ := hr _ m hm
    have hLV : LV Try.prog 33 (ad.add (rnd n l.length * 9)) w = .ok (.agg m.cells) w := LV_Packet hat
    have hLVd : LV Try.prog 33 (ad.add (rnd n l.length * 9)) w.drew = .ok (.agg m.cells) w.drew := LV_Packet (w := w.drew) hat
    have hc0 := cell_of h.cell 0
    have H := Lib.hid h
    have HM := Lib.hid hm
    have hi0 : (0 : Int) ≤ rnd n l.length := by omega
    have hi2 : (rnd n l.length : Int) < l.length := by omega
    have hi3 : (rnd n l.length : Int) ≤ 100 := by omega
    have hl0' : ((l.length : Int) == 0) = false := beq_eq_false_iff_ne.2 (by omega)
    have hpos' := Lib.hid hpos
    clear h hr hcm hm hat hl hc hl0
    go_enter Try.func21, Try.ntmps21
    go_wp2_with fail
    go_region_law (first
      | (go_simp; go_at_call 64; refine (bag_at _ g _ l n (H.out.ext ((Touch.refl _ w).drew)) hpos'.out).mono ?_; rintro e w' ⟨rfl, rfl⟩)
      | (go_simp; go_at_call 17; refine (bag_send _ g _ l m (H.out.ext ((Touch.refl _ w).drew))).mono ?_
         intro e w1 hs
         have hs1 := DoublePost.of_send (n := n) hpos'.out HM.out hs
         obtain ⟨b, hb⟩ : ∃ b, e = .returned (.bool b) := by rcases hs1 with ⟨_, he, _⟩ | ⟨_, _, _, _, he, _⟩ <;> exact ⟨_, he⟩
         subst hb
         have HS := Lib.hid hs1
         clear hs hs1))
    all_goals
      go_wp2
      go_ret
      rcases HS.out with ⟨h1, he, ht⟩ | ⟨h1, h2, m', h3, he, v', h4, ht, h5⟩
      · exact .inl ⟨h1, he, ((Touch.refl _ w).drew).trans ht⟩
      · exact .inr ⟨h1, h2, m', h3, he, v', h4, ((Touch.refl _ w).drew).trans ht, h5⟩

theorem samePackets_of_take {l r : List Packet} (h : l.length = r.length) (k : Nat) (hk : l.length ≤ k) (ht : l.take k = r.take k) : l = r := by
  rw [List.take_of_length_le hk, List.take_of_length_le (by omega)] at ht; exact ht
def SamePost {α : Type} [DecidableEq α] (w : World) (l r : List α) (e : Ending) (w' : World) : Prop := e = .returned (.bool (decide (l = r))) ∧ ∃ n, w' = w.drewN n
theorem take_succ_eq {α : Type} {l r : List α} {k : Nat} {p : α} (h : l[k]? = some p) (h2 : r[k]? = some p) (ht : l.take k = r.take k) : l.take (k+1) = r.take (k+1) := by
  rw [List.take_add_one, List.take_add_one, h, h2, ht]

set_option maxHeartbeats 400000 in
set_option maxRecDepth 100000 in
theorem samePackets (w : World) (B : Nat) (A A' : Option Addr) (l r : List Packet) (c c' : Nat) (hl : Reads w B A l) (hr : Reads w B A' r) (hm : l.length < 1000000) (hm' : r.length < 10000000) :
    Calls Try.prog 23 #[.slice A l.length c, .slice A' r.length c'] w (SamePost w l r) := by
  have H := Lib.hid hl
  have H' := Lib.hid hr
  clear hl hr
  by_cases hlen : l.length = r.length
  · have HL := Lib.hid hlen
    have e1 : ((l.length : Int) != (r.length : Int)) = false := by simp [hlen]
    clear hlen
    go_enter Try.func23, Try.ntmps23
    go_wp2
    go_loopw [5] (fun i wr => ∃ k n : Nat, wr = w.drewN n ∧ i = .int .i64 k ∧ k ≤ l.length ∧ l.take k = r.take k) (fun i _ => l.length - (intOf i).toNat)
    case atStart => exact ⟨0, 0, rfl, rfl, Nat.zero_le _, by simp⟩
    case round =>
      obtain ⟨k, n, rfl, rfl, hk, ht⟩ := hrel
      have HT := Lib.hid ht
      clear ht
      by_cases hlt : k < l.length
      · obtain ⟨p, hp⟩ : ∃ p, l[k]? = some p := ⟨l[k], by simp⟩
        have hlt' : k < r.length := by have := HL.out; omega
        obtain ⟨q, hq⟩ : ∃ q, r[k]? = some q := ⟨r[k], by simp⟩
        obtain ⟨ad, rfl, had, hrow⟩ := H.out k p hp
        obtain ⟨ad', rfl, had', hrow'⟩ := H'.out k q hq
        have h1 : ∀ n, LV Try.prog 33 (ad.add (k * 9)) (w.drewN n) = .ok (.agg p.cells) (w.drewN n) := fun n => LV_Packet (w := w.drewN n) hrow
        have h2 : ∀ n, LV Try.prog 33 (ad'.add (k * 9)) (w.drewN n) = .ok (.agg q.cells) (w.drewN n) := fun n => LV_Packet (w := w.drewN n) hrow'
        have HP := Lib.hid hp
        have HQ := Lib.hid hq
        clear hp hq hrow hrow'
        by_cases hpq : p = q
        · subst hpq
          go_wp2
          go_quiet (fail)
          go_wp2
          go_roundw
          case rel => exact ⟨k + 1, _, rfl, by go_num, by omega, take_succ_eq HP.out HQ.out HT.out⟩
          case measure => simp [intOf]; omega
        · have hd : decide (p = q) = false := by simp [hpq]
          have HPQ := Lib.hid hpq
          clear hpq
          go_wp2
          go_quiet (fail)
          go_wp2
          go_ret
          exact ⟨by rw [decide_eq_false (by rintro rfl; have h1 := HP.out; rw [HQ.out] at h1; exact HPQ.out (Option.some.inj h1).symm)]; rfl, n + nq, by first | rfl | rw [World.drewN_drewN]⟩
      · go_wp2
        go_ret
        exact ⟨by rw [decide_eq_true (samePackets_of_take HL.out k (by omega) HT.out)]; rfl, n, rfl⟩
  · have e1 : ((l.length : Int) != (r.length : Int)) = true := by rw [bne_iff_ne]; omega
    have HL := Lib.hid hlen
    clear hlen
    go_enter Try.func23, Try.ntmps23
    go_wp2
    go_ret
    exact ⟨by rw [decide_eq_false (by rintro rfl; exact HL.out rfl)]; rfl, 0, rfl⟩
end Go.Proofs.Ytalfbhhldfffkaa
