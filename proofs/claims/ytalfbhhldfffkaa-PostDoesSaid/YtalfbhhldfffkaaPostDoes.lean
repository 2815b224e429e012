/- PostDoes: for every list of steps the law returns true and leaves its argument as it was. No condition. -/
import Derived.Test.YtalfbhhldfffkaaPair
import Derived.Test.YtalfbhhldfffkaaRead
namespace Go.Proofs.Ytalfbhhldfffkaa
open Go.RowKit

/-- Post and Bag hold the same list. -/
def Both (W wr : World) (gp gb : Nat) (L : List Packet) : Prop :=
  ∃ vp vb, Pair W wr 96 27 33 gp gb vp vb L ∧ L.length ≤ 40

set_option maxHeartbeats 4000000 in
set_option maxRecDepth 100000 in
theorem postDoes_small (W : World) (A : Option Addr) (c : Nat) (l : List PostStep) (hr : Reads W W.heap.size A l) (hl : l.length ≤ 200) :
    Calls Try.prog 3 #[.slice A l.length c] W fun e w' => e = .returned (.bool true) ∧ Ext W w' := by
  have HR := Lib.hid hr
  have hl' : ¬ 200 < l.length := by omega
  clear hr
  go_enter Try.func3, Try.ntmps3
  go_wp2_with fail
  refine (post_begun _).mono ?_
  rintro e w1 ⟨rfl, he1⟩
  have E1 := Lib.hid he1
  clear he1
  go_wp2_with fail
  refine (post_new _).mono ?_
  rintro e w2 ⟨rfl, rfl⟩
  go_wp2_with fail
  have hB0 : Both W ((w1.alloc (.cells #[.slice none 0 0] 96)).alloc (.cells #[.slice none 0 0] 27)) w1.heap.size (w1.heap.size + 1) [] := by
    have hb := Holds.new (α := Packet) (w1.alloc (.cells #[.slice none 0 0] 96)) 27 33
    have fb := foot_new (w1.alloc (.cells #[.slice none 0 0] 96))
    simp only [World.size_alloc] at hb fb
    have hE := E1.out.size
    refine ⟨_, _, ⟨(Holds.new w1 _ _).ext ((Touch.refl _ _).alloc _), hb, fun k hk => by have := foot_new w1 k hk; omega, fun k hk => by have := fb k hk; omega, fun k hk hk' => ?_, (E1.out.alloc _).alloc _⟩, by simp⟩
    have h1 := fb k hk'
    rcases hk with rfl | hk
    · omega
    · simp [Value.ownBlock] at hk
  have HB0 := Lib.hid hB0
  clear hB0
  generalize hgp : w1.heap.size = gp at *
  generalize hgb : gp + 1 = gb at *
  generalize hw2 : (w1.alloc (.cells #[.slice none 0 0] 96)).alloc (.cells #[.slice none 0 0] 27) = w2 at *
  clear hw2 hgp hgb
  go_loopw [5] (fun i wr => ∃ (k : Nat) (L : List Packet), i = .int .i64 k ∧ k ≤ l.length ∧ Both W wr gp gb L) (fun i _ => l.length - (intOf i).toNat)
  case atStart => exact ⟨0, [], rfl, Nat.zero_le _, HB0.out⟩
  case round =>
    obtain ⟨k, L, rfl, hk, vp, vb, P0, hL0⟩ := hrel
    by_cases hlt : k < l.length
    · obtain ⟨x, hx⟩ : ∃ x, l[k]? = some x := ⟨l[k], by simp [hlt]⟩
      obtain ⟨ad, rfl, had, hat⟩ := HR.out k x hx
      have hadk : (ad.add (k * 11)).block = ad.block := by unfold Addr.add; split <;> rfl
      have hLV : LV Try.prog 35 (ad.add (k * 11)) wr = .ok (.agg x.cells) wr := LV_PostStep (hat.of_same (P0.ex.block _ (by show (ad.add (k * 11)).block < _; rw [hadk]; exact had) id))
      have P := Lib.hid P0
      have HL := Lib.hid hL0
      clear P0 hL0 hx hat had hadk
      by_cases h0 : x.do_ = 0
      · have hd0 : (x.do_ == 0) = true := beq_iff_eq.2 h0
        clear h0
        go_wp2_with fail
        go_region_held3 (fun w' => w'.heap[wr.heap.size]? = some (.cells x.cells 35 (0, 0))) (first | exact hx4 | exact hx3 | (simp only [heap_drew', heap_alloc_at]))
          (first
            | (go_at_call 16
               refine (post_send' _ gp vp L x.m (P.out.hp.ext (((Touch.refl _ wr).alloc _).drew))).mono ?_
               rintro e w3 ⟨rfl, vp3, hp3, tp3, fp3⟩
               have hx3 := tp3.blk (b := wr.heap.size) (o := .cells x.cells 35 (0, 0)) (by simp only [heap_drew', heap_alloc_at]) (P.out.keeps (Nat.le_refl _)).1)
            | (go_at_call 17
               refine (bag_send' _ gb vb L x.m (P.out.second (((Touch.refl _ wr).alloc _).drew) tp3 (Touch.refl _ _))).mono ?_
               rintro e w4 ⟨rfl, vb4, hb4, tb4, fb4⟩
               have hx4 := tb4.blk (b := wr.heap.size) hx3 (P.out.keeps (Nat.le_refl _)).2))
        have P' := Lib.hid (P.out.turn (((Touch.refl _ wr).alloc _).drew) hp3 tp3 fp3 (Touch.refl _ _) hb4 tb4 fb4)
        have hL' := Lib.hid (pSend_le x.m HL.out)
        clear P HL hp3 tp3 fp3 hb4 tb4 fb4 hx3 hx4
        generalize (pSend L x.m).2 = L' at *
        go_wp2_with fail
        obtain ⟨A', c', rfl, hcA, hcm, hrd⟩ := P'.out.hb.own.form
        have hc0 := cell_of P'.out.hb.cell 0
        have e1 : ((L'.length : Int) != (L'.length : Int)) = false := by simp
        clear hcA hrd
        go_region_held3 (fun w' => w'.cell? ⟨gb, 0, none⟩ = some (.slice A' L'.length c')) (first | exact hc5 | exact hc0)
          (first
            | (go_at_call 22
               refine (post_len _ gp _ L' (P'.out.hp.ext ((Touch.refl _ _).drew))).mono ?_
               rintro e w5 ⟨rfl, rfl⟩)
            | (go_at_call 24
               refine (post_list _ gp _ L' (P'.out.hp.ext ((Touch.refl _ _).drew)) hL'.out).mono ?_
               rintro e w6 ⟨A6, c6, rfl, ho6, he6, hf6⟩
               have hc5 := cell_of (P'.out.hb.ext (((Touch.refl _ _).drew).trans he6)).cell 0
               have HO6 := Lib.hid ho6
               have HE6 := Lib.hid he6
               clear ho6 he6 hf6)
            | (go_at_call 23
               refine (samePackets_yes _ _ _ _ L' _ _ (Owns.reads HO6.out) (Holds.reads (P'.out.hb.ext (((Touch.refl _ _).drew).trans HE6.out))) hL'.out).mono ?_
               rintro e w7 ⟨rfl, n7, rfl⟩))
        go_wp2
        go_roundw
        case rel => exact ⟨k + 1, L', by go_num, by omega, _, _, P'.out.ext ((((Touch.refl _ _).drew).trans HE6.out).drewN _), hL'.out⟩
        case measure => simp [intOf]; omega
      have hd0 : (x.do_ == 0) = false := beq_eq_false_iff_ne.2 h0
      by_cases h1 : x.do_ = 1
      · have hd1 : (x.do_ == 1) = true := beq_iff_eq.2 h1
        clear h0 h1
        go_wp2_with (first
          | (go_at_call 18
             refine (post_take' _ gp vp L x.n (P.out.hp.ext (((Touch.refl _ wr).alloc _))) HL.out).mono ?_
             rintro e w3 ⟨rfl, vp3, hp3, tp3, fp3⟩
             have hx3 := tp3.blk (b := wr.heap.size) (o := .cells x.cells 35 (0, 0)) (by simp only [heap_alloc_at]) (P.out.keeps (Nat.le_refl _)).1
             have hx3' := fun o => ((Touch.refl (fun _ => False) w3).alloc o).blk hx3 id
             have hx3c : ∀ o, (w3.alloc o).cell? ⟨wr.heap.size, 1, none⟩ = some (.int .i64 x.n) := fun o => cell_of (hx3' o) 1)
          | (go_at_call 19
             refine (bag_take' _ gb vb L x.n (P.out.second (((Touch.refl _ wr).alloc _)) tp3 ((Touch.refl _ _).alloc _)) HL.out).mono ?_
             rintro e w4 ⟨rfl, vb4, hb4, tb4, fb4⟩
             have hm4 := tb4.blk (b := w3.heap.size) (o := .cells (pTake L x.n).1.cells 33 (0, 0)) (heap_alloc_new _ _) (fun hk => by have := (P.out.second (((Touch.refl _ wr).alloc _)) tp3 (Touch.refl _ _)).foot_lt _ hk; omega)
             have hm4' := fun o => ((Touch.refl (fun _ => False) w4).alloc o).blk hm4 id))
        have P' := Lib.hid ((P.out.turn ((Touch.refl _ wr).alloc _) hp3 tp3 fp3 ((Touch.refl _ w3).alloc (.cells (pTake L x.n).1.cells 33 (0, 0))) hb4 tb4 fb4).ext ((Touch.refl _ _).alloc (.cells (pTake L x.n).1.cells 33 (0, 0))))
        have hL' := Lib.hid (pTake_le x.n HL.out)
        clear P HL hp3 tp3 fp3 hb4 tb4 fb4 hx3 hx3' hx3c hm4 hm4'
        generalize (pTake L x.n).2.2 = L' at *
        obtain ⟨A', c', rfl, hcA, hcm, hrd⟩ := P'.out.hb.own.form
        have hc0 := cell_of P'.out.hb.cell 0
        have e1 : ((L'.length : Int) != (L'.length : Int)) = false := by simp
        clear hcA hrd
        go_region_held3 (fun w' => w'.cell? ⟨gb, 0, none⟩ = some (.slice A' L'.length c')) (first | exact hc5 | exact hc0)
          (first
            | (go_at_call 22
               refine (post_len _ gp _ L' (P'.out.hp.ext ((Touch.refl _ _).drew))).mono ?_
               rintro e w5 ⟨rfl, rfl⟩)
            | (go_at_call 24
               refine (post_list _ gp _ L' (P'.out.hp.ext ((Touch.refl _ _).drew)) hL'.out).mono ?_
               rintro e w6 ⟨A6, c6, rfl, ho6, he6, hf6⟩
               have hc5 := cell_of (P'.out.hb.ext (((Touch.refl _ _).drew).trans he6)).cell 0
               have HO6 := Lib.hid ho6
               have HE6 := Lib.hid he6
               clear ho6 he6 hf6)
            | (go_at_call 23
               refine (samePackets_yes _ _ _ _ L' _ _ (Owns.reads HO6.out) (Holds.reads (P'.out.hb.ext (((Touch.refl _ _).drew).trans HE6.out))) hL'.out).mono ?_
               rintro e w7 ⟨rfl, n7, rfl⟩))
        go_wp2
        go_roundw
        case rel => exact ⟨k + 1, L', by go_num, by omega, _, _, P'.out.ext ((((Touch.refl _ _).drew).trans HE6.out).drewN _), hL'.out⟩
        case measure => simp [intOf]; omega
      have hd1 : (x.do_ == 1) = false := beq_eq_false_iff_ne.2 h1
      by_cases h2 : x.do_ = 2
      · have hd2 : (x.do_ == 2) = true := beq_iff_eq.2 h2
        clear h0 h1 h2
        go_wp2_with fail
        have hx0 : ((wr.alloc (.cells x.cells 35 (0, 0))).drew).heap[wr.heap.size]? = some (.cells x.cells 35 (0, 0)) := by simp only [heap_drew', heap_alloc_at]
        go_region_held3 (fun w' => w'.cell? ⟨wr.heap.size, 1, none⟩ = some (.int .i64 x.n)) (first | exact cell_of hx4 1 | exact cell_of hx3 1 | exact cell_of hx0 1)
          (first
            | (go_at_call 20
               refine (post_double' _ gp vp L x.n (P.out.hp.ext (((Touch.refl _ wr).alloc _).drew)) HL.out).mono ?_
               rintro e w3 ⟨rfl, vp3, hp3, tp3, fp3⟩
               have hx3 := tp3.blk (b := wr.heap.size) (o := .cells x.cells 35 (0, 0)) (by simp only [heap_drew', heap_alloc_at]) (P.out.keeps (Nat.le_refl _)).1)
            | (go_at_call 21
               refine (bag_double' _ gb vb L x.n (P.out.second (((Touch.refl _ wr).alloc _).drew) tp3 (Touch.refl _ _)) HL.out).mono ?_
               rintro e w4 ⟨rfl, vb4, hb4, tb4, fb4⟩
               have hx4 := tb4.blk (b := wr.heap.size) hx3 (P.out.keeps (Nat.le_refl _)).2))
        have P' := Lib.hid (P.out.turn (((Touch.refl _ wr).alloc _).drew) hp3 tp3 fp3 (Touch.refl _ _) hb4 tb4 fb4)
        have hL' := Lib.hid (pDouble_le x.n HL.out)
        clear P HL hp3 tp3 fp3 hb4 tb4 fb4 hx3 hx4
        generalize (pDouble L x.n).2 = L' at *
        go_wp2_with fail
        obtain ⟨A', c', rfl, hcA, hcm, hrd⟩ := P'.out.hb.own.form
        have hc0 := cell_of P'.out.hb.cell 0
        have e1 : ((L'.length : Int) != (L'.length : Int)) = false := by simp
        clear hcA hrd
        go_region_held3 (fun w' => w'.cell? ⟨gb, 0, none⟩ = some (.slice A' L'.length c')) (first | exact hc5 | exact hc0)
          (first
            | (go_at_call 22
               refine (post_len _ gp _ L' (P'.out.hp.ext ((Touch.refl _ _).drew))).mono ?_
               rintro e w5 ⟨rfl, rfl⟩)
            | (go_at_call 24
               refine (post_list _ gp _ L' (P'.out.hp.ext ((Touch.refl _ _).drew)) hL'.out).mono ?_
               rintro e w6 ⟨A6, c6, rfl, ho6, he6, hf6⟩
               have hc5 := cell_of (P'.out.hb.ext (((Touch.refl _ _).drew).trans he6)).cell 0
               have HO6 := Lib.hid ho6
               have HE6 := Lib.hid he6
               clear ho6 he6 hf6)
            | (go_at_call 23
               refine (samePackets_yes _ _ _ _ L' _ _ (Owns.reads HO6.out) (Holds.reads (P'.out.hb.ext (((Touch.refl _ _).drew).trans HE6.out))) hL'.out).mono ?_
               rintro e w7 ⟨rfl, n7, rfl⟩))
        go_wp2
        go_roundw
        case rel => exact ⟨k + 1, L', by go_num, by omega, _, _, P'.out.ext ((((Touch.refl _ _).drew).trans HE6.out).drewN _), hL'.out⟩
        case measure => simp [intOf]; omega
      · have hd2 : (x.do_ == 2) = false := beq_eq_false_iff_ne.2 h2
        clear h0 h1 h2
        have P' := Lib.hid (P.out.ext ((Touch.refl _ wr).alloc (.cells x.cells 35 (0, 0))))
        have hL' := HL
        clear P HL
        generalize L = L' at *
        go_wp2_with fail
        obtain ⟨A', c', rfl, hcA, hcm, hrd⟩ := P'.out.hb.own.form
        have hc0 := cell_of P'.out.hb.cell 0
        have e1 : ((L'.length : Int) != (L'.length : Int)) = false := by simp
        clear hcA hrd
        go_region_held3 (fun w' => w'.cell? ⟨gb, 0, none⟩ = some (.slice A' L'.length c')) (first | exact hc5 | exact hc0)
          (first
            | (go_at_call 22
               refine (post_len _ gp _ L' (P'.out.hp.ext ((Touch.refl _ _).drew))).mono ?_
               rintro e w5 ⟨rfl, rfl⟩)
            | (go_at_call 24
               refine (post_list _ gp _ L' (P'.out.hp.ext ((Touch.refl _ _).drew)) hL'.out).mono ?_
               rintro e w6 ⟨A6, c6, rfl, ho6, he6, hf6⟩
               have hc5 := cell_of (P'.out.hb.ext (((Touch.refl _ _).drew).trans he6)).cell 0
               have HO6 := Lib.hid ho6
               have HE6 := Lib.hid he6
               clear ho6 he6 hf6)
            | (go_at_call 23
               refine (samePackets_yes _ _ _ _ L' _ _ (Owns.reads HO6.out) (Holds.reads (P'.out.hb.ext (((Touch.refl _ _).drew).trans HE6.out))) hL'.out).mono ?_
               rintro e w7 ⟨rfl, n7, rfl⟩))
        go_wp2
        go_roundw
        case rel => exact ⟨k + 1, L', by go_num, by omega, _, _, P'.out.ext ((((Touch.refl _ _).drew).trans HE6.out).drewN _), hL'.out⟩
        case measure => simp [intOf]; omega
    · go_wp2
      go_ret
      exact ⟨rfl, P0.ex⟩

set_option maxHeartbeats 400000 in
set_option maxRecDepth 100000 in
theorem postDoes (W : World) (A : Option Addr) (c : Nat) (l : List PostStep) (hr : Reads W W.heap.size A l) :
    Calls Try.prog 3 #[.slice A l.length c] W fun e w' => e = .returned (.bool true) ∧ Ext W w' := by
  by_cases hl : l.length ≤ 200
  · exact postDoes_small W A c l hr hl
  · have hl' : 200 < l.length := by omega
    clear hl hr
    go_enter Try.func3, Try.ntmps3
    go_wp2_with fail
    refine (post_begun _).mono ?_
    rintro e w1 ⟨rfl, he1⟩
    have E1 := Lib.hid he1
    clear he1
    go_wp2
    go_ret
    exact ⟨rfl, E1.out⟩
end Go.Proofs.Ytalfbhhldfffkaa
