/- PostOrder: for every list of steps and every last step the law returns true and leaves its arguments as they were. No condition. -/
import Derived.Test.YtalfbhhldfffkaaPair
import Derived.Test.YtalfbhhldfffkaaRead
namespace Go.Proofs.Ytalfbhhldfffkaa
open Go.RowKit

/-- Post holds L. -/
def Alone (W wr : World) (gp : Nat) (L : List Packet) : Prop :=
  ∃ vp, Beside (β := Packet) W wr 96 33 33 gp vp L (.slice none 0 0) [] ∧ L.length ≤ 40

set_option maxHeartbeats 4000000 in
set_option maxRecDepth 100000 in
theorem postOrder_small (W : World) (A : Option Addr) (c : Nat) (l : List PostStep) (x : PostStep) (hr : Reads W W.heap.size A l) (hl : l.length ≤ 200) :
    Calls Try.prog 5 #[.slice A l.length c, .agg x.cells] W fun e w' => e = .returned (.bool true) ∧ Ext W w' := by
  have HR := Lib.hid hr
  have hl' : ¬ 200 < l.length := by omega
  clear hr
  go_enter Try.func5, Try.ntmps5
  go_wp2_with fail
  have hWx : (W.alloc (.cells x.cells 35)).heap[W.heap.size]? = some (.cells x.cells 35 (0, 0)) := heap_alloc_new _ _
  have E0 := Lib.hid ((Touch.refl (fun _ => False) W).alloc (.cells x.cells 35))
  have HR1 := Lib.hid (HR.out.below (w' := W.alloc (.cells x.cells 35)) (fun k hk => Below.heap_alloc _ _ _ hk))
  generalize hW1 : W.alloc (.cells x.cells 35) = W1 at *
  have hWs : W.heap.size < W1.heap.size := (Array.getElem?_eq_some_iff.1 hWx).1
  clear hW1 HR
  generalize hxb : W.heap.size = xb at *
  refine (post_begun _).mono ?_
  rintro e w1 ⟨rfl, he1⟩
  have E1 := Lib.hid he1
  clear he1
  go_wp2_with fail
  refine (post_new _).mono ?_
  rintro e w2 ⟨rfl, rfl⟩
  go_wp2_with fail
  have hB0 : Alone W1 (w1.alloc (.cells #[.slice none 0 0] 96)) w1.heap.size [] := by
    have hE := E1.out.size
    exact ⟨_, ⟨Holds.new w1 _ _, Owns.nil _ _, fun k hk => by have := foot_new w1 k hk; omega, fun k hk => by simp [Value.ownBlock] at hk, fun k hk hk' => by simp [Value.ownBlock] at hk', E1.out.alloc _⟩, by simp⟩
  have HB0 := Lib.hid hB0
  clear hB0
  generalize hgp : w1.heap.size = gp at *
  generalize hw2 : w1.alloc (.cells #[.slice none 0 0] 96) = w2 at *
  clear hw2 hgp
  go_loopw [6] (fun i wr => ∃ (k : Nat) (L : List Packet), i = .int .i64 k ∧ k ≤ l.length ∧ Alone W1 wr gp L) (fun i _ => l.length - (intOf i).toNat)
  case atStart => exact ⟨0, [], rfl, Nat.zero_le _, HB0.out⟩
  case round =>
    obtain ⟨k, L, rfl, hk, vp, P0, hL0⟩ := hrel
    have P := Lib.hid P0
    have HL := Lib.hid hL0
    clear hL0
    by_cases hlt : k < l.length
    · obtain ⟨y, hy⟩ : ∃ y, l[k]? = some y := ⟨l[k], by simp [hlt]⟩
      obtain ⟨ad, rfl, had, hat⟩ := HR1.out k y hy
      have hadk : (ad.add (k * 11)).block = ad.block := by unfold Addr.add; split <;> rfl
      have HA : Hid (At wr (ad.add (k * 11)) y) := hat.of_same (P0.ex.block _ (by show (ad.add (k * 11)).block < _; rw [hadk]; omega) id)
      clear P0 hy hat had hadk
      have hc0 : wr.cell? (ad.add (k * 11)) = some (.int .i64 y.do_) := HA.out 0 _ rfl
      have hc1 : wr.cell? ⟨(ad.add (k * 11)).block, (ad.add (k * 11)).off + 1, none⟩ = some (.int .i64 y.n) := HA.out 1 _ rfl
      have hLVm : LVo Try.prog 33 9 (ad.add (k * 11)).block ((ad.add (k * 11)).off + 2) wr (wr.heap[(ad.add (k * 11)).block]?) = .ok (.agg y.m.cells) wr :=
        (LVb_Packet _ _ _).symm.trans (LV_Packet (At.part HA.out y.m 2 (PostStep.part y)))
      by_cases h0 : y.do_ = 0
      · have hd0 : (y.do_ == 0) = true := beq_iff_eq.2 h0
        clear h0
        go_wp2_with (go_at_call 16
                     refine (post_send' _ gp vp L y.m P.out.hp).mono ?_
                     rintro e w3 ⟨rfl, vp3, hp3, tp3, fp3⟩
                     have P3 := Lib.hid (P.out.turn (Touch.refl _ wr) hp3 tp3 fp3)
                     clear hp3 tp3 fp3)
        go_roundw
        case rel => exact ⟨k + 1, _, by go_num, by omega, _, P3.out, pSend_le _ HL.out⟩
        case measure => simp [intOf]; omega
      have hd0 : (y.do_ == 0) = false := beq_eq_false_iff_ne.2 h0
      by_cases h1 : y.do_ = 1
      · have hd1 : (y.do_ == 1) = true := beq_iff_eq.2 h1
        clear h0 h1
        go_wp2_with (go_at_call 18
                     refine (post_take' _ gp vp L y.n P.out.hp HL.out).mono ?_
                     rintro e w3 ⟨rfl, vp3, hp3, tp3, fp3⟩
                     have P3 := Lib.hid (P.out.turn (Touch.refl _ wr) hp3 tp3 fp3)
                     clear hp3 tp3 fp3)
        go_roundw
        case rel => exact ⟨k + 1, _, by go_num, by omega, _, P3.out, pTake_le _ HL.out⟩
        case measure => simp [intOf]; omega
      have hd1 : (y.do_ == 1) = false := beq_eq_false_iff_ne.2 h1
      by_cases h2 : y.do_ = 2
      · have hd2 : (y.do_ == 2) = true := beq_iff_eq.2 h2
        clear h0 h1 h2
        go_wp2_with (go_at_call 20
                     refine (post_double' _ gp vp L y.n P.out.hp HL.out).mono ?_
                     rintro e w3 ⟨rfl, vp3, hp3, tp3, fp3⟩
                     have P3 := Lib.hid (P.out.turn (Touch.refl _ wr) hp3 tp3 fp3)
                     clear hp3 tp3 fp3)
        go_roundw
        case rel => exact ⟨k + 1, _, by go_num, by omega, _, P3.out, pDouble_le _ HL.out⟩
        case measure => simp [intOf]; omega
      · have hd2 : (y.do_ == 2) = false := beq_eq_false_iff_ne.2 h2
        clear h0 h1 h2
        go_wp2_with fail
        go_roundw
        case rel => exact ⟨k + 1, _, by go_num, by omega, _, P.out, HL.out⟩
        case measure => simp [intOf]; omega
    · clear P0
      have hX := P.out.ex.blk hWx id
      go_wp2_with fail
      refine (post_list _ gp _ L P.out.hp HL.out).mono ?_
      rintro e w6 ⟨A6, c6, rfl, ho6, he6, hf6⟩
      have P6 := Lib.hid (P.out.ext he6)
      have hx6 := he6.blk hX id
      have hcx0 : w6.cell? ⟨xb, 0, none⟩ = some (.int .i64 x.do_) := cell_of hx6 0
      have hcx1 : w6.cell? ⟨xb, 1, none⟩ = some (.int .i64 x.n) := cell_of hx6 1
      have HO6 := Lib.hid ho6
      have hlt6 := P.out.hp.foot_lt
      have HF6 : Hid (∀ k, (Value.slice A6 L.length c6).ownBlock = some k → ¬ foot gp vp k) := fun k hk hk' => by have h1 := hf6 k hk; have h2 := hlt6 k hk'; omega
      have HXF : Hid (¬ foot gp vp xb) := fun hk => by have := P.out.fp _ hk; omega
      clear ho6 he6 hf6 hlt6 P hX
      by_cases h1 : x.do_ = 1
      · have hd1 : (x.do_ == 1) = true := beq_iff_eq.2 h1
        clear h1
        by_cases hl0 : L = []
        · subst hl0
          have ht1 : (pTake ([] : List Packet) x.n).1 = Packet.zero := by simp [pTake]
          have ht2 : (pTake ([] : List Packet) x.n).2.1 = false := by simp [pTake]
          have ht3 : (pTake ([] : List Packet) x.n).2.2 = [] := by simp [pTake]
          go_wp2_with (first
            | (go_at_call 18
               refine (post_take' _ gp vp [] x.n P6.out.hp HL.out).mono ?_
               rw [ht1, ht2, ht3]
               rintro e w3 ⟨rfl, vp3, hp3, tp3, fp3⟩
               have P3 := Lib.hid (P6.out.turn (Touch.refl _ w6) hp3 tp3 fp3)
               clear hp3 tp3 fp3)
            | (go_at_call 24
               refine (post_list _ gp _ [] (P3.out.hp.ext ((Touch.refl _ w3).alloc _)) HL.out).mono ?_
               rintro e w7 ⟨A7, c7, rfl, ho7, he7, hf7⟩
               have HE7 := Lib.hid he7
               clear ho7 he7 hf7))
          go_ret
          exact ⟨rfl, E0.out.trans ((P3.out.ext ((Touch.refl _ w3).alloc _)).ex.trans HE7.out)⟩
        have hpos : 0 < L.length := List.length_pos_iff.2 hl0
        have hi := rnd_lt x.n L.length hpos
        obtain ⟨m, hm⟩ : ∃ m, L[rnd x.n L.length]? = some m := ⟨L[rnd x.n L.length], by simp [hi]⟩
        have ht1 : (pTake L x.n).1 = m := by simp [pTake, hm]
        have ht2 : (pTake L x.n).2.1 = true := by simp [pTake, hm]
        have ht3 : (pTake L x.n).2.2 = L.take (rnd x.n L.length) ++ L.drop (rnd x.n L.length + 1) := by simp [pTake, hm]
        obtain ⟨L', hL'⟩ : ∃ L', L' = L.take (rnd x.n L.length) ++ L.drop (rnd x.n L.length + 1) := ⟨_, rfl⟩
        have hl40 : L'.length ≤ 40 := by have := HL.out; rw [hL']; simp; omega
        have hL0 : ((L.length : Int) == 0) = false := beq_eq_false_iff_ne.2 (by omega)
        have hidx := rnd_wrap x.n L.length hpos (by have := HL.out; omega)
        have HM := Lib.hid hm
        rw [← hL'] at ht3
        obtain ⟨adR, hAR, _, _⟩ := HO6.out.reads _ m hm
        obtain ⟨A, c', hv, hc, hcm, _⟩ := HO6.out.form
        injection hv with hv1 hv2 hv3
        subst hv3
        subst hAR
        clear hm hl0 hv1 hv2 hcm
        generalize rnd x.n L.length = j at *
        have HL' := Lib.hid hL'
        have HL40 := Lib.hid hl40
        have hj0 : (0 : Int) ≤ (j : Int) := by omega
        have hj2 : (j : Int) < L.length := by omega
        have hj3 : (j : Int) ≤ 100 := by have := HL.out; omega
        have hj4 : (0 : Int) ≤ (j : Int) + 1 := by omega
        have hj5 : (j : Int) + 1 ≤ L.length := by omega
        have hj6 : j ≤ c6 := by omega
        have hj7 : j + 1 ≤ L.length := by omega
        have hwr : IntKind.i64.wrap ((j : Int) + 1) = (j : Int) + 1 := IntWalk.i64_in _ (by omega)
        have hwn : ((j : Int) + 1).toNat = j + 1 := by omega
        clear hL' hl40
        have hLb := HL.out
        go_wp2_with (first
          | (go_at_call 18
             refine (post_take' _ gp vp L x.n P6.out.hp HL.out).mono ?_
             rw [ht1, ht2, ht3]
             rintro e w3 ⟨rfl, vp3, hp3, tp3, fp3⟩
             have P3 := Lib.hid (P6.out.turn (Touch.refl _ w6) hp3 tp3 fp3)
             have hx3 := tp3.blk hx6 HXF.out
             have HO3 := Lib.hid (HO6.out.touch tp3 HF6.out)
             clear hp3 tp3 fp3)
          | (go_at_call 24
             refine (post_list _ gp _ L' (P3.out.hp.ext ((Touch.refl _ w3).alloc _)) HL40.out).mono ?_
             rintro e w7 ⟨A7, c7, rfl, ho7, he7, hf7⟩
             have hE7 := ((Touch.refl (fun _ => False) w3).alloc (.cells m.cells 33 (0, 0))).trans he7
             have hx7 := hE7.blk hx3 id
             have hcx7 : w7.cell? ⟨xb, 1, none⟩ = some (.int .i64 x.n) := cell_of hx7 1
             have hm7 := he7.blk (b := w3.heap.size) (o := .cells m.cells 33 (0, 0)) (heap_alloc_new _ _) id
             have P7 := Lib.hid (P3.out.ext hE7)
             have HO7 := Lib.hid (HO3.out.ext hE7)
             have HN7 := Lib.hid ho7
             clear ho7 he7 hf7 hE7 hx3))
        obtain ⟨mb, hmb⟩ : ∃ mb, w3.heap.size = mb := ⟨_, rfl⟩
        rw [hmb] at hm7
        simp only [hmb]
        obtain ⟨A1, hA1⟩ : ∃ A1, (if c6 = j + 1 then some adR else some (adR.add ((j + 1) * 9))) = A1 := ⟨_, rfl⟩
        have HRA := Lib.hid (HO7.out.reads.take j)
        have HRB := Lib.hid (HO7.out.reads.cut (j + 1) c6 hc hA1)
        obtain ⟨N, hN⟩ : ∃ N, (L.take j).length + (L.length - (j + 1)) = N := ⟨_, rfl⟩
        have HT : Hid (j = (L.take j).length) := by show j = _; rw [List.length_take]; omega
        have HD : Hid (L.length - (j + 1) = (L.drop (j + 1)).length) := by show _ = _; rw [List.length_drop]
        have HN : Hid ((L.take j).length + (L.length - (j + 1)) = N) := hN
        have hN2 : j + (L.length - (j + 1)) = N := by rw [← hN, List.length_take]; omega
        have hNL : N = L'.length := by rw [HL'.out, ← hN]; simp
        clear hN
        go_region_law (first
          | (refine step_append_own (by rfl) (.tmp 101) (.tmp 104) 26 (by rfl) elemPacket Try.underlying26 (v := .slice none 0 0) (l := []) (by simp [Act.eval, Act.put]) (Owns.nil _ _) (L.take j) HT.out j (by simp) (by simp [Act.eval, Act.put]; rfl) HRA.out (by have := HT.out; simp; omega) ?_
             intro A2 c2 w8 hown2 hgrow2 hat2
             simp only [List.nil_append] at hown2
             have hob2 : ∀ k, (Value.slice A2 j c2).ownBlock = some k → w7.heap.size ≤ k := fun k hk => by
               rcases hat2 with h1 | h1 <;> rw [h1] at hk <;> simp [Value.ownBlock] at hk
               omega)
          | (refine step_append_own (by rfl) (.tmp 105) (.tmp 109) 26 (by rfl) elemPacket Try.underlying26 (v := .slice A2 j c2) (l := L.take j) (by simp [Act.eval]) hown2 (L.drop (j + 1)) HD.out N HN.out (by simp [Act.eval]; rfl) (HRB.out.below fun k hk => hgrow2.block k hk (by simp [Value.ownBlock])) (by have := HL.out; simp; omega) ?_
             intro A3 c3 w9 hown3 hgrow3 hat3
             have hE9 : Ext w7 w9 := (((Touch.refl _ w7).drew).grown hgrow2 (by simp [Value.ownBlock])).grown hgrow3 (fun k hk => .inr (hob2 k hk))
             rw [← HL'.out] at hown3
             have hm9 := hE9.blk hm7 id
             have hrd3 := hown3.reads
             have hrd4 := (HN7.out.ext hE9).reads
             obtain ⟨ad9, he9, _, hat9⟩ := (HO7.out.ext hE9).reads _ m HM.out
             injection he9 with he9
             subst he9
             have P9 := Lib.hid (P7.out.ext hE9)
             have HO9 := Lib.hid hrd3
             have HN9 := Lib.hid hrd4
             have HAT := Lib.hid hat9
             clear hown3 hown2 hob2 hat2 hat3 hgrow2 hgrow3 hE9 hrd3 hrd4 hat9))
        all_goals
          have hLV9 : ∀ n, LV Try.prog 33 (adR.add (j * 9)) (w9.drewN n) = .ok (.agg m.cells) (w9.drewN n) := fun n => LV_Packet (w := w9.drewN n) HAT.out
          subst hNL
          go_wp2_with fail
          go_quiet ((go_at_call 23; exact Calls.quiet_of (samePackets_yes _ _ _ _ L' _ _ (Reads.below HO9.out (fun _ _ => rfl)) (Reads.below HN9.out (fun _ _ => rfl)) HL40.out)))
          go_wp2
          go_ret
          exact ⟨rfl, (E0.out.trans P9.out.ex).drewN _⟩
      have hd1 : (x.do_ == 1) = false := beq_eq_false_iff_ne.2 h1
      clear h1
      have hxa := fun o => ((Touch.refl (fun _ => False) w6).alloc o).blk hx6 id
      have HLB : Hid (¬ foot gp vp w6.heap.size) := fun hk => by have := P6.out.hp.foot_lt _ hk; omega
      have HLO : Hid ((Value.slice A6 L.length c6).ownBlock ≠ some w6.heap.size) := fun hk => by have := HO6.out.lt _ hk; omega
      have HLW : Hid (W1.heap.size ≤ w6.heap.size) := P6.out.ex.size
      have hxl : (xb = w6.heap.size) = False := by have := P6.out.ex.size; simp; omega
      go_wp2_with fail
      go_region
      all_goals
        have hlast8 : ((w6.alloc (.cells x.m.cells 33)).drew).heap[w6.heap.size]? = some (.cells x.m.cells 33 (0, 0)) := heap_alloc_new _ _
        have hE8 : Ext w6 (w6.alloc (.cells x.m.cells 33)).drew := ((Touch.refl _ w6).alloc _).drew
        generalize (w6.alloc (.cells x.m.cells 33)).drew = w8 at *
        have P8 := Lib.hid (P6.out.ext hE8)
        have hx8 := hE8.blk hx6 id
        have hcx80 : w8.cell? ⟨xb, 0, none⟩ = some (.int .i64 x.do_) := cell_of hx8 0
        have hcx81 : w8.cell? ⟨xb, 1, none⟩ = some (.int .i64 x.n) := cell_of hx8 1
        have HO8 := Lib.hid (HO6.out.ext hE8)
        clear hE8 hxa hx6 P6 HO6 hcx0 hcx1
        generalize w6.heap.size = lb at *
        by_cases h0 : x.do_ = 0
        · have hd0 : (x.do_ == 0) = true := beq_iff_eq.2 h0
          have hd2 : (x.do_ == 2) = false := beq_eq_false_iff_ne.2 (by omega)
          clear h0
          by_cases hfull : L.length < 40
          · have hsend1 : (pSend L x.m).1 = true := by unfold pSend; rw [if_pos hfull]
            have hsend2 : (pSend L x.m).2 = L ++ [x.m] := by unfold pSend; rw [if_pos hfull]
            go_wp2_with (go_at_call 16
                         refine (post_send' _ gp vp L x.m P8.out.hp).mono ?_
                         rw [hsend1, hsend2]
                         rintro e w9 ⟨rfl, vp9, hp9, tp9, fp9⟩
                         have P9 := Lib.hid (P8.out.turn (Touch.refl _ w8) hp9 tp9 fp9)
                         have HO9 := Lib.hid (HO8.out.touch tp9 HF6.out)
                         have hlast9 := tp9.blk hlast8 HLB.out
                         clear hp9 tp9 fp9)
            generalize x.m = m at *
            have hl41 : (L ++ [m]).length ≤ 40 := by simp; omega
            have hm2 : (L ++ [m])[L.length]? = some m := by simp
            have ht2 : (L ++ [m]).take L.length = L := by simp
            have hn2 : (L ++ [m]).length = L.length + 1 := by simp
            generalize L ++ [m] = L2 at *
            refine (post_list _ gp _ L2 P9.out.hp hl41).mono ?_
            rintro e w10 ⟨A10, c10, rfl, ho10, he10, hf10⟩
            have P10 := Lib.hid (P9.out.ext he10)
            have hrd10 := ho10.reads
            obtain ⟨ad10, rfl, _, hat10⟩ := hrd10 _ m hm2
            obtain ⟨A', c', hv, hc10, _, _⟩ := ho10.form
            injection hv with hv1 hv2 hv3
            subst hv3
            have HRT : Hid (Reads w10 w10.heap.size (some ad10) L) := by have := hrd10.take L.length; rw [ht2] at this; exact this
            have HRE := Lib.hid (HO9.out.ext he10).reads
            have hlast10 := he10.blk hlast9 id
            have hLV10 : ∀ n, LV Try.prog 33 (ad10.add (L.length * 9)) (w10.drewN n) = .ok (.agg m.cells) (w10.drewN n) := fun n => LV_Packet (w := w10.drewN n) hat10
            have hLc : L.length ≤ c10 := by omega
            have hLc2 : (L.length : Int) ≤ c10 := by omega
            have hLi : (L.length : Int) < L2.length := by omega
            have hw1 : IntKind.i64.wrap ((L.length : Int) + 1) = (L2.length : Int) := by rw [IntWalk.i64_in _ (by omega)]; omega
            have hw2 : wrap64 ((L.length : Int) + 1) = (L2.length : Int) := by unfold wrap64; omega
            clear ho10 he10 hf10 hrd10 hat10 hv1 hv2 hm2 ht2 hn2 hlast9 hlast8
            go_wp2_with fail
            go_quiet ((go_at_call 23; exact Calls.quiet_of (samePackets_yes _ _ _ _ L _ _ (Reads.below HRT.out (fun _ _ => rfl)) (Reads.below HRE.out (fun _ _ => rfl)) HL.out)))
            go_wp2
            go_ret
            exact ⟨rfl, (E0.out.trans P10.out.ex).drewN _⟩
          · have hsend1 : (pSend L x.m).1 = false := by unfold pSend; rw [if_neg hfull]
            have hsend2 : (pSend L x.m).2 = L := by unfold pSend; rw [if_neg hfull]
            go_wp2_with (go_at_call 16
                         refine (post_send' _ gp vp L x.m P8.out.hp).mono ?_
                         rw [hsend1, hsend2]
                         rintro e w9 ⟨rfl, vp9, hp9, tp9, fp9⟩
                         have P9 := Lib.hid (P8.out.turn (Touch.refl _ w8) hp9 tp9 fp9)
                         have HO9 := Lib.hid (HO8.out.touch tp9 HF6.out)
                         clear hp9 tp9 fp9)
            refine (post_list _ gp _ _ P9.out.hp HL.out).mono ?_
            rintro e w10 ⟨A10, c10, rfl, ho10, he10, hf10⟩
            have P10 := Lib.hid (P9.out.ext he10)
            have HRD := Lib.hid ho10.reads
            have HRE := Lib.hid (HO9.out.ext he10).reads
            clear ho10 he10 hf10
            go_wp2_with fail
            refine (samePackets_yes _ _ _ _ _ _ _ HRE.out HRD.out HL.out).mono ?_
            rintro e w11 ⟨rfl, n11, rfl⟩
            go_wp2
            go_ret
            exact ⟨rfl, (E0.out.trans P10.out.ex).drewN _⟩
        have hd0 : (x.do_ == 0) = false := beq_eq_false_iff_ne.2 h0
        by_cases h2 : x.do_ = 2
        · have hd2 : (x.do_ == 2) = true := beq_iff_eq.2 h2
          clear h0 h2
          by_cases hl0 : L = []
          · subst hl0
            have hdb1 : (pDouble ([] : List Packet) x.n).1 = false := by simp [pDouble]
            have hdb2 : (pDouble ([] : List Packet) x.n).2 = [] := by simp [pDouble]
            go_wp2_with (go_at_call 20
                         refine (post_double' _ gp vp [] x.n P8.out.hp HL.out).mono ?_
                         rw [hdb1, hdb2]
                         rintro e w9 ⟨rfl, vp9, hp9, tp9, fp9⟩
                         have P9 := Lib.hid (P8.out.turn (Touch.refl _ w8) hp9 tp9 fp9)
                         have HO9 := Lib.hid (HO8.out.touch tp9 HF6.out)
                         clear hp9 tp9 fp9)
            refine (post_list _ gp _ _ P9.out.hp HL.out).mono ?_
            rintro e w10 ⟨A10, c10, rfl, ho10, he10, hf10⟩
            have P10 := Lib.hid (P9.out.ext he10)
            have HRD := Lib.hid ho10.reads
            have HRE := Lib.hid (HO9.out.ext he10).reads
            clear ho10 he10 hf10
            go_wp2_with fail
            refine (samePackets_yes _ _ _ _ _ _ _ HRE.out HRD.out HL.out).mono ?_
            rintro e w11 ⟨rfl, n11, rfl⟩
            go_wp2
            go_ret
            exact ⟨rfl, (E0.out.trans P10.out.ex).drewN _⟩
          · have hpos : 0 < L.length := List.length_pos_iff.2 hl0
            have hi := rnd_lt x.n L.length hpos
            obtain ⟨m, hm⟩ : ∃ m, L[rnd x.n L.length]? = some m := ⟨L[rnd x.n L.length], by simp [hi]⟩
            have hLb := HL.out
            have hposI : (0 : Int) < (L.length : Int) := by omega
            have hidx := rnd_wrap x.n L.length hpos (by omega)
            have hi0 : (0 : Int) ≤ rnd x.n L.length := by omega
            have hi2 : (rnd x.n L.length : Int) < L.length := by omega
            have hi3 : (rnd x.n L.length : Int) ≤ 100 := by omega
            obtain ⟨adR, hAR, _, hat8⟩ := HO8.out.reads _ m hm
            subst hAR
            have hLV8 : LV Try.prog 33 (adR.add (rnd x.n L.length * 9)) w8 = .ok (.agg m.cells) w8 := LV_Packet hat8
            have ht8 : Touch (fun k => k = lb) w8 (w8.setRow lb m.cells) := (Touch.refl (fun k => k = lb) w8).setRow (g := lb) (.inl rfl) _
            have P8s := Lib.hid (P8.out.aside ht8 (fun k hk e => HLB.out (e ▸ hk)) (fun k hk => by simp [Value.ownBlock] at hk) (fun k hk => by subst hk; exact HLW.out))
            have HO8s := Lib.hid (HO8.out.touch ht8 (fun k hk e => HLO.out (e ▸ hk)))
            have hx8s := ht8.blk hx8 (fun e => by rw [e] at hxl; simp at hxl)
            have hc8s : (w8.setRow lb m.cells).cell? ⟨xb, 1, none⟩ = some (.int .i64 x.n) := cell_of hx8s 1
            have hc8t : (w8.setRow lb m.cells).cell? ⟨xb, 0, none⟩ = some (.int .i64 x.do_) := cell_of hx8s 0
            have hlast8s : (w8.setRow lb m.cells).heap[lb]? = some (.cells m.cells 33 (0, 0)) := setRow_heap _ _ _ _ _ _ hlast8
            clear hat8 ht8
            by_cases hfull : L.length < 40
            · have hdb1 : (pDouble L x.n).1 = true := by unfold pDouble pSend; rw [hm]; simp [hfull]
              have hdb2 : (pDouble L x.n).2 = L ++ [m] := by unfold pDouble pSend; rw [hm]; simp [hfull]
              clear hm hl0
              go_wp2_with (go_at_call 20
                           refine (post_double' _ gp vp L x.n P8s.out.hp HL.out).mono ?_
                           rw [hdb1, hdb2]
                           rintro e w9 ⟨rfl, vp9, hp9, tp9, fp9⟩
                           have P9 := Lib.hid (P8s.out.turn (Touch.refl _ _) hp9 tp9 fp9)
                           have HO9 := Lib.hid (HO8s.out.touch tp9 HF6.out)
                           have hlast9 := tp9.blk hlast8s HLB.out
                           clear hp9 tp9 fp9)
              clear hdb1 hdb2 hidx hi0 hi2 hi3 hi hLV8 P8s HO8s hx8s hc8s hc8t hlast8s P8
              have hl41 : (L ++ [m]).length ≤ 40 := by simp; omega
              have hm2 : (L ++ [m])[L.length]? = some m := by simp
              have ht2 : (L ++ [m]).take L.length = L := by simp
              have hn2 : (L ++ [m]).length = L.length + 1 := by simp
              generalize L ++ [m] = L2 at *
              refine (post_list _ gp _ L2 P9.out.hp hl41).mono ?_
              rintro e w10 ⟨A10, c10, rfl, ho10, he10, hf10⟩
              have P10 := Lib.hid (P9.out.ext he10)
              have hrd10 := ho10.reads
              obtain ⟨ad10, rfl, _, hat10⟩ := hrd10 _ m hm2
              obtain ⟨A', c', hv, hc10, _, _⟩ := ho10.form
              injection hv with hv1 hv2 hv3
              subst hv3
              have HRT : Hid (Reads w10 w10.heap.size (some ad10) L) := by have := hrd10.take L.length; rw [ht2] at this; exact this
              have HRE := Lib.hid (HO9.out.ext he10).reads
              have hlast10 := he10.blk hlast9 id
              have hLV10 : ∀ n, LV Try.prog 33 (ad10.add (L.length * 9)) (w10.drewN n) = .ok (.agg m.cells) (w10.drewN n) := fun n => LV_Packet (w := w10.drewN n) hat10
              have hLc : L.length ≤ c10 := by omega
              have hLc2 : (L.length : Int) ≤ c10 := by omega
              have hLi : (L.length : Int) < L2.length := by omega
              have hw1 : IntKind.i64.wrap ((L.length : Int) + 1) = (L2.length : Int) := by rw [IntWalk.i64_in _ (by omega)]; omega
              have hw2 : wrap64 ((L.length : Int) + 1) = (L2.length : Int) := by unfold wrap64; omega
              clear ho10 he10 hf10 hrd10 hat10 hv1 hv2 hm2 ht2 hn2 hlast9 hlast8
              go_wp2_with fail
              go_quiet ((go_at_call 23; exact Calls.quiet_of (samePackets_yes _ _ _ _ L _ _ (Reads.below HRT.out (fun _ _ => rfl)) (Reads.below HRE.out (fun _ _ => rfl)) HL.out)))
              go_wp2
              go_ret
              exact ⟨rfl, (E0.out.trans P10.out.ex).drewN _⟩
            · have hdb : pDouble L x.n = (false, L) := by unfold pDouble pSend; rw [hm]; simp [hfull]
              have hdb1 : (pDouble L x.n).1 = false := by rw [hdb]
              have hdb2 : (pDouble L x.n).2 = L := by rw [hdb]
              clear hm hl0 hdb
              go_wp2_with (go_at_call 20
                           refine (post_double' _ gp vp L x.n P8s.out.hp HL.out).mono ?_
                           rw [hdb1, hdb2]
                           rintro e w9 ⟨rfl, vp9, hp9, tp9, fp9⟩
                           have P9 := Lib.hid (P8s.out.turn (Touch.refl _ _) hp9 tp9 fp9)
                           have HO9 := Lib.hid (HO8s.out.touch tp9 HF6.out)
                           clear hp9 tp9 fp9)
              refine (post_list _ gp _ _ P9.out.hp HL.out).mono ?_
              rintro e w10 ⟨A10, c10, rfl, ho10, he10, hf10⟩
              have P10 := Lib.hid (P9.out.ext he10)
              have HRD := Lib.hid ho10.reads
              have HRE := Lib.hid (HO9.out.ext he10).reads
              clear ho10 he10 hf10
              go_wp2_with fail
              refine (samePackets_yes _ _ _ _ _ _ _ HRE.out HRD.out HL.out).mono ?_
              rintro e w11 ⟨rfl, n11, rfl⟩
              go_wp2
              go_ret
              exact ⟨rfl, (E0.out.trans P10.out.ex).drewN _⟩
        · have hd2 : (x.do_ == 2) = false := beq_eq_false_iff_ne.2 h2
          clear h0 h2
          go_wp2_with fail
          have P9 := P8
          have HO9 := HO8
          refine (post_list _ gp _ _ P9.out.hp HL.out).mono ?_
          rintro e w10 ⟨A10, c10, rfl, ho10, he10, hf10⟩
          have P10 := Lib.hid (P9.out.ext he10)
          have HRD := Lib.hid ho10.reads
          have HRE := Lib.hid (HO9.out.ext he10).reads
          clear ho10 he10 hf10
          go_wp2_with fail
          refine (samePackets_yes _ _ _ _ _ _ _ HRE.out HRD.out HL.out).mono ?_
          rintro e w11 ⟨rfl, n11, rfl⟩
          go_wp2
          go_ret
          exact ⟨rfl, (E0.out.trans P10.out.ex).drewN _⟩

set_option maxHeartbeats 400000 in
set_option maxRecDepth 100000 in
theorem postOrder (W : World) (A : Option Addr) (c : Nat) (l : List PostStep) (x : PostStep) (hr : Reads W W.heap.size A l) :
    Calls Try.prog 5 #[.slice A l.length c, .agg x.cells] W fun e w' => e = .returned (.bool true) ∧ Ext W w' := by
  by_cases hl : l.length ≤ 200
  · exact postOrder_small W A c l x hr hl
  · have hl' : 200 < l.length := by omega
    clear hl hr
    go_enter Try.func5, Try.ntmps5
    go_wp2_with fail
    refine (post_begun _).mono ?_
    rintro e w1 ⟨rfl, he1⟩
    have E1 := Lib.hid (((Touch.refl _ W).alloc (.cells x.cells 35 (0, 0))).trans he1)
    clear he1
    go_wp2
    go_ret
    exact ⟨rfl, E1.out⟩
end Go.Proofs.Ytalfbhhldfffkaa
