/- StoreTears: the walk of the law. -/
import Derived.Test.YtalfbhhldfffkabStoreC
namespace Go.Proofs.Ytalfbhhldfffkab
open Go.RowKit

abbrev TwoB (b g1 r1 g2 r2 : Nat) : Rep (((Unit × Array Value) × (List Record × List Record)) × (List Record × List Record)) := ((SS b).and (Both g1 r1)).and (Both g2 r2)
def TearRel (W : World) (b g1 r1 g2 r2 : Nat) (cc : Array Value) (l : List StoreStep) (i : Value) (wr : World) : Prop :=
  ∃ k : Nat, i = .int .i64 k ∧ k ≤ l.length ∧ Has (TwoB b g1 r1 g2 r2) W wr ((((), cc), (stepsL [] (l.take k), stepsL [] (l.take k))), (stepsL [] (l.take k), stepsL [] (l.take k)))
set_option maxHeartbeats 4000000 in
set_option maxRecDepth 100000 in
theorem storeTears (W : World) (A : Option Addr) (c : Nat) (l : List StoreStep) (x : StoreStep) (hr : Reads W W.heap.size A l) (hs : ∀ x ∈ l, StrStep x) (hl : l.length ≤ 140737488351232) (hx : StrStep x) :
    Calls Try.prog 8 #[.slice A l.length c, .agg x.cells] W fun e w' => e = .returned (.bool true) ∧ Ext W w' := by
  have HR := Lib.hid hr
  have HS := Lib.hid hs
  have HX := Lib.hid hx
  have H0 := Lib.hid ((Has.none W).box x.cells 61)
  clear hr hs hx
  go_enter Try.func8, Try.ntmps8
  go_wp2_with fail
  refine (store_begun _).mono ?_
  rintro e w1 ⟨rfl, hx1⟩
  have H1 := Lib.hid (H0.out.step hx1)
  clear hx1
  go_wp2_with fail
  refine (law_greatStore w1 w1.heap.size A c l (HR.out.ext H1.out.ext) (Nat.le_refl _) HS.out hl).mono ?_
  rintro e w2 ⟨b2, rfl, hx2⟩
  have H2 := Lib.hid (H1.out.step hx2)
  have hbb2 := H2.out.blk
  obtain ⟨hl2, ho2⟩ := Array.getElem?_eq_some_iff.1 hbb2
  clear hx2 H0 H1
  cases b2 with
  | true =>
    go_wp2
    go_ret
    exact ⟨rfl, H2.out.ext⟩
  | false =>
    cases hg : greatB x.call with
    | true =>
      have HG := Lib.hid hg
      clear hg
      go_wp2_with (go_at_call 31; refine (law_greatCall' _ x.call true HG.out HX.out.call).mono ?_; rintro e w3 ⟨rfl, rfl⟩)
      go_ret
      exact ⟨rfl, H2.out.ext.alloc _⟩
    | false =>
      have HG := Lib.hid hg
      clear hg
      go_wp2_with fail
      refine (law_greatCall' _ x.call false HG.out HX.out.call).mono ?_
      rintro e w3 ⟨rfl, rfl⟩
      have H3 := Lib.hid (H2.out.step ((Touch.refl _ w2).alloc (.cells x.call.cells 31)))
      generalize w2.alloc (.cells x.call.cells 31) = w3 at H3 ⊢
      generalize W.heap.size = bx at H3 ⊢
      clear hbb2 hl2 ho2 H2
      go_wp2_with fail
      refine (store_new w3).mono ?_
      rintro e w4 ⟨rfl, hn4, -⟩
      have H4 := Lib.hid (H3.out.both (both_start hn4))
      clear hn4 H3
      generalize w3.heap.size + 1 = g1 at H4 ⊢
      go_wp2_with fail
      generalize w4.alloc (.cells #[.slice none 0 0] 58) = w5 at H4 ⊢
      generalize w4.heap.size = r1 at H4 ⊢
      refine (store_new w5).mono ?_
      rintro e w6 ⟨rfl, hn6, -⟩
      have H6 := Lib.hid (H4.out.both (both_start hn6))
      clear hn6 H4
      generalize w5.heap.size + 1 = g2 at H6 ⊢
      go_wp2_with fail
      generalize w6.alloc (.cells #[.slice none 0 0] 58) = w7 at H6 ⊢
      generalize w6.heap.size = r2 at H6 ⊢
      go_loopw [9] (fun i wr => TearRel W bx g1 r1 g2 r2 x.cells l i wr) (fun i _ => l.length - (intOf i).toNat)
      case atStart => exact ⟨0, rfl, Nat.zero_le _, H6.out⟩
      case round =>
        clear H6
        obtain ⟨k, rfl, hk, hz⟩ := hrel
        have HZ := Lib.hid hz
        clear hz
        by_cases hlt : k < l.length
        · obtain ⟨s, hsx⟩ : ∃ s, l[k]? = some s := ⟨l[k], by simp [hlt]⟩
          obtain ⟨ad, rfl, hadb, hat⟩ := HR.out _ s hsx
          have hLV : ∀ w', Ext W w' → LV Try.prog 61 (ad.add (k * 8)) w' = .ok (.agg s.cells) w' := fun w' hw' => LV_StoreStep ((hat.of_same (w' := w') (by rw [show (ad.add (k * Lies.size StoreStep)).block = ad.block by unfold Addr.add; split <;> rfl]; exact hw'.block _ hadb id)))
          have HLV := Lib.hid hLV
          have HSX := Lib.hid hsx
          have HOK := Lib.hid (stepsL_ok LogOk.nil (l.take k))
          have HST := Lib.hid (HS.out s (List.mem_of_getElem? hsx))
          have hlv := HLV.out wr HZ.out.ext
          clear hsx hat hLV
          go_wp2_with fail
          obtain ⟨F1, hF1, hm1⟩ := HZ.out.fs
          refine (law_storeStep wr g1 r1 F1 _ s hF1 HOK.out HST.out).mono ?_
          rintro e w8 ⟨rfl, hq8⟩
          have H8 := Lib.hid (hm1 _ _ hq8)
          have hlv8 := HLV.out w8 H8.out.ext
          clear hF1 hm1 hq8 hlv
          go_wp2_with fail
          obtain ⟨F2, hF2, hm2⟩ := H8.out.snd
          refine (law_storeStep w8 g2 r2 F2 _ s hF2 HOK.out HST.out).mono ?_
          rintro e w9 ⟨rfl, hq9⟩
          have h9 := hm2 _ _ hq9
          rw [← stepsL_take HSX.out] at h9
          have H9 := Lib.hid h9
          clear hF2 hm2 hq9 h9
          go_wp2
          go_roundw
          case rel => exact ⟨k + 1, by go_num, by omega, H9.out⟩
          case measure => simp [intOf]; omega
        · obtain rfl : k = l.length := by omega
          have HOK := Lib.hid (stepsL_ok LogOk.nil (l.take l.length))
          generalize stepsL [] (l.take l.length) = L at HZ HOK
          go_wp2_with fail
          obtain ⟨F1, hF1, _⟩ := HZ.out.b1
          refine (store_logs wr g1 F1 L hF1 HOK.out).mono ?_
          rintro e w8 ⟨A8, c8, rfl, ho8, hx8, _⟩
          have H8 := Lib.hid (HZ.out.step hx8)
          have hcv8 := conv_log ho8
          have hbx8 := H8.out.left.left.blk
          have hc1 := cell_of hbx8 1
          have hc2 := cell_of hbx8 2
          have hc3 := cell_of hbx8 3
          clear hF1 ho8 hx8 HZ
          go_wp2_with fail
          obtain ⟨F2, hF2, hm2⟩ := H8.out.b1
          refine (store_Tear w8 g1 F2 L x.client x.no x.call x.keep hF2 HOK.out HX.out.call HX.out.keep).mono ?_
          rintro e w9 ⟨rfl, hq9⟩
          have H9 := Lib.hid (hm2 _ _ hq9)
          have HOK1 := Lib.hid (chestTear_ok HOK.out x.client x.no x.call x.keep)
          have HOK2 := Lib.hid (chestCall_ok HOK.out x.client x.no x.call)
          clear hF2 hm2 hq9 hcv8 hbx8 hc1 hc2 hc3 H8
          go_wp2_with fail
          obtain ⟨F3, hF3, _⟩ := H9.out.b1
          refine (store_logs w9 g1 F3 _ hF3 HOK1.out).mono ?_
          rintro e w10 ⟨A10, c10, rfl, ho10, hx10, _⟩
          have H10 := Lib.hid (H9.out.step hx10)
          have hcv10 := conv_log ho10
          have hbx10 := H10.out.left.left.blk
          have hc1 := cell_of hbx10 1
          have hc2 := cell_of hbx10 2
          clear hF3 ho10 hx10 H9
          go_wp2_with fail
          obtain ⟨F4, hF4, hm4⟩ := H10.out.b2
          refine (store_calls w10 g2 F4 L x.client x.no x.call hF4 HOK.out HX.out.call).mono ?_
          rintro e w11 ⟨rfl, hq11⟩
          have H11 := Lib.hid (hm4 _ _ hq11)
          have hcd : (chestTear L x.client x.no x.call x.keep).1 = (chestCall L x.client x.no x.call).1.2.2 := rfl
          clear hF4 hm4 hq11 hcv10 hbx10 hc1 hc2 H10
          by_cases h0 : (chestCall L x.client x.no x.call).1.2.2 = 0
          · have HTA := Lib.hid (tear_again (keep := x.keep) h0)
            obtain ⟨t1, t2, t3, t4⟩ := HTA.out
            have hcd0 : (chestTear L x.client x.no x.call x.keep).1 = 0 := h0
            rw [h0]
            have H12 := Lib.hid (H11.out.box (chestCall L x.client x.no x.call).1.1.cells 28)
            generalize (chestTear L x.client x.no x.call x.keep).2 = L1 at *
            generalize (chestCall L x.client x.no x.call).2 = L2 at *
            generalize (chestCall L x.client x.no x.call).1.1 = a at *
            have HT1 := Lib.hid t1
            have HT2 := Lib.hid t2
            have HT3 := Lib.hid t3
            clear t1 t2 t3 HTA H11 h0 hcd
            by_cases hbe : logBytes L1 = logBytes L
            · have hse : ((mkStr (logBytes L1)).toList == (mkStr (logBytes L)).toList) = true := by rw [mkStr_eq]; simp [hbe]
              clear hbe t4
              have hbx12 := H12.out.left.left.left.blk
              have hc1 := cell_of hbx12 1
              have hc2 := cell_of hbx12 2
              go_wp2_with fail
              generalize w11.alloc (.cells a.cells 28) = w13 at H12 hbx12 hc1 hc2 ⊢
              generalize w11.heap.size = ba at H12 ⊢
              obtain ⟨F6, hF6, hm6⟩ := H12.out.b0
              refine (store_calls w13 g1 F6 _ x.client x.no x.call hF6 HOK1.out HX.out.call).mono ?_
              rintro e w14 ⟨rfl, hq14⟩
              rw [HT3.out] at hq14
              rw [HT1.out, HT2.out]
              have H15 := Lib.hid ((hm6 _ _ hq14).box a.cells 28)
              have hbb := H15.out.blk
              have hba := H15.out.left.blk
              clear hF6 hm6 hq14 hbx12 hc1 hc2 H12
              go_wp2_with fail
              generalize w14.alloc (.cells a.cells 28) = w15 at H15 hba hbb ⊢
              generalize w14.heap.size = bb at H15 hbb ⊢
              obtain ⟨F7, hF7, _⟩ := H15.out.left.b0
              obtain ⟨F8, hF8, _⟩ := H15.out.left.left.b2
              obtain ⟨f1, u1, v1, hA1, hh1⟩ := store_parts hF7
              obtain ⟨f2, u2, v2, hA2, hh2⟩ := store_parts hF8
              have HA1 := Lib.hid hA1
              have HA2 := Lib.hid hA2
              have HH1 := Lib.hid hh1
              have HH2 := Lib.hid hh2
              have hk1 : ∀ w', Ext w15 w' → w'.cell? ⟨g1, 0, none⟩ = some (.pointer (some ⟨f1, 0, none⟩)) := fun w' hx => (cell_of (hx.blk HA1.out.cell id) 0).trans (StoreD.get0 _ _ _)
              have hk2 : ∀ w', Ext w15 w' → w'.cell? ⟨g2, 0, none⟩ = some (.pointer (some ⟨f2, 0, none⟩)) := fun w' hx => (cell_of (hx.blk HA2.out.cell id) 0).trans (StoreD.get0 _ _ _)
              have HS4 := Lib.hid (show ∀ w', Ext w15 w' → w'.heap[ba]? = some (.cells a.cells 28 (0, 0)) ∧ w'.heap[bb]? = some (.cells a.cells 28 (0, 0)) ∧ w'.cell? ⟨g1, 0, none⟩ = some (.pointer (some ⟨f1, 0, none⟩)) ∧ w'.cell? ⟨g2, 0, none⟩ = some (.pointer (some ⟨f2, 0, none⟩)) from
                fun w' hx => ⟨hx.blk hba id, hx.blk hbb id, hk1 w' hx, hk2 w' hx⟩)
              have hlog2 := HOK2.out.len
              have hfb6 := (fbehind_ok L2).len
              have HEX := Lib.hid H15.out.ext
              have hself : ((mkStr (logBytes L2)).toList == (mkStr (logBytes L2)).toList) = true := by simp
              have hde : decide (a = a) = true := by simp
              clear hF7 hF8 hA1 hA2 hh1 hh2 hk1 hk2 hba hbb H15
              refine wp_region_held_drew (S := fun w' => Ext w15 w') (by kernel_rfl) (Touch.drew (Touch.refl _ w15)) (fun hHeld => ?_)
              refine wpAnyH_take (i := 0) (v := ?_) (List.getElem?_toArray.trans rfl) (by kernel_rfl) (by kernel_rfl) (by kernel_rfl) (fun _ _ _ h => h) (Or.inl ⟨by rfl, ?_⟩) (by assumption) ?_
              rotate_left
              · intro w' hw'
                try dsimp only at hw'
                skip
                go_simp
                try with_reducible rfl
              try simp only [Act.put, List.setIfInBounds_toArray, List.set_cons_zero, List.set_cons_succ]
              refine wpAnyH_take (i := 1) (v := ?_) (List.getElem?_toArray.trans rfl) (by kernel_rfl) (by kernel_rfl) (by kernel_rfl) (fun _ _ _ h => h) (Or.inl ⟨by rfl, ?_⟩) (by assumption) ?_
              rotate_left
              · intro w' hw'
                try dsimp only at hw'
                skip
                go_simp
                try with_reducible rfl
              try simp only [Act.put, List.setIfInBounds_toArray, List.set_cons_zero, List.set_cons_succ]
              refine wpAnyH_take (i := 2) (v := ?_) (List.getElem?_toArray.trans rfl) (by kernel_rfl) (by kernel_rfl) (by kernel_rfl) (fun _ _ _ h => h) (Or.inl ⟨by rfl, ?_⟩) (by assumption) ?_
              rotate_left
              · intro w' hw'
                try dsimp only at hw'
                skip
                go_simp
                try with_reducible rfl
              try simp only [Act.put, List.setIfInBounds_toArray, List.set_cons_zero, List.set_cons_succ]
              refine wpAnyH_take (i := 3) (v := ?_) (List.getElem?_toArray.trans rfl) (by kernel_rfl) (by kernel_rfl) (by kernel_rfl) (fun _ _ _ h => h) (Or.inl ⟨by rfl, ?_⟩) (by assumption) ?_
              rotate_left
              · intro w' hw'
                try dsimp only at hw'
                obtain ⟨hh1, hh2, hh3, hh4⟩ := HS4.out w' hw'
                go_simp
                try with_reducible rfl
              try simp only [Act.put, List.setIfInBounds_toArray, List.set_cons_zero, List.set_cons_succ]
              refine wpAnyH_take (i := 4) (v := ?_) (List.getElem?_toArray.trans rfl) (by kernel_rfl) (by kernel_rfl) (by kernel_rfl) (fun _ _ _ h => h) (Or.inl ⟨by rfl, ?_⟩) (by assumption) ?_
              rotate_left
              · intro w' hw'
                try dsimp only at hw'
                obtain ⟨hh1, hh2, hh3, hh4⟩ := HS4.out w' hw'
                go_simp
                try with_reducible rfl
              try simp only [Act.put, List.setIfInBounds_toArray, List.set_cons_zero, List.set_cons_succ]
              refine wpAnyH_take (i := 5) (v := ?_) (List.getElem?_toArray.trans rfl) (by kernel_rfl) (by kernel_rfl) (by kernel_rfl) (fun _ _ _ h => h) (Or.inl ⟨by rfl, ?_⟩) (by assumption) ?_
              rotate_left
              · intro w' hw'
                try dsimp only at hw'
                skip
                go_simp
                try with_reducible rfl
              try simp only [Act.put, List.setIfInBounds_toArray, List.set_cons_zero, List.set_cons_succ]
              refine wpAnyH_take (i := 6) (v := ?_) (List.getElem?_toArray.trans rfl) (by kernel_rfl) (by kernel_rfl) (by kernel_rfl) (fun _ _ _ h => h) (Or.inl ⟨by rfl, ?_⟩) (by assumption) ?_
              rotate_left
              · intro w' hw'
                try dsimp only at hw'
                skip
                go_simp
                try with_reducible rfl
              try simp only [Act.put, List.setIfInBounds_toArray, List.set_cons_zero, List.set_cons_succ]
              refine wpAnyH_take (i := 7) (v := ?_) (List.getElem?_toArray.trans rfl) (by kernel_rfl) (by kernel_rfl) (by kernel_rfl) (fun _ _ _ h => h) (Or.inl ⟨by rfl, ?_⟩) (by assumption) ?_
              rotate_left
              · intro w' hw'
                try dsimp only at hw'
                skip
                go_simp
                try with_reducible rfl
              try simp only [Act.put, List.setIfInBounds_toArray, List.set_cons_zero, List.set_cons_succ]
              refine wpAnyH_take (i := 8) (v := ?_) (List.getElem?_toArray.trans rfl) (by kernel_rfl) (by kernel_rfl) (by kernel_rfl) (fun _ _ _ h => h) (Or.inl ⟨by rfl, ?_⟩) (by assumption) ?_
              rotate_left
              · intro w' hw'
                try dsimp only at hw'
                skip
                go_simp
                try with_reducible rfl
              try simp only [Act.put, List.setIfInBounds_toArray, List.set_cons_zero, List.set_cons_succ]
              refine wpAnyH_take (i := 11) (v := ?_) (List.getElem?_toArray.trans rfl) (by kernel_rfl) (by kernel_rfl) (by kernel_rfl) (fun _ _ _ h => h) (Or.inl ⟨by rfl, ?_⟩) (by assumption) ?_
              rotate_left
              · intro w' hw'
                try dsimp only at hw'
                skip
                go_simp
                try with_reducible rfl
              try simp only [Act.put, List.setIfInBounds_toArray, List.set_cons_zero, List.set_cons_succ]
              refine wpAnyH_ready (rs := [9]) (by kernel_rfl) (by simp) ?_
              refine AllReadyH.cons (List.getElem?_toArray.trans rfl) (fun K hK => ?_) AllReadyH.nil
              go_simp
              go_at_call 23
              refine (store_log_at _ g1 f1 u1 L2 (HA1.out.ext (Touch.drew (Touch.refl _ w15))) HOK2.out).mono ?_
              rintro e w16 ⟨A16, c16, rfl, ho16, hx16', _⟩
              have hx16 : Ext w15 w16 := (Touch.drew (Touch.refl _ w15)).trans hx16'
              have HO16 := Lib.hid (show Owns w16 5 (.slice A16 (logBytes L2).length c16) (logBytes L2) from ho16)
              have HX16 := Lib.hid hx16
              clear ho16 hx16'
              refine hK.out _ _ hx16 (fun _ => ?_)
              clear hK K
              try simp only [Act.put, List.setIfInBounds_toArray, List.set_cons_zero, List.set_cons_succ]
              refine wpAnyH_more (S' := fun w' => Ext w16 w') (fun w' h => hx16.trans h) _ _ _ _ ?_
              clear hx16 hHeld
              have hHeld : Ext w16 w16 := Touch.refl _ _
              refine wpAnyH_take (i := 10) (v := ?_) (List.getElem?_toArray.trans rfl) (by kernel_rfl) (by kernel_rfl) (by kernel_rfl) (fun _ _ _ h => h) (Or.inl ⟨by rfl, ?_⟩) (by assumption) ?_
              rotate_left
              · intro w' hw'
                try dsimp only at hw'
                have hcv := conv_log (HO16.out.ext hw')
                go_simp
                try with_reducible rfl
              try simp only [Act.put, List.setIfInBounds_toArray, List.set_cons_zero, List.set_cons_succ]
              refine wpAnyH_ready (rs := [12]) (by kernel_rfl) (by simp) ?_
              refine AllReadyH.cons (List.getElem?_toArray.trans rfl) (fun K hK => ?_) AllReadyH.nil
              go_simp
              go_at_call 23
              refine (store_log_at _ g2 f2 u2 L2 (HA2.out.ext HX16.out) HOK2.out).mono ?_
              rintro e w17 ⟨A17, c17, rfl, ho17, hx17, _⟩
              have HO17 := Lib.hid (show Owns w17 5 (.slice A17 (logBytes L2).length c17) (logBytes L2) from ho17)
              have HX17 := Lib.hid (HX16.out.trans hx17)
              clear ho17
              refine hK.out _ _ hx17 (fun _ => ?_)
              clear hK K
              try simp only [Act.put, List.setIfInBounds_toArray, List.set_cons_zero, List.set_cons_succ]
              refine wpAnyH_more (S' := fun w' => Ext w17 w') (fun w' h => hx17.trans h) _ _ _ _ ?_
              clear hx17 hHeld
              have hHeld : Ext w17 w17 := Touch.refl _ _
              refine wpAnyH_take (i := 13) (v := ?_) (List.getElem?_toArray.trans rfl) (by kernel_rfl) (by kernel_rfl) (by kernel_rfl) (fun _ _ _ h => h) (Or.inl ⟨by rfl, ?_⟩) (by assumption) ?_
              rotate_left
              · intro w' hw'
                try dsimp only at hw'
                have hcv := conv_log (HO17.out.ext hw')
                go_simp
                try with_reducible rfl
              try simp only [Act.put, List.setIfInBounds_toArray, List.set_cons_zero, List.set_cons_succ]
              refine wpAnyH_take (i := 14) (v := ?_) (List.getElem?_toArray.trans rfl) (by kernel_rfl) (by kernel_rfl) (by kernel_rfl) (fun _ _ _ h => h) (Or.inl ⟨by rfl, ?_⟩) (by assumption) ?_
              rotate_left
              · intro w' hw'
                try dsimp only at hw'
                skip
                go_simp
                try with_reducible rfl
              try simp only [Act.put, List.setIfInBounds_toArray, List.set_cons_zero, List.set_cons_succ]
              refine wpAnyH_take (i := 15) (v := ?_) (List.getElem?_toArray.trans rfl) (by kernel_rfl) (by kernel_rfl) (by kernel_rfl) (fun _ _ _ h => h) (Or.inl ⟨by rfl, ?_⟩) (by assumption) ?_
              rotate_left
              · intro w' hw'
                try dsimp only at hw'
                skip
                go_simp
                try with_reducible rfl
              try simp only [Act.put, List.setIfInBounds_toArray, List.set_cons_zero, List.set_cons_succ]
              refine wpAnyH_take (i := 16) (v := ?_) (List.getElem?_toArray.trans rfl) (by kernel_rfl) (by kernel_rfl) (by kernel_rfl) (fun _ _ _ h => h) (Or.inl ⟨by rfl, ?_⟩) (by assumption) ?_
              rotate_left
              · intro w' hw'
                try dsimp only at hw'
                skip
                go_simp
                try with_reducible rfl
              try simp only [Act.put, List.setIfInBounds_toArray, List.set_cons_zero, List.set_cons_succ]
              refine wpAnyH_take (i := 17) (v := ?_) (List.getElem?_toArray.trans rfl) (by kernel_rfl) (by kernel_rfl) (by kernel_rfl) (fun _ _ _ h => h) (Or.inl ⟨by rfl, ?_⟩) (by assumption) ?_
              rotate_left
              · intro w' hw'
                try dsimp only at hw'
                skip
                go_simp
                try with_reducible rfl
              try simp only [Act.put, List.setIfInBounds_toArray, List.set_cons_zero, List.set_cons_succ]
              refine wpAnyH_take (i := 18) (v := ?_) (List.getElem?_toArray.trans rfl) (by kernel_rfl) (by kernel_rfl) (by kernel_rfl) (fun _ _ _ h => h) (Or.inl ⟨by rfl, ?_⟩) (by assumption) ?_
              rotate_left
              · intro w' hw'
                try dsimp only at hw'
                skip
                go_simp
                try with_reducible rfl
              try simp only [Act.put, List.setIfInBounds_toArray, List.set_cons_zero, List.set_cons_succ]
              refine wpAnyH_take (i := 19) (v := ?_) (List.getElem?_toArray.trans rfl) (by kernel_rfl) (by kernel_rfl) (by kernel_rfl) (fun _ _ _ h => h) (Or.inl ⟨by rfl, ?_⟩) (by assumption) ?_
              rotate_left
              · intro w' hw'
                try dsimp only at hw'
                skip
                go_simp
                try with_reducible rfl
              try simp only [Act.put, List.setIfInBounds_toArray, List.set_cons_zero, List.set_cons_succ]
              refine wpAnyH_take (i := 20) (v := ?_) (List.getElem?_toArray.trans rfl) (by kernel_rfl) (by kernel_rfl) (by kernel_rfl) (fun _ _ _ h => h) (Or.inl ⟨by rfl, ?_⟩) (by assumption) ?_
              rotate_left
              · intro w' hw'
                try dsimp only at hw'
                obtain ⟨hh1, hh2, hh3, hh4⟩ := HS4.out w' (HX17.out.trans hw')
                go_simp
                try with_reducible rfl
              try simp only [Act.put, List.setIfInBounds_toArray, List.set_cons_zero, List.set_cons_succ]
              refine wpAnyH_take (i := 22) (v := ?_) (List.getElem?_toArray.trans rfl) (by kernel_rfl) (by kernel_rfl) (by kernel_rfl) (fun _ _ _ h => h) (Or.inl ⟨by rfl, ?_⟩) (by assumption) ?_
              rotate_left
              · intro w' hw'
                try dsimp only at hw'
                skip
                go_simp
                try with_reducible rfl
              try simp only [Act.put, List.setIfInBounds_toArray, List.set_cons_zero, List.set_cons_succ]
              refine wpAnyH_take (i := 23) (v := ?_) (List.getElem?_toArray.trans rfl) (by kernel_rfl) (by kernel_rfl) (by kernel_rfl) (fun _ _ _ h => h) (Or.inl ⟨by rfl, ?_⟩) (by assumption) ?_
              rotate_left
              · intro w' hw'
                try dsimp only at hw'
                skip
                go_simp
                try with_reducible rfl
              try simp only [Act.put, List.setIfInBounds_toArray, List.set_cons_zero, List.set_cons_succ]
              refine wpAnyH_take (i := 24) (v := ?_) (List.getElem?_toArray.trans rfl) (by kernel_rfl) (by kernel_rfl) (by kernel_rfl) (fun _ _ _ h => h) (Or.inl ⟨by rfl, ?_⟩) (by assumption) ?_
              rotate_left
              · intro w' hw'
                try dsimp only at hw'
                skip
                go_simp
                try with_reducible rfl
              try simp only [Act.put, List.setIfInBounds_toArray, List.set_cons_zero, List.set_cons_succ]
              refine wpAnyH_take (i := 25) (v := ?_) (List.getElem?_toArray.trans rfl) (by kernel_rfl) (by kernel_rfl) (by kernel_rfl) (fun _ _ _ h => h) (Or.inl ⟨by rfl, ?_⟩) (by assumption) ?_
              rotate_left
              · intro w' hw'
                try dsimp only at hw'
                obtain ⟨hh1, hh2, hh3, hh4⟩ := HS4.out w' (HX17.out.trans hw')
                go_simp
                try with_reducible rfl
              try simp only [Act.put, List.setIfInBounds_toArray, List.set_cons_zero, List.set_cons_succ]
              refine wpAnyH_ready (rs := [21]) (by kernel_rfl) (by simp) ?_
              refine AllReadyH.cons (List.getElem?_toArray.trans rfl) (fun K hK => ?_) AllReadyH.nil
              go_simp
              go_at_call 17
              refine (files_names _ f1 v1 (fbehind L2) (HH1.out.ext HX17.out) (by omega)).mono ?_
              rintro e w18 ⟨A18, c18, rfl, ho18, hx18, _⟩
              have HO18 := Lib.hid ho18
              have HX18 := Lib.hid (HX17.out.trans hx18)
              clear ho18
              refine hK.out _ _ hx18 (fun _ => ?_)
              clear hK K
              try simp only [Act.put, List.setIfInBounds_toArray, List.set_cons_zero, List.set_cons_succ]
              refine wpAnyH_more (S' := fun w' => Ext w18 w') (fun w' h => hx18.trans h) _ _ _ _ ?_
              clear hx18 hHeld
              have hHeld : Ext w18 w18 := Touch.refl _ _
              refine wpAnyH_ready (rs := [26]) (by kernel_rfl) (by simp) ?_
              refine AllReadyH.cons (List.getElem?_toArray.trans rfl) (fun K hK => ?_) AllReadyH.nil
              go_simp
              go_at_call 17
              refine (files_names _ f2 v2 (fbehind L2) (HH2.out.ext HX18.out) (by omega)).mono ?_
              rintro e w19 ⟨A19, c19, rfl, ho19, hx19, _⟩
              have HO19 := Lib.hid ho19
              have HO18' := Lib.hid (HO18.out.ext hx19)
              have HX19 := Lib.hid (HX18.out.trans hx19)
              clear ho19
              refine hK.out _ _ hx19 (fun _ => ?_)
              clear hK K
              try simp only [Act.put, List.setIfInBounds_toArray, List.set_cons_zero, List.set_cons_succ]
              refine wpAnyH_more (S' := fun w' => Ext w19 w') (fun w' h => hx19.trans h) _ _ _ _ ?_
              clear hx19 hHeld
              have hHeld : Ext w19 w19 := Touch.refl _ _
              refine wpAnyH_ready (rs := [27]) (by kernel_rfl) (by simp) ?_
              refine AllReadyH.cons (List.getElem?_toArray.trans rfl) (fun K hK => ?_) AllReadyH.nil
              go_simp
              go_at_call 16
              refine (texts_yes2 _ _ _ _ _ _ _ _ ((fbehind L2).map (·.name)) HO18'.out.reads HO19.out.reads (by simp) (by simp) (by omega)).mono ?_
              rintro e w20 ⟨rfl, hx20⟩
              have HX20 := Lib.hid (HX19.out.trans hx20)
              refine hK.out _ _ hx20 (fun _ => ?_)
              clear hK K
              try simp only [Act.put, List.setIfInBounds_toArray, List.set_cons_zero, List.set_cons_succ]
              refine wpAnyH_more (S' := fun w' => Ext w20 w') (fun w' h => hx20.trans h) _ _ _ _ ?_
              clear hx20 hHeld
              have hHeld : Ext w20 w20 := Touch.refl _ _
              refine wpAnyH_take (i := 28) (v := ?_) (List.getElem?_toArray.trans rfl) (by kernel_rfl) (by kernel_rfl) (by kernel_rfl) (fun _ _ _ h => h) (Or.inl ⟨by rfl, ?_⟩) (by assumption) ?_
              rotate_left
              · intro w' hw'
                try dsimp only at hw'
                skip
                go_simp
                try with_reducible rfl
              try simp only [Act.put, List.setIfInBounds_toArray, List.set_cons_zero, List.set_cons_succ]
              refine wpAnyH_take (i := 29) (v := ?_) (List.getElem?_toArray.trans rfl) (by kernel_rfl) (by kernel_rfl) (by kernel_rfl) (fun _ _ _ h => h) (Or.inl ⟨by rfl, ?_⟩) (by assumption) ?_
              rotate_left
              · intro w' hw'
                try dsimp only at hw'
                skip
                go_simp
                try with_reducible rfl
              try simp only [Act.put, List.setIfInBounds_toArray, List.set_cons_zero, List.set_cons_succ]
              refine wpAnyH_done (by kernel_rfl) ?_ _
              all_goals
                go_wp2
                go_ret
                exact ⟨by first | rfl | simp, HEX.out.trans HX20.out⟩
            · have hse : ((mkStr (logBytes L1)).toList == (mkStr (logBytes L)).toList) = false := by rw [mkStr_eq]; simp [hbe]
              obtain rfl : L2 = L1 := by
                rcases t4 with h | h
                · exact (hbe (by rw [h])).elim
                · exact h.symm
              have hse2 : ((mkStr (logBytes L2)).toList == (mkStr (logBytes L2)).toList) = true := by simp
              clear hbe t4
              go_wp2_with fail
              generalize w11.alloc (.cells a.cells 28) = w12 at H12 ⊢
              generalize w11.heap.size = ba at H12 ⊢
              obtain ⟨F5, hF5, _⟩ := H12.out.left.b2
              refine (store_logs w12 g2 F5 _ hF5 HOK2.out).mono ?_
              rintro e w13 ⟨A13, c13, rfl, ho13, hx13, _⟩
              have H13 := Lib.hid (H12.out.step hx13)
              have hcv13 := conv_log ho13
              have hbx12 := H13.out.left.left.left.blk
              have hc1 := cell_of hbx12 1
              have hc2 := cell_of hbx12 2
              clear hF5 ho13 hx13 H12
              go_wp2_with fail
              obtain ⟨F6, hF6, hm6⟩ := H13.out.b0
              refine (store_calls w13 g1 F6 _ x.client x.no x.call hF6 HOK1.out HX.out.call).mono ?_
              rintro e w14 ⟨rfl, hq14⟩
              rw [HT3.out] at hq14
              rw [HT1.out, HT2.out]
              have H15 := Lib.hid ((hm6 _ _ hq14).box a.cells 28)
              have hbb := H15.out.blk
              have hba := H15.out.left.blk
              clear hF6 hm6 hq14 hbx12 hc1 hc2 H13
              go_wp2_with fail
              generalize w14.alloc (.cells a.cells 28) = w15 at H15 hba hbb ⊢
              generalize w14.heap.size = bb at H15 hbb ⊢
              obtain ⟨F7, hF7, _⟩ := H15.out.left.b0
              obtain ⟨F8, hF8, _⟩ := H15.out.left.left.b2
              obtain ⟨f1, u1, v1, hA1, hh1⟩ := store_parts hF7
              obtain ⟨f2, u2, v2, hA2, hh2⟩ := store_parts hF8
              have HA1 := Lib.hid hA1
              have HA2 := Lib.hid hA2
              have HH1 := Lib.hid hh1
              have HH2 := Lib.hid hh2
              have hk1 : ∀ w', Ext w15 w' → w'.cell? ⟨g1, 0, none⟩ = some (.pointer (some ⟨f1, 0, none⟩)) := fun w' hx => (cell_of (hx.blk HA1.out.cell id) 0).trans (StoreD.get0 _ _ _)
              have hk2 : ∀ w', Ext w15 w' → w'.cell? ⟨g2, 0, none⟩ = some (.pointer (some ⟨f2, 0, none⟩)) := fun w' hx => (cell_of (hx.blk HA2.out.cell id) 0).trans (StoreD.get0 _ _ _)
              have HS4 := Lib.hid (show ∀ w', Ext w15 w' → w'.heap[ba]? = some (.cells a.cells 28 (0, 0)) ∧ w'.heap[bb]? = some (.cells a.cells 28 (0, 0)) ∧ w'.cell? ⟨g1, 0, none⟩ = some (.pointer (some ⟨f1, 0, none⟩)) ∧ w'.cell? ⟨g2, 0, none⟩ = some (.pointer (some ⟨f2, 0, none⟩)) from
                fun w' hx => ⟨hx.blk hba id, hx.blk hbb id, hk1 w' hx, hk2 w' hx⟩)
              have hlog2 := HOK2.out.len
              have hfb6 := (fbehind_ok L2).len
              have HEX := Lib.hid H15.out.ext
              have hself : ((mkStr (logBytes L2)).toList == (mkStr (logBytes L2)).toList) = true := by simp
              have hde : decide (a = a) = true := by simp
              clear hF7 hF8 hA1 hA2 hh1 hh2 hk1 hk2 hba hbb H15
              refine wp_region_held_drew (S := fun w' => Ext w15 w') (by kernel_rfl) (Touch.drew (Touch.refl _ w15)) (fun hHeld => ?_)
              refine wpAnyH_take (i := 0) (v := ?_) (List.getElem?_toArray.trans rfl) (by kernel_rfl) (by kernel_rfl) (by kernel_rfl) (fun _ _ _ h => h) (Or.inl ⟨by rfl, ?_⟩) (by assumption) ?_
              rotate_left
              · intro w' hw'
                try dsimp only at hw'
                skip
                go_simp
                try with_reducible rfl
              try simp only [Act.put, List.setIfInBounds_toArray, List.set_cons_zero, List.set_cons_succ]
              refine wpAnyH_take (i := 1) (v := ?_) (List.getElem?_toArray.trans rfl) (by kernel_rfl) (by kernel_rfl) (by kernel_rfl) (fun _ _ _ h => h) (Or.inl ⟨by rfl, ?_⟩) (by assumption) ?_
              rotate_left
              · intro w' hw'
                try dsimp only at hw'
                skip
                go_simp
                try with_reducible rfl
              try simp only [Act.put, List.setIfInBounds_toArray, List.set_cons_zero, List.set_cons_succ]
              refine wpAnyH_take (i := 2) (v := ?_) (List.getElem?_toArray.trans rfl) (by kernel_rfl) (by kernel_rfl) (by kernel_rfl) (fun _ _ _ h => h) (Or.inl ⟨by rfl, ?_⟩) (by assumption) ?_
              rotate_left
              · intro w' hw'
                try dsimp only at hw'
                skip
                go_simp
                try with_reducible rfl
              try simp only [Act.put, List.setIfInBounds_toArray, List.set_cons_zero, List.set_cons_succ]
              refine wpAnyH_take (i := 3) (v := ?_) (List.getElem?_toArray.trans rfl) (by kernel_rfl) (by kernel_rfl) (by kernel_rfl) (fun _ _ _ h => h) (Or.inl ⟨by rfl, ?_⟩) (by assumption) ?_
              rotate_left
              · intro w' hw'
                try dsimp only at hw'
                obtain ⟨hh1, hh2, hh3, hh4⟩ := HS4.out w' hw'
                go_simp
                try with_reducible rfl
              try simp only [Act.put, List.setIfInBounds_toArray, List.set_cons_zero, List.set_cons_succ]
              refine wpAnyH_take (i := 4) (v := ?_) (List.getElem?_toArray.trans rfl) (by kernel_rfl) (by kernel_rfl) (by kernel_rfl) (fun _ _ _ h => h) (Or.inl ⟨by rfl, ?_⟩) (by assumption) ?_
              rotate_left
              · intro w' hw'
                try dsimp only at hw'
                obtain ⟨hh1, hh2, hh3, hh4⟩ := HS4.out w' hw'
                go_simp
                try with_reducible rfl
              try simp only [Act.put, List.setIfInBounds_toArray, List.set_cons_zero, List.set_cons_succ]
              refine wpAnyH_take (i := 5) (v := ?_) (List.getElem?_toArray.trans rfl) (by kernel_rfl) (by kernel_rfl) (by kernel_rfl) (fun _ _ _ h => h) (Or.inl ⟨by rfl, ?_⟩) (by assumption) ?_
              rotate_left
              · intro w' hw'
                try dsimp only at hw'
                skip
                go_simp
                try with_reducible rfl
              try simp only [Act.put, List.setIfInBounds_toArray, List.set_cons_zero, List.set_cons_succ]
              refine wpAnyH_take (i := 6) (v := ?_) (List.getElem?_toArray.trans rfl) (by kernel_rfl) (by kernel_rfl) (by kernel_rfl) (fun _ _ _ h => h) (Or.inl ⟨by rfl, ?_⟩) (by assumption) ?_
              rotate_left
              · intro w' hw'
                try dsimp only at hw'
                skip
                go_simp
                try with_reducible rfl
              try simp only [Act.put, List.setIfInBounds_toArray, List.set_cons_zero, List.set_cons_succ]
              refine wpAnyH_take (i := 7) (v := ?_) (List.getElem?_toArray.trans rfl) (by kernel_rfl) (by kernel_rfl) (by kernel_rfl) (fun _ _ _ h => h) (Or.inl ⟨by rfl, ?_⟩) (by assumption) ?_
              rotate_left
              · intro w' hw'
                try dsimp only at hw'
                skip
                go_simp
                try with_reducible rfl
              try simp only [Act.put, List.setIfInBounds_toArray, List.set_cons_zero, List.set_cons_succ]
              refine wpAnyH_take (i := 8) (v := ?_) (List.getElem?_toArray.trans rfl) (by kernel_rfl) (by kernel_rfl) (by kernel_rfl) (fun _ _ _ h => h) (Or.inl ⟨by rfl, ?_⟩) (by assumption) ?_
              rotate_left
              · intro w' hw'
                try dsimp only at hw'
                skip
                go_simp
                try with_reducible rfl
              try simp only [Act.put, List.setIfInBounds_toArray, List.set_cons_zero, List.set_cons_succ]
              refine wpAnyH_take (i := 11) (v := ?_) (List.getElem?_toArray.trans rfl) (by kernel_rfl) (by kernel_rfl) (by kernel_rfl) (fun _ _ _ h => h) (Or.inl ⟨by rfl, ?_⟩) (by assumption) ?_
              rotate_left
              · intro w' hw'
                try dsimp only at hw'
                skip
                go_simp
                try with_reducible rfl
              try simp only [Act.put, List.setIfInBounds_toArray, List.set_cons_zero, List.set_cons_succ]
              refine wpAnyH_ready (rs := [9]) (by kernel_rfl) (by simp) ?_
              refine AllReadyH.cons (List.getElem?_toArray.trans rfl) (fun K hK => ?_) AllReadyH.nil
              go_simp
              go_at_call 23
              refine (store_log_at _ g1 f1 u1 L2 (HA1.out.ext (Touch.drew (Touch.refl _ w15))) HOK2.out).mono ?_
              rintro e w16 ⟨A16, c16, rfl, ho16, hx16', _⟩
              have hx16 : Ext w15 w16 := (Touch.drew (Touch.refl _ w15)).trans hx16'
              have HO16 := Lib.hid (show Owns w16 5 (.slice A16 (logBytes L2).length c16) (logBytes L2) from ho16)
              have HX16 := Lib.hid hx16
              clear ho16 hx16'
              refine hK.out _ _ hx16 (fun _ => ?_)
              clear hK K
              try simp only [Act.put, List.setIfInBounds_toArray, List.set_cons_zero, List.set_cons_succ]
              refine wpAnyH_more (S' := fun w' => Ext w16 w') (fun w' h => hx16.trans h) _ _ _ _ ?_
              clear hx16 hHeld
              have hHeld : Ext w16 w16 := Touch.refl _ _
              refine wpAnyH_take (i := 10) (v := ?_) (List.getElem?_toArray.trans rfl) (by kernel_rfl) (by kernel_rfl) (by kernel_rfl) (fun _ _ _ h => h) (Or.inl ⟨by rfl, ?_⟩) (by assumption) ?_
              rotate_left
              · intro w' hw'
                try dsimp only at hw'
                have hcv := conv_log (HO16.out.ext hw')
                go_simp
                try with_reducible rfl
              try simp only [Act.put, List.setIfInBounds_toArray, List.set_cons_zero, List.set_cons_succ]
              refine wpAnyH_ready (rs := [12]) (by kernel_rfl) (by simp) ?_
              refine AllReadyH.cons (List.getElem?_toArray.trans rfl) (fun K hK => ?_) AllReadyH.nil
              go_simp
              go_at_call 23
              refine (store_log_at _ g2 f2 u2 L2 (HA2.out.ext HX16.out) HOK2.out).mono ?_
              rintro e w17 ⟨A17, c17, rfl, ho17, hx17, _⟩
              have HO17 := Lib.hid (show Owns w17 5 (.slice A17 (logBytes L2).length c17) (logBytes L2) from ho17)
              have HX17 := Lib.hid (HX16.out.trans hx17)
              clear ho17
              refine hK.out _ _ hx17 (fun _ => ?_)
              clear hK K
              try simp only [Act.put, List.setIfInBounds_toArray, List.set_cons_zero, List.set_cons_succ]
              refine wpAnyH_more (S' := fun w' => Ext w17 w') (fun w' h => hx17.trans h) _ _ _ _ ?_
              clear hx17 hHeld
              have hHeld : Ext w17 w17 := Touch.refl _ _
              refine wpAnyH_take (i := 13) (v := ?_) (List.getElem?_toArray.trans rfl) (by kernel_rfl) (by kernel_rfl) (by kernel_rfl) (fun _ _ _ h => h) (Or.inl ⟨by rfl, ?_⟩) (by assumption) ?_
              rotate_left
              · intro w' hw'
                try dsimp only at hw'
                have hcv := conv_log (HO17.out.ext hw')
                go_simp
                try with_reducible rfl
              try simp only [Act.put, List.setIfInBounds_toArray, List.set_cons_zero, List.set_cons_succ]
              refine wpAnyH_take (i := 14) (v := ?_) (List.getElem?_toArray.trans rfl) (by kernel_rfl) (by kernel_rfl) (by kernel_rfl) (fun _ _ _ h => h) (Or.inl ⟨by rfl, ?_⟩) (by assumption) ?_
              rotate_left
              · intro w' hw'
                try dsimp only at hw'
                skip
                go_simp
                try with_reducible rfl
              try simp only [Act.put, List.setIfInBounds_toArray, List.set_cons_zero, List.set_cons_succ]
              refine wpAnyH_take (i := 15) (v := ?_) (List.getElem?_toArray.trans rfl) (by kernel_rfl) (by kernel_rfl) (by kernel_rfl) (fun _ _ _ h => h) (Or.inl ⟨by rfl, ?_⟩) (by assumption) ?_
              rotate_left
              · intro w' hw'
                try dsimp only at hw'
                skip
                go_simp
                try with_reducible rfl
              try simp only [Act.put, List.setIfInBounds_toArray, List.set_cons_zero, List.set_cons_succ]
              refine wpAnyH_take (i := 16) (v := ?_) (List.getElem?_toArray.trans rfl) (by kernel_rfl) (by kernel_rfl) (by kernel_rfl) (fun _ _ _ h => h) (Or.inl ⟨by rfl, ?_⟩) (by assumption) ?_
              rotate_left
              · intro w' hw'
                try dsimp only at hw'
                skip
                go_simp
                try with_reducible rfl
              try simp only [Act.put, List.setIfInBounds_toArray, List.set_cons_zero, List.set_cons_succ]
              refine wpAnyH_take (i := 17) (v := ?_) (List.getElem?_toArray.trans rfl) (by kernel_rfl) (by kernel_rfl) (by kernel_rfl) (fun _ _ _ h => h) (Or.inl ⟨by rfl, ?_⟩) (by assumption) ?_
              rotate_left
              · intro w' hw'
                try dsimp only at hw'
                skip
                go_simp
                try with_reducible rfl
              try simp only [Act.put, List.setIfInBounds_toArray, List.set_cons_zero, List.set_cons_succ]
              refine wpAnyH_take (i := 18) (v := ?_) (List.getElem?_toArray.trans rfl) (by kernel_rfl) (by kernel_rfl) (by kernel_rfl) (fun _ _ _ h => h) (Or.inl ⟨by rfl, ?_⟩) (by assumption) ?_
              rotate_left
              · intro w' hw'
                try dsimp only at hw'
                skip
                go_simp
                try with_reducible rfl
              try simp only [Act.put, List.setIfInBounds_toArray, List.set_cons_zero, List.set_cons_succ]
              refine wpAnyH_take (i := 19) (v := ?_) (List.getElem?_toArray.trans rfl) (by kernel_rfl) (by kernel_rfl) (by kernel_rfl) (fun _ _ _ h => h) (Or.inl ⟨by rfl, ?_⟩) (by assumption) ?_
              rotate_left
              · intro w' hw'
                try dsimp only at hw'
                skip
                go_simp
                try with_reducible rfl
              try simp only [Act.put, List.setIfInBounds_toArray, List.set_cons_zero, List.set_cons_succ]
              refine wpAnyH_take (i := 20) (v := ?_) (List.getElem?_toArray.trans rfl) (by kernel_rfl) (by kernel_rfl) (by kernel_rfl) (fun _ _ _ h => h) (Or.inl ⟨by rfl, ?_⟩) (by assumption) ?_
              rotate_left
              · intro w' hw'
                try dsimp only at hw'
                obtain ⟨hh1, hh2, hh3, hh4⟩ := HS4.out w' (HX17.out.trans hw')
                go_simp
                try with_reducible rfl
              try simp only [Act.put, List.setIfInBounds_toArray, List.set_cons_zero, List.set_cons_succ]
              refine wpAnyH_take (i := 22) (v := ?_) (List.getElem?_toArray.trans rfl) (by kernel_rfl) (by kernel_rfl) (by kernel_rfl) (fun _ _ _ h => h) (Or.inl ⟨by rfl, ?_⟩) (by assumption) ?_
              rotate_left
              · intro w' hw'
                try dsimp only at hw'
                skip
                go_simp
                try with_reducible rfl
              try simp only [Act.put, List.setIfInBounds_toArray, List.set_cons_zero, List.set_cons_succ]
              refine wpAnyH_take (i := 23) (v := ?_) (List.getElem?_toArray.trans rfl) (by kernel_rfl) (by kernel_rfl) (by kernel_rfl) (fun _ _ _ h => h) (Or.inl ⟨by rfl, ?_⟩) (by assumption) ?_
              rotate_left
              · intro w' hw'
                try dsimp only at hw'
                skip
                go_simp
                try with_reducible rfl
              try simp only [Act.put, List.setIfInBounds_toArray, List.set_cons_zero, List.set_cons_succ]
              refine wpAnyH_take (i := 24) (v := ?_) (List.getElem?_toArray.trans rfl) (by kernel_rfl) (by kernel_rfl) (by kernel_rfl) (fun _ _ _ h => h) (Or.inl ⟨by rfl, ?_⟩) (by assumption) ?_
              rotate_left
              · intro w' hw'
                try dsimp only at hw'
                skip
                go_simp
                try with_reducible rfl
              try simp only [Act.put, List.setIfInBounds_toArray, List.set_cons_zero, List.set_cons_succ]
              refine wpAnyH_take (i := 25) (v := ?_) (List.getElem?_toArray.trans rfl) (by kernel_rfl) (by kernel_rfl) (by kernel_rfl) (fun _ _ _ h => h) (Or.inl ⟨by rfl, ?_⟩) (by assumption) ?_
              rotate_left
              · intro w' hw'
                try dsimp only at hw'
                obtain ⟨hh1, hh2, hh3, hh4⟩ := HS4.out w' (HX17.out.trans hw')
                go_simp
                try with_reducible rfl
              try simp only [Act.put, List.setIfInBounds_toArray, List.set_cons_zero, List.set_cons_succ]
              refine wpAnyH_ready (rs := [21]) (by kernel_rfl) (by simp) ?_
              refine AllReadyH.cons (List.getElem?_toArray.trans rfl) (fun K hK => ?_) AllReadyH.nil
              go_simp
              go_at_call 17
              refine (files_names _ f1 v1 (fbehind L2) (HH1.out.ext HX17.out) (by omega)).mono ?_
              rintro e w18 ⟨A18, c18, rfl, ho18, hx18, _⟩
              have HO18 := Lib.hid ho18
              have HX18 := Lib.hid (HX17.out.trans hx18)
              clear ho18
              refine hK.out _ _ hx18 (fun _ => ?_)
              clear hK K
              try simp only [Act.put, List.setIfInBounds_toArray, List.set_cons_zero, List.set_cons_succ]
              refine wpAnyH_more (S' := fun w' => Ext w18 w') (fun w' h => hx18.trans h) _ _ _ _ ?_
              clear hx18 hHeld
              have hHeld : Ext w18 w18 := Touch.refl _ _
              refine wpAnyH_ready (rs := [26]) (by kernel_rfl) (by simp) ?_
              refine AllReadyH.cons (List.getElem?_toArray.trans rfl) (fun K hK => ?_) AllReadyH.nil
              go_simp
              go_at_call 17
              refine (files_names _ f2 v2 (fbehind L2) (HH2.out.ext HX18.out) (by omega)).mono ?_
              rintro e w19 ⟨A19, c19, rfl, ho19, hx19, _⟩
              have HO19 := Lib.hid ho19
              have HO18' := Lib.hid (HO18.out.ext hx19)
              have HX19 := Lib.hid (HX18.out.trans hx19)
              clear ho19
              refine hK.out _ _ hx19 (fun _ => ?_)
              clear hK K
              try simp only [Act.put, List.setIfInBounds_toArray, List.set_cons_zero, List.set_cons_succ]
              refine wpAnyH_more (S' := fun w' => Ext w19 w') (fun w' h => hx19.trans h) _ _ _ _ ?_
              clear hx19 hHeld
              have hHeld : Ext w19 w19 := Touch.refl _ _
              refine wpAnyH_ready (rs := [27]) (by kernel_rfl) (by simp) ?_
              refine AllReadyH.cons (List.getElem?_toArray.trans rfl) (fun K hK => ?_) AllReadyH.nil
              go_simp
              go_at_call 16
              refine (texts_yes2 _ _ _ _ _ _ _ _ ((fbehind L2).map (·.name)) HO18'.out.reads HO19.out.reads (by simp) (by simp) (by omega)).mono ?_
              rintro e w20 ⟨rfl, hx20⟩
              have HX20 := Lib.hid (HX19.out.trans hx20)
              refine hK.out _ _ hx20 (fun _ => ?_)
              clear hK K
              try simp only [Act.put, List.setIfInBounds_toArray, List.set_cons_zero, List.set_cons_succ]
              refine wpAnyH_more (S' := fun w' => Ext w20 w') (fun w' h => hx20.trans h) _ _ _ _ ?_
              clear hx20 hHeld
              have hHeld : Ext w20 w20 := Touch.refl _ _
              refine wpAnyH_take (i := 28) (v := ?_) (List.getElem?_toArray.trans rfl) (by kernel_rfl) (by kernel_rfl) (by kernel_rfl) (fun _ _ _ h => h) (Or.inl ⟨by rfl, ?_⟩) (by assumption) ?_
              rotate_left
              · intro w' hw'
                try dsimp only at hw'
                skip
                go_simp
                try with_reducible rfl
              try simp only [Act.put, List.setIfInBounds_toArray, List.set_cons_zero, List.set_cons_succ]
              refine wpAnyH_take (i := 29) (v := ?_) (List.getElem?_toArray.trans rfl) (by kernel_rfl) (by kernel_rfl) (by kernel_rfl) (fun _ _ _ h => h) (Or.inl ⟨by rfl, ?_⟩) (by assumption) ?_
              rotate_left
              · intro w' hw'
                try dsimp only at hw'
                skip
                go_simp
                try with_reducible rfl
              try simp only [Act.put, List.setIfInBounds_toArray, List.set_cons_zero, List.set_cons_succ]
              refine wpAnyH_done (by kernel_rfl) ?_ _
              all_goals
                go_wp2
                go_ret
                exact ⟨by first | rfl | simp, HEX.out.trans HX20.out⟩
          · have hTL := chestTear_code (keep := x.keep) h0
            have h0' : ((chestCall L x.client x.no x.call).1.2.2 != 0) = true := by simp [h0]
            have hEX := Lib.hid (H11.out.ext.alloc (.cells (chestCall L x.client x.no x.call).1.1.cells 28))
            rw [hTL]
            generalize (chestCall L x.client x.no x.call).1 = r at *
            go_wp2
            go_ret
            exact ⟨by first | rfl | simp, hEX.out⟩
end Go.Proofs.Ytalfbhhldfffkab
