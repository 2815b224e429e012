/- StoryTells: the walk of the law. -/
import Derived.Test.YtalfbhhldfffkacStoryBegun
namespace Go.Proofs.Ytalfbhhldfffkac
open Go.RowKit

theorem textAt_at {L : List Record} {k : Nat} (hk : k ≤ L.length) : textAt (storyTexts L) k = mkStr (fshow (fbehind (L.take k))) := by
  unfold textAt
  rw [if_neg (by omega), Int.toNat_natCast, storyTexts_at L hk]
  rfl
theorem textAt_same {L : List Record} {k : Nat} {r : Record} (hr : L[k]? = some r) (h0 : (fdo (fbehind (L.take k)) r.call).1.code ≠ 0) : textAt (storyTexts L) ((k : Int) + 1) = textAt (storyTexts L) k := by
  have hk := (List.getElem?_eq_some_iff.1 hr).1
  rw [show (k : Int) + 1 = ((k + 1 : Nat) : Int) by omega, textAt_at (by omega), textAt_at (by omega), fbehind_take hr, fdo_same (.inl h0)]
set_option maxHeartbeats 4000000 in
set_option maxRecDepth 100000 in
theorem storyTells (W : World) (A : Option Addr) (c : Nat) (l : List Step) (hr : Reads W W.heap.size A l) (hs : ∀ x ∈ l, StrWStep x) (hl : l.length ≤ 140737488351232) :
    Calls Try.prog 9 #[.slice A l.length c] W fun e w' => e = .returned (.bool true) ∧ Ext W w' := by
  have HR := Lib.hid hr
  have HS := Lib.hid hs
  clear hr hs
  go_enter Try.func9, Try.ntmps9
  go_wp2_with fail
  refine (story_begun W).mono ?_
  rintro e w1 ⟨rfl, hx1⟩
  have X1 := Lib.hid hx1
  clear hx1
  go_wp2_with fail
  refine (law_greatSteps w1 w1.heap.size A c l (HR.out.ext X1.out) (Nat.le_refl _) HS.out hl).mono ?_
  rintro e w2 ⟨b2, rfl, hx2⟩
  have X2 := Lib.hid (X1.out.trans hx2)
  clear hx2
  cases b2
  rotate_left
  · go_wp2
    go_ret
    exact ⟨rfl, X2.out⟩
  go_wp2_with fail
  refine (world_new w2).mono ?_
  rintro e w3 ⟨gw, rfl, hn3⟩
  have H0 := Lib.hid (hn3.since X2.out)
  clear hn3
  go_wp2_with fail
  go_loopw [4] (fun i wr => ∃ k : Nat, i = .int .i64 k ∧ k ≤ l.length ∧ Has (repWorld gw) W wr (hAt l k)) (fun i _ => l.length - (intOf i).toNat)
  case atStart => exact ⟨0, rfl, Nat.zero_le _, H0.out⟩
  case round =>
    clear H0
    obtain ⟨k, rfl, hk, hz⟩ := hrel
    have HZ := Lib.hid hz
    clear hz
    by_cases hlt : k < l.length
    · skip
      obtain ⟨x, hx⟩ : ∃ x, l[k]? = some x := ⟨l[k], by simp [hlt]⟩
      obtain ⟨ad, rfl, hadb, hat⟩ := HR.out _ x hx
      have hLV : LV Try.prog 32 (ad.add (k * 7)) wr = .ok (.agg x.cells) wr := LV_Step ((hat.of_same (w' := wr) (by rw [show (ad.add (k * Lies.size Step)).block = ad.block by unfold Addr.add; split <;> rfl]; exact HZ.out.ext.block _ hadb id)))
      have HXX := Lib.hid hx
      have HOK := Lib.hid (hAt_ok l k)
      have HFI := Lib.hid (hAt_fits l k)
      have HST := Lib.hid (HS.out x (List.mem_of_getElem? hx))
      clear hx hat
      go_wp2_with fail
      obtain ⟨F5, hF5, hm5⟩ := HZ.out.one
      refine (world_step wr gw F5 _ x hF5 HFI.out HST.out).mono ?_
      rintro e w5 ⟨rfl, hq5⟩
      have h5 := hm5 _ _ hq5
      rw [← hAt_next HXX.out] at h5
      have H5 := Lib.hid h5
      clear hF5 hm5 hq5 h5
      go_wp2
      go_roundw
      case rel => exact ⟨k + 1, by go_num, by omega, H5.out⟩
      case measure => simp [intOf]; omega
    · obtain rfl : k = l.length := by omega
      obtain ⟨fr, hok⟩ := hAt_ok l l.length
      have HLG := Lib.hid hok.log
      generalize (hAt l l.length) = H at *
      obtain ⟨F5, hF5, _⟩ := HZ.out.one
      obtain ⟨gs, Fs, hcs⟩ := world_store2 hF5
      have HCS := Lib.hid hcs
      have hc0 := (hcs wr (Touch.refl _ _)).1
      have hlen := HLG.out.len
      clear hF5 hcs hok hlt hk
      generalize H.S = L at *
      go_wp2_with fail
      refine (store_logs wr gs Fs _ (HCS.out wr (Touch.refl _ _)).2 HLG.out).mono ?_
      rintro e w4 ⟨A4, c4, rfl, ho4, hx4, _⟩
      have HO4 := Lib.hid ho4
      have X4 := Lib.hid (HZ.out.ext.trans hx4)
      clear ho4 hx4 hc0
      go_wp2_with fail
      refine (story_of w4 A4 _ c4 (logBytes L) HO4.out.bytesIn (by omega)).mono ?_
      rintro e w5 ⟨g, rfl, hx5, hst5, _⟩
      rw [log_all HLG.out] at hst5
      have HG := Lib.hid hst5
      have X5 := Lib.hid (X4.out.trans hx5)
      have hLl : L.length ≤ 250 := by have := log_len HLG.out.each; omega
      clear hst5 hx5
      go_wp2_with fail
      go_loopw [6] (fun i wz => ∃ q : Nat, i = .int .i64 q ∧ q ≤ L.length ∧ Ext w5 wz) (fun i _ => L.length - (intOf i).toNat)
      case atStart => exact ⟨0, rfl, Nat.zero_le _, Touch.refl _ _⟩
      case round =>
        obtain ⟨q, rfl, hq, hx⟩ := hrel
        have HX := Lib.hid hx
        clear hx
        go_wp2_with fail
        refine (story_len wr g _ _ (HG.out.ext HX.out)).mono ?_
        rintro e w' ⟨rfl, rfl⟩
        by_cases hlt : q < L.length
        · obtain ⟨r, hr⟩ : ∃ r, L[q]? = some r := ⟨L[q], by simp [hlt]⟩
          have HR1 := Lib.hid hr
          have HRC := Lib.hid (show storyRec L q = r by unfold storyRec; rw [if_neg (by omega), Int.toNat_natCast, hr]; rfl)
          have HD1 := Lib.hid (show decide (0 ≤ (q : Int) ∧ (q : Int) < L.length) = true by simp; omega)
          have HD2 := Lib.hid (show decide (0 ≤ (q : Int) ∧ (q : Int) ≤ L.length) = true by simp; omega)
          have HW1 := Lib.hid (show wouldOf L q r.call = r.answer by unfold wouldOf; rw [if_pos (by omega), Int.toNat_natCast, HLG.out.serial q r hr])
          have HT1 := Lib.hid (times_one HLG.out (List.mem_of_getElem? hr))
          have HSTR := Lib.hid (recok_str (HLG.out.each r (List.mem_of_getElem? hr)))
          have HSAME := Lib.hid (fun (h0 : r.answer.code ≠ 0) => textAt_same hr (by rw [← HLG.out.serial q r hr]; exact h0))
          clear hr
          go_wp2_with fail
          refine (story_record wr g _ _ q (HG.out.ext HX.out)).mono ?_
          rw [show SRecPost wr L q = fun e w' => e = .returned (.tuple #[.agg r.cells, .bool true]) ∧ Ext wr w' from by unfold SRecPost; rw [HRC.out, HD1.out]]
          rintro e w6 ⟨rfl, hx6⟩
          have hx7 := hx6.alloc (.cells r.cells 48)
          have X7 := Lib.hid (HX.out.trans hx7)
          have hb7 : (w6.alloc (.cells r.cells 48)).heap[w6.heap.size]? = some (.cells r.cells 48 (0, 0)) := heap_alloc_new _ _
          clear hx6 hx7
          go_wp2_with fail
          generalize w6.alloc (.cells r.cells 48) = w7 at X7 hb7 ⊢
          generalize w6.heap.size = br at hb7 ⊢
          refine (story_would w7 g _ _ q r.call (HG.out.ext X7.out) HLG.out.each HSTR.out (by omega)).mono ?_
          rw [show WouldPost w7 L q r.call = fun e w' => e = .returned (.tuple #[.agg r.answer.cells, .bool true]) ∧ Ext w7 w' from by unfold WouldPost; rw [HW1.out, HD2.out]]
          rintro e w8 ⟨rfl, hx8⟩
          have hx9 := hx8.alloc (.cells r.answer.cells 46)
          have X9 := Lib.hid (X7.out.trans hx9)
          have hb9 : (w8.alloc (.cells r.answer.cells 46)).heap[w8.heap.size]? = some (.cells r.answer.cells 46 (0, 0)) := heap_alloc_new _ _
          have hr9 := hx9.blk hb7 id
          have hcl := (cell_of hr9 0).trans (Record.get0 _)
          have hno := (cell_of hr9 1).trans (Record.get1 _)
          have hde : decide (r.answer = r.answer) = true := by simp
          clear hx8 hx9 hb7
          go_wp2_with fail
          change Calls Try.prog _ _ (w8.alloc (.cells r.answer.cells 46)) _
          generalize w8.alloc (.cells r.answer.cells 46) = w9 at X9 hb9 hr9 hcl hno ⊢
          generalize w8.heap.size = ba at hb9 ⊢
          refine (story_times w9 g _ _ r.client r.no (HG.out.ext X9.out) (by omega)).mono ?_
          rw [show TimesPost w9 L r.client r.no = fun e w' => e = .returned (.int .i64 1) ∧ Ext w9 w' from by unfold TimesPost; rw [HT1.out]; rfl]
          rintro e w10 ⟨rfl, hx10⟩
          have X10 := Lib.hid (X9.out.trans hx10)
          have hb10 := hx10.blk hb9 id
          have hcd := (cell_of hb10 0).trans (Answer.get0 _)
          clear hx10 hb9 hr9 hcl hno
          go_wp2_with fail
          refine (story_text w10 g _ _ q (HG.out.ext X10.out) (length_storyTexts _)).mono ?_
          rw [show STextPost w10 L (storyTexts L) q = fun e w' => e = .returned (.tuple #[.string (textAt (storyTexts L) q), .bool true]) ∧ w10 = w' from by unfold STextPost; rw [HD2.out]]
          rintro e w' ⟨rfl, rfl⟩
          have HD3 := Lib.hid (show decide (0 ≤ (q : Int) + 1 ∧ (q : Int) + 1 ≤ L.length) = true by simp; omega)
          go_wp2_with fail
          refine (story_text w10 g _ _ ((q : Int) + 1) (HG.out.ext X10.out) (length_storyTexts _)).mono ?_
          rw [show STextPost w10 L (storyTexts L) ((q : Int) + 1) = fun e w' => e = .returned (.tuple #[.string (textAt (storyTexts L) ((q : Int) + 1)), .bool true]) ∧ w10 = w' from by unfold STextPost; rw [HD3.out]]
          rintro e w' ⟨rfl, rfl⟩
          by_cases h0 : r.answer.code = 0
          · have h0' : (r.answer.code != 0) = false := by simp [h0]
            clear h0
            generalize textAt (storyTexts L) ((q : Int) + 1) = T1
            generalize textAt (storyTexts L) q = T0
            go_wp2
            go_roundw
            case rel => exact ⟨q + 1, by go_num, by omega, X10.out⟩
            case measure => simp [intOf]; omega
          · have h0' : (r.answer.code != 0) = true := by simp [h0]
            rw [HSAME.out h0]
            clear h0
            generalize textAt (storyTexts L) q = T0
            have hself : (T0.toList == T0.toList) = true := by simp
            go_wp2
            go_roundw
            case rel => exact ⟨q + 1, by go_num, by omega, X10.out⟩
            case measure => simp [intOf]; omega
        · obtain rfl : q = L.length := by omega
          go_wp2
          go_ret
          exact ⟨rfl, X5.out.trans HX.out⟩
end Go.Proofs.Ytalfbhhldfffkac
