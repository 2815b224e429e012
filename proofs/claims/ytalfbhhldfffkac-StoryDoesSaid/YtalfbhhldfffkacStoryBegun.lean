/- StoryBegun: the walk of storyBegun. -/
import Derived.Test.YtalfbhhldfffkacGStory
import Derived.Test.YtalfbhhldfffkacGWorldLaw
namespace Go.Proofs.Ytalfbhhldfffkac
open Go.RowKit

def ybH : House := (hCalm wb1).2
def ybR : Record := ⟨1, 1, wbX, ⟨0, ⟨#[]⟩⟩⟩
theorem ybN : (hCalm wb1).1 = 1 := by decide +kernel
theorem ybS : ybH.S = [ybR] := by decide +kernel
theorem ybC : hCalm wb1 = (1, ybH) := Prod.ext ybN rfl
theorem ybOk : ∃ fr, HouseOk ybH fr := by obtain ⟨fr, h⟩ := wbOk1; exact ⟨fr, hCalm_ok h⟩
theorem ybT : textAt (storyTexts [ybR]) 1 = ⟨#[97, 61, 10]⟩ := by decide +kernel
theorem ybRec : storyRec [ybR] 0 = ybR := by decide +kernel
theorem ybW : wouldOf [ybR] 0 (readOf ⟨#[97]⟩) = ⟨6, ⟨#[]⟩⟩ := by decide +kernel
theorem ybT1 : timesOf [ybR] 1 1 = 1 := by decide +kernel
theorem ybT2 : timesOf [ybR] 1 2 = 0 := by decide +kernel
theorem ybStr : StrCall (readOf ⟨#[97]⟩) := ⟨by decide, by decide, by decide⟩
set_option maxHeartbeats 4000000 in
set_option maxRecDepth 100000 in
theorem story_begun (W : World) : Calls Try.prog 30 #[] W fun e w' => e = .returned (.bool true) ∧ Ext W w' := by
  go_enter Try.func30, Try.ntmps30
  go_wp2_with fail
  refine (world_new W).mono ?_
  rintro e w1 ⟨gw, rfl, hn1⟩
  have K1 := Lib.hid hn1
  clear hn1
  go_wp2_with fail
  obtain ⟨F2, hF2, hm2⟩ := K1.out.one
  refine (world_step' _ gw F2 hNew ⟨1, 1, 0, wbX⟩ 0 wb1 hF2 hNew_ok.fits wbSt1 wbs1).mono ?_
  rintro e w2 ⟨rfl, hq2⟩
  have K2 := Lib.hid (hm2 _ _ hq2)
  clear hF2 hm2 hq2 K1
  go_wp2_with fail
  obtain ⟨F3, hF3, hm3⟩ := K2.out.one
  refine (world_calm' _ gw F3 wb1 1 ybH hF3 wbOk1 ybC).mono ?_
  rintro e w3 ⟨rfl, hq3⟩
  have K3 := Lib.hid (hm3 _ _ hq3)
  clear hF3 hm3 hq3 K2
  obtain ⟨F4, hF4, _⟩ := K3.out.one
  obtain ⟨gs, Fs, hcs⟩ := world_store2 hF4
  have HCS := Lib.hid hcs
  have hc0 := (hcs w3 (Touch.refl _ _)).1
  have HLG := Lib.hid (show LogOk ybH.S by obtain ⟨fr, h⟩ := ybOk; exact h.log)
  clear hF4 hcs
  go_wp2_with fail
  refine (store_logs w3 gs Fs _ (HCS.out w3 (Touch.refl _ _)).2 HLG.out).mono ?_
  rintro e w4 ⟨A4, c4, rfl, ho4, hx4, _⟩
  have HO4 := Lib.hid ho4
  have X4 := Lib.hid (K3.out.ext.trans hx4)
  have hlen := HLG.out.len
  clear ho4 hx4 hc0
  go_wp2_with fail
  refine (story_of w4 A4 _ c4 (logBytes ybH.S) HO4.out.bytesIn (by omega)).mono ?_
  rintro e w5 ⟨g, rfl, hx5, hst5, _⟩
  rw [log_all HLG.out, ybS] at hst5
  have HG := Lib.hid hst5
  have X5 := Lib.hid (X4.out.trans hx5)
  clear hst5 hx5
  go_wp2_with fail
  refine (story_record w5 g _ _ 0 HG.out).mono ?_
  rw [show SRecPost w5 [ybR] 0 = fun e w' => e = .returned (.tuple #[.agg ybR.cells, .bool true]) ∧ Ext w5 w' from by unfold SRecPost; rw [ybRec]; rfl]
  rintro e w6 ⟨rfl, hx6⟩
  have X7 := Lib.hid ((X5.out.trans hx6).alloc (.cells ybR.cells 48))
  have hb7 : (w6.alloc (.cells ybR.cells 48)).heap[w6.heap.size]? = some (.cells ybR.cells 48 (0, 0)) := heap_alloc_new _ _
  have HG7 := Lib.hid (HG.out.ext (hx6.alloc (.cells ybR.cells 48)))
  clear hx6
  go_wp2_with fail
  generalize w6.alloc (.cells ybR.cells 48) = w7 at X7 hb7 HG7 ⊢
  generalize w6.heap.size = br at hb7 ⊢
  refine (story_text w7 g _ _ 1 HG7.out (length_storyTexts _)).mono ?_
  rw [show STextPost w7 [ybR] (storyTexts [ybR]) 1 = fun e w' => e = .returned (.tuple #[.string ⟨#[97, 61, 10]⟩, .bool true]) ∧ w7 = w' from by unfold STextPost; rw [ybT]; rfl]
  rintro e w' ⟨rfl, rfl⟩
  go_wp2_with fail
  refine (story_would w7 g _ _ 0 (readOf ⟨#[97]⟩) HG7.out (by have := HLG.out.each; rwa [ybS] at this) ybStr (by decide)).mono ?_
  rw [show WouldPost w7 [ybR] 0 (readOf ⟨#[97]⟩) = fun e w' => e = .returned (.tuple #[.agg (Answer.cells ⟨6, ⟨#[]⟩⟩), .bool true]) ∧ Ext w7 w' from by unfold WouldPost; rw [ybW]; rfl]
  rintro e w8 ⟨rfl, hx8⟩
  have hx9 := hx8.alloc (.cells (Answer.cells ⟨6, ⟨#[]⟩⟩) 46)
  have X9 := Lib.hid (X7.out.trans hx9)
  have hb9 : (w8.alloc (.cells (Answer.cells ⟨6, ⟨#[]⟩⟩) 46)).heap[w8.heap.size]? = some (.cells (Answer.cells ⟨6, ⟨#[]⟩⟩) 46 (0, 0)) := heap_alloc_new _ _
  have hr9 := hx9.blk hb7 id
  have HG9 := Lib.hid (HG7.out.ext hx9)
  have hc9 := (cell_of hb9 0).trans (Answer.get0 _)
  have hc7 := (cell_of hr9 0).trans (Record.get0 _)
  rw [show ybR.client = 1 from rfl] at hc7
  clear hx8 hx9 hb7
  go_wp2_with fail
  change Calls Try.prog _ _ (w8.alloc (.cells (Answer.cells ⟨6, ⟨#[]⟩⟩) 46)) _
  generalize w8.alloc (.cells (Answer.cells ⟨6, ⟨#[]⟩⟩) 46) = w9 at X9 hb9 hr9 HG9 hc9 hc7 ⊢
  refine (story_len w9 g _ _ HG9.out).mono ?_
  rintro e w' ⟨rfl, rfl⟩
  go_wp2_with fail
  refine (story_times w9 g _ _ 1 1 HG9.out (by decide)).mono ?_
  rw [show TimesPost w9 [ybR] 1 1 = fun e w' => e = .returned (.int .i64 1) ∧ Ext w9 w' from by unfold TimesPost; rw [ybT1]; rfl]
  rintro e w10 ⟨rfl, hx10⟩
  have X10 := Lib.hid (X9.out.trans hx10)
  have HG10 := Lib.hid (HG9.out.ext hx10)
  clear hx10
  go_wp2_with fail
  refine (story_times w10 g _ _ 1 2 HG10.out (by decide)).mono ?_
  rw [show TimesPost w10 [ybR] 1 2 = fun e w' => e = .returned (.int .i64 0) ∧ Ext w10 w' from by unfold TimesPost; rw [ybT2]; rfl]
  rintro e w11 ⟨rfl, hx11⟩
  have X11 := Lib.hid (X10.out.trans hx11)
  clear hx11
  go_wp2
  go_ret
  exact ⟨rfl, X11.out⟩
end Go.Proofs.Ytalfbhhldfffkac
