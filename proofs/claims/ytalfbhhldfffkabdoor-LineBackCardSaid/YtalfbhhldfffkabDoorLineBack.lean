/- LineBack: for every two calls and every text the law returns true and leaves its arguments as they were. No condition. -/
import Derived.Test.YtalfbhhldfffkabDoorLineApart
namespace Go.Proofs.YtalfbhhldfffkabDoor
open Go.RowKit

theorem lb_there {c : Call} (h : callCode c = 0) : callOf (mkStr (callLine c)).toList = (c, 0) := by rw [mkStr_toList]; exact callOf_text h
theorem lb_back {s : ByteArray} (h : (callOf s.toList).2 = 0) : callText (callOf s.toList).1 = (s, 0) := by
  obtain ⟨h1, h2⟩ := callOf_zero h
  rw [ct_zero h1, h2, mkStr_of]
theorem lb_str {s : ByteArray} (_hs : s.size ≤ 100000) : StrCall (callOf s.toList).1 := by
  unfold callOf
  cases hp : parsed s.toList with
  | none => exact ⟨by decide, by decide, by decide⟩
  | some c =>
    by_cases hc : callCode c = 0
    · simp only [hc, ne_eq, not_true_eq_false, if_false]
      have hform := callCode_form hc
      refine ⟨?_, ?_, ?_⟩
      · by_cases h6 : c.kind = 6
        · rw [hform.1 h6]; decide
        · have := okText_le' (callCode_name hc h6); omega
      · by_cases h3 : c.kind = 3
        · have := okText_le' (callCode_to hc h3); omega
        · rw [hform.2.1 h3]; decide
      · by_cases h4 : c.kind = 4
        · have := okText_le' (callCode_text hc h4); omega
        · rw [hform.2.2 h4]; decide
    · simp only [ne_eq, hc, not_false_eq_true, if_true]
      exact ⟨by decide, by decide, by decide⟩
set_option maxHeartbeats 8000000 in
set_option maxRecDepth 100000 in
theorem lineBack (W : World) (c d : Call) (s : ByteArray) (hc : StrCall c) (hd : StrCall d) (hs : s.size ≤ 140737488351232) (hL : Laid W) :
    Calls Tryd.prog 4 #[.agg c.cells, .agg d.cells, .string s] W fun e w' => e = .returned (.bool true) ∧ Ext W w' := by
  have HL := Lib.hid hL
  have HSTc := Lib.hid hc
  have HSTd := Lib.hid hd
  have hsi : (s.size : Int) ≤ 140737488351232 := by omega
  have hb0 : ((W.alloc (.cells c.cells 23)).alloc (.cells d.cells 23)).heap[W.heap.size]? = some (.cells c.cells 23 (0, 0)) := (heap_alloc_past _ _ _ (by simp)).trans (heap_alloc_new _ _)
  have hb1 : ((W.alloc (.cells c.cells 23)).alloc (.cells d.cells 23)).heap[W.heap.size + 1]? = some (.cells d.cells 23 (0, 0)) := by
    have := heap_alloc_new (W.alloc (.cells c.cells 23)) (.cells d.cells 23)
    rwa [World.size_alloc] at this
  have HX0 := Lib.hid (show Ext W ((W.alloc (.cells c.cells 23)).alloc (.cells d.cells 23)) from ((Touch.refl _ W).alloc _).alloc _)
  clear hL hc hd
  go_enter Tryd.func4, Tryd.ntmps4
  go_wp2_with fail
  generalize (W.alloc (.cells c.cells 23)).alloc (.cells d.cells 23) = V at hb0 hb1 HX0 ⊢
  generalize W.heap.size + 1 = b1 at hb1 ⊢
  generalize W.heap.size = b0 at hb0 ⊢
  refine (line_begun V (HL.out.ext HX0.out)).mono ?_
  rintro e w1 ⟨rfl, hx1⟩
  have HX1 := Lib.hid (HX0.out.trans hx1)
  have HC1 := Lib.hid (hx1.blk hb0 id)
  have HD1 := Lib.hid (hx1.blk hb1 id)
  have h10 := HC1.out
  clear hx1 hb0 hb1 HX0
  go_wp2_with fail
  cases hg : greatB c with
  | true =>
    have HG := Lib.hid hg
    clear hg
    refine (law_greatCall' w1 c true HG.out HSTc.out).mono ?_
    rintro e w2 ⟨rfl, hw2⟩
    have HX2 := Lib.hid (HX1.out.trans (show Ext w1 w2 by subst hw2; exact (Touch.refl _ w1).alloc _))
    clear hw2
    go_wp2
    go_ret
    exact ⟨rfl, HX2.out⟩
  | false =>
    have HG := Lib.hid hg
    clear hg
    refine (law_greatCall' w1 c false HG.out HSTc.out).mono ?_
    rintro e w2 ⟨rfl, hw2⟩
    have hx2 : Ext w1 w2 := by subst hw2; exact (Touch.refl _ w1).alloc _
    have HX2 := Lib.hid (HX1.out.trans hx2)
    have HC2 := Lib.hid (hx2.blk HC1.out id)
    have HD2 := Lib.hid (hx2.blk HD1.out id)
    have hd2 := HD2.out
    clear hw2 hx2 h10 HC1 HD1 HX1 HG
    go_wp2_with fail
    cases hg : greatB d with
    | true =>
      have HG := Lib.hid hg
      clear hg
      refine (law_greatCall' w2 d true HG.out HSTd.out).mono ?_
      rintro e w3 ⟨rfl, hw3⟩
      have HX3 := Lib.hid (HX2.out.trans (show Ext w2 w3 by subst hw3; exact (Touch.refl _ w2).alloc _))
      clear hw3
      go_wp2
      go_ret
      exact ⟨rfl, HX3.out⟩
    | false =>
      have HG := Lib.hid hg
      clear hg
      refine (law_greatCall' w2 d false HG.out HSTd.out).mono ?_
      rintro e w3 ⟨rfl, hw3⟩
      have hx3 : Ext w2 w3 := by subst hw3; exact (Touch.refl _ w2).alloc _
      have HX3 := Lib.hid (HX2.out.trans hx3)
      have HC3 := Lib.hid (hx3.blk HC2.out id)
      have HD3 := Lib.hid (hx3.blk HD2.out id)
      clear hw3 hx3 hd2 HC2 HD2 HX2 HG
      by_cases h1 : 1000 < s.size
      · have h1' : (1000 : Int) < (s.size : Int) := by omega
        clear h1
        go_wp2
        go_ret
        exact ⟨rfl, HX3.out⟩
      have h1' : ¬ (1000 : Int) < (s.size : Int) := by omega
      have HS := Lib.hid (show s.size ≤ 100000 by omega)
      have hc3 := HC3.out
      clear h1
      go_wp2_with fail
      refine (line_call w3 c HSTc.out).mono ?_
      unfold CTPost
      obtain ⟨n, hn⟩ : ∃ n, callCode c = n := ⟨_, rfl⟩
      have HCT := Lib.hid (ct_text hn)
      have HN := Lib.hid hn
      rw [HCT.out.1]
      rintro e w4 ⟨rfl, hx4⟩
      have HX4 := Lib.hid (HX3.out.trans hx4)
      have HC4 := Lib.hid (hx4.blk HC3.out id)
      have HD4 := Lib.hid (hx4.blk HD3.out id)
      have hd4 := HD4.out
      clear hx4 HX3 HC3 HD3 hc3 hn
      go_wp2_with fail
      refine (line_call w4 d HSTd.out).mono ?_
      unfold CTPost
      obtain ⟨m, hm⟩ : ∃ m, callCode d = m := ⟨_, rfl⟩
      have HDT := Lib.hid (ct_text hm)
      have HM := Lib.hid hm
      rw [HDT.out.1]
      rintro e w5 ⟨rfl, hx5⟩
      have HX5 := Lib.hid (HX4.out.trans hx5)
      have HC5 := Lib.hid (hx5.blk HC4.out id)
      have HD5 := Lib.hid (hx5.blk HD4.out id)
      clear hx5 HX4 HC4 HD4 hd4 hm
      by_cases h0 : n = 0
      · subst h0
        rw [HCT.out.2 rfl]
        have hxs : (mkStr (callLine c)).size ≤ 100000 := by rw [mkStr_size]; have := line_tiny HN.out; omega
        have HXS := Lib.hid hxs
        clear hxs
        go_wp2_with fail
        refine (line_parse w5 (mkStr (callLine c)) HXS.out (HL.out.ext HX5.out)).mono ?_
        unfold ParsePost
        rw [lb_there HN.out]
        rintro e w6 ⟨rfl, hx6⟩
        have hx7 := hx6.alloc (.cells c.cells 23)
        have hz7 : (w6.alloc (.cells c.cells 23)).heap[w6.heap.size]? = some (.cells c.cells 23 (0, 0)) := heap_alloc_new _ _
        have HX7 := Lib.hid (HX5.out.trans hx7)
        have HC7 := Lib.hid (hx7.blk HC5.out id)
        have HD7 := Lib.hid (hx7.blk HD5.out id)
        have HZ7 := Lib.hid hz7
        clear hx6 hx7 hz7
        by_cases hm0 : m = 0
        · subst hm0
          rw [HDT.out.2 rfl]
          by_cases hcd : c = d
          · subst hcd
            have hdd : decide (c = c) = true := by simp
            have k1 := HC7.out
            have k2 := HD7.out
            have k3 := HZ7.out
            generalize mkStr (callLine c) = x at *
            go_upto_region 11 with fail
            generalize w6.alloc (.cells c.cells 23) = w9 at *
            have HX9 := HX7
            clear k1 k2 k3 hdd HC7 HD7 HZ7 HCT HDT
            go_wp2_with fail
            refine (line_parse w9 s HS.out (HL.out.ext HX9.out)).mono ?_
            unfold ParsePost
            by_cases hg0 : (callOf s.toList).2 = 0
            · have HBK := Lib.hid (lb_back hg0)
              have HSC := Lib.hid (lb_str HS.out)
              rw [hg0]
              clear hg0
              generalize (callOf s.toList).1 = z at HBK HSC ⊢
              rintro e w10 ⟨rfl, hx10⟩
              have hx11 := hx10.alloc (.cells z.cells 23)
              have hz11 : (w10.alloc (.cells z.cells 23)).heap[w10.heap.size]? = some (.cells z.cells 23 (0, 0)) := heap_alloc_new _ _
              have HX11 := Lib.hid (HX9.out.trans hx11)
              clear hx10 hx11
              go_wp2_with fail
              generalize w10.alloc (.cells z.cells 23) = w11 at HX11 hz11 ⊢
              generalize w10.heap.size = bz at hz11 ⊢
              refine (line_call w11 z HSC.out).mono ?_
              unfold CTPost
              rw [HBK.out]
              rintro e w12 ⟨rfl, hx12⟩
              have HX12 := Lib.hid (HX11.out.trans hx12)
              clear hx12 hz11
              go_wp2
              go_ret
              exact ⟨rfl, HX12.out⟩
            · have HZ := Lib.hid (callOf_code hg0)
              rw [HZ.out]
              have hgn : ((callOf s.toList).2 != 0) = true := by simp [hg0]
              clear hg0
              generalize (callOf s.toList).2 = g at hgn ⊢
              rintro e w10 ⟨rfl, hx10⟩
              have hx11 := hx10.alloc (.cells Call.zero.cells 23)
              have hz11 : (w10.alloc (.cells Call.zero.cells 23)).heap[w10.heap.size]? = some (.cells Call.zero.cells 23 (0, 0)) := heap_alloc_new _ _
              have HX11 := Lib.hid (HX9.out.trans hx11)
              have hdd : decide (Call.zero = Call.zero) = true := by simp
              clear hx10 hx11
              go_wp2_with fail
              go_ret
              exact ⟨rfl, HX11.out⟩
          · have hdd : decide (c = d) = false := by simp [hcd]
            have hde : decide (c = c) = true := by simp
            have hne : ((mkStr (callLine c)).toList == (mkStr (callLine d)).toList) = false := by
              rw [mkStr_toList, mkStr_toList, beq_eq_false_iff_ne]
              exact fun e => hcd (callLine_inj HN.out HM.out e)
            have k1 := HC7.out
            have k2 := HD7.out
            have k3 := HZ7.out
            clear hcd
            generalize mkStr (callLine c) = x at *
            generalize mkStr (callLine d) = y at *
            go_upto_region 11 with fail
            generalize w6.alloc (.cells c.cells 23) = w9 at *
            have HX9 := HX7
            clear k1 k2 k3 hdd hde hne HC7 HD7 HZ7 HCT HDT
            go_wp2_with fail
            refine (line_parse w9 s HS.out (HL.out.ext HX9.out)).mono ?_
            unfold ParsePost
            by_cases hg0 : (callOf s.toList).2 = 0
            · have HBK := Lib.hid (lb_back hg0)
              have HSC := Lib.hid (lb_str HS.out)
              rw [hg0]
              clear hg0
              generalize (callOf s.toList).1 = z at HBK HSC ⊢
              rintro e w10 ⟨rfl, hx10⟩
              have hx11 := hx10.alloc (.cells z.cells 23)
              have hz11 : (w10.alloc (.cells z.cells 23)).heap[w10.heap.size]? = some (.cells z.cells 23 (0, 0)) := heap_alloc_new _ _
              have HX11 := Lib.hid (HX9.out.trans hx11)
              clear hx10 hx11
              go_wp2_with fail
              generalize w10.alloc (.cells z.cells 23) = w11 at HX11 hz11 ⊢
              generalize w10.heap.size = bz at hz11 ⊢
              refine (line_call w11 z HSC.out).mono ?_
              unfold CTPost
              rw [HBK.out]
              rintro e w12 ⟨rfl, hx12⟩
              have HX12 := Lib.hid (HX11.out.trans hx12)
              clear hx12 hz11
              go_wp2
              go_ret
              exact ⟨rfl, HX12.out⟩
            · have HZ := Lib.hid (callOf_code hg0)
              rw [HZ.out]
              have hgn : ((callOf s.toList).2 != 0) = true := by simp [hg0]
              clear hg0
              generalize (callOf s.toList).2 = g at hgn ⊢
              rintro e w10 ⟨rfl, hx10⟩
              have hx11 := hx10.alloc (.cells Call.zero.cells 23)
              have hz11 : (w10.alloc (.cells Call.zero.cells 23)).heap[w10.heap.size]? = some (.cells Call.zero.cells 23 (0, 0)) := heap_alloc_new _ _
              have HX11 := Lib.hid (HX9.out.trans hx11)
              have hdd : decide (Call.zero = Call.zero) = true := by simp
              clear hx10 hx11
              go_wp2_with fail
              go_ret
              exact ⟨rfl, HX11.out⟩
        · have hmn : (m == 0) = false := by simp [hm0]
          have hde : decide (c = c) = true := by simp
          have k1 := HC7.out
          have k3 := HZ7.out
          clear hm0
          generalize mkStr (callLine c) = x at *
          generalize (callText d).1 = y at *
          go_upto_region 11 with fail
          generalize w6.alloc (.cells c.cells 23) = w9 at *
          have HX9 := HX7
          clear k1 k3 hde hmn HC7 HD7 HZ7 HCT HDT
          go_wp2_with fail
          refine (line_parse w9 s HS.out (HL.out.ext HX9.out)).mono ?_
          unfold ParsePost
          by_cases hg0 : (callOf s.toList).2 = 0
          · have HBK := Lib.hid (lb_back hg0)
            have HSC := Lib.hid (lb_str HS.out)
            rw [hg0]
            clear hg0
            generalize (callOf s.toList).1 = z at HBK HSC ⊢
            rintro e w10 ⟨rfl, hx10⟩
            have hx11 := hx10.alloc (.cells z.cells 23)
            have hz11 : (w10.alloc (.cells z.cells 23)).heap[w10.heap.size]? = some (.cells z.cells 23 (0, 0)) := heap_alloc_new _ _
            have HX11 := Lib.hid (HX9.out.trans hx11)
            clear hx10 hx11
            go_wp2_with fail
            generalize w10.alloc (.cells z.cells 23) = w11 at HX11 hz11 ⊢
            generalize w10.heap.size = bz at hz11 ⊢
            refine (line_call w11 z HSC.out).mono ?_
            unfold CTPost
            rw [HBK.out]
            rintro e w12 ⟨rfl, hx12⟩
            have HX12 := Lib.hid (HX11.out.trans hx12)
            clear hx12 hz11
            go_wp2
            go_ret
            exact ⟨rfl, HX12.out⟩
          · have HZ := Lib.hid (callOf_code hg0)
            rw [HZ.out]
            have hgn : ((callOf s.toList).2 != 0) = true := by simp [hg0]
            clear hg0
            generalize (callOf s.toList).2 = g at hgn ⊢
            rintro e w10 ⟨rfl, hx10⟩
            have hx11 := hx10.alloc (.cells Call.zero.cells 23)
            have hz11 : (w10.alloc (.cells Call.zero.cells 23)).heap[w10.heap.size]? = some (.cells Call.zero.cells 23 (0, 0)) := heap_alloc_new _ _
            have HX11 := Lib.hid (HX9.out.trans hx11)
            have hdd : decide (Call.zero = Call.zero) = true := by simp
            clear hx10 hx11
            go_wp2_with fail
            go_ret
            exact ⟨rfl, HX11.out⟩
      · have hn' : (n == 0) = false := by simp [h0]
        clear h0
        generalize (callText c).1 = x at *
        generalize (callText d).1 = y at *
        go_wp2_with fail
        refine (line_parse w5 s HS.out (HL.out.ext HX5.out)).mono ?_
        unfold ParsePost
        by_cases hg0 : (callOf s.toList).2 = 0
        · have HBK := Lib.hid (lb_back hg0)
          have HSC := Lib.hid (lb_str HS.out)
          rw [hg0]
          clear hg0
          generalize (callOf s.toList).1 = z at HBK HSC ⊢
          rintro e w10 ⟨rfl, hx10⟩
          have hx11 := hx10.alloc (.cells z.cells 23)
          have hz11 : (w10.alloc (.cells z.cells 23)).heap[w10.heap.size]? = some (.cells z.cells 23 (0, 0)) := heap_alloc_new _ _
          have HX11 := Lib.hid (HX5.out.trans hx11)
          clear hx10 hx11
          go_wp2_with fail
          generalize w10.alloc (.cells z.cells 23) = w11 at HX11 hz11 ⊢
          generalize w10.heap.size = bz at hz11 ⊢
          refine (line_call w11 z HSC.out).mono ?_
          unfold CTPost
          rw [HBK.out]
          rintro e w12 ⟨rfl, hx12⟩
          have HX12 := Lib.hid (HX11.out.trans hx12)
          clear hx12 hz11
          go_wp2
          go_ret
          exact ⟨rfl, HX12.out⟩
        · have HZ := Lib.hid (callOf_code hg0)
          rw [HZ.out]
          have hgn : ((callOf s.toList).2 != 0) = true := by simp [hg0]
          clear hg0
          generalize (callOf s.toList).2 = g at hgn ⊢
          rintro e w10 ⟨rfl, hx10⟩
          have hx11 := hx10.alloc (.cells Call.zero.cells 23)
          have hz11 : (w10.alloc (.cells Call.zero.cells 23)).heap[w10.heap.size]? = some (.cells Call.zero.cells 23 (0, 0)) := heap_alloc_new _ _
          have HX11 := Lib.hid (HX5.out.trans hx11)
          have hdd : decide (Call.zero = Call.zero) = true := by simp
          clear hx10 hx11
          go_wp2_with fail
          go_ret
          exact ⟨rfl, HX11.out⟩
end Go.Proofs.YtalfbhhldfffkabDoor
