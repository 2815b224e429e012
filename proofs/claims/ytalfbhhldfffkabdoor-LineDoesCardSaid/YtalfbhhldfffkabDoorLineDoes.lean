/- LineDoes: for every call, every text and every answer the law returns true and leaves its arguments as they were. No condition. -/
import Derived.Test.YtalfbhhldfffkabDoorLineBegun
namespace Go.Proofs.YtalfbhhldfffkabDoor
open Go.RowKit

set_option maxHeartbeats 4000000 in
set_option maxRecDepth 100000 in
theorem lineDoes (W : World) (c : Call) (s : ByteArray) (a : Answer) (hc : StrCall c) (hs : s.size ≤ 140737488351232) (hk : I64 a.code) (ht : a.text.size ≤ 140737488351232) (hL : Laid W) :
    Calls Tryd.prog 3 #[.agg c.cells, .string s, .agg a.cells] W fun e w' => e = .returned (.bool true) ∧ Ext W w' := by
  have HL := Lib.hid hL
  have HST := Lib.hid hc
  have HK := Lib.hid hk
  have hsi : (s.size : Int) ≤ 140737488351232 := by omega
  have hti : (a.text.size : Int) ≤ 140737488351232 := by omega
  have hb0 : ((W.alloc (.cells c.cells 23)).alloc (.cells a.cells 25)).heap[W.heap.size]? = some (.cells c.cells 23 (0, 0)) := (heap_alloc_past _ _ _ (by simp)).trans (heap_alloc_new _ _)
  have hb1 : ((W.alloc (.cells c.cells 23)).alloc (.cells a.cells 25)).heap[W.heap.size + 1]? = some (.cells a.cells 25 (0, 0)) := by
    have := heap_alloc_new (W.alloc (.cells c.cells 23)) (.cells a.cells 25)
    rwa [World.size_alloc] at this
  have HX0 := Lib.hid (show Ext W ((W.alloc (.cells c.cells 23)).alloc (.cells a.cells 25)) from ((Touch.refl _ W).alloc _).alloc _)
  clear hL hc hk
  go_enter Tryd.func3, Tryd.ntmps3
  go_wp2_with fail
  generalize (W.alloc (.cells c.cells 23)).alloc (.cells a.cells 25) = V at hb0 hb1 HX0 ⊢
  generalize W.heap.size + 1 = b1 at hb1 ⊢
  generalize W.heap.size = b0 at hb0 ⊢
  refine (line_begun V (HL.out.ext HX0.out)).mono ?_
  rintro e w1 ⟨rfl, hx1⟩
  have HX1 := Lib.hid (HX0.out.trans hx1)
  have HB0 := Lib.hid (hx1.blk hb0 id)
  have HB1 := Lib.hid (hx1.blk hb1 id)
  have h10 := HB0.out
  clear hx1 hb0 hb1 HX0
  go_wp2_with fail
  cases hg : greatB c with
  | true =>
    have HG := Lib.hid hg
    clear hg
    refine (law_greatCall' w1 c true HG.out HST.out).mono ?_
    rintro e w2 ⟨rfl, hw2⟩
    have HX2 := Lib.hid (HX1.out.trans (show Ext w1 w2 by subst hw2; exact (Touch.refl _ w1).alloc _))
    clear hw2
    go_wp2
    go_ret
    exact ⟨rfl, HX2.out⟩
  | false =>
    have HG := Lib.hid hg
    clear hg
    refine (law_greatCall' w1 c false HG.out HST.out).mono ?_
    rintro e w2 ⟨rfl, hw2⟩
    have hx2 : Ext w1 w2 := by subst hw2; exact (Touch.refl _ w1).alloc _
    have HX2 := Lib.hid (HX1.out.trans hx2)
    have HC2 := Lib.hid (hx2.blk HB0.out id)
    have HA2 := Lib.hid (hx2.blk HB1.out id)
    clear hw2 hx2 h10 HB0 HB1 HX1 HG
    by_cases h1 : 1000 < s.size
    · have h1' : (1000 : Int) < (s.size : Int) := by omega
      clear h1
      go_wp2
      go_ret
      exact ⟨rfl, HX2.out⟩
    have h1' : ¬ (1000 : Int) < (s.size : Int) := by omega
    have HS := Lib.hid (show s.size ≤ 100000 by omega)
    have ha2 := (cell_of HA2.out 1).trans (Answer.get1 a)
    clear h1
    by_cases h3 : 300 < a.text.size
    · have h3' : (300 : Int) < (a.text.size : Int) := by omega
      clear h3
      go_wp2
      go_ret
      exact ⟨rfl, HX2.out⟩
    have h3' : ¬ (300 : Int) < (a.text.size : Int) := by omega
    have HT := Lib.hid (show a.text.size ≤ 100000 by omega)
    have hc2 := HC2.out
    clear h3
    go_wp2_with fail
    refine (line_call w2 c HST.out).mono ?_
    rintro e w3 ⟨rfl, hx3⟩
    have HX3 := Lib.hid (HX2.out.trans hx3)
    have HC3 := Lib.hid (hx3.blk HC2.out id)
    have HA3 := Lib.hid (hx3.blk HA2.out id)
    have hc3 := HC3.out
    clear hx3 HX2 HC2 HA2 hc2 ha2
    go_wp2_with fail
    refine (ref_callText w3 c HST.out).mono ?_
    rintro e w4 ⟨rfl, hx4⟩
    have HX4 := Lib.hid (HX3.out.trans hx4)
    have HA4 := Lib.hid (hx4.blk HA3.out id)
    clear hx4 HX3 HC3 HA3 hc3
    go_wp2_with fail
    refine (line_parse w4 s HS.out (HL.out.ext HX4.out)).mono ?_
    rintro e w5 ⟨rfl, hx5⟩
    have hx5a := hx5.alloc (.cells (callOf s.toList).1.cells 23)
    have hu5 : (w5.alloc (.cells (callOf s.toList).1.cells 23)).heap[w5.heap.size]? = some (.cells (callOf s.toList).1.cells 23 (0, 0)) := heap_alloc_new _ _
    have HX5 := Lib.hid (HX4.out.trans hx5a)
    have HA5 := Lib.hid (hx5a.blk HA4.out id)
    have HU5 := Lib.hid hu5
    clear hx5 hx5a HX4 HA4 hu5
    go_wp2_with fail
    generalize w5.alloc (.cells (callOf s.toList).1.cells 23) = w6 at HX5 HA5 HU5 ⊢
    generalize w5.heap.size = bu at HU5 ⊢
    refine (ref_callOf w6 s HS.out).mono ?_
    rintro e w7 ⟨rfl, hx7⟩
    have hx7a := hx7.alloc (.cells (callOf s.toList).1.cells 23)
    have hv7 : (w7.alloc (.cells (callOf s.toList).1.cells 23)).heap[w7.heap.size]? = some (.cells (callOf s.toList).1.cells 23 (0, 0)) := heap_alloc_new _ _
    have HX7 := Lib.hid (HX5.out.trans hx7a)
    have HA7 := Lib.hid (hx7a.blk HA5.out id)
    have HU7 := Lib.hid (hx7a.blk HU5.out id)
    have HV7 := Lib.hid hv7
    clear hx7 hx7a HX5 HA5 HU5 hv7
    go_wp2_with fail
    generalize w7.alloc (.cells (callOf s.toList).1.cells 23) = w8 at HX7 HA7 HU7 HV7 ⊢
    generalize w7.heap.size = bv at HV7 ⊢
    have sa := fun t : Later w8 => t.ext.blk HA7.out id
    have su := fun t : Later w8 => t.ext.blk HU7.out id
    have sv := fun t : Later w8 => t.ext.blk HV7.out id
    have hdd : decide ((callOf s.toList).1 = (callOf s.toList).1) = true := by simp
    refine wp_region_later (by kernel_rfl) (by kernel_rfl) ?_
    repeat (go_big_quiet_step (first
      | (go_at_call 12; exact Calls.later (line_answer _ a HK.out HT.out (HL.out.ext (HX7.out.trans (Later.ext _)))))
      | (go_at_call 13; exact Calls.later (ref_answer _ a HK.out HT.out (HL.out.ext (HX7.out.trans (Later.ext _)))))))
    refine wpQuiet_nil ?_
    rintro _ ⟨t, rfl⟩
    clear sa su sv
    go_wp2
    go_ret
    exact ⟨rfl, HX7.out.trans t.ext⟩
end Go.Proofs.YtalfbhhldfffkabDoor
