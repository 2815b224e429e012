/- LineBegun: the walk of lineBegun. -/
import Derived.Test.YtalfbhhldfffkabDoorLine6
namespace Go.Proofs.YtalfbhhldfffkabDoor
open Go.RowKit

def lbS : ByteArray := ⟨#[97, 112, 112, 101, 110, 100, 32, 97, 32, 120, 32, 121]⟩
def lbM : ByteArray := ⟨#[109, 97, 107, 101, 32, 97, 32, 98]⟩
def lbC : Call := ⟨4, ⟨#[97]⟩, ⟨#[]⟩, ⟨#[120, 32, 121]⟩⟩
theorem lb1 : callOf lbS.toList = (lbC, 0) := by decide +kernel
theorem lb2 : callText lbC = (lbS, 0) := by decide +kernel
theorem lb3 : callOf lbM.toList = (Call.zero, 12) := by decide +kernel
theorem lb4 : mkStr (ansLine ⟨3, ⟨#[]⟩⟩) = ⟨#[110, 111, 32, 51]⟩ := by decide +kernel
theorem lb5 : mkStr (ansLine ⟨0, ⟨#[120]⟩⟩) = ⟨#[111, 107, 32, 120]⟩ := by decide +kernel
theorem lb_parse1 (w : World) (hL : Laid w) : Calls Tryd.prog 10 #[.string ⟨#[97, 112, 112, 101, 110, 100, 32, 97, 32, 120, 32, 121]⟩] w fun e w' => e = .returned (.tuple #[.agg lbC.cells, .int .i64 0]) ∧ Ext w w' := by
  refine (line_parse w lbS (by decide) hL).mono fun e w' h => ?_
  unfold ParsePost at h
  rw [lb1] at h
  exact h
theorem lb_call (w : World) : Calls Tryd.prog 8 #[.agg lbC.cells] w fun e w' => e = .returned (.tuple #[.string lbS, .int .i64 0]) ∧ Ext w w' := by
  refine (line_call w lbC ⟨by decide, by decide, by decide⟩).mono fun e w' h => ?_
  unfold CTPost at h
  rw [lb2] at h
  exact h
theorem lb_parse2 (w : World) (hL : Laid w) : Calls Tryd.prog 10 #[.string ⟨#[109, 97, 107, 101, 32, 97, 32, 98]⟩] w fun e w' => e = .returned (.tuple #[.agg Call.zero.cells, .int .i64 12]) ∧ Ext w w' := by
  refine (line_parse w lbM (by decide) hL).mono fun e w' h => ?_
  unfold ParsePost at h
  rw [lb3] at h
  exact h
theorem lb_ans1 (w : World) (hL : Laid w) : Calls Tryd.prog 12 #[.agg (⟨3, ⟨#[]⟩⟩ : Answer).cells] w fun e w' => e = .returned (.string ⟨#[110, 111, 32, 51]⟩) ∧ Ext w w' := by
  refine (line_answer w ⟨3, ⟨#[]⟩⟩ ⟨by decide, by decide⟩ (by decide) hL).mono fun e w' h => ?_
  unfold AnsPost at h
  rw [lb4] at h
  exact h
theorem lb_ans2 (w : World) (hL : Laid w) : Calls Tryd.prog 12 #[.agg (⟨0, ⟨#[120]⟩⟩ : Answer).cells] w fun e w' => e = .returned (.string ⟨#[111, 107, 32, 120]⟩) ∧ Ext w w' := by
  refine (line_answer w ⟨0, ⟨#[120]⟩⟩ ⟨by decide, by decide⟩ (by decide) hL).mono fun e w' h => ?_
  unfold AnsPost at h
  rw [lb5] at h
  exact h
theorem lbs_eq : ((lbS.toList == [97, 112, 112, 101, 110, 100, 32, 97, 32, 120, 32, 121]) = true) := by decide +kernel
theorem lbt_eq : (((⟨#[120, 32, 121]⟩ : ByteArray).toList == [120, 32, 121]) = true) := by decide +kernel
set_option maxHeartbeats 2000000 in
set_option maxRecDepth 100000 in
theorem line_begun (w : World) (hL : Laid w) : Calls Tryd.prog 6 #[] w fun e w' => e = .returned (.bool true) ∧ Ext w w' := by
  have HL := Lib.hid hL
  clear hL
  go_enter Tryd.func6, Tryd.ntmps6
  go_wp2_with fail
  refine (lb_parse1 w HL.out).mono ?_
  rintro e w1 ⟨rfl, hx1⟩
  have hb2 : (w1.alloc (.cells lbC.cells 23)).heap[w1.heap.size]? = some (.cells lbC.cells 23 (0, 0)) := heap_alloc_new _ _
  have hx2 : Ext w (w1.alloc (.cells lbC.cells 23)) := hx1.alloc _
  have HX2 := Lib.hid hx2
  have HB2 := Lib.hid hb2
  clear hx1 hx2
  go_wp2_with fail
  generalize w1.alloc (.cells lbC.cells 23) = w2 at HX2 HB2 hb2 ⊢
  generalize w1.heap.size = b2 at HB2 hb2 ⊢
  refine (lb_call w2).mono ?_
  rintro e w3 ⟨rfl, hx3⟩
  have HX3 := Lib.hid (HX2.out.trans hx3)
  have HB3 := Lib.hid (hx3.blk HB2.out id)
  clear hx3 hb2
  go_wp2_with fail
  refine (lb_parse2 w3 (HL.out.ext HX3.out)).mono ?_
  rintro e w4 ⟨rfl, hx4⟩
  have HX5 := Lib.hid (HX3.out.trans (hx4.alloc (.cells Call.zero.cells 23)))
  have hb5 := (hx4.alloc (.cells Call.zero.cells 23)).blk HB3.out id
  have hc5 := (cell_of hb5 3).trans (Call.get3 lbC)
  replace hc5 : (w4.alloc (.cells Call.zero.cells 23)).cell? ⟨b2, 3, none⟩ = some (.string ⟨#[120, 32, 121]⟩) := hc5
  have he1 := lbs_eq
  have he2 := lbt_eq
  clear hx4 hb5
  go_wp2_with fail
  generalize w4.alloc (.cells Call.zero.cells 23) = w5 at HX5 hc5 ⊢
  refine (lb_ans1 w5 (HL.out.ext HX5.out)).mono ?_
  rintro e w6 ⟨rfl, hx6⟩
  have HX6 := Lib.hid (HX5.out.trans hx6)
  clear hx6 hc5
  go_wp2_with fail
  refine (lb_ans2 w6 (HL.out.ext HX6.out)).mono ?_
  rintro e w7 ⟨rfl, hx7⟩
  have HX7 := Lib.hid (HX6.out.trans hx7)
  clear hx7
  go_wp2
  go_ret
  exact ⟨rfl, HX7.out⟩
end Go.Proofs.YtalfbhhldfffkabDoor
