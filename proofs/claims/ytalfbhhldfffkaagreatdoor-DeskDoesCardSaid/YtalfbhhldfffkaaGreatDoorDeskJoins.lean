/- DeskJoins: the walks of slow, deskBegun and the law. -/
import Derived.Test.YtalfbhhldfffkaaGreatDoorGDeskB
import Derived.Test.YtalfbhhldfffkaaGreatDoorGDeskP
set_option maxHeartbeats 8000000
set_option maxRecDepth 100000
namespace Go.Proofs.YtalfbhhldfffkaaGreatDoor
open Go.RowKit
attribute [local go_sem ↓] sliced_cut
@[go_sem ↓] theorem store_Fault (a v : Value) : Instr.storeAt 31 a v = storeS 31 a v := rfl
theorem lFault_zero {l : List (List UInt8)} (hl : ¬ 150 < l.length) (h : ∀ s ∈ l, hasNl s = false) : lFault l = ⟨0, 0⟩ := lFault_none hl fun _ u _ hu => h u (List.mem_of_getElem? hu)
theorem dDo_bad {h : House} {l : List (List UInt8)} (hc : (lFault l).code ≠ 0) : dDo h l = (([], lFault l), h) := by unfold dDo; rw [if_pos hc]
theorem dDo_good {h : House} {l : List (List UInt8)} (hc : (lFault l).code = 0) : dDo h l = (((dLines h l).1, ⟨0, 0⟩), (dLines h l).2) := by unfold dDo; rw [if_neg (fun e => e hc)]
theorem dDo_ok {h : House} (hh : DeskOk h) (l : List (List UInt8)) : DeskOk (dDo h l).2 := by
 unfold dDo;split
 ·exact hh
 ·exact dLines_ok hh l
def SlowRel (w : World) (l : List ByteArray) (n i : Value) (wr : World) : Prop :=
 ∃ (k N : Nat), i = .int .i64 k /\ n = .int .i64 N /\ k <= l.length /\ N <= 9000 /\ (∀ s ∈ l.take k, s.size <= N) /\ w = wr
theorem law_slow (w : World) (A : Option Addr) (c : Nat) (l : List ByteArray) (hr : Reads w w.heap.size A l) (hs : ∀ s ∈ l, s.size <= 140737488351232) (hl : l.length <= 140737488351232) :
 Calls Tryz.prog 5 #[.slice A l.length c] w fun e w' => ∃ b, e = .returned (.bool b) /\ (b = false -> ∀ s ∈ l, s.size <= 9000) /\ w = w' := by
 have HR := lh hr;have HS := lh hs;clear hr hs;go_enter Tryz.func5, Tryz.ntmps5
 go_wp2_with fail
 go_loopw [3, 4] (fun n i wr => SlowRel w l n i wr) (fun _ i _ => l.length - (intOf i).toNat)
 case atStart => exact ⟨0, 0, rfl, rfl, Nat.zero_le _, Nat.zero_le _, fun s hs => by simp at hs, rfl⟩
 case round =>
  obtain ⟨k, N, rfl, rfl, hk, hN, hall, rfl⟩ := hrel;have HALL := lh hall;clear hall;by_cases hlt : k < l.length
  ·obtain ⟨s, hsx⟩ : ∃ s, l[k]? = some s := ⟨l[k], by simp [hlt]⟩
   obtain ⟨ad, rfl, hct'⟩ := cell_text HR.out hsx;have hct := hct' w (Touch.refl _ _);have hsz := HS.out s (List.mem_of_getElem? hsx);have HTK := lh (show l.take (k + 1) = l.take k ++ [s] by rw [List.take_add_one, hsx]; rfl);have hw1 : IntKind.i64.wrap ((N : Int) + (s.size : Int)) = (N : Int) + (s.size : Int) := IntWalk.i64_in _ (by omega);clear hsx hct';by_cases hbig : (9000 : Int) < (N : Int) + (s.size : Int)
   ·go_wp2
    go_ret
    exact ⟨true, rfl, (fun h => absurd h (by decide)), rfl⟩
   ·go_wp2
    go_roundw
    case rel =>
     refine ⟨k + 1, N + s.size, by go_num, by go_num, by omega, by omega, fun u hu => ?_, rfl⟩;rw [HTK.out] at hu;rcases List.mem_append.1 hu with hu | hu
     ·have := HALL.out u hu; omega
     ·simp at hu; subst hu; omega
    case measure => simp [intOf]; omega
  ·obtain rfl : k = l.length := by omega
   have HA2 := HALL.out;rw [List.take_length] at HA2;go_wp2
   go_ret
   exact ⟨false, rfl, fun _ s hs => Nat.le_trans (HA2 s hs) hN, rfl⟩
theorem db_do : (dDo hNew dbLines).1 = (dbOut, ⟨0, 0⟩) := by
 have e : lFault dbLines = ⟨0, 0⟩ := lFault_zero (by decide) (by decide +kernel);rw [dDo_good (by rw [e])];show ((dLines hNew dbLines).1, _) = _;rw [db_out]
theorem desk_begun (W : World) (hL : LaidD W) : Calls Tryz.prog 4 #[] W fun e w' => e = .returned (.bool true) /\ Ext W w' := by
 have HL := lh hL;clear hL;go_enter Tryz.func4, Tryz.ntmps4
 go_wp2_with fail
 refine (desk_new W).mono ?_;rintro e w1 ⟨gd, gw, rfl, hn1⟩;have H1 := lh (((Has.none W).both hn1).box ((dbLines.map mkStr).map Value.string).toArray 9).exch';clear hn1;go_wp2_with fail
 change Calls Tryz.prog _ _ (w1.alloc (.cells ((dbLines.map mkStr).map Value.string).toArray 9)) _;generalize w1.alloc (.cells ((dbLines.map mkStr).map Value.string).toArray 9) = w2 at H1 ⊢;generalize w1.heap.size = g at H1 ⊢
 refine (desk_do H1.out HL.out DeskOk.new (some ⟨g, 0, none⟩) 11 11 (dbLines.map mkStr) (fun w' Y R y H => (own_texts (dbLines.map mkStr) (g := g) H.left.blk rfl (by decide)).reads) rfl (fun s hs => by
  obtain ⟨u, hu, rfl⟩ := List.mem_map.1 hs;rw [mkStr_size];have : ∀ u ∈ dbLines, u.length <= 10000 := by decide
  exact this u hu)).mono ?_
 unfold DeskPost;rw [map_to, db_do];rintro e w3 ⟨rfl, H3⟩;have HX := lh H3.ext;clear H3 H1;go_upto_region 2 with fail
 have hb4 : (w3.alloc (.cells (FaultD.mk 0 0).cells 31)).heap[w3.heap.size]? = some (.cells (FaultD.mk 0 0).cells 31 (0, 0)) := heap_alloc_new _ _;have HX4 := lh (HX.out.trans ((Touch.refl _ w3).alloc (.cells (FaultD.mk 0 0).cells 31)));generalize w3.alloc (.cells (FaultD.mk 0 0).cells 31) = w4 at hb4 HX4 ⊢;have hc4 := (cell_of hb4 0).trans (FaultD.get0 _);go_wp2
 go_ret
 exact ⟨congrArg (fun b => Ending.returned (Value.bool b)) (eq_yes dbOut), HX4.out⟩
end Go.Proofs.YtalfbhhldfffkaaGreatDoor
