/- DeskJoins: the walks of slow, deskBegun and the law. -/
import Derived.Test.YtalfbhhldfffkabGreatDoorGDeskB
import Derived.Test.YtalfbhhldfffkabGreatDoorGDeskP
namespace Go.Proofs.YtalfbhhldfffkabGreatDoor
open Go.RowKit
attribute [local go_sem ↓] sliced_cut

@[go_sem ↓] theorem store_Fault (a v : Value) : Instr.storeAt 29 a v = storeS 29 a v := rfl
/-! ### plain -/
theorem lFault_zero {l : List (List UInt8)} (hl : ¬ 150 < l.length) (h : ∀ s ∈ l, hasNl s = false) : lFault l = ⟨0, 0⟩ := lFault_none hl fun _ u _ hu => h u (List.mem_of_getElem? hu)
theorem nlAt_some {l : List (List UInt8)} {s : List UInt8} (hs : s ∈ l) (hn : hasNl s = true) : ∀ j, ∃ i, nlAt l j = some i := by
  induction l with
  | nil => simp at hs
  | cons u l ih =>
    intro j
    rw [nlAt]
    split
    · exact ⟨_, rfl⟩
    · rename_i h
      rcases List.mem_cons.1 hs with rfl | hs
      · exact (h hn).elim
      · exact ih hs _
theorem lFault_some {l : List (List UInt8)} (hl : ¬ 150 < l.length) {s : List UInt8} (hs : s ∈ l) (hn : hasNl s = true) : (lFault l).code = 14 := by
  unfold lFault
  rw [if_neg hl]
  obtain ⟨i, hi⟩ := nlAt_some hs hn 0
  rw [hi]
structure Joins (L a b : List (List UInt8)) : Prop where
  bad : (lFault L).code ≠ 0 → (dDo hNew a).1.2.code ≠ 0 ∨ (dDo (dDo hNew a).2 b).1.2.code ≠ 0
  good : (lFault L).code = 0 → (dDo hNew a).1.2.code = 0 ∧ (dDo (dDo hNew a).2 b).1.2.code = 0 ∧ (dDo hNew a).1.1 ++ (dDo (dDo hNew a).2 b).1.1 = (dDo hNew L).1.1
theorem dDo_bad {h : House} {l : List (List UInt8)} (hc : (lFault l).code ≠ 0) : dDo h l = (([], lFault l), h) := by unfold dDo; rw [if_pos hc]
theorem dDo_good {h : House} {l : List (List UInt8)} (hc : (lFault l).code = 0) : dDo h l = (((dLines h l).1, ⟨0, 0⟩), (dLines h l).2) := by unfold dDo; rw [if_neg (fun e => e hc)]
theorem joins {a b : List (List UInt8)} (hl : ¬ 150 < (a ++ b).length) : Joins (a ++ b) a b := by
  have ha : ¬ 150 < a.length := by rw [List.length_append] at hl; omega
  have hb : ¬ 150 < b.length := by rw [List.length_append] at hl; omega
  by_cases h1 : ∀ s ∈ a, hasNl s = false
  · have e1 := lFault_zero ha h1
    have d1 : dDo hNew a = (((dLines hNew a).1, ⟨0, 0⟩), (dLines hNew a).2) := dDo_good (by rw [e1])
    by_cases h2 : ∀ s ∈ b, hasNl s = false
    · have e2 := lFault_zero hb h2
      have d2 : dDo (dLines hNew a).2 b = (((dLines (dLines hNew a).2 b).1, ⟨0, 0⟩), (dLines (dLines hNew a).2 b).2) := dDo_good (by rw [e2])
      have e3 := lFault_zero hl fun s hs => by
        rcases List.mem_append.1 hs with hs | hs
        · exact h1 s hs
        · exact h2 s hs
      have d3 : dDo hNew (a ++ b) = (((dLines hNew (a ++ b)).1, ⟨0, 0⟩), (dLines hNew (a ++ b)).2) := dDo_good (by rw [e3])
      refine ⟨fun h => (h (by rw [e3])).elim, fun _ => ?_⟩
      rw [d1]
      simp only
      rw [d2, d3, dLines_append]
      simp
    · obtain ⟨s, hs, hn⟩ : ∃ s, s ∈ b ∧ hasNl s = true := by
        simpa using h2
      have e2 := lFault_some hb hs hn
      have e3 := lFault_some hl (List.mem_append_right a hs) hn
      refine ⟨fun _ => .inr ?_, fun h => by rw [e3] at h; exact absurd h (by decide)⟩
      rw [d1]
      simp only
      rw [dDo_bad (by rw [e2]; decide)]
      show (lFault b).code ≠ 0
      rw [e2]; decide
  · obtain ⟨s, hs, hn⟩ : ∃ s, s ∈ a ∧ hasNl s = true := by
      simpa using h1
    have e1 := lFault_some ha hs hn
    have e3 := lFault_some hl (List.mem_append_left b hs) hn
    refine ⟨fun _ => .inl ?_, fun h => by rw [e3] at h; exact absurd h (by decide)⟩
    rw [dDo_bad (by rw [e1]; decide)]
    show (lFault a).code ≠ 0
    rw [e1]; decide
theorem dDo_ok {h : House} (hh : DeskOk h) (l : List (List UInt8)) : DeskOk (dDo h l).2 := by
  unfold dDo
  split
  · exact hh
  · exact dLines_ok hh l
/-! ### slow -/
def SlowRel (w : World) (l : List ByteArray) (n i : Value) (wr : World) : Prop :=
  ∃ (k N : Nat), i = .int .i64 k ∧ n = .int .i64 N ∧ k ≤ l.length ∧ N ≤ 9000 ∧ (∀ s ∈ l.take k, s.size ≤ N) ∧ w = wr
set_option maxHeartbeats 1000000 in
set_option maxRecDepth 100000 in
theorem law_slow (w : World) (A : Option Addr) (c : Nat) (l : List ByteArray) (hr : Reads w w.heap.size A l) (hs : ∀ s ∈ l, s.size ≤ 140737488351232) (hl : l.length ≤ 140737488351232) :
    Calls Tryz.prog 5 #[.slice A l.length c] w fun e w' => ∃ b, e = .returned (.bool b) ∧ (b = false → ∀ s ∈ l, s.size ≤ 9000) ∧ w = w' := by
  have HR := Lib.hid hr
  have HS := Lib.hid hs
  clear hr hs
  go_enter Tryz.func5, Tryz.ntmps5
  go_wp2_with fail
  go_loopw [3, 4] (fun n i wr => SlowRel w l n i wr) (fun _ i _ => l.length - (intOf i).toNat)
  case atStart => exact ⟨0, 0, rfl, rfl, Nat.zero_le _, Nat.zero_le _, fun s hs => by simp at hs, rfl⟩
  case round =>
    obtain ⟨k, N, rfl, rfl, hk, hN, hall, rfl⟩ := hrel
    have HALL := Lib.hid hall
    clear hall
    by_cases hlt : k < l.length
    · obtain ⟨s, hsx⟩ : ∃ s, l[k]? = some s := ⟨l[k], by simp [hlt]⟩
      obtain ⟨ad, rfl, hct'⟩ := cell_text HR.out hsx
      have hct := hct' w (Touch.refl _ _)
      have hsz := HS.out s (List.mem_of_getElem? hsx)
      have HTK := Lib.hid (show l.take (k + 1) = l.take k ++ [s] by rw [List.take_add_one, hsx]; rfl)
      have hw1 : IntKind.i64.wrap ((N : Int) + (s.size : Int)) = (N : Int) + (s.size : Int) := IntWalk.i64_in _ (by omega)
      clear hsx hct'
      by_cases hbig : (9000 : Int) < (N : Int) + (s.size : Int)
      · go_wp2
        go_ret
        exact ⟨true, rfl, (fun h => absurd h (by decide)), rfl⟩
      · go_wp2
        go_roundw
        case rel =>
          refine ⟨k + 1, N + s.size, by go_num, by go_num, by omega, by omega, fun u hu => ?_, rfl⟩
          rw [HTK.out] at hu
          rcases List.mem_append.1 hu with hu | hu
          · have := HALL.out u hu; omega
          · simp at hu; subst hu; omega
        case measure => simp [intOf]; omega
    · obtain rfl : k = l.length := by omega
      have HA2 := HALL.out
      rw [List.take_length] at HA2
      go_wp2
      go_ret
      exact ⟨false, rfl, fun _ s hs => Nat.le_trans (HA2 s hs) hN, rfl⟩
/-! ### deskBegun -/
theorem db_do : (dDo hNew dbLines).1 = (dbOut, ⟨0, 0⟩) := by
  have e : lFault dbLines = ⟨0, 0⟩ := lFault_zero (by decide) (by decide +kernel)
  rw [dDo_good (by rw [e])]
  show ((dLines hNew dbLines).1, _) = _
  rw [db_out]
set_option maxHeartbeats 4000000 in
set_option maxRecDepth 100000 in
theorem desk_begun (W : World) (hL : LaidD W) : Calls Tryz.prog 4 #[] W fun e w' => e = .returned (.bool true) ∧ Ext W w' := by
  have HL := Lib.hid hL
  clear hL
  go_enter Tryz.func4, Tryz.ntmps4
  go_wp2_with fail
  refine (desk_new W).mono ?_
  rintro e w1 ⟨gd, gw, rfl, hn1⟩
  have H1 := Lib.hid (((Has.none W).both hn1).box ((dbLines.map mkStr).map Value.string).toArray 9).exch'
  clear hn1
  go_wp2_with fail
  change Calls Tryz.prog _ _ (w1.alloc (.cells ((dbLines.map mkStr).map Value.string).toArray 9)) _
  generalize w1.alloc (.cells ((dbLines.map mkStr).map Value.string).toArray 9) = w2 at H1 ⊢
  generalize w1.heap.size = g at H1 ⊢
  refine (desk_do H1.out HL.out DeskOk.new (some ⟨g, 0, none⟩) 11 11 (dbLines.map mkStr) (fun w' Y R y H => (own_texts (dbLines.map mkStr) (g := g) H.left.blk rfl (by decide)).reads) rfl (fun s hs => by
    obtain ⟨u, hu, rfl⟩ := List.mem_map.1 hs
    rw [mkStr_size]
    have : ∀ u ∈ dbLines, u.length ≤ 10000 := by decide
    exact this u hu)).mono ?_
  unfold DeskPost
  rw [map_to, db_do]
  rintro e w3 ⟨rfl, H3⟩
  have HX := Lib.hid H3.ext
  clear H3 H1
  go_upto_region 2 with fail
  have hb4 : (w3.alloc (.cells (FaultD.mk 0 0).cells 29)).heap[w3.heap.size]? = some (.cells (FaultD.mk 0 0).cells 29 (0, 0)) := heap_alloc_new _ _
  have HX4 := Lib.hid (HX.out.trans ((Touch.refl _ w3).alloc (.cells (FaultD.mk 0 0).cells 29)))
  generalize w3.alloc (.cells (FaultD.mk 0 0).cells 29) = w4 at hb4 HX4 ⊢
  have hc4 := (cell_of hb4 0).trans (FaultD.get0 _)
  go_wp2
  go_ret
  exact ⟨congrArg (fun b => Ending.returned (Value.bool b)) (eq_yes dbOut), HX4.out⟩
/-! ### the law -/
theorem dDo_len {h : House} (hh : DeskOk h) (l : List (List UInt8)) : (dDo h l).1.1.length ≤ 100000 * l.length := by
  unfold dDo
  split
  · simp
  · exact dLines_len hh l
theorem dDo_code (h : House) (l : List (List UInt8)) : (dDo h l).1.2.code = (lFault l).code := by
  unfold dDo
  split
  · rfl
  · rename_i e
    exact (Decidable.not_not.1 e).symm
theorem kcut (cut : Int) (n : Nat) (hn : n ≤ 150) : ∃ k : Nat, wrap64 ((IntKind.u64.wrap cut).tmod ((n : Int) + 1)) = (k : Int) ∧ k ≤ n := by
  have h0 : 0 ≤ IntKind.u64.wrap cut := by rw [IntKind.wrap_u64]; omega
  have h1 := Int.tmod_nonneg ((n : Int) + 1) h0
  have h2 := Int.tmod_lt_of_pos (IntKind.u64.wrap cut) (show (0 : Int) < (n : Int) + 1 by omega)
  generalize (IntKind.u64.wrap cut).tmod ((n : Int) + 1) = r at *
  refine ⟨r.toNat, ?_, by omega⟩
  have : wrap64 r = r := IntWalk.wrap64_in r (by omega)
  rw [this]
  omega
theorem uwrap (n : Int) : 0 ≤ IntKind.u64.wrap n ∧ IntKind.u64.wrap n < 18446744073709551616 := by
  rw [IntKind.wrap_u64]
  omega
set_option maxHeartbeats 8000000 in
set_option maxRecDepth 100000 in
theorem deskJoins (W : World) (A : Option Addr) (c : Nat) (l : List ByteArray) (cut : Int) (hr : Reads W W.heap.size A l) (hc : l.length ≤ c) (hs : ∀ s ∈ l, s.size ≤ 140737488351232) (hl : l.length ≤ 140737488351232) (hL : LaidD W) :
    Calls Tryz.prog 3 #[.slice A l.length c, .int .i64 cut] W fun e w' => e = .returned (.bool true) ∧ Ext W w' := by
  have HR := Lib.hid hr
  have HS := Lib.hid hs
  have HL := Lib.hid hL
  clear hr hs hL
  go_enter Tryz.func3, Tryz.ntmps3
  go_wp2_with fail
  refine (desk_begun W HL.out).mono ?_
  rintro e w1 ⟨rfl, hx1⟩
  have X1 := Lib.hid hx1
  clear hx1
  by_cases hbig : (150 : Int) < (l.length : Int)
  · go_wp2
    go_ret
    exact ⟨rfl, X1.out⟩
  go_wp2_with fail
  refine (law_slow w1 A c l (HR.out.ext X1.out) HS.out hl).mono ?_
  rintro e w' ⟨b, rfl, hb, rfl⟩
  cases b with
  | true =>
    go_wp2
    go_ret
    exact ⟨rfl, X1.out⟩
  | false =>
    have HSZ := Lib.hid (fun s hs => Nat.le_trans (hb rfl s hs) (by decide : 9000 ≤ 10000))
    clear hb HS
    go_upto_region 6 with fail
    obtain ⟨k, hk, hkl⟩ := kcut cut l.length (by omega)
    rw [hk]
    have HJ := Lib.hid (joins (a := (l.map (·.toList)).take k) (b := (l.map (·.toList)).drop k) (by rw [List.take_append_drop, List.length_map]; omega))
    rw [List.take_append_drop] at HJ
    clear hk
    go_wp2_with fail
    refine (desk_new w1).mono ?_
    rintro e w2 ⟨gd, gw, rfl, hn2⟩
    have H2 := Lib.hid ((((Has.none W).step X1.out).both hn2))
    clear hn2
    go_wp2_with fail
    refine (desk_new w2).mono ?_
    rintro e w3 ⟨ge, gv, rfl, hn3⟩
    have H3 := Lib.hid (H2.out.both hn3).exch'
    clear hn3 H2
    go_wp2_with fail
    have hLl : (l.map (·.toList)).length = l.length := List.length_map ..
    have hmt : (l.take k).map (·.toList) = (l.map (·.toList)).take k := List.map_take ..
    have hmd : (l.drop k).map (·.toList) = (l.map (·.toList)).drop k := List.map_drop ..
    refine (desk_do H3.out HL.out DeskOk.new (cutA A c 0 1) k c (l.take k) (fun w' Y R y H => ((HR.out.ext H.ext).cutA (m := c) hc 0).take k) (by rw [List.length_take]; omega) (fun s hs => HSZ.out s (List.mem_of_mem_take hs))).mono ?_
    rw [hmt]
    have HOK1 := Lib.hid (dDo_ok DeskOk.new ((l.map (·.toList)).take k))
    have hT1 := dDo_len DeskOk.new ((l.map (·.toList)).take k)
    have hT2 := dDo_len HOK1.out ((l.map (·.toList)).drop k)
    have hk1 : ((l.map (·.toList)).take k).length ≤ 150 := by rw [List.length_take]; omega
    have hk2 : ((l.map (·.toList)).drop k).length ≤ 150 := by rw [List.length_drop]; omega
    have hm1 : 100000 * ((l.map (·.toList)).take k).length ≤ 100000 * 150 := Nat.mul_le_mul_left _ hk1
    have hm2 : 100000 * ((l.map (·.toList)).drop k).length ≤ 100000 * 150 := Nat.mul_le_mul_left _ hk2
    have HJB := Lib.hid HJ.out.bad
    have HJG := Lib.hid HJ.out.good
    have HFL := Lib.hid (dDo_code hNew (l.map (·.toList)))
    have HQ2 := Lib.hid (show dDo (dDo hNew ((l.map (·.toList)).take k)).2 ((l.drop k).map (·.toList)) = dDo (dDo hNew ((l.map (·.toList)).take k)).2 ((l.map (·.toList)).drop k) by rw [hmd])
    clear HJ hmt hmd hk1 hk2
    generalize hq3 : dDo (dDo hNew ((l.map (·.toList)).take k)).2 ((l.map (·.toList)).drop k) = q3 at *
    generalize dDo hNew ((l.map (·.toList)).take k) = q1 at *
    unfold DeskPost
    rintro e w4 ⟨rfl, H4⟩
    have H5 := Lib.hid (((H4.box q1.1.2.cells 29).map fun _ => Rep.cg fun _ => Rep.ex).exch')
    clear H4 H3
    go_upto_region 8 with fail
    generalize w4.alloc (.cells q1.1.2.cells 29) = w5 at H5 ⊢
    generalize w4.heap.size = b1 at H5 ⊢
    go_wp2_with fail
    refine (desk_do H5.out HL.out DeskOk.new A l.length c l (fun w' Y R y H => HR.out.ext H.ext) rfl HSZ.out).mono ?_
    generalize hq2 : dDo hNew (l.map (·.toList)) = q2 at *
    unfold DeskPost
    rintro e w6 ⟨rfl, H6⟩
    have H7 := Lib.hid (((H6.box q2.1.2.cells 29).drop.map fun _ => Rep.cg fun _ => Rep.ex).exch')
    clear H6 H5
    go_upto_region 9 with fail
    generalize w6.alloc (.cells q2.1.2.cells 29) = w7 at H7 ⊢
    generalize w6.heap.size = b2 at H7 ⊢
    go_wp2_with fail
    refine (desk_do H7.out HL.out HOK1.out (cutA A c k 1) (l.length - k) (c - k) (l.drop k) (fun w' Y R y H => (HR.out.ext H.ext).cutA (m := c) hc k) (by rw [List.length_drop]) (fun s hs => HSZ.out s (List.mem_of_mem_drop hs))).mono ?_
    rw [HQ2.out]
    unfold DeskPost
    rintro e w8 ⟨rfl, H8⟩
    have H9 := Lib.hid (H8.box q3.1.2.cells 29).drop
    clear H8 H7 HQ2
    go_upto_region 10 with fail
    generalize w8.alloc (.cells q3.1.2.cells 29) = w9 at H9 ⊢
    generalize w8.heap.size = b3 at H9 ⊢
    have hc1 := (cell_of H9.out.left.left.blk 0).trans (FaultD.get0 _)
    have hc2 := (cell_of H9.out.left.blk 0).trans (FaultD.get0 _)
    have hc3 := (cell_of H9.out.blk 0).trans (FaultD.get0 _)
    by_cases hq : q2.1.2.code = 0
    · obtain ⟨g1, g2, g3⟩ := HJG.out (HFL.out.symm.trans hq)
      rw [hq] at hc2
      rw [g1] at hc1
      rw [g2] at hc3
      go_wp2_with fail
      refine (desk_new w9).mono ?_
      rintro e w10 ⟨gx, gy, rfl, hn10⟩
      have H10 := Lib.hid (H9.out.both hn10)
      clear hn10 H9 hc1 hc2 hc3
      go_wp2_with fail
      refine (desk_do H10.out HL.out DeskOk.new A l.length c l (fun w' Y R y H => HR.out.ext H.ext) rfl HSZ.out).mono ?_
      rw [hq2]
      unfold DeskPost
      rintro e w11 ⟨rfl, H11⟩
      have H12 := Lib.hid (H11.box q2.1.2.cells 29).drop
      clear H11 H10
      go_upto_region 13 with fail
      generalize w11.alloc (.cells q2.1.2.cells 29) = w12 at H12 ⊢
      generalize w11.heap.size = b4 at H12 ⊢
      have hc1 := (cell_of H12.out.left.left.left.blk 0).trans (FaultD.get0 _)
      have hc3 := (cell_of H12.out.left.blk 0).trans (FaultD.get0 _)
      rw [g1] at hc1
      rw [g2] at hc3
      have hz1 : (mkStr q1.1.1).size ≤ 15000000 := by rw [mkStr_size]; omega
      have hz3 : (mkStr q3.1.1).size ≤ 15000000 := by rw [mkStr_size]; omega
      have hle : (mkStr q1.1.1).size + (mkStr q3.1.1).size ≤ 9223372036854775807 := by omega
      have hcm : ((mkStr q1.1.1 ++ mkStr q3.1.1).toList == (mkStr q2.1.1).toList) = true := by rw [toList_cat, mkStr_toList, mkStr_toList, mkStr_toList, g3]; simp
      have hcs : ((mkStr q2.1.1).toList == (mkStr q2.1.1).toList) = true := by simp
      go_wp2
      go_ret
      exact ⟨rfl, H12.out.ext⟩
    · have hne : (q2.1.2.code == 0) = false := by simpa using hq
      rcases HJB.out (fun e => hq (HFL.out.trans e)) with g | g
      · go_wp2
        all_goals (go_ret; exact ⟨by first | rfl | simp [g], H9.out.ext⟩)
      · go_wp2
        all_goals (go_ret; exact ⟨by first | rfl | simp [g], H9.out.ext⟩)
end Go.Proofs.YtalfbhhldfffkabGreatDoor
