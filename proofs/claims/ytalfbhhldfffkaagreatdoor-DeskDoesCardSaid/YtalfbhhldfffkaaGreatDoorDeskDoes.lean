/- DeskDoes: the walk of the law. -/
import Derived.Test.YtalfbhhldfffkaaGreatDoorRef11
import Derived.Test.YtalfbhhldfffkaaGreatDoorDeskJoins
set_option maxHeartbeats 8000000
set_option maxRecDepth 100000
namespace Go.Proofs.YtalfbhhldfffkaaGreatDoor
open Go.RowKit
@[go_sem ↓] theorem load_Fault (v : Value) : Instr.loadAt 31 v = loadS 31 v := rfl
@[go_sem] theorem guard_Fault (op : BinOp) (a b : Operand) (x y : FaultD) (w : World) : (eqGuard op 31 a b (.agg x.cells) (.agg y.cells)).run Tryz.prog w = .ok () w := run_eqGuard_agg w op 31 a b _ _ (by kernel_rfl)
theorem run_neq_Fault (x : FaultD) (w : World) : (binOp .neq 31 (.agg x.cells) (.agg x.cells)).run Tryz.prog w = .ok (.bool false) w := by
 unfold FaultD.cells;simp [go_sem]
@[go_sem ↓] theorem bin_neq_Fault (x y : Value) : binOp .neq 31 x y = binS .neq 31 x y := rfl
@[go_sem] theorem runS_neq_Fault (x : FaultD) (w : World) : (binS .neq 31 (.agg x.cells) (.agg x.cells)).run Tryz.prog w = .ok (.bool false) w := run_neq_Fault x w
theorem lFault_cases (L : List (List UInt8)) : ((lFault L).code ≠ 0 \/ (lFault L = ⟨0, 0⟩ /\ L.length <= 150)) := by
 unfold lFault;split
 ·exact .inl (by show (13 : Int) ≠ 0; decide)
 ·split
  ·exact .inl (by show (14 : Int) ≠ 0; decide)
  ·exact .inr ⟨rfl, by omega⟩
abbrev BL (g : Nat) : Rep (Unit × Array Value) := NN.and (repBlock g 22)
def DDRel (cs : Array Value) (W : World) (gl gd gw gr gh : Nat) (i : Value) (wr : World) : Prop :=
 ∃ (k : Nat) (t : List UInt8) (h : House), i = .int .i64 k /\ k <= 2 /\ DeskOk h /\ Has ((((BL gl).and (repDesk gd gw)).and (repRef gr gh))) W wr ((((), cs), h), (t, h))
theorem deskDoes (W : World) (A0 : Option Addr) (c0 : Nat) (a : List ByteArray) (A1 : Option Addr) (c1 : Nat) (b : List ByteArray) (hra : Reads W W.heap.size A0 a) (hrb : Reads W W.heap.size A1 b) (hsa : ∀ s ∈ a, s.size <= 140737488351232) (hsb : ∀ s ∈ b, s.size <= 140737488351232) (hla : a.length <= 140737488351232) (hlb : b.length <= 140737488351232) (hL : LaidD W) :
 Calls Tryz.prog 3 #[.slice A0 a.length c0, .slice A1 b.length c1] W fun e w' => e = .returned (.bool true) /\ Ext W w' := by
 have HRA := lh hra;have HRB := lh hrb;have HSA := lh hsa;have HSB := lh hsb;have HL := lh hL;clear hra hrb hsa hsb hL;go_enter Tryz.func3, Tryz.ntmps3
 go_wp2_with fail
 refine (desk_begun W HL.out).mono ?_;rintro e w1 ⟨rfl, hx1⟩;have X1 := lh hx1;clear hx1;by_cases hba : (200 : Int) < (a.length : Int)
 ·go_wp2
  go_ret
  exact ⟨rfl, X1.out⟩
 by_cases hbb : (200 : Int) < (b.length : Int)
 ·go_wp2
  go_ret
  exact ⟨rfl, X1.out⟩
 go_wp2_with fail
 refine (law_slow w1 A0 c0 a (HRA.out.ext X1.out) HSA.out hla).mono ?_;rintro e w' ⟨sa, rfl, hsa, rfl⟩;cases sa with
 | true =>
   go_wp2
   go_ret
   exact ⟨rfl, X1.out⟩
 | false =>
   have HZA := lh (fun s hs => Nat.le_trans (hsa rfl s hs) (by decide : 9000 <= 10000));clear hsa HSA;go_wp2_with fail
   refine (law_slow w1 A1 c1 b (HRB.out.ext X1.out) HSB.out hlb).mono ?_;rintro e w' ⟨sb, rfl, hsb, rfl⟩;cases sb with
   | true =>
     go_wp2
     go_ret
     exact ⟨rfl, X1.out⟩
   | false =>
     have HZB := lh (fun s hs => Nat.le_trans (hsb rfl s hs) (by decide : 9000 <= 10000));clear hsb HSB;go_wp2_with fail
     refine (desk_new w1).mono ?_;rintro e w2 ⟨gd, gw, rfl, hn2⟩;have H2 := lh ((((Has.none W).step X1.out).both hn2));clear hn2;go_wp2_with fail
     refine (ref_newDesk w2).mono ?_;rintro e w3 ⟨gr, gh, rfl, hn3⟩;have H3 := lh ((((H2.out.both hn3).box #[.slice A0 a.length c0, .slice A1 b.length c1] 22).exch').map fun _ => Rep.cg fun _ => Rep.ex);clear hn3 H2;go_upto_region 8 with fail
     generalize w3.alloc (.cells #[.slice A0 a.length c0, .slice A1 b.length c1] 22) = w4 at H3 ⊢;generalize w3.heap.size = gl at H3 ⊢;go_wp2_with fail
     go_loopw [8] (fun i wr => DDRel #[.slice A0 a.length c0, .slice A1 b.length c1] W gl gd gw gr gh i wr) (fun i _ => 2 - (intOf i).toNat)
     case atStart => exact ⟨0, [], hNew, rfl, by omega, DeskOk.new, H3.out⟩
     case round =>
      clear H3;obtain ⟨k, t, h, rfl, hk, hok, hz⟩ := hrel;have HZ := lh hz;clear hz;obtain rfl | rfl | rfl : k = 0 \/ k = 1 \/ k = 2 := by omega
      ·skip
       clear hk;have HOKZ := lh hok;have hb := HZ.out.left.left.blk;have hc := (cell_of hb 0).trans rfl;replace hc : wr.cell? ⟨gl, 0, none⟩ = some (.slice A0 a.length c0) := hc;clear hb hok;go_wp2_with fail
       refine (desk_do HZ.out.exch' HL.out HOKZ.out A0 a.length c0 a (fun w' Y R y H => HRA.out.ext H.ext) rfl HZA.out).mono ?_;have HFC := lh (lFault_cases (a.map (·.toList)));have HDO := lh (dDo_ok HOKZ.out (a.map (·.toList)));have HQ := lh (show (lFault (a.map (·.toList))).code ≠ 0 -> dDo h (a.map (·.toList)) = (([], lFault (a.map (·.toList))), h) from dDo_bad);have HQ2 := lh (show (lFault (a.map (·.toList))).code = 0 -> dDo h (a.map (·.toList)) = (((dLines h (a.map (·.toList))).1, ⟨0, 0⟩), (dLines h (a.map (·.toList))).2) from dDo_good);rcases HFC.out with hcode | ⟨hf0, hlen⟩
       ·have hq := HQ.out hcode;rw [hq];unfold DeskPost;have hcb : ((lFault (a.map (·.toList))).code == 0) = false := by simpa using hcode
        generalize hF : lFault (a.map (·.toList)) = F at *;have HF := lh hF;clear hF HQ HQ2 HDO hq HFC hcode;rintro e w2 ⟨rfl, H2⟩;have H3 := lh (H2.box F.cells 31);clear H2;go_upto_region 12 with fail
        generalize w2.alloc (.cells F.cells 31) = w3 at H3 ⊢;generalize w2.heap.size = b1 at H3 ⊢;have hb3 := H3.out.left.left.left.blk;have hc3 : w3.cell? ⟨gl, 0, none⟩ = some (.slice A0 a.length c0) := (cell_of hb3 0).trans rfl;clear hb3 hc;go_wp2_with fail
        refine (ref_linesFault w3 A0 a.length c0 a (HRA.out.ext H3.out.ext) rfl HZA.out (by omega)).mono ?_;unfold LFaultPost;rw [HF.out];rintro e w4 ⟨rfl, hx4⟩;have H5 := lh ((H3.out.step hx4).box F.cells 31);clear hx4 H3 hc3;go_upto_region 13 with fail
        generalize w4.alloc (.cells F.cells 31) = w5 at H5 ⊢;generalize w4.heap.size = b2 at H5 ⊢;have hb1 := H5.out.left.blk;have hb2 := H5.out.blk;have hc2 := (cell_of hb2 0).trans (FaultD.get0 _);have H6 := lh H5.out.left.left.exch';have hcn : (F.code != 0) = true := by rw [bne, hcb]; rfl
        have hs0 : ((mkStr []).toList == ([] : List UInt8)) = true := by rw [mkStr_toList]; rfl
        clear H5;go_wp2
        go_roundw
        case rel => exact ⟨0 + 1, t, h, by go_num, by omega, HOKZ.out, H6.out⟩
        case measure => simp [intOf]
       ·have hq := HQ2.out (by rw [hf0]);rw [hq] at HDO ⊢;unfold DeskPost;have HLL := lh hlen;have hll : a.length <= 150 := by rw [List.length_map] at hlen; exact hlen
        have HF := lh hf0;clear HQ HQ2 hq HFC hf0 hlen;rintro e w2 ⟨rfl, H2⟩;have H3 := lh (H2.box (FaultD.mk 0 0).cells 31);clear H2;go_upto_region 12 with fail
        generalize w2.alloc (.cells (FaultD.mk 0 0).cells 31) = w3 at H3 ⊢;generalize w2.heap.size = b1 at H3 ⊢;have hb3 := H3.out.left.left.left.blk;have hc3 : w3.cell? ⟨gl, 0, none⟩ = some (.slice A0 a.length c0) := (cell_of hb3 0).trans rfl;clear hb3 hc;go_wp2_with fail
        refine (ref_linesFault w3 A0 a.length c0 a (HRA.out.ext H3.out.ext) rfl HZA.out (by omega)).mono ?_;unfold LFaultPost;rw [HF.out];rintro e w4 ⟨rfl, hx4⟩;have H5 := lh ((H3.out.step hx4).box (FaultD.mk 0 0).cells 31);clear hx4 H3 hc3;go_upto_region 13 with fail
        generalize w4.alloc (.cells (FaultD.mk 0 0).cells 31) = w5 at H5 ⊢;generalize w4.heap.size = b2 at H5 ⊢;have hb1 := H5.out.left.blk;have hb2 := H5.out.blk;have hc2 : w5.cell? ⟨b2, 0, none⟩ = some (.int .i64 0) := (cell_of hb2 0).trans (FaultD.get0 _);have H6 := lh H5.out.left.left.exch';have hb6 := H6.out.left.left.blk;have hc6 : w5.cell? ⟨gl, 0, none⟩ = some (.slice A0 a.length c0) := (cell_of hb6 0).trans rfl;clear H5 hb6;go_wp2_with fail
        refine (ref_do H6.out HL.out HOKZ.out A0 a.length c0 a (fun w' Y R y H => HRA.out.ext H.ext) rfl HZA.out hll).mono ?_;rintro e w6 ⟨rfl, H7⟩;have H8 := lh H7;clear H7 H6 hc6 hb1 hb2 hc2;generalize dLines h (a.map (·.toList)) = Z at *;have hcs : ((mkStr Z.1).toList == (mkStr Z.1).toList) = true := by simp
        go_wp2
        go_roundw
        case rel => exact ⟨0 + 1, Z.1, Z.2, by go_num, by omega, HDO.out, H8.out⟩
        case measure => simp [intOf]
      ·skip
       clear hk;have HOKZ := lh hok;have hb := HZ.out.left.left.blk;have hc := (cell_of hb 1).trans rfl;replace hc : wr.cell? ⟨gl, 1, none⟩ = some (.slice A1 b.length c1) := hc;clear hb hok;go_wp2_with fail
       refine (desk_do HZ.out.exch' HL.out HOKZ.out A1 b.length c1 b (fun w' Y R y H => HRB.out.ext H.ext) rfl HZB.out).mono ?_;have HFC := lh (lFault_cases (b.map (·.toList)));have HDO := lh (dDo_ok HOKZ.out (b.map (·.toList)));have HQ := lh (show (lFault (b.map (·.toList))).code ≠ 0 -> dDo h (b.map (·.toList)) = (([], lFault (b.map (·.toList))), h) from dDo_bad);have HQ2 := lh (show (lFault (b.map (·.toList))).code = 0 -> dDo h (b.map (·.toList)) = (((dLines h (b.map (·.toList))).1, ⟨0, 0⟩), (dLines h (b.map (·.toList))).2) from dDo_good);rcases HFC.out with hcode | ⟨hf0, hlen⟩
       ·have hq := HQ.out hcode;rw [hq];unfold DeskPost;have hcb : ((lFault (b.map (·.toList))).code == 0) = false := by simpa using hcode
        generalize hF : lFault (b.map (·.toList)) = F at *;have HF := lh hF;clear hF HQ HQ2 HDO hq HFC hcode;rintro e w2 ⟨rfl, H2⟩;have H3 := lh (H2.box F.cells 31);clear H2;go_upto_region 12 with fail
        generalize w2.alloc (.cells F.cells 31) = w3 at H3 ⊢;generalize w2.heap.size = b1 at H3 ⊢;have hb3 := H3.out.left.left.left.blk;have hc3 : w3.cell? ⟨gl, 1, none⟩ = some (.slice A1 b.length c1) := (cell_of hb3 1).trans rfl;clear hb3 hc;go_wp2_with fail
        refine (ref_linesFault w3 A1 b.length c1 b (HRB.out.ext H3.out.ext) rfl HZB.out (by omega)).mono ?_;unfold LFaultPost;rw [HF.out];rintro e w4 ⟨rfl, hx4⟩;have H5 := lh ((H3.out.step hx4).box F.cells 31);clear hx4 H3 hc3;go_upto_region 13 with fail
        generalize w4.alloc (.cells F.cells 31) = w5 at H5 ⊢;generalize w4.heap.size = b2 at H5 ⊢;have hb1 := H5.out.left.blk;have hb2 := H5.out.blk;have hc2 := (cell_of hb2 0).trans (FaultD.get0 _);have H6 := lh H5.out.left.left.exch';have hcn : (F.code != 0) = true := by rw [bne, hcb]; rfl
        have hs0 : ((mkStr []).toList == ([] : List UInt8)) = true := by rw [mkStr_toList]; rfl
        clear H5;go_wp2
        go_roundw
        case rel => exact ⟨1 + 1, t, h, by go_num, by omega, HOKZ.out, H6.out⟩
        case measure => simp [intOf]
       ·have hq := HQ2.out (by rw [hf0]);rw [hq] at HDO ⊢;unfold DeskPost;have HLL := lh hlen;have hll : b.length <= 150 := by rw [List.length_map] at hlen; exact hlen
        have HF := lh hf0;clear HQ HQ2 hq HFC hf0 hlen;rintro e w2 ⟨rfl, H2⟩;have H3 := lh (H2.box (FaultD.mk 0 0).cells 31);clear H2;go_upto_region 12 with fail
        generalize w2.alloc (.cells (FaultD.mk 0 0).cells 31) = w3 at H3 ⊢;generalize w2.heap.size = b1 at H3 ⊢;have hb3 := H3.out.left.left.left.blk;have hc3 : w3.cell? ⟨gl, 1, none⟩ = some (.slice A1 b.length c1) := (cell_of hb3 1).trans rfl;clear hb3 hc;go_wp2_with fail
        refine (ref_linesFault w3 A1 b.length c1 b (HRB.out.ext H3.out.ext) rfl HZB.out (by omega)).mono ?_;unfold LFaultPost;rw [HF.out];rintro e w4 ⟨rfl, hx4⟩;have H5 := lh ((H3.out.step hx4).box (FaultD.mk 0 0).cells 31);clear hx4 H3 hc3;go_upto_region 13 with fail
        generalize w4.alloc (.cells (FaultD.mk 0 0).cells 31) = w5 at H5 ⊢;generalize w4.heap.size = b2 at H5 ⊢;have hb1 := H5.out.left.blk;have hb2 := H5.out.blk;have hc2 : w5.cell? ⟨b2, 0, none⟩ = some (.int .i64 0) := (cell_of hb2 0).trans (FaultD.get0 _);have H6 := lh H5.out.left.left.exch';have hb6 := H6.out.left.left.blk;have hc6 : w5.cell? ⟨gl, 1, none⟩ = some (.slice A1 b.length c1) := (cell_of hb6 1).trans rfl;clear H5 hb6;go_wp2_with fail
        refine (ref_do H6.out HL.out HOKZ.out A1 b.length c1 b (fun w' Y R y H => HRB.out.ext H.ext) rfl HZB.out hll).mono ?_;rintro e w6 ⟨rfl, H7⟩;have H8 := lh H7;clear H7 H6 hc6 hb1 hb2 hc2;generalize dLines h (b.map (·.toList)) = Z at *;have hcs : ((mkStr Z.1).toList == (mkStr Z.1).toList) = true := by simp
        go_wp2
        go_roundw
        case rel => exact ⟨1 + 1, Z.1, Z.2, by go_num, by omega, HDO.out, H8.out⟩
        case measure => simp [intOf]
      ·go_wp2
       go_ret
       exact ⟨rfl, HZ.out.ext⟩
end Go.Proofs.YtalfbhhldfffkaaGreatDoor
