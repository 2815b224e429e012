/- Ref10: the walk of the reference's line, when it does not ask for a call. -/
import Derived.Test.YtalfbhhldfffkaaGreatDoorGRef
import Derived.Deep.DeepCutAuto
set_option maxHeartbeats 8000000
set_option maxRecDepth 100000
namespace Go.Proofs.YtalfbhhldfffkaaGreatDoor
open Go.RowKit
attribute [local go_sem ↓] sliced_cut
section
variable {X : Type} {S : Rep X} {x : X} {W w : World} {gr gh : Nat} {t : List UInt8} {h : House}
theorem ref_line_talk (H : Has (RR S gr gh) W w (x, (t, h))) (hL : LaidD W) (hok : DeskOk h) (s : ByteArray) (hs : s.size <= 10000) (ht : t.length <= 100000000) (ha : isAsk s.toList = false) :
 Calls Tryz.prog 18 #[.pointer (some ⟨gr, 0, none⟩), .string s] w (RTells S x W gr gh (t ++ (dLine h s.toList).1, (dLine h s.toList).2) (.tuple #[])) := by
 have HL := lh hL;have HOK := lh hok;have H0 := lh H;have HD := lh (show dLine h s.toList = dWords h (wordsOf s.toList) by unfold dLine; rw [if_neg (by rw [ha]; decide)])
 have HNA := lh (show ((wordOf s.toList).2.2 && ((wordOf s.toList).1 == wCall)) = true -> (wordOf (wordOf s.toList).2.1).2.2 = false from fun e => by
  unfold isAsk at ha;rw [Bool.and_eq_true] at e;rw [e.1, eq_of_beq e.2] at ha;simpa using ha)
 have hsz2 : (mkStr (wordOf s.toList).2.1).size <= 100000 := by
  have h1 := wordOf_le s.toList;rw [length_toList'] at h1;rw [mkStr_size];omega
 have hwe := fun y (hy : y ∈ wordsOf s.toList) => (wordsOf_each hy).2;have hwl := wordsOf_len s.toList;rw [length_toList'] at hwe hwl;have HWE := lh hwe;clear H hL hok ha hwe;go_enter Tryz.func18, Tryz.ntmps18
 go_wp2_with fail
 refine (ref_word w s (by omega)).mono ?_;unfold WordPost;generalize (wordOf s.toList).1 = p at *;generalize (wordOf s.toList).2.1 = rest at *;generalize (wordOf s.toList).2.2 = ok at *;rintro e w1 ⟨rfl, hx1⟩;have H1 := lh (H0.out.step hx1);clear hx1 H0;go_upto_region 1 with fail
 go_cut [34] from 30 to 34 (fun v wz => v = .bool (ok && (p == wCall)) /\ w1 = wz)
 case first =>
  cases ok with
  | false =>
    go_wp2_with fail
    go_meet
    case rel => exact ⟨rfl, rfl⟩
  | true =>
    cases hq : (p == wCall) with
    | true =>
      have q0 : ((mkStr p).toList == [99, 97, 108, 108]) = true := by rw [mkStr_toList]; exact hq
      have HQ := lh hq;clear hq;go_wp2_with fail
      go_meet
      case rel => exact ⟨by rw [HQ.out]; rfl, rfl⟩
    | false =>
      have q0 : ((mkStr p).toList == [99, 97, 108, 108]) = false := by rw [mkStr_toList]; exact hq
      have HQ := lh hq;clear hq;go_wp2_with fail
      go_meet
      case rel => exact ⟨by rw [HQ.out]; rfl, rfl⟩
 obtain ⟨rfl, rfl⟩ := hcut;go_upto_if 34 with fail
 go_cut [] from 24 to 41 (fun wz => Ext w1 wz)
 case first =>
  cases hb : (ok && (p == wCall)) with
  | false =>
    clear hb;go_wp2_with fail
    go_meet
    case rel => exact Touch.refl _ _
  | true =>
    have hm := HNA.out hb;clear hb;go_wp2_with fail
    refine (ref_word w1 (mkStr rest) hsz2).mono ?_;unfold WordPost;rw [mkStr_toList, hm];rintro e w2 ⟨rfl, hx2⟩;have HX2 := lh hx2;clear hx2 hm;go_wp2_with fail
    go_meet
    case rel => exact HX2.out
 have H2 := lh (H1.out.step hcut);clear hcut H1 HNA hsz2;generalize wc = w1 at *;go_wp2_with fail
 refine (ref_words w1 s (by omega)).mono ?_;generalize wordsOf s.toList = L at *;have hlm : (L.map mkStr).length = L.length := List.length_map ..;unfold NewList;rw [hlm];clear hlm;rintro e w2 ⟨A2, c2, rfl, ho2, hx2, hf2⟩;have HO2 := lh ho2;have HX2 := lh hx2;have HF2 := lh hf2;clear ho2 hx2 hf2;go_upto_region 12 with fail
 have hH3 : Holds (w2.alloc (.cells #[.slice A2 L.length c2] 22)) w2.heap.size 22 9 (.slice A2 L.length c2) (L.map mkStr) := ⟨heap_alloc_new _ _, HO2.out.ext ((Touch.refl _ w2).alloc _)⟩
 have H3 := lh (has_hold H2.out (HX2.out.trans ((Touch.refl _ w2).alloc _)) hH3 HX2.out.size HF2.out).exch';have HH3 := lh hH3;clear hH3 H2 HX2 HO2 HF2;generalize w2.alloc (.cells #[.slice A2 L.length c2] 22) = w3 at H3 HH3 ⊢;generalize w2.heap.size = gl at H3 HH3 ⊢;by_cases hl0 : L.length = 0
 ·obtain rfl : L = [] := List.eq_nil_of_length_eq_zero hl0;have HDW := lh (show dLine h s.toList = ([], h) from HD.out);have hc3 := cell_of HH3.out.cell 0;replace hc3 : w3.cell? ⟨gl, 0, none⟩ = some (.slice A2 0 c2) := hc3;clear hl0;go_wp2
  go_end0
  exact ⟨rfl, by rw [HDW.out, List.append_nil]; exact H3.out.drop⟩
 have hne0 : ((L.length : Int) == 0) = false := bF (by omega);have hpos : 0 < L.length := by omega
 have HGL := lh (show ∀ w', Ext w3 w' -> w'.cell? ⟨gl, 0, none⟩ = some (.slice A2 L.length c2) from fun w' hx => cell_of (hx.blk HH3.out.cell id) 0);have HRD := lh HH3.out.own.reads;have hgl := HGL.out w3 (Touch.refl _ _);have HXW := lh H3.out.ext;clear hl0 HH3;go_upto_region 14 with fail
 have HN4 := lh (Holds.new (α := Int) w3 76 3);have HX4 := lh (show Ext w3 (w3.alloc (.cells #[.slice none 0 0] 76)) from (Touch.refl _ w3).alloc _);generalize w3.alloc (.cells #[.slice none 0 0] 76) = w4 at HN4 HX4 ⊢;generalize hgn : w3.heap.size = gn at HN4 ⊢;have HG := lh (Nat.le_of_eq hgn);clear hgn hgl;go_wp2_with fail
 go_loopw [16] (fun i wr => LnRel w3 gn L i wr) (fun i _ => L.length - (intOf i).toNat)
 case atStart => exact ⟨1, [], .slice none 0 0, rfl, Nat.le_refl _, by omega, take1_tail L, rfl, HN4.out, HX4.out, fun q hq => by simp [Value.ownBlock] at hq⟩
 case round =>
  clear HN4 HX4;obtain ⟨j, m, v, rfl, h1j, hj, hm, hmj, hn, hx, hf⟩ := hrel;obtain ⟨An, cn, rfl, _⟩ := hn.own.form;have HM := lh hm;have HN := lh hn;have HX := lh hx;have HF := lh hf;have HMJ := lh hmj;clear hm hn hx hf hmj;by_cases hlt : j < L.length
  ·obtain ⟨u, hu⟩ : ∃ u, L[j]? = some u := ⟨L[j], by simp [hlt]⟩
   obtain ⟨ad, rfl, hct'⟩ := cell_text (x := mkStr u) HRD.out (show (L.map mkStr)[j]? = _ by rw [List.getElem?_map, hu]; rfl);have HCT := lh hct';have hct := hct' wr HX.out;have hgl := HGL.out wr HX.out;have HSN := lh (numsOf_tail h1j hu HM.out);have hsz : (mkStr u).size <= 1000000 := by have := HWE.out u (List.mem_of_getElem? hu); rw [mkStr_size]; omega
   clear hu hct';go_wp2_with fail
   refine (atoi_any wr (mkStr u) hsz (HL.out.ext (HXW.out.trans HX.out))).mono ?_;unfold AtoiPost;rw [mkStr_toList];rintro e w5 (⟨n, hn, rfl, hx5⟩ | ⟨hno, mm, N, rfl, hx5⟩)
   ·have HX5 := lh (HX.out.trans hx5);have HN5 := lh (HN.out.ext hx5);have hb := Lib.atoiAll_bounds hn;have hnf := numOf_ok hn;clear hx5 hn hct hgl;by_cases hq : Lib.itoa n = u
    ·rw [if_pos hq] at hnf;have HNU := lh (HSN.out.1 n hnf);have hne : ((mkStr (Lib.itoa n)).toList == (mkStr u).toList) = true := by rw [mkStr_toList, mkStr_toList, hq]; simp
     clear hnf hq;go_wp2_with fail
     refine wp_region_held_drew (S := fun w' => Ext w5 w') (by kernel_rfl) (Touch.drew (Touch.refl _ w5)) (fun hHeld => ?_);refine tK 0 ?_;try simp only [pS]
     refine tK 1 ?_;try simp only [pS]
     refine tK 2 ?_;try simp only [pS]
     refine tK 3 ?_;try simp only [pS]
     refine tK 5 ?_ (hY := fun w' hw' => by
      have hc := HGL.out w' (HX5.out.trans hw');go_simp;try with_reducible rfl)
     try simp only [pS]
     refine tK 6 ?_;try simp only [pS]
     refine tK 7 ?_;try simp only [pS]
     refine tK 8 ?_ (hY := fun w' hw' => by
      have hc := HCT.out w' (HX5.out.trans hw');go_simp;try with_reducible rfl)
     try simp only [pS]
     refine tC 4 fun K hK => ?_;go_simp;go_at_call 35
     have hx50 : Ext w5 w5.drew := Touch.drew (Touch.refl _ w5);refine (ref_num w5.drew n ⟨hb.1, hb.2⟩ (HL.out.ext (HXW.out.trans (HX5.out.trans hx50))).laid).mono ?_;rintro e w6 ⟨rfl, hx6⟩;have HX56 := lh (hx50.trans hx6);clear hx6 hx50;refine hK.out _ _ HX56.out (fun hHeld => ?_);clear hK K;try simp only [pS]
     refine tK 9 ?_;try simp only [pS]
     refine tK 10 ?_;try simp only [pS]
     refine tD ?_;clear hHeld;have HN6 := lh (HN5.out.ext HX56.out);have HX6 := lh (HX5.out.trans HX56.out);have hcn6 := cell_of HN6.out.cell 0;replace hcn6 : w6.cell? ⟨gn, 0, none⟩ = some (.slice An m.length cn) := hcn6;clear hne
     go_wp2_with (at_builtin
                  go_loud (refine wpList_append_own' (by rfl) (.tmp 106) (.tmp 108) 76 (by rfl) elemInt Tryz.underlying76 (v := _) (l := m) (by rfl) (HN6.out.own.ext ((Touch.refl _ w6).alloc _)) [n] (by rfl) (m.length + 1) (by simp) (by rfl) (reads_block (x := n) (b := w6.heap.size) (by simp only [heap_alloc_at]; rfl) (w6.heap.size + 1) (by omega)) (by have := HMJ.out; simp; omega) ?_)
                  intro A7 c7 w7 hown7 hgrow7 hat7;have HAP := lh (Holds.appended HN6.out ((Touch.refl _ w6).alloc _) (by decide) hown7 hgrow7 hat7);have hg7 := World.grownBy.blk hgrow7 (b := gn) (o := .cells #[.slice An m.length cn] 76 (0, 0)) ((((Touch.refl (fun _ => False) w6).alloc _).block gn HN6.out.lt id).trans HN6.out.cell) (HN6.out.own.elem HN6.out.cell (by decide));have hc7 := cell_of hg7 0;have hf7 := frozen_of hg7 0;clear hown7 hgrow7 hat7 hg7)
     go_roundw
     case rel =>
      have hxx := HX6.out.then HAP.out.2.1 fun k hk => .inr (by
       rcases hk with rfl | hk
       ·exact HG.out
       ·exact HF.out k hk)
      refine ⟨j + 1, m ++ [n], _, by go_num, by omega, by omega, HNU.out, by have := HMJ.out; simp; omega, HAP.out.1, hxx, fun q hq => ?_⟩;rcases HAP.out.2.2 q hq with h | h
      ·exact HF.out q h
      ·exact Nat.le_trans HX6.out.size h
     case measure => simp [intOf] <;> omega
    ·rw [if_neg hq] at hnf;have HNU := lh (HSN.out.2 hnf);have hne : ((mkStr (Lib.itoa n)).toList == (mkStr u).toList) = false := by rw [mkStr_toList, mkStr_toList]; simpa using hq
     clear hnf hq;go_wp2_with fail
     refine wp_region_held_drew (S := fun w' => Ext w5 w') (by kernel_rfl) (Touch.drew (Touch.refl _ w5)) (fun hHeld => ?_);refine tK 0 ?_;try simp only [pS]
     refine tK 1 ?_;try simp only [pS]
     refine tK 2 ?_;try simp only [pS]
     refine tK 3 ?_;try simp only [pS]
     refine tK 5 ?_ (hY := fun w' hw' => by
      have hc := HGL.out w' (HX5.out.trans hw');go_simp;try with_reducible rfl)
     try simp only [pS]
     refine tK 6 ?_;try simp only [pS]
     refine tK 7 ?_;try simp only [pS]
     refine tK 8 ?_ (hY := fun w' hw' => by
      have hc := HCT.out w' (HX5.out.trans hw');go_simp;try with_reducible rfl)
     try simp only [pS]
     refine tC 4 fun K hK => ?_;go_simp;go_at_call 35
     have hx50 : Ext w5 w5.drew := Touch.drew (Touch.refl _ w5);refine (ref_num w5.drew n ⟨hb.1, hb.2⟩ (HL.out.ext (HXW.out.trans (HX5.out.trans hx50))).laid).mono ?_;rintro e w6 ⟨rfl, hx6⟩;have HX56 := lh (hx50.trans hx6);clear hx6 hx50;refine hK.out _ _ HX56.out (fun hHeld => ?_);clear hK K;try simp only [pS]
     refine tK 9 ?_;try simp only [pS]
     refine tK 10 ?_;try simp only [pS]
     refine tD ?_;clear hHeld;have HDW := lh (show dLine h s.toList = (say [wWhat], h) from HD.out.trans (dw_tail hpos HNU.out));have H6 := lh (H3.out.step (HX5.out.trans HX56.out));go_wp2_with fail
     refine (ref_say H6.out ⟨#[119, 104, 97, 116]⟩ (by decide) (by omega)).mono ?_;rintro e w9 ⟨rfl, H9⟩;rw [List.append_assoc, what_line] at H9;have HR := lh H9.drop;clear H9;go_wp2
     go_end0
     exact ⟨rfl, by rw [HDW.out]; exact HR.out⟩
   ·have HX5 := lh (HX.out.trans hx5);have HNU := lh (HSN.out.2 (numOf_no hno));clear hx5 hno hct hgl;go_wp2_with fail
    refine wp_region_held_drew (S := fun w' => Ext w5 w') (by kernel_rfl) (Touch.drew (Touch.refl _ w5)) (fun hHeld => ?_);refine tK 0 ?_;try simp only [pS]
    refine tK 1 ?_;try simp only [pS]
    refine tK 2 ?_;try simp only [pS]
    refine tN 3 ?_;try simp only [pS]
    refine tN 4 ?_;try simp only [pS]
    refine tN 5 ?_;try simp only [pS]
    refine tN 6 ?_;try simp only [pS]
    refine tN 7 ?_;try simp only [pS]
    refine tN 8 ?_;try simp only [pS]
    refine tN 9 ?_;try simp only [pS]
    refine tK 10 ?_;try simp only [pS]
    refine tD ?_;clear hHeld;have HDW := lh (show dLine h s.toList = (say [wWhat], h) from HD.out.trans (dw_tail hpos HNU.out));have H6 := lh (H3.out.step (HX5.out.trans (Touch.drew (Touch.refl _ w5))));go_wp2_with fail
    refine (ref_say H6.out ⟨#[119, 104, 97, 116]⟩ (by decide) (by omega)).mono ?_;rintro e w9 ⟨rfl, H9⟩;rw [List.append_assoc, what_line] at H9;have HR := lh H9.drop;clear H9;go_wp2
    go_end0
    exact ⟨rfl, by rw [HDW.out]; exact HR.out⟩
  ·obtain rfl : j = L.length := by omega
   obtain ⟨w0, ws, hL0⟩ : ∃ w0 ws, L = w0 :: ws := by
    cases L with
    | nil => exact absurd hpos (by simp)
    | cons a b => exact ⟨a, b, rfl⟩
   have hnum : numsOf ws = some m := by
    have h1 := HM.out;rw [List.take_length, hL0] at h1;exact h1
   have HDL := lh (show dLine h s.toList = dWords h (w0 :: ws) by rw [HD.out, hL0]);have hE0 := (has_hold H3.out HX.out HN.out HG.out HF.out).exch';rw [hL0, List.map_cons] at hE0;generalize ws.map mkStr = Ws at hE0;have HE := lh hE0;have HNUM := lh hnum;have hgl := HGL.out wr HX.out;clear hE0 hnum hL0 H3 HM HN HX HF HRD HG HMJ HXW HWE HD HGL;go_wp2_with fail
   refine (env_is HE.out wSend 1).mono ?_;cases b1 : isB w0 m wSend 1;rotate_left
   ·rintro e w' ⟨rfl, rfl⟩;obtain ⟨rfl, hm1⟩ := isB_yes b1;obtain ⟨a, rfl⟩ := one_of hm1;obtain ⟨An', cn', hcn', hrn⟩ := env_nums HE.out;obtain ⟨ad, rfl, hca'⟩ := cell_num0 hrn (Nat.le_refl _) (a := a) rfl;have hcn := hcn' wr (Touch.refl _ _);have hca := hca' wr (Touch.refl _ _);clear hcn' hca' hrn;have HDW := lh (show dLine h s.toList = dStep h ⟨2, a, 0, Call.zero⟩ from HDL.out.trans (dw_some HNUM.out (ask_one h [a] (w := wSend) (by decide) rfl)));go_wp2_with fail
    refine (ref_step HE.out HL.out HOK.out ⟨2, a, 0, Call.zero⟩ (stepZ _ _ ⟨by decide, by decide⟩) ht).mono ?_;rintro e w9 ⟨rfl, H9⟩;have HR := lh H9.drop.drop;clear H9;go_wp2
    go_end0
    exact ⟨rfl, by rw [HDW.out]; exact HR.out⟩
   rintro e w' ⟨rfl, rfl⟩;have Bb1 := lh b1;clear b1;go_wp2_with fail
   refine (env_is HE.out wDeliver 1).mono ?_;cases b2 : isB w0 m wDeliver 1;rotate_left
   ·rintro e w' ⟨rfl, rfl⟩;obtain ⟨rfl, hm1⟩ := isB_yes b2;obtain ⟨a, rfl⟩ := one_of hm1;obtain ⟨An', cn', hcn', hrn⟩ := env_nums HE.out;obtain ⟨ad, rfl, hca'⟩ := cell_num0 hrn (Nat.le_refl _) (a := a) rfl;have hcn := hcn' wr (Touch.refl _ _);have hca := hca' wr (Touch.refl _ _);clear hcn' hca' hrn;have HDW := lh (show dLine h s.toList = dStep h ⟨3, a, 0, Call.zero⟩ from HDL.out.trans (dw_some HNUM.out (ask_one h [a] (w := wDeliver) (by decide) rfl)));go_wp2_with fail
    refine (ref_step HE.out HL.out HOK.out ⟨3, a, 0, Call.zero⟩ (stepZ _ _ ⟨by decide, by decide⟩) ht).mono ?_;rintro e w9 ⟨rfl, H9⟩;have HR := lh H9.drop.drop;clear H9;go_wp2
    go_end0
    exact ⟨rfl, by rw [HDW.out]; exact HR.out⟩
   rintro e w' ⟨rfl, rfl⟩;have Bb2 := lh b2;clear b2;go_wp2_with fail
   refine (env_is HE.out wLose 1).mono ?_;cases b3 : isB w0 m wLose 1;rotate_left
   ·rintro e w' ⟨rfl, rfl⟩;obtain ⟨rfl, hm1⟩ := isB_yes b3;obtain ⟨a, rfl⟩ := one_of hm1;obtain ⟨An', cn', hcn', hrn⟩ := env_nums HE.out;obtain ⟨ad, rfl, hca'⟩ := cell_num0 hrn (Nat.le_refl _) (a := a) rfl;have hcn := hcn' wr (Touch.refl _ _);have hca := hca' wr (Touch.refl _ _);clear hcn' hca' hrn;have HDW := lh (show dLine h s.toList = dStep h ⟨4, a, 0, Call.zero⟩ from HDL.out.trans (dw_some HNUM.out (ask_one h [a] (w := wLose) (by decide) rfl)));go_wp2_with fail
    refine (ref_step HE.out HL.out HOK.out ⟨4, a, 0, Call.zero⟩ (stepZ _ _ ⟨by decide, by decide⟩) ht).mono ?_;rintro e w9 ⟨rfl, H9⟩;have HR := lh H9.drop.drop;clear H9;go_wp2
    go_end0
    exact ⟨rfl, by rw [HDW.out]; exact HR.out⟩
   rintro e w' ⟨rfl, rfl⟩;have Bb3 := lh b3;clear b3;go_wp2_with fail
   refine (env_is HE.out wDouble 1).mono ?_;cases b4 : isB w0 m wDouble 1;rotate_left
   ·rintro e w' ⟨rfl, rfl⟩;obtain ⟨rfl, hm1⟩ := isB_yes b4;obtain ⟨a, rfl⟩ := one_of hm1;obtain ⟨An', cn', hcn', hrn⟩ := env_nums HE.out;obtain ⟨ad, rfl, hca'⟩ := cell_num0 hrn (Nat.le_refl _) (a := a) rfl;have hcn := hcn' wr (Touch.refl _ _);have hca := hca' wr (Touch.refl _ _);clear hcn' hca' hrn;have HDW := lh (show dLine h s.toList = dStep h ⟨5, a, 0, Call.zero⟩ from HDL.out.trans (dw_some HNUM.out (ask_one h [a] (w := wDouble) (by decide) rfl)));go_wp2_with fail
    refine (ref_step HE.out HL.out HOK.out ⟨5, a, 0, Call.zero⟩ (stepZ _ _ ⟨by decide, by decide⟩) ht).mono ?_;rintro e w9 ⟨rfl, H9⟩;have HR := lh H9.drop.drop;clear H9;go_wp2
    go_end0
    exact ⟨rfl, by rw [HDW.out]; exact HR.out⟩
   rintro e w' ⟨rfl, rfl⟩;have Bb4 := lh b4;clear b4;go_wp2_with fail
   refine (env_is HE.out wCrash 0).mono ?_;cases b5 : isB w0 m wCrash 0;rotate_left
   ·rintro e w' ⟨rfl, rfl⟩;obtain ⟨rfl, hm1⟩ := isB_yes b5;obtain rfl := nil_of hm1;have HDW := lh (show dLine h s.toList = dStep h ⟨6, 0, 0, Call.zero⟩ from HDL.out.trans (dw_some HNUM.out (ask_crash h)));go_wp2_with fail
    refine (ref_step HE.out HL.out HOK.out ⟨6, 0, 0, Call.zero⟩ (stepZ _ _ ⟨by decide, by decide⟩) ht).mono ?_;rintro e w9 ⟨rfl, H9⟩;have HR := lh H9.drop.drop;clear H9;go_wp2
    go_end0
    exact ⟨rfl, by rw [HDW.out]; exact HR.out⟩
   rintro e w' ⟨rfl, rfl⟩;have Bb5 := lh b5;clear b5;go_wp2_with fail
   refine (env_is HE.out wTear 2).mono ?_;cases b6 : isB w0 m wTear 2;rotate_left
   ·rintro e w' ⟨rfl, rfl⟩;obtain ⟨rfl, hm1⟩ := isB_yes b6;obtain ⟨a, a2, rfl⟩ := two_of hm1;obtain ⟨Fn, hes, An', cn', hcn, hfn, hrn⟩ := env_still HE.out;obtain ⟨ad, rfl, hca⟩ := rin_num0 hrn (a := a) rfl;obtain ⟨ad', e, hcb⟩ := rin_num1 hrn (a := a2) rfl;injection e with e;subst e;have hi2 : I64 a2 := nums_in HNUM.out a2 (by simp);have HDW := lh (show dLine h s.toList = dStep h ⟨7, a, a2, Call.zero⟩ from HDL.out.trans (dw_some HNUM.out (ask_tear h a a2)));have HCN := lh (show ∀ w' : World, (∀ k, Fn k -> w'.heap[k]? = wr.heap[k]?) -> w'.cell? ⟨gn, 0, none⟩ = some (.slice (some ad) 2 cn') from fun w' hs => cell_same (hs gn hfn) hcn);have HCA := lh hca;have HCB := lh hcb;have HES := lh hes;have hx0 : Ext wr wr.drew := Touch.drew (Touch.refl _ wr);have HES0 := lh (hes.step hx0);have hS0 := env_as HES0.out;clear hcn hfn hrn hca hcb hes hx0 HE;go_wp2_with fail
    refine wp_region_held_drew (S := fun w' => ∀ k, Fn k -> w'.heap[k]? = wr.heap[k]?) (by kernel_rfl) hS0 (fun hHeld => ?_);clear hS0;refine tK 0 ?_;try simp only [pS]
    refine tK 1 ?_ (hY := fun w' hw' => by
     have hc := HCN.out w' hw';go_simp;try with_reducible rfl)
    try simp only [pS]
    refine tK 2 ?_;try simp only [pS]
    refine tK 3 ?_ (hY := fun w' hw' => by
     have hc := HCA.out w' hw';go_simp;try with_reducible rfl)
    try simp only [pS]
    refine tK 4 ?_ (hY := fun w' hw' => by
     have hc := HCN.out w' hw';go_simp;try with_reducible rfl)
    try simp only [pS]
    refine tK 5 ?_;try simp only [pS]
    refine tK 6 ?_ (hY := fun w' hw' => by
     have hc := HCB.out w' hw';go_simp;try with_reducible rfl)
    try simp only [pS]
    refine tK 7 ?_;try simp only [pS]
    refine tC 8 fun K hK => ?_;go_simp;go_at_call 38
    refine (ref_step HES0.out HL.out HOK.out ⟨7, a, a2, Call.zero⟩ (stepZ _ _ hi2) ht).mono ?_;rintro e w9 ⟨rfl, H9⟩;refine hK.out _ _ (env_as H9) (fun hHeld => ?_);have H10 := lh H9;clear H9;clear hK K;try simp only [pS]
    refine tD ?_;clear hHeld;have HR := lh H10.out.drop.drop;clear H10;go_wp2
    go_end0
    exact ⟨rfl, by rw [HDW.out]; exact HR.out⟩
   rintro e w' ⟨rfl, rfl⟩;have Bb6 := lh b6;clear b6;go_wp2_with fail
   refine (env_is HE.out wCalm 0).mono ?_;cases b7 : isB w0 m wCalm 0;rotate_left
   ·rintro e w' ⟨rfl, rfl⟩;obtain ⟨rfl, hm1⟩ := isB_yes b7;obtain rfl := nil_of hm1;have HDW := lh (show dLine h s.toList = (say [wCalm, Lib.itoa (hCalm h).1], (hCalm h).2) from HDL.out.trans (dw_some HNUM.out (ask_calm h)));have hds := ref_ds HE.out;obtain ⟨F2, hF2, hm2⟩ := ref_house HE.out;obtain ⟨⟨fr, hok1⟩, _⟩ := HOK.out;have hcl := hCalm_le h;have HM2 := lh (fun w' h1 => hm2 (hCalm h).2 w' h1);have HF2 := lh hF2;have HOK1 := lh hok1;clear hm2 hF2 hok1;go_wp2_with fail
    refine (house_calm wr gh F2 h fr HF2.out HOK1.out).mono ?_;rintro e w7 ⟨rfl, hq7⟩;have H7 := lh (HM2.out _ hq7);clear hq7 HM2 HF2;generalize (hCalm h).1 = c at *;generalize (hCalm h).2 = h' at *;have hc64 : Num64 (c : Int) := ⟨by omega, by omega⟩
    go_wp2_with fail
    refine (ref_num w7 c hc64 (HL.out.ext H7.out.ext).laid).mono ?_;rintro e w8 ⟨rfl, hx8⟩;have H8 := lh (H7.out.step hx8);clear hx8 H7;have hz9 : (mkStr (Lib.itoa (c : Int))).size <= 21 := by rw [mkStr_size]; exact num_le hc64
    have HCL := lh (calm_line (c : Int));go_wp2_with fail
    refine (ref_say H8.out ((⟨#[99, 97, 108, 109, 32]⟩ : ByteArray) ++ mkStr (Lib.itoa (c : Int))) (by rw [ByteArray.size_append]; have e : (⟨#[99, 97, 108, 109, 32]⟩ : ByteArray).size = 5 := rfl; omega) (by omega)).mono ?_;rintro e w9 ⟨rfl, H9⟩;rw [List.append_assoc, HCL.out] at H9;have HR := lh H9.drop.drop;clear H9;go_wp2
    go_end0
    exact ⟨rfl, by rw [HDW.out]; exact HR.out⟩
   rintro e w' ⟨rfl, rfl⟩;have Bb7 := lh b7;clear b7;go_wp2_with fail
   refine (env_is HE.out wPackets 0).mono ?_;cases b8 : isB w0 m wPackets 0;rotate_left
   ·rintro e w' ⟨rfl, rfl⟩;obtain ⟨rfl, hm1⟩ := isB_yes b8;obtain rfl := nil_of hm1;have HDW := lh (show dLine h s.toList = (h.bag.flatMap packTxt ++ say [wEnd], h) from HDL.out.trans (dw_some HNUM.out (ask_packets h)))
    have HTL := lh (show ∀ p ∈ h.bag, TellOk p.client p.no p.call /\ ShortAns p.answer /\ StrCall p.call from fun p hp => by
     obtain ⟨⟨fr, h1⟩, h2⟩ := HOK.out;exact ⟨tell_packet h1 hp, h2.bag p hp, h1.fits.calls p hp⟩)
    have HPL := lh (show ∀ p ∈ h.bag, (packTxt p).length <= 250 from fun p hp => packTxt_len (HTL.out p hp).1 (HTL.out p hp).2.1);have hbl : h.bag.length <= 40 := by obtain ⟨⟨fr, h1⟩, _⟩ := HOK.out; exact h1.bag
    have HFL := lh (fun k => cat_take_len packTxt HPL.out hbl k);obtain ⟨F0, hF0, hst⟩ := ref_still HE.out;have HI := house_in hF0;have HF0 := lh hF0;have HST := lh hst;clear hst hF0;have HGO := lh HI.own;obtain ⟨Ab, cb, hcb0, hrb0⟩ := HI.bag;have HCB := lh hcb0;have HRB := lh hrb0;clear HI hcb0 hrb0;go_wp2_with fail
    go_loopw [20] (fun i wz => PRRel (EV S gl gn) ((x, mkStr wPackets :: Ws), []) W wr F0 gr gh t h i wz) (fun i _ => h.bag.length - (intOf i).toNat)
    case atStart => exact ⟨0, rfl, Nat.zero_le _, by simpa using HST.out⟩
    case round =>
     clear HST;obtain ⟨k, rfl, hk, hz⟩ := hrel;have HZ := lh hz;have hlen := HFL.out k;have hds := (cell_of (rb_blk hz) 1).trans rfl;replace hds : wr.cell? ⟨gr, 1, none⟩ = some (.pointer (some ⟨gh, 0, none⟩)) := hds;have hcb := cell_same (ref_as hz gh HGO.out).2 HCB.out;have HRZ := lh (HRB.out.later (ref_as hz));clear hz;by_cases hlt : k < h.bag.length
     ·obtain ⟨p, hp⟩ : ∃ p, h.bag[k]? = some p := ⟨h.bag[k], by simp [hlt]⟩
      obtain ⟨ad, rfl, hadb, hat⟩ := HRZ.out _ p hp;have hLV : LV Tryz.prog 103 (ad.add (k * 9)) wr = .ok (.agg p.cells) wr := LV_Packet hat
      obtain ⟨htk, hsa, hsc⟩ := HTL.out p (List.mem_of_getElem? hp);have HTK := lh htk;have HSA := lh hsa;have HSC := lh hsc;have hcs := ct_size htk.call;have HFT := lh (cat_take packTxt hp);have HP := lh hp;clear hp hat htk hsa hsc hadb;have H2 := lh (HZ.out.box p.cells 103).exch';go_upto_region 42 with fail
      clear hLV hds hcb;generalize wr.alloc (.cells p.cells 103) = w12 at H2 ⊢;generalize wr.heap.size = b at H2 ⊢;have hb2 := H2.out.left.blk;have hc0 := (cell_of hb2 0).trans (Packet.get0 p);have hc1 := (cell_of hb2 1).trans (Packet.get1 p);have hc2 := (cell_of hb2 2).trans (Packet.get2 p);cases hrp : p.reply with
      | true =>
        rw [hrp] at hc0;have HT := lh (show packTxt p = say (wReply :: recWords p.client p.no p.call p.answer) by unfold packTxt; rw [if_pos hrp]);have hrl := congrArg List.length (reply_line p.client p.no p.call p.answer);rw [<- HT.out, List.length_append, length_toList', ByteArray.size_append] at hrl;have hpl := HPL.out p (List.mem_of_getElem? HP.out);have hz1 : (mkStr (recLine p.client p.no p.call p.answer)).size <= 250 := by omega
        clear hrp hrl hpl;go_wp2_with fail
        refine (ref_recordText w12 p.client p.no p.call p.answer (HL.out.ext H2.out.ext) HTK.out HSA.out HSC.out).mono ?_;rintro e w13 ⟨rfl, hx13⟩;have H13 := lh (H2.out.step hx13);clear hx13 H2 hb2 hc0 hc1 hc2;go_wp2_with fail
        refine (rb_say H13.out ((⟨#[114, 101, 112, 108, 121, 32]⟩ : ByteArray) ++ mkStr (recLine p.client p.no p.call p.answer)) (by rw [ByteArray.size_append]; have e : (⟨#[114, 101, 112, 108, 121, 32]⟩ : ByteArray).size = 6 := rfl; omega) (by simp only [List.length_append]; omega)).mono ?_;rintro e w14 ⟨rfl, H14⟩;rw [List.append_assoc, reply_line, <- HT.out, List.append_assoc, <- HFT.out] at H14;have H15 := lh H14.drop;clear H14;go_wp2
        go_roundw
        case rel => exact ⟨k + 1, by go_num, by omega, H15.out⟩
        case measure => simp [intOf] <;> omega
      | false =>
        rw [hrp] at hc0;have HT := lh (show packTxt p = say [wCall, Lib.itoa p.client, Lib.itoa p.no, cText p.call] by unfold packTxt; rw [if_neg (by rw [hrp]; decide)]);have hzc1 : (mkStr (Lib.itoa p.client)).size <= 21 := by rw [mkStr_size]; exact num_le HTK.out.client
        have hzc2 : (mkStr (Lib.itoa p.no)).size <= 21 := by rw [mkStr_size]; exact num_le HTK.out.no
        have he1 : (⟨#[32]⟩ : ByteArray).size = 1 := rfl;have he2 : (⟨#[99, 97, 108, 108, 32]⟩ : ByteArray).size = 5 := rfl;clear hrp;go_wp2_with fail
        refine (ref_callText w12 p.call HSC.out).mono ?_;rintro e w13 ⟨rfl, hx13⟩;have H13 := lh (H2.out.step hx13);clear hx13 H2 hb2 hc0 hc1 hc2;go_wp2_with fail
        have H14 := lh (H13.out.step (Touch.drew (Touch.refl _ w13)));refine wp_region_held_drew (S := fun w' => w'.heap[b]? = some (.cells p.cells 103 (0, 0))) (by kernel_rfl) H14.out.left.blk (fun hHeld => ?_);clear H13;refine tK 0 ?_;try simp only [pS]
        refine tK 1 ?_;try simp only [pS]
        refine tK 6 ?_;try simp only [pS]
        refine tK 11 ?_;try simp only [pS]
        refine tK 2 ?_ (hY := fun w' hw' => by
         have hc := (cell_of hw' 1).trans (Packet.get1 p);go_simp;try with_reducible rfl)
        try simp only [pS]
        refine tK 7 ?_ (hY := fun w' hw' => by
         have hc := (cell_of hw' 2).trans (Packet.get2 p);go_simp;try with_reducible rfl)
        try simp only [pS]
        refine tC 3 fun K hK => ?_;go_simp;go_at_call 35
        refine (ref_num _ p.client HTK.out.client (HL.out.ext H14.out.ext).laid).mono ?_;rintro e w15 ⟨rfl, hx15⟩;have H15 := lh (H14.out.step hx15);refine hK.out _ _ H15.out.left.blk (fun hHeld => ?_);clear hx15 H14;clear hK K;try simp only [pS]
        refine tV 4 (.string ((⟨#[99, 97, 108, 108, 32]⟩ : ByteArray) ++ mkStr (Lib.itoa p.client))) ?_ ?_
        ·intro w' _;go_simp;try simp only [ByteArray.size_append] at *
         omega
        try simp only [pS]
        refine tV 5 (.string ((⟨#[99, 97, 108, 108, 32]⟩ : ByteArray) ++ mkStr (Lib.itoa p.client) ++ (⟨#[32]⟩ : ByteArray))) ?_ ?_
        ·intro w' _;go_simp;try simp only [ByteArray.size_append] at *
         omega
        try simp only [pS]
        refine tC 8 fun K hK => ?_;go_simp;go_at_call 35
        refine (ref_num _ p.no HTK.out.no (HL.out.ext H15.out.ext).laid).mono ?_;rintro e w16 ⟨rfl, hx16⟩;have H16 := lh (H15.out.step hx16);refine hK.out _ _ H16.out.left.blk (fun hHeld => ?_);clear hx16 H15;clear hK K;try simp only [pS]
        refine tV 9 (.string ((⟨#[99, 97, 108, 108, 32]⟩ : ByteArray) ++ mkStr (Lib.itoa p.client) ++ (⟨#[32]⟩ : ByteArray) ++ mkStr (Lib.itoa p.no))) ?_ ?_
        ·intro w' _;go_simp;try simp only [ByteArray.size_append] at *
         omega
        try simp only [pS]
        refine tV 10 (.string ((⟨#[99, 97, 108, 108, 32]⟩ : ByteArray) ++ mkStr (Lib.itoa p.client) ++ (⟨#[32]⟩ : ByteArray) ++ mkStr (Lib.itoa p.no) ++ (⟨#[32]⟩ : ByteArray))) ?_ ?_
        ·intro w' _;go_simp;try simp only [ByteArray.size_append] at *
         omega
        try simp only [pS]
        refine tV 12 (.string ((⟨#[99, 97, 108, 108, 32]⟩ : ByteArray) ++ mkStr (Lib.itoa p.client) ++ (⟨#[32]⟩ : ByteArray) ++ mkStr (Lib.itoa p.no) ++ (⟨#[32]⟩ : ByteArray) ++ (callText p.call).1)) ?_ ?_
        ·intro w' _;go_simp;try simp only [ByteArray.size_append] at *
         omega
        try simp only [pS]
        refine tC 13 fun K hK => ?_;go_simp;go_at_call 36
        have hcl2 : (callLn p.client p.no p.call).size <= 100000000 := by
         unfold callLn;simp only [ByteArray.size_append];omega
        refine (rb_say H16.out (callLn p.client p.no p.call) hcl2 (by simp only [List.length_append]; omega)).mono ?_;rintro e w17 ⟨rfl, H17⟩;rw [List.append_assoc, call_line, <- HT.out, List.append_assoc, <- HFT.out] at H17;refine hK.out _ _ H17.left.blk (fun hHeld => ?_);have H18 := lh H17.drop;clear H17 hcl2;clear hK K;try simp only [pS]
        refine tD ?_;clear hHeld;go_wp2
        go_roundw
        case rel => exact ⟨k + 1, by go_num, by omega, H18.out⟩
        case measure => simp [intOf] <;> omega
     ·obtain rfl : k = h.bag.length := by omega
      have HE' := lh (show t ++ (h.bag.take h.bag.length).flatMap packTxt ++ say [wEnd] = t ++ (h.bag.flatMap packTxt ++ say [wEnd]) by rw [List.take_length, List.append_assoc]);go_wp2_with fail
      refine (rb_say HZ.out ⟨#[101, 110, 100]⟩ (by decide) (by simp only [List.length_append]; omega)).mono ?_;rintro e w8 ⟨rfl, H8⟩;rw [List.append_assoc, end_line, HE'.out] at H8;have H9 := ref_unstill HF0.out H8;clear H8;have HR := lh H9.drop.drop;clear H9;go_wp2
      go_end0
      exact ⟨rfl, by rw [HDW.out]; exact HR.out⟩
   rintro e w' ⟨rfl, rfl⟩;have Bb8 := lh b8;clear b8;go_wp2_with fail
   refine (env_is HE.out wDone 1).mono ?_;cases b9 : isB w0 m wDone 1;rotate_left
   ·rintro e w' ⟨rfl, rfl⟩;obtain ⟨rfl, hm1⟩ := isB_yes b9;obtain ⟨a, rfl⟩ := one_of hm1;obtain ⟨Fn, hes, An', cn', hcn, hfn, hrn⟩ := env_still HE.out;obtain ⟨ad, rfl, hca⟩ := rin_num0 hrn (a := a) rfl;have HCN := lh (show ∀ w' : World, (∀ k, Fn k -> w'.heap[k]? = wr.heap[k]?) -> w'.cell? ⟨gn, 0, none⟩ = some (.slice (some ad) 1 cn') from fun w' hs => cell_same (hs gn hfn) hcn);have HCA := lh hca;have hcn0 := HCN.out wr (fun _ _ => rfl);have hca0 := HCA.out wr (fun _ _ => rfl);have HES := lh hes;clear hcn hfn hrn hca hes;by_cases hr : 0 <= a /\ a < 3
    ·obtain ⟨F0, hF0, hst⟩ := ref_still HES.out;have HI := house_in hF0;have HF0 := lh hF0;have HX0 := lh (show Ext wr wr.drew from Touch.drew (Touch.refl _ wr));have HST := lh (hst.step HX0.out);obtain ⟨hd0, hd1, hd2⟩ := done_at HI;clear hst hF0;obtain rfl | rfl | rfl : a = 0 \/ a = 1 \/ a = 2 := by omega
     ·have HDW := lh (show dLine h s.toList = ((h.G 0).done.flatMap recTxt ++ say [wEnd], h) from HDL.out.trans (dw_some HNUM.out (ask_done h 0)))
      have HTL := lh (show ∀ r ∈ (h.G 0).done, TellOk r.client r.no r.call /\ ShortAns r.answer /\ StrCall r.call from fun r hr => by
       obtain ⟨⟨fr, h1⟩, h2⟩ := HOK.out;have h3 := tell_done h1 (i := 0) (by omega) hr;exact ⟨h3, h2.done _ r hr, code_str h3.call⟩)
      have hbl : (h.G 0).done.length <= 300 := by obtain ⟨⟨fr, h1⟩, _⟩ := HOK.out; exact Nat.le_trans (gOk_done (h1.guest 0 (by omega))) (by decide)
      obtain ⟨Ad, cd, hcd, hrd⟩ := hd0.it;have HCD := lh (show ∀ w' : World, (∀ k, F0 k -> w'.heap[k]? = wr.heap[k]?) -> w'.cell? ⟨gh, 8, none⟩ = some (.slice Ad (h.G 0).done.length cd) from fun w' hs => cell_same (hs gh HI.own) hcd);have HRD := lh hrd;clear HI hcd hrd hd0 hd1 hd2 HE HES;go_wp2_with fail
      clear hcn0 hca0;refine wp_region_held_drew (S := fun w' => StillAll wr F0 Fn gr gh w') (by kernel_rfl) (still_all HST.out) (fun hHeld => ?_);refine tK 0 ?_;try simp only [pS]
      refine tK 1 ?_;try simp only [pS]
      refine tK 2 ?_;try simp only [pS]
      refine tK 3 ?_;try simp only [pS]
      refine tK 4 ?_ (hY := fun w' hw' => by
       have hc := hw'.ptr;go_simp;try with_reducible rfl)
      try simp only [pS]
      refine tK 5 ?_ (hY := fun w' hw' => by
       have hc := HCN.out w' hw'.nums;go_simp;try with_reducible rfl)
      try simp only [pS]
      refine tK 6 ?_;try simp only [pS]
      refine tK 7 ?_ (hY := fun w' hw' => by
       have hc := HCA.out w' hw'.nums;go_simp;try with_reducible rfl)
      try simp only [pS]
      refine tK 8 ?_;try simp only [pS]
      refine tK 9 ?_;try simp only [pS]
      refine tK 10 ?_;try simp only [pS]
      refine tK 11 ?_;try simp only [pS]
      refine tK 12 ?_ (hY := fun w' hw' => by
       have hc := HCD.out w' hw'.house;go_simp;try with_reducible rfl)
      try simp only [pS]
      refine tC 13 fun K hK => ?_;go_simp;go_at_call 44
      refine (ref_records HST.out HL.out Ad cd (h.G 0).done (still_reads HRD.out) HTL.out hbl ht).mono ?_;rintro e w9 ⟨rfl, H9'⟩;have H9 := lh (ref_unstill HF0.out H9');refine hK.out _ _ (still_all H9') (fun hHeld => ?_);clear H9';clear hK K;try simp only [pS]
      refine tD ?_;clear hHeld;have HR := lh H9.out.drop.drop;clear H9;go_wp2
      go_end0
      exact ⟨rfl, by rw [HDW.out]; exact HR.out⟩
     ·have HDW := lh (show dLine h s.toList = ((h.G 1).done.flatMap recTxt ++ say [wEnd], h) from HDL.out.trans (dw_some HNUM.out (ask_done h 1)))
      have HTL := lh (show ∀ r ∈ (h.G 1).done, TellOk r.client r.no r.call /\ ShortAns r.answer /\ StrCall r.call from fun r hr => by
       obtain ⟨⟨fr, h1⟩, h2⟩ := HOK.out;have h3 := tell_done h1 (i := 1) (by omega) hr;exact ⟨h3, h2.done _ r hr, code_str h3.call⟩)
      have hbl : (h.G 1).done.length <= 300 := by obtain ⟨⟨fr, h1⟩, _⟩ := HOK.out; exact Nat.le_trans (gOk_done (h1.guest 1 (by omega))) (by decide)
      obtain ⟨Ad, cd, hcd, hrd⟩ := hd1.it;have HCD := lh (show ∀ w' : World, (∀ k, F0 k -> w'.heap[k]? = wr.heap[k]?) -> w'.cell? ⟨gh, 16, none⟩ = some (.slice Ad (h.G 1).done.length cd) from fun w' hs => cell_same (hs gh HI.own) hcd);have HRD := lh hrd;clear HI hcd hrd hd0 hd1 hd2 HE HES;go_wp2_with fail
      clear hcn0 hca0;refine wp_region_held_drew (S := fun w' => StillAll wr F0 Fn gr gh w') (by kernel_rfl) (still_all HST.out) (fun hHeld => ?_);refine tK 0 ?_;try simp only [pS]
      refine tK 1 ?_;try simp only [pS]
      refine tK 2 ?_;try simp only [pS]
      refine tK 3 ?_;try simp only [pS]
      refine tK 4 ?_ (hY := fun w' hw' => by
       have hc := hw'.ptr;go_simp;try with_reducible rfl)
      try simp only [pS]
      refine tK 5 ?_ (hY := fun w' hw' => by
       have hc := HCN.out w' hw'.nums;go_simp;try with_reducible rfl)
      try simp only [pS]
      refine tK 6 ?_;try simp only [pS]
      refine tK 7 ?_ (hY := fun w' hw' => by
       have hc := HCA.out w' hw'.nums;go_simp;try with_reducible rfl)
      try simp only [pS]
      refine tK 8 ?_;try simp only [pS]
      refine tK 9 ?_;try simp only [pS]
      refine tK 10 ?_;try simp only [pS]
      refine tK 11 ?_;try simp only [pS]
      refine tK 12 ?_ (hY := fun w' hw' => by
       have hc := HCD.out w' hw'.house;go_simp;try with_reducible rfl)
      try simp only [pS]
      refine tC 13 fun K hK => ?_;go_simp;go_at_call 44
      refine (ref_records HST.out HL.out Ad cd (h.G 1).done (still_reads HRD.out) HTL.out hbl ht).mono ?_;rintro e w9 ⟨rfl, H9'⟩;have H9 := lh (ref_unstill HF0.out H9');refine hK.out _ _ (still_all H9') (fun hHeld => ?_);clear H9';clear hK K;try simp only [pS]
      refine tD ?_;clear hHeld;have HR := lh H9.out.drop.drop;clear H9;go_wp2
      go_end0
      exact ⟨rfl, by rw [HDW.out]; exact HR.out⟩
     ·have HDW := lh (show dLine h s.toList = ((h.G 2).done.flatMap recTxt ++ say [wEnd], h) from HDL.out.trans (dw_some HNUM.out (ask_done h 2)))
      have HTL := lh (show ∀ r ∈ (h.G 2).done, TellOk r.client r.no r.call /\ ShortAns r.answer /\ StrCall r.call from fun r hr => by
       obtain ⟨⟨fr, h1⟩, h2⟩ := HOK.out;have h3 := tell_done h1 (i := 2) (by omega) hr;exact ⟨h3, h2.done _ r hr, code_str h3.call⟩)
      have hbl : (h.G 2).done.length <= 300 := by obtain ⟨⟨fr, h1⟩, _⟩ := HOK.out; exact Nat.le_trans (gOk_done (h1.guest 2 (by omega))) (by decide)
      obtain ⟨Ad, cd, hcd, hrd⟩ := hd2.it;have HCD := lh (show ∀ w' : World, (∀ k, F0 k -> w'.heap[k]? = wr.heap[k]?) -> w'.cell? ⟨gh, 24, none⟩ = some (.slice Ad (h.G 2).done.length cd) from fun w' hs => cell_same (hs gh HI.own) hcd);have HRD := lh hrd;clear HI hcd hrd hd0 hd1 hd2 HE HES;go_wp2_with fail
      clear hcn0 hca0;refine wp_region_held_drew (S := fun w' => StillAll wr F0 Fn gr gh w') (by kernel_rfl) (still_all HST.out) (fun hHeld => ?_);refine tK 0 ?_;try simp only [pS]
      refine tK 1 ?_;try simp only [pS]
      refine tK 2 ?_;try simp only [pS]
      refine tK 3 ?_;try simp only [pS]
      refine tK 4 ?_ (hY := fun w' hw' => by
       have hc := hw'.ptr;go_simp;try with_reducible rfl)
      try simp only [pS]
      refine tK 5 ?_ (hY := fun w' hw' => by
       have hc := HCN.out w' hw'.nums;go_simp;try with_reducible rfl)
      try simp only [pS]
      refine tK 6 ?_;try simp only [pS]
      refine tK 7 ?_ (hY := fun w' hw' => by
       have hc := HCA.out w' hw'.nums;go_simp;try with_reducible rfl)
      try simp only [pS]
      refine tK 8 ?_;try simp only [pS]
      refine tK 9 ?_;try simp only [pS]
      refine tK 10 ?_;try simp only [pS]
      refine tK 11 ?_;try simp only [pS]
      refine tK 12 ?_ (hY := fun w' hw' => by
       have hc := HCD.out w' hw'.house;go_simp;try with_reducible rfl)
      try simp only [pS]
      refine tC 13 fun K hK => ?_;go_simp;go_at_call 44
      refine (ref_records HST.out HL.out Ad cd (h.G 2).done (still_reads HRD.out) HTL.out hbl ht).mono ?_;rintro e w9 ⟨rfl, H9'⟩;have H9 := lh (ref_unstill HF0.out H9');refine hK.out _ _ (still_all H9') (fun hHeld => ?_);clear H9';clear hK K;try simp only [pS]
      refine tD ?_;clear hHeld;have HR := lh H9.out.drop.drop;clear H9;go_wp2
      go_end0
      exact ⟨rfl, by rw [HDW.out]; exact HR.out⟩
    ·have HDW := lh (show dLine h s.toList = (dCode 9, h) from HDL.out.trans (dw_some HNUM.out ((ask_done h a).trans (by rw [if_neg hr]))));by_cases hneg : a < 0
     ·have hr' : a < 0 := hneg;clear hr;go_wp2_with fail
      refine (ref_num _ 9 ⟨by decide, by decide⟩ (HL.out.ext HE.out.ext).laid).mono ?_;rintro e w8 ⟨rfl, hx8⟩;have H8 := lh (HE.out.step hx8);clear hx8;have hz9 : (mkStr (Lib.itoa 9)).size <= 21 := by rw [mkStr_size]; exact num_le ⟨by decide, by decide⟩
      have HNC := lh (no_code (c := 9) (by decide));go_wp2_with fail
      refine (ref_say H8.out ((⟨#[110, 111, 32]⟩ : ByteArray) ++ mkStr (Lib.itoa 9)) (by rw [ByteArray.size_append]; have e : (⟨#[110, 111, 32]⟩ : ByteArray).size = 3 := rfl; omega) (by omega)).mono ?_;rintro e w9 ⟨rfl, H9⟩;rw [List.append_assoc, HNC.out] at H9;have HR := lh H9.drop.drop;clear H9;go_wp2
      go_end0
      exact ⟨rfl, by rw [HDW.out]; exact HR.out⟩
     ·have hr' : 3 <= a := by omega
      clear hr;go_wp2_with fail
      refine (ref_num _ 9 ⟨by decide, by decide⟩ (HL.out.ext HE.out.ext).laid).mono ?_;rintro e w8 ⟨rfl, hx8⟩;have H8 := lh (HE.out.step hx8);clear hx8;have hz9 : (mkStr (Lib.itoa 9)).size <= 21 := by rw [mkStr_size]; exact num_le ⟨by decide, by decide⟩
      have HNC := lh (no_code (c := 9) (by decide));go_wp2_with fail
      refine (ref_say H8.out ((⟨#[110, 111, 32]⟩ : ByteArray) ++ mkStr (Lib.itoa 9)) (by rw [ByteArray.size_append]; have e : (⟨#[110, 111, 32]⟩ : ByteArray).size = 3 := rfl; omega) (by omega)).mono ?_;rintro e w9 ⟨rfl, H9⟩;rw [List.append_assoc, HNC.out] at H9;have HR := lh H9.drop.drop;clear H9;go_wp2
      go_end0
      exact ⟨rfl, by rw [HDW.out]; exact HR.out⟩
   rintro e w' ⟨rfl, rfl⟩;have Bb9 := lh b9;clear b9;go_wp2_with fail
   refine (env_is HE.out wLog 0).mono ?_;cases b10 : isB w0 m wLog 0;rotate_left
   ·rintro e w' ⟨rfl, rfl⟩;obtain ⟨rfl, hm1⟩ := isB_yes b10;obtain rfl := nil_of hm1;have HDW := lh (show dLine h s.toList = (h.S.flatMap recTxt ++ say [wEnd], h) from HDL.out.trans (dw_some HNUM.out (ask_log h)));have HLO := lh (show LogOk h.S by obtain ⟨⟨fr, h1⟩, _⟩ := HOK.out; exact h1.log)
    have hbl : h.S.length <= 300 := by
     have h1 := logLen8 HLO.out.each;have h2 := HLO.out.len;omega
    have HTL := lh (show ∀ r ∈ h.S, TellOk r.client r.no r.call /\ ShortAns r.answer /\ StrCall r.call from fun r hr => by
     obtain ⟨⟨fr, h1⟩, h2⟩ := HOK.out;have h3 := tell_log h1 hr;exact ⟨h3, rec_short (h1.log.each r hr), code_str h3.call⟩)
    have hds := ref_ds HE.out;obtain ⟨F0, hF0, hst⟩ := ref_still HE.out;have HI := house_in hF0;have HF0 := lh hF0;have HST := lh hst;clear hst hF0;obtain ⟨As, cs, hcs, hrs, hls⟩ := HI.chest;have HRS := lh hrs;clear HI hrs hls;go_wp2_with fail
    refine (ref_records HST.out HL.out As cs h.S (still_reads HRS.out) HTL.out hbl ht).mono ?_;rintro e w9 ⟨rfl, H9'⟩;have H9 := ref_unstill HF0.out H9';clear H9';have HR := lh H9.drop.drop;clear H9;go_wp2
    go_end0
    exact ⟨rfl, by rw [HDW.out]; exact HR.out⟩
   rintro e w' ⟨rfl, rfl⟩;have Bb10 := lh b10;clear b10;go_wp2_with fail
   refine (env_is HE.out wThen 1).mono ?_;cases b11 : isB w0 m wThen 1;rotate_left
   ·rintro e w' ⟨rfl, rfl⟩;obtain ⟨rfl, hm1⟩ := isB_yes b11;obtain ⟨a, rfl⟩ := one_of hm1;obtain ⟨Fn, hes, An', cn', hcn, hfn, hrn⟩ := env_still HE.out;obtain ⟨ad, rfl, hca⟩ := rin_num0 hrn (a := a) rfl;have HCN := lh (show ∀ w' : World, (∀ k, Fn k -> w'.heap[k]? = wr.heap[k]?) -> w'.cell? ⟨gn, 0, none⟩ = some (.slice (some ad) 1 cn') from fun w' hs => cell_same (hs gn hfn) hcn);have HCA := lh hca;have HES := lh hes;clear hcn hfn hrn hca;obtain ⟨F0, hF0, hst⟩ := ref_still HES.out;have HI := house_in hF0;have HF0 := lh hF0;have HX0 := lh (show Ext wr wr.drew from Touch.drew (Touch.refl _ wr));have HST := lh (hst.step HX0.out);obtain ⟨As, cs, hcs, hrs, hls⟩ := HI.chest;have HCS := lh (show ∀ w' : World, (∀ k, F0 k -> w'.heap[k]? = wr.heap[k]?) -> w'.cell? ⟨gh, 0, none⟩ = some (.slice As h.S.length cs) from fun w' hs => cell_same (hs gh HI.own) hcs);have HRS := lh hrs;have HLO := lh (show LogOk h.S by obtain ⟨⟨fr, h1⟩, _⟩ := HOK.out; exact h1.log)
    have hbl : h.S.length <= 300 := by
     have h1 := logLen8 HLO.out.each;have h2 := HLO.out.len;omega
    clear HI hcs hrs hst hF0 hes;have H9E := lh (HE.out.step HX0.out);clear HE HES;by_cases hr : 0 <= a /\ a <= h.S.length
    ·obtain ⟨k, rfl⟩ : ∃ k : Nat, a = k := ⟨a.toNat, by omega⟩
     have HDW := lh (show dLine h s.toList = (fshow (fbehind (h.S.take k)) ++ say [wEnd], h) from HDL.out.trans (dw_some HNUM.out ((ask_then h k).trans (by rw [if_pos hr]; rfl))));have hk0 : ¬ (k : Int) < 0 := by omega
     have hkl : ¬ (h.S.length : Int) < k := by omega
     have hkn : k <= h.S.length := by omega
     have hkc : k <= cs := by omega
     clear hr H9E;go_wp2_with fail
     refine wp_region_held_drew (S := fun w' => StillAll wr F0 Fn gr gh w') (by kernel_rfl) (still_all HST.out) (fun hHeld => ?_)
     refine tK 0 ?_ (hY := fun w' hw' => by
      have hc := HCN.out w' hw'.nums;go_simp;try with_reducible rfl)
     try simp only [pS]
     refine tK 1 ?_;try simp only [pS]
     refine tK 2 ?_ (hY := fun w' hw' => by
      have hc := HCA.out w' hw'.nums;go_simp;try with_reducible rfl)
     try simp only [pS]
     refine tK 3 ?_;try simp only [pS]
     refine tK 4 ?_;try simp only [pS]
     refine tK 5 ?_ (hY := fun w' hw' => by
      have hc := HCN.out w' hw'.nums;go_simp;try with_reducible rfl)
     try simp only [pS]
     refine tK 6 ?_;try simp only [pS]
     refine tK 7 ?_ (hY := fun w' hw' => by
      have hc := HCA.out w' hw'.nums;go_simp;try with_reducible rfl)
     try simp only [pS]
     refine tK 8 ?_;try simp only [pS]
     refine tK 9 ?_;try simp only [pS]
     refine tK 10 ?_;try simp only [pS]
     refine tK 11 ?_ (hY := fun w' hw' => by
      have hc := hw'.ptr;go_simp;try with_reducible rfl)
     try simp only [pS]
     refine tK 12 ?_;try simp only [pS]
     refine tK 13 ?_;try simp only [pS]
     refine tK 14 ?_;try simp only [pS]
     refine tK 15 ?_ (hY := fun w' hw' => by
      have hc := HCS.out w' hw'.house;go_simp;try with_reducible rfl)
     try simp only [pS]
     refine tK 16 ?_;try simp only [pS]
     refine tK 17 ?_;try simp only [pS]
     refine tK 18 ?_;try simp only [pS]
     refine tD ?_;clear hHeld;have H56 := lh (HST.out.step (show Ext wr.drew wr.drew.drew from Touch.drew (Touch.refl _ wr.drew)));have hc56 : wr.drew.drew.cell? ⟨gr, 0, none⟩ = some (.string (mkStr t)) := (cell_of (rb_blk H56.out) 0).trans rfl;have hfs := fshow_len (fbehind_ok (h.S.take k));have hz0 : (mkStr t).size <= 100000000 := by rw [mkStr_size]; exact ht
     have HHC := lh hc56;clear hc56;go_wp2_with fail
     refine wp_region_held_drew (S := fun w' => StillAll wr F0 Fn gr gh w') (by kernel_rfl) (still_all H56.out) (fun hHeld => ?_);refine tK 0 ?_;try simp only [pS]
     refine tK 1 ?_;try simp only [pS]
     refine tK 2 ?_;try simp only [pS]
     refine tK 4 ?_;try simp only [pS]
     refine tK 5 ?_;try simp only [pS]
     refine tK 6 ?_;try simp only [pS]
     refine tK 7 ?_ (hY := fun w' hw' => by
      have hc := hw'.ptr;go_simp;try with_reducible rfl)
     try simp only [pS]
     refine tK 8 ?_;try simp only [pS]
     refine tK 9 ?_;try simp only [pS]
     refine tK 10 ?_;try simp only [pS]
     refine tK 11 ?_ (hY := fun w' hw' => by
      have hc := HCS.out w' hw'.house;go_simp;try with_reducible rfl)
     try simp only [pS]
     refine tK 12 ?_ (hY := fun w' hw' => by
      have hc := HCN.out w' hw'.nums;go_simp;try with_reducible rfl)
     try simp only [pS]
     refine tK 13 ?_;try simp only [pS]
     refine tK 14 ?_ (hY := fun w' hw' => by
      have hc := HCA.out w' hw'.nums;go_simp;try with_reducible rfl)
     try simp only [pS]
     refine tK 15 ?_;try simp only [pS]
     have hc0 := HHC.out;refine wpAnyH_ready (rs := [3, 16]) (by kernel_rfl) (by simp) ?_;refine AllReadyH.cons (gT rfl) (fun K hK => ?_) (AllReadyH.cons (gT rfl) (fun K hK => ?_) AllReadyH.nil)
     ·go_simp;refine hK.out _ _ (still_all H56.out) (fun hHeld => ?_);clear hc0;clear hK K;try simp only [pS]
      refine tC 16 fun K hK => ?_;go_simp;go_at_call 45
      refine (ref_textOf _ _ (cutA As cs 0 8) k cs (h.S.take k) (((HRS.out.later (ref_as H56.out)).cutA (m := cs) hls 0).take k) (Nat.le_refl _) (by rw [List.length_take]; omega) (fun r hr => HLO.out.each r (List.mem_of_mem_take hr)) (by rw [List.length_take]; omega)).mono ?_;rintro e w17 ⟨rfl, hx17⟩;have H17 := lh (H56.out.step hx17);refine hK.out _ _ (still_all H17.out) (fun hHeld => ?_);clear hx17;clear hK K;try simp only [pS]
      generalize fshow (fbehind (h.S.take k)) = T at *;have hz1 : (mkStr T).size <= 138 := by rw [mkStr_size]; exact hfs
      refine tV 17 (.string (mkStr t ++ mkStr T)) ?_ ?_
      ·intro w' _;go_simp;try simp only [ByteArray.size_append] at *
       omega
      try simp only [pS]
      refine tK 18 ?_;try simp only [pS]
      refine tK 19 ?_;try simp only [pS]
      have hb17 := rb_blk H17.out;have hc17 : w17.cell? ⟨gr, 0, none⟩ = some (.string (mkStr t)) := (cell_of hb17 0).trans rfl;have hf17 := frozen_of hb17 0;have h18 := rb_tell H17.out (t ++ T);rw [<- mk_app] at h18;have H18 := lh h18;clear h18 hb17;refine tC 20 fun K hK => ?_;go_simp;refine hK.out _ _ (still_all H18.out) (fun hHeld => ?_);clear hc17 hf17;clear hK K;try simp only [pS]
      refine tD ?_;clear hHeld;have htl : (t ++ T).length <= 100000200 := by rw [List.length_append]; omega
      go_wp2_with fail
      refine (rb_say H18.out ⟨#[101, 110, 100]⟩ (by decide) (by omega)).mono ?_;rintro e w19 ⟨rfl, H19⟩;rw [List.append_assoc, end_line, List.append_assoc] at H19;have H9 := ref_unstill HF0.out H19;clear H19;have HR := lh H9.drop.drop;clear H9;go_wp2
      go_end0
      exact ⟨rfl, by rw [HDW.out]; exact HR.out⟩
     ·go_simp;go_at_call 45
      clear hc0;refine (ref_textOf _ _ (cutA As cs 0 8) k cs (h.S.take k) (((HRS.out.later (ref_as H56.out)).cutA (m := cs) hls 0).take k) (Nat.le_refl _) (by rw [List.length_take]; omega) (fun r hr => HLO.out.each r (List.mem_of_mem_take hr)) (by rw [List.length_take]; omega)).mono ?_;rintro e w17 ⟨rfl, hx17⟩;have H17 := lh (H56.out.step hx17);refine hK.out _ _ (still_all H17.out) (fun hHeld => ?_);clear hx17;clear hK K;try simp only [pS]
      generalize fshow (fbehind (h.S.take k)) = T at *;have hz1 : (mkStr T).size <= 138 := by rw [mkStr_size]; exact hfs
      have hc0 : w17.cell? ⟨gr, 0, none⟩ = some (.string (mkStr t)) := (cell_of (rb_blk H17.out) 0).trans rfl;refine tC 3 fun K hK => ?_;go_simp;refine hK.out _ _ (still_all H17.out) (fun hHeld => ?_);clear hc0;clear hK K;try simp only [pS]
      refine tV 17 (.string (mkStr t ++ mkStr T)) ?_ ?_
      ·intro w' _;go_simp;try simp only [ByteArray.size_append] at *
       omega
      try simp only [pS]
      refine tK 18 ?_;try simp only [pS]
      refine tK 19 ?_;try simp only [pS]
      have hb17 := rb_blk H17.out;have hc17 : w17.cell? ⟨gr, 0, none⟩ = some (.string (mkStr t)) := (cell_of hb17 0).trans rfl;have hf17 := frozen_of hb17 0;have h18 := rb_tell H17.out (t ++ T);rw [<- mk_app] at h18;have H18 := lh h18;clear h18 hb17;refine tC 20 fun K hK => ?_;go_simp;refine hK.out _ _ (still_all H18.out) (fun hHeld => ?_);clear hc17 hf17;clear hK K;try simp only [pS]
      refine tD ?_;clear hHeld;have htl : (t ++ T).length <= 100000200 := by rw [List.length_append]; omega
      go_wp2_with fail
      refine (rb_say H18.out ⟨#[101, 110, 100]⟩ (by decide) (by omega)).mono ?_;rintro e w19 ⟨rfl, H19⟩;rw [List.append_assoc, end_line, List.append_assoc] at H19;have H9 := ref_unstill HF0.out H19;clear H19;have HR := lh H9.drop.drop;clear H9;go_wp2
      go_end0
      exact ⟨rfl, by rw [HDW.out]; exact HR.out⟩
    ·have HDW := lh (show dLine h s.toList = (dCode 9, h) from HDL.out.trans (dw_some HNUM.out ((ask_then h a).trans (by rw [if_neg hr]))));by_cases hneg : a < 0
     ·clear hr;go_wp2_with fail
      refine wp_region_held_drew (S := fun w' => StillAll wr F0 Fn gr gh w') (by kernel_rfl) (still_all HST.out) (fun hHeld => ?_)
      refine tK 0 ?_ (hY := fun w' hw' => by
       have hc := HCN.out w' hw'.nums;go_simp;try with_reducible rfl)
      try simp only [pS]
      refine tK 1 ?_;try simp only [pS]
      refine tK 2 ?_ (hY := fun w' hw' => by
       have hc := HCA.out w' hw'.nums;go_simp;try with_reducible rfl)
      try simp only [pS]
      refine tK 3 ?_;try simp only [pS]
      refine tK 4 ?_;try simp only [pS]
      refine tN 5 ?_;try simp only [pS]
      refine tN 6 ?_;try simp only [pS]
      refine tN 7 ?_;try simp only [pS]
      refine tN 8 ?_;try simp only [pS]
      refine tN 9 ?_;try simp only [pS]
      refine tN 10 ?_;try simp only [pS]
      refine tN 11 ?_;try simp only [pS]
      refine tN 12 ?_;try simp only [pS]
      refine tN 13 ?_;try simp only [pS]
      refine tN 14 ?_;try simp only [pS]
      refine tN 15 ?_;try simp only [pS]
      refine tN 16 ?_;try simp only [pS]
      refine tN 17 ?_;try simp only [pS]
      refine tK 18 ?_;try simp only [pS]
      refine tD ?_;clear hHeld;go_wp2_with fail
      refine (ref_num _ 9 ⟨by decide, by decide⟩ (HL.out.ext H9E.out.ext).laid).mono ?_;rintro e w8 ⟨rfl, hx8⟩;have H8 := lh (H9E.out.step hx8);clear hx8;have hz9 : (mkStr (Lib.itoa 9)).size <= 21 := by rw [mkStr_size]; exact num_le ⟨by decide, by decide⟩
      have HNC := lh (no_code (c := 9) (by decide));go_wp2_with fail
      refine (ref_say H8.out ((⟨#[110, 111, 32]⟩ : ByteArray) ++ mkStr (Lib.itoa 9)) (by rw [ByteArray.size_append]; have e : (⟨#[110, 111, 32]⟩ : ByteArray).size = 3 := rfl; omega) (by omega)).mono ?_;rintro e w9 ⟨rfl, H9⟩;rw [List.append_assoc, HNC.out] at H9;have HR := lh H9.drop.drop;clear H9;go_wp2
      go_end0
      exact ⟨rfl, by rw [HDW.out]; exact HR.out⟩
     ·obtain ⟨k, rfl⟩ : ∃ k : Nat, a = k := ⟨a.toNat, by omega⟩
      have hk0 : ¬ (k : Int) < 0 := by omega
      have hkl : (h.S.length : Int) < k := by omega
      clear hr hneg;go_wp2_with fail
      refine wp_region_held_drew (S := fun w' => StillAll wr F0 Fn gr gh w') (by kernel_rfl) (still_all HST.out) (fun hHeld => ?_)
      refine tK 0 ?_ (hY := fun w' hw' => by
       have hc := HCN.out w' hw'.nums;go_simp;try with_reducible rfl)
      try simp only [pS]
      refine tK 1 ?_;try simp only [pS]
      refine tK 2 ?_ (hY := fun w' hw' => by
       have hc := HCA.out w' hw'.nums;go_simp;try with_reducible rfl)
      try simp only [pS]
      refine tK 3 ?_;try simp only [pS]
      refine tK 4 ?_;try simp only [pS]
      refine tK 5 ?_ (hY := fun w' hw' => by
       have hc := HCN.out w' hw'.nums;go_simp;try with_reducible rfl)
      try simp only [pS]
      refine tK 6 ?_;try simp only [pS]
      refine tK 7 ?_ (hY := fun w' hw' => by
       have hc := HCA.out w' hw'.nums;go_simp;try with_reducible rfl)
      try simp only [pS]
      refine tK 8 ?_;try simp only [pS]
      refine tK 9 ?_;try simp only [pS]
      refine tK 10 ?_;try simp only [pS]
      refine tK 11 ?_ (hY := fun w' hw' => by
       have hc := hw'.ptr;go_simp;try with_reducible rfl)
      try simp only [pS]
      refine tK 12 ?_;try simp only [pS]
      refine tK 13 ?_;try simp only [pS]
      refine tK 14 ?_;try simp only [pS]
      refine tK 15 ?_ (hY := fun w' hw' => by
       have hc := HCS.out w' hw'.house;go_simp;try with_reducible rfl)
      try simp only [pS]
      refine tK 16 ?_;try simp only [pS]
      refine tK 17 ?_;try simp only [pS]
      refine tK 18 ?_;try simp only [pS]
      refine tD ?_;clear hHeld;go_wp2_with fail
      refine (ref_num _ 9 ⟨by decide, by decide⟩ (HL.out.ext H9E.out.ext).laid).mono ?_;rintro e w8 ⟨rfl, hx8⟩;have H8 := lh (H9E.out.step hx8);clear hx8;have hz9 : (mkStr (Lib.itoa 9)).size <= 21 := by rw [mkStr_size]; exact num_le ⟨by decide, by decide⟩
      have HNC := lh (no_code (c := 9) (by decide));go_wp2_with fail
      refine (ref_say H8.out ((⟨#[110, 111, 32]⟩ : ByteArray) ++ mkStr (Lib.itoa 9)) (by rw [ByteArray.size_append]; have e : (⟨#[110, 111, 32]⟩ : ByteArray).size = 3 := rfl; omega) (by omega)).mono ?_;rintro e w9 ⟨rfl, H9⟩;rw [List.append_assoc, HNC.out] at H9;have HR := lh H9.drop.drop;clear H9;go_wp2
      go_end0
      exact ⟨rfl, by rw [HDW.out]; exact HR.out⟩
   rintro e w' ⟨rfl, rfl⟩;have Bb11 := lh b11;clear b11;have HDW := lh (show dLine h s.toList = (say [wWhat], h) from HDL.out.trans (dw_what HNUM.out (ask_none h Bb1.out Bb2.out Bb3.out Bb4.out Bb5.out Bb6.out Bb7.out Bb8.out Bb9.out Bb10.out Bb11.out)));go_wp2_with fail
   refine (ref_say HE.out ⟨#[119, 104, 97, 116]⟩ (by decide) (by omega)).mono ?_;rintro e w9 ⟨rfl, H9⟩;rw [List.append_assoc, what_line] at H9;have HR := lh H9.drop.drop;clear H9;go_wp2
   go_end0
   exact ⟨rfl, by rw [HDW.out]; exact HR.out⟩
end
end Go.Proofs.YtalfbhhldfffkaaGreatDoor
