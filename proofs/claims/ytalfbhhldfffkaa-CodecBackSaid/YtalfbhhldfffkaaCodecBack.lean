/- CodecBack: for every two records and every bytes the law returns true and leaves its arguments as they were. No condition. -/
import Derived.Test.YtalfbhhldfffkaaCodecDoes
namespace Go.Proofs.Ytalfbhhldfffkaa
open Go.RowKit
attribute [local go_sem ↓] sliced_cut

set_option maxHeartbeats 8000000 in
set_option maxRecDepth 100000 in
theorem codecBack (W : World) (r q : Record) (A : Option Addr) (c : Nat) (l : List UInt8) (hb : BytesIn W.heap.size W A l.length c l) (hs : StrCall r.call) (ha : r.answer.text.size ≤ 140737488351232) (hs' : StrCall q.call) (ha' : q.answer.text.size ≤ 140737488351232) :
    Calls Try.prog 10 #[.agg r.cells, .agg q.cells, .slice A l.length c] W fun e w' => e = .returned (.bool true) ∧ Ext W w' := by
  have HB := Lib.hid hb
  have HS := Lib.hid hs
  have HS' := Lib.hid hs'
  have EW := Lib.hid (Touch.alloc (Touch.alloc (Touch.refl (fun _ => False) W) (.cells r.cells 63)) (.cells q.cells 63))
  have hbR : ((W.alloc (.cells r.cells 63)).alloc (.cells q.cells 63)).heap[W.heap.size]? = some (.cells r.cells 63) := by
    rw [heap_alloc_past _ _ _ (by simp)]; exact heap_alloc_new _ _
  have hbQ : ((W.alloc (.cells r.cells 63)).alloc (.cells q.cells 63)).heap[W.heap.size + 1]? = some (.cells q.cells 63) := heap_alloc_at _ _ _ (by simp)
  have hlm : (l.length : Int) ≤ 9223372036854775807 := by have h1 := hb.cap; have h2 := hb.max; unfold maxLen at h2; omega
  clear hb hs hs'
  go_enter Try.func10, Try.ntmps10
  go_wp2_with fail
  generalize (W.alloc (.cells r.cells 63)).alloc (.cells q.cells 63) = V at EW hbR hbQ ⊢
  generalize W.heap.size + 1 = bQ at hbQ ⊢
  generalize W.heap.size = bR at hbR ⊢
  have HBR := Lib.hid hbR
  have HBQ := Lib.hid hbQ
  clear hbR hbQ
  refine (codec_begun V).mono ?_
  rintro e w1 ⟨rfl, hx1⟩
  have X1 := Lib.hid hx1
  have hb1 := hx1.blk HBR.out id
  obtain ⟨hl1, hb1'⟩ := Array.getElem?_eq_some_iff.1 hb1
  clear hx1
  go_wp2_with fail
  refine (law_greatRecord w1 r HS.out ha).mono ?_
  rintro e w2 ⟨rfl, hx2⟩
  have X2 := Lib.hid (X1.out.then hx2 fun _ h => h.elim)
  clear hx2 hb1 hl1 hb1' X1
  cases hg : greatRB r with
  | true =>
    go_wp2
    go_ret
    exact ⟨rfl, EW.out.then X2.out fun _ h => h.elim⟩
  | false =>
  clear hg
  have hb2 := X2.out.blk HBQ.out id
  obtain ⟨hl2, hb2'⟩ := Array.getElem?_eq_some_iff.1 hb2
  go_wp2_with fail
  refine (law_greatRecord w2 q HS'.out ha').mono ?_
  rintro e w3 ⟨rfl, hx3⟩
  have X3 := Lib.hid (X2.out.then hx3 fun _ h => h.elim)
  clear hx3 hb2 hl2 hb2' X2
  cases hg : greatRB q with
  | true =>
    go_wp2
    go_ret
    exact ⟨rfl, EW.out.then X3.out fun _ h => h.elim⟩
  | false =>
  clear hg
  by_cases hl4 : 4000 < l.length
  · have hl4' : (4000 : Int) < l.length := by omega
    go_wp2
    go_ret
    exact ⟨rfl, EW.out.then X3.out fun _ h => h.elim⟩
  have hl4' : ¬ (4000 : Int) < l.length := by omega
  have HL := Lib.hid hl4
  clear hl4
  have hb3 := X3.out.blk HBR.out id
  obtain ⟨hl3, hb3'⟩ := Array.getElem?_eq_some_iff.1 hb3
  go_wp2_with fail
  refine (codec_encode w3 r HS.out).mono ?_
  rintro e w4 ⟨A4, c4, rfl, ho4, hx4, _⟩
  have O4 := Lib.hid (Owns.reads ho4)
  have X4 := Lib.hid (X3.out.then hx4 fun _ h => h.elim)
  have hb4 := X4.out.blk HBQ.out id
  obtain ⟨hl4, hb4'⟩ := Array.getElem?_eq_some_iff.1 hb4
  clear ho4 hx4 hb3 hl3 hb3' X3
  go_wp2_with fail
  refine (codec_encode w4 q HS'.out).mono ?_
  rintro e w5 ⟨A5, c5, rfl, ho5, hx5, _⟩
  have O5 := Lib.hid (Owns.reads ho5)
  have O4 := Lib.hid (O4.out.ext hx5)
  have X5 := Lib.hid (X4.out.then hx5 fun _ h => h.elim)
  clear ho5 hx5 hb4 hl4 hb4' X4
  by_cases hrc : recCode r = 0
  · have HE := Lib.hid (show encBytes r = recBytes r from if_pos hrc)
    have HOK := Lib.hid (recCode_ok hrc)
    have hrl := (recBytes_bounds (recCode_ok hrc)).2
    rw [hrc, HE.out]
    have O4 := Lib.hid (show Reads w5 w5.heap.size A4 (recBytes r) by rw [← HE.out]; exact O4.out)
    have HRL := Lib.hid hrl
    clear hrc hrl
    have hll := Lib.hid (show l.length ≤ 4000 by omega)
    go_wp2_with (first
      | (at_builtin; refine wpList_append_own' (by rfl) (.const (.slice none 0 0)) (.tmp 45) 66 (by rfl) elemByte Try.underlying66 (v := .slice none 0 0) (l := []) (by rfl) (Owns.nil _ _) (recBytes r) (by rfl) (recBytes r).length (by simp) (by rfl) O4.out (by have := HRL.out; simp; omega) ?_
         intro A6 c6 w6 hown hgrow hat
         have O6 := Lib.hid hown
         have X6 := Lib.hid (Touch.grown (Touch.refl (fun _ => False) w5) hgrow (fun k hk => by simp [Value.ownBlock] at hk))
         have HB6 := Lib.hid hat
         clear hown hgrow hat)
      | (at_builtin; refine wpList_append_own' (by rfl) (.tmp 46) (.tmp 47) 66 (by rfl) elemByte Try.underlying66 (v := .slice A6 (recBytes r).length c6) (l := recBytes r) (by rfl) O6.out l (by rfl) ((recBytes r).length + l.length) (by rfl) (by rfl) (HB.out.reads.ext (EW.out.then (X5.out.then X6.out fun _ h => h.elim) fun _ h => h.elim)) (by have := HRL.out; have := hll.out; omega) ?_
         intro A7 c7 w7 hown hgrow hat
         have O7 := Lib.hid hown
         have X7 := Lib.hid (Touch.grown X6.out hgrow (fun k hk => .inr (by
           rcases HB6.out with e | e
           · rw [e] at hk; simp [Value.ownBlock] at hk
           · rw [e] at hk; injection hk with hk; omega)))
         clear hown hgrow hat))
    refine (codec_decode w7 A7 _ c7 (recBytes r ++ l) (by have := Owns.bytesIn O7.out; exact this) (by have := HRL.out; have := hll.out; simp; omega)).mono ?_
    rintro e w8 ⟨rfl, hx8⟩
    have hdec := decode_bytes HOK.out l
    rw [hdec]
    have X8 := Lib.hid (X7.out.then hx8 fun _ h => h.elim)
    clear hdec hx8 O6 O7 X6 X7 HB6
    go_wp2_with fail
    have hb9 : (w8.alloc (.cells r.cells 63)).heap[w8.heap.size]? = some (.cells r.cells 63) := heap_alloc_new _ _
    have X9 := Lib.hid (X8.out.alloc (.cells r.cells 63))
    generalize w8.alloc (.cells r.cells 63) = w9 at hb9 X9 ⊢
    generalize w8.heap.size = b9 at hb9 ⊢
    have XV := Lib.hid (X5.out.then X9.out fun _ h => h.elim)
    have O4 := Lib.hid (O4.out.ext X9.out)
    have O5 := Lib.hid (O5.out.ext X9.out)
    have hbR := XV.out.blk HBR.out id
    have hbQ := XV.out.blk HBQ.out id
    obtain ⟨hl9, hb9'⟩ := Array.getElem?_eq_some_iff.1 hb9
    obtain ⟨hlR, hbR'⟩ := Array.getElem?_eq_some_iff.1 hbR
    obtain ⟨hlQ, hbQ'⟩ := Array.getElem?_eq_some_iff.1 hbQ
    have hcr : ∀ n, (convert 66 9 (.slice A4 (recBytes r).length c4)).run Try.prog (w9.drewN n) = .ok (.string (mkStr (recBytes r))) (w9.drewN n) := fun n =>
      run_convert_reads (P := Try.prog) Try.underlying66 Try.underlying5 Try.underlying9 (O4.out.below (w' := w9.drewN n) (fun _ _ => rfl)) c4
    have hrr : decide (r = r) = true := by simp
    by_cases hqc : recCode q = 0
    · have hqb : (recCode q == 0) = true := beq_iff_eq.2 hqc
      have HEQ := Lib.hid (show encBytes q = recBytes q from if_pos hqc)
      have HOQ := Lib.hid (recCode_ok hqc)
      have hcq : ∀ n, (convert 66 9 (.slice A5 (encBytes q).length c5)).run Try.prog (w9.drewN n) = .ok (.string (mkStr (recBytes q))) (w9.drewN n) := fun n => by
        have := run_convert_reads (P := Try.prog) Try.underlying66 Try.underlying5 Try.underlying9 (O5.out.below (w' := w9.drewN n) (fun _ _ => rfl)) c5
        rw [HEQ.out] at this ⊢
        exact this
      by_cases hrq : r = q
      · have hd : decide (r = q) = true := decide_eq_true hrq
        have hs : ((mkStr (recBytes r)).toList == (mkStr (recBytes q)).toList) = true := by rw [hrq]; simp
        clear hqc hrq
        go_wp2_with fail
        go_quiet (fail)
        go_wp2_with fail
        have X10 := Lib.hid (XV.out.drewN nq)
        generalize w9.drewN nq = w10 at X10 ⊢
        clear hb9 hl9 hb9' hbR hlR hbR' hbQ hlQ hbQ'
        refine (codec_decode w10 A l.length c l (HB.out.re (EW.out.then X10.out fun _ h => h.elim)) (by have := HL.out; omega)).mono ?_
        rintro e w11 ⟨rfl, hx11⟩
        have X11 := Lib.hid (X10.out.then hx11 fun _ h => h.elim)
        clear hx11 X10
        by_cases hd0 : (decode l).2.2 = 0
        · obtain ⟨hok, rest, hrest, hlen⟩ := decode_zero hd0
          have HRE := Lib.hid hrest
          have HOK' := Lib.hid hok
          have hbd := (recBytes_bounds hok).2
          have hle : (recBytes (decode l).1).length ≤ l.length := by have := congrArg List.length hrest; rw [List.length_append] at this; omega
          rw [hd0, hlen]
          generalize (decode l).1 = z at HRE HOK' hbd hle ⊢
          clear hd0 hok hrest hlen
          go_wp2_with fail
          have hb12 : (w11.alloc (.cells z.cells 63)).heap[w11.heap.size]? = some (.cells z.cells 63) := heap_alloc_new _ _
          obtain ⟨hz1, hz2, hz3⟩ := recCode_size HOK'.out
          refine (codec_encode _ z ⟨by omega, by omega, by omega⟩).mono ?_
          rintro e w13 ⟨A13, c13, rfl, ho13, hx13, _⟩
          have HE13 := Lib.hid (show encBytes z = recBytes z from if_pos (recCode_of HOK'.out))
          rw [HE13.out] at ho13
          have O13 := Lib.hid (Owns.reads ho13)
          rw [HE13.out, recCode_of HOK'.out]
          have X13 := Lib.hid ((X11.out.alloc _).then hx13 fun _ h => h.elim)
          clear hb12 ho13 hx13 X11
          have hle' : ((recBytes z).length : Int) ≤ l.length := by omega
          have hlc : ((recBytes z).length : Int) ≤ c := by have := HB.out.cap; omega
          have hcz : ∀ n, (convert 66 9 (.slice A13 (recBytes z).length c13)).run Try.prog (w13.drewN n) = .ok (.string (mkStr (recBytes z))) (w13.drewN n) := fun n =>
            run_convert_reads (P := Try.prog) Try.underlying66 Try.underlying5 Try.underlying9 (O13.out.below (w' := w13.drewN n) (fun _ _ => rfl)) c13
          have hcl : ∀ n, (convert 66 9 (.slice (cutA A c 0 1) (recBytes z).length c)).run Try.prog (w13.drewN n) = .ok (.string (mkStr (recBytes z))) (w13.drewN n) := fun n => by
            have h1 := (((HB.out.reads.ext (EW.out.then X13.out fun _ h => h.elim)).cutA (m := c) HB.out.cap 0).take (recBytes z).length).below (w' := w13.drewN n) (fun _ _ => rfl)
            rw [List.drop_zero, HRE.out, List.take_left] at h1
            exact run_convert_reads (P := Try.prog) Try.underlying66 Try.underlying5 Try.underlying9 h1 c
          have hss : ((mkStr (recBytes z)).toList == (mkStr (recBytes z)).toList) = true := by simp
          go_wp2_with fail
          go_quiet (fail)
          go_wp2
          go_ret
          exact ⟨rfl, (EW.out.then X13.out fun _ h => h.elim).drewN _⟩
        · have hdc := decode_code hd0
          have hdb : ((decode l).2.2 != 0) = true := bne_iff_ne.2 hd0
          rw [hdc]
          generalize (decode l).2.2 = code at hdb ⊢
          clear hd0 hdc
          have hzz : decide (Record.zero = Record.zero) = true := by simp
          go_wp2
          go_ret
          exact ⟨rfl, (EW.out.then X11.out fun _ h => h.elim).alloc _⟩
      · have hd : decide (r = q) = false := decide_eq_false hrq
        have hs : ((mkStr (recBytes r)).toList == (mkStr (recBytes q)).toList) = false := by
          rw [mkStr_toList, mkStr_toList]
          exact beq_eq_false_iff_ne.2 fun e => hrq (recBytes_inj HOK.out HOQ.out e)
        clear hqc hrq
        go_wp2_with fail
        go_quiet (fail)
        go_wp2_with fail
        have X10 := Lib.hid (XV.out.drewN nq)
        generalize w9.drewN nq = w10 at X10 ⊢
        clear hb9 hl9 hb9' hbR hlR hbR' hbQ hlQ hbQ'
        refine (codec_decode w10 A l.length c l (HB.out.re (EW.out.then X10.out fun _ h => h.elim)) (by have := HL.out; omega)).mono ?_
        rintro e w11 ⟨rfl, hx11⟩
        have X11 := Lib.hid (X10.out.then hx11 fun _ h => h.elim)
        clear hx11 X10
        by_cases hd0 : (decode l).2.2 = 0
        · obtain ⟨hok, rest, hrest, hlen⟩ := decode_zero hd0
          have HRE := Lib.hid hrest
          have HOK' := Lib.hid hok
          have hbd := (recBytes_bounds hok).2
          have hle : (recBytes (decode l).1).length ≤ l.length := by have := congrArg List.length hrest; rw [List.length_append] at this; omega
          rw [hd0, hlen]
          generalize (decode l).1 = z at HRE HOK' hbd hle ⊢
          clear hd0 hok hrest hlen
          go_wp2_with fail
          have hb12 : (w11.alloc (.cells z.cells 63)).heap[w11.heap.size]? = some (.cells z.cells 63) := heap_alloc_new _ _
          obtain ⟨hz1, hz2, hz3⟩ := recCode_size HOK'.out
          refine (codec_encode _ z ⟨by omega, by omega, by omega⟩).mono ?_
          rintro e w13 ⟨A13, c13, rfl, ho13, hx13, _⟩
          have HE13 := Lib.hid (show encBytes z = recBytes z from if_pos (recCode_of HOK'.out))
          rw [HE13.out] at ho13
          have O13 := Lib.hid (Owns.reads ho13)
          rw [HE13.out, recCode_of HOK'.out]
          have X13 := Lib.hid ((X11.out.alloc _).then hx13 fun _ h => h.elim)
          clear hb12 ho13 hx13 X11
          have hle' : ((recBytes z).length : Int) ≤ l.length := by omega
          have hlc : ((recBytes z).length : Int) ≤ c := by have := HB.out.cap; omega
          have hcz : ∀ n, (convert 66 9 (.slice A13 (recBytes z).length c13)).run Try.prog (w13.drewN n) = .ok (.string (mkStr (recBytes z))) (w13.drewN n) := fun n =>
            run_convert_reads (P := Try.prog) Try.underlying66 Try.underlying5 Try.underlying9 (O13.out.below (w' := w13.drewN n) (fun _ _ => rfl)) c13
          have hcl : ∀ n, (convert 66 9 (.slice (cutA A c 0 1) (recBytes z).length c)).run Try.prog (w13.drewN n) = .ok (.string (mkStr (recBytes z))) (w13.drewN n) := fun n => by
            have h1 := (((HB.out.reads.ext (EW.out.then X13.out fun _ h => h.elim)).cutA (m := c) HB.out.cap 0).take (recBytes z).length).below (w' := w13.drewN n) (fun _ _ => rfl)
            rw [List.drop_zero, HRE.out, List.take_left] at h1
            exact run_convert_reads (P := Try.prog) Try.underlying66 Try.underlying5 Try.underlying9 h1 c
          have hss : ((mkStr (recBytes z)).toList == (mkStr (recBytes z)).toList) = true := by simp
          go_wp2_with fail
          go_quiet (fail)
          go_wp2
          go_ret
          exact ⟨rfl, (EW.out.then X13.out fun _ h => h.elim).drewN _⟩
        · have hdc := decode_code hd0
          have hdb : ((decode l).2.2 != 0) = true := bne_iff_ne.2 hd0
          rw [hdc]
          generalize (decode l).2.2 = code at hdb ⊢
          clear hd0 hdc
          have hzz : decide (Record.zero = Record.zero) = true := by simp
          go_wp2
          go_ret
          exact ⟨rfl, (EW.out.then X11.out fun _ h => h.elim).alloc _⟩
    · have hqb : (recCode q == 0) = false := beq_eq_false_iff_ne.2 hqc
      clear hqc
      go_wp2_with fail
      go_quiet (fail)
      go_wp2_with fail
      have X10 := Lib.hid (XV.out.drewN nq)
      generalize w9.drewN nq = w10 at X10 ⊢
      clear hb9 hl9 hb9' hbR hlR hbR' hbQ hlQ hbQ'
      refine (codec_decode w10 A l.length c l (HB.out.re (EW.out.then X10.out fun _ h => h.elim)) (by have := HL.out; omega)).mono ?_
      rintro e w11 ⟨rfl, hx11⟩
      have X11 := Lib.hid (X10.out.then hx11 fun _ h => h.elim)
      clear hx11 X10
      by_cases hd0 : (decode l).2.2 = 0
      · obtain ⟨hok, rest, hrest, hlen⟩ := decode_zero hd0
        have HRE := Lib.hid hrest
        have HOK' := Lib.hid hok
        have hbd := (recBytes_bounds hok).2
        have hle : (recBytes (decode l).1).length ≤ l.length := by have := congrArg List.length hrest; rw [List.length_append] at this; omega
        rw [hd0, hlen]
        generalize (decode l).1 = z at HRE HOK' hbd hle ⊢
        clear hd0 hok hrest hlen
        go_wp2_with fail
        have hb12 : (w11.alloc (.cells z.cells 63)).heap[w11.heap.size]? = some (.cells z.cells 63) := heap_alloc_new _ _
        obtain ⟨hz1, hz2, hz3⟩ := recCode_size HOK'.out
        refine (codec_encode _ z ⟨by omega, by omega, by omega⟩).mono ?_
        rintro e w13 ⟨A13, c13, rfl, ho13, hx13, _⟩
        have HE13 := Lib.hid (show encBytes z = recBytes z from if_pos (recCode_of HOK'.out))
        rw [HE13.out] at ho13
        have O13 := Lib.hid (Owns.reads ho13)
        rw [HE13.out, recCode_of HOK'.out]
        have X13 := Lib.hid ((X11.out.alloc _).then hx13 fun _ h => h.elim)
        clear hb12 ho13 hx13 X11
        have hle' : ((recBytes z).length : Int) ≤ l.length := by omega
        have hlc : ((recBytes z).length : Int) ≤ c := by have := HB.out.cap; omega
        have hcz : ∀ n, (convert 66 9 (.slice A13 (recBytes z).length c13)).run Try.prog (w13.drewN n) = .ok (.string (mkStr (recBytes z))) (w13.drewN n) := fun n =>
          run_convert_reads (P := Try.prog) Try.underlying66 Try.underlying5 Try.underlying9 (O13.out.below (w' := w13.drewN n) (fun _ _ => rfl)) c13
        have hcl : ∀ n, (convert 66 9 (.slice (cutA A c 0 1) (recBytes z).length c)).run Try.prog (w13.drewN n) = .ok (.string (mkStr (recBytes z))) (w13.drewN n) := fun n => by
          have h1 := (((HB.out.reads.ext (EW.out.then X13.out fun _ h => h.elim)).cutA (m := c) HB.out.cap 0).take (recBytes z).length).below (w' := w13.drewN n) (fun _ _ => rfl)
          rw [List.drop_zero, HRE.out, List.take_left] at h1
          exact run_convert_reads (P := Try.prog) Try.underlying66 Try.underlying5 Try.underlying9 h1 c
        have hss : ((mkStr (recBytes z)).toList == (mkStr (recBytes z)).toList) = true := by simp
        go_wp2_with fail
        go_quiet (fail)
        go_wp2
        go_ret
        exact ⟨rfl, (EW.out.then X13.out fun _ h => h.elim).drewN _⟩
      · have hdc := decode_code hd0
        have hdb : ((decode l).2.2 != 0) = true := bne_iff_ne.2 hd0
        rw [hdc]
        generalize (decode l).2.2 = code at hdb ⊢
        clear hd0 hdc
        have hzz : decide (Record.zero = Record.zero) = true := by simp
        go_wp2
        go_ret
        exact ⟨rfl, (EW.out.then X11.out fun _ h => h.elim).alloc _⟩
  · have hcb : (recCode r == 0) = false := beq_eq_false_iff_ne.2 hrc
    generalize hgc : recCode r = code at hcb ⊢
    clear hrc hgc
    have X10 := X5
    generalize w5 = w10 at X10 ⊢
    have hb9 := trivial
    have hl9 := trivial
    have hb9' := trivial
    have hbR := trivial
    have hlR := trivial
    have hbR' := trivial
    have hbQ := trivial
    have hlQ := trivial
    have hbQ' := trivial
    go_wp2_with fail
    clear hb9 hl9 hb9' hbR hlR hbR' hbQ hlQ hbQ'
    refine (codec_decode w10 A l.length c l (HB.out.re (EW.out.then X10.out fun _ h => h.elim)) (by have := HL.out; omega)).mono ?_
    rintro e w11 ⟨rfl, hx11⟩
    have X11 := Lib.hid (X10.out.then hx11 fun _ h => h.elim)
    clear hx11 X10
    by_cases hd0 : (decode l).2.2 = 0
    · obtain ⟨hok, rest, hrest, hlen⟩ := decode_zero hd0
      have HRE := Lib.hid hrest
      have HOK' := Lib.hid hok
      have hbd := (recBytes_bounds hok).2
      have hle : (recBytes (decode l).1).length ≤ l.length := by have := congrArg List.length hrest; rw [List.length_append] at this; omega
      rw [hd0, hlen]
      generalize (decode l).1 = z at HRE HOK' hbd hle ⊢
      clear hd0 hok hrest hlen
      go_wp2_with fail
      have hb12 : (w11.alloc (.cells z.cells 63)).heap[w11.heap.size]? = some (.cells z.cells 63) := heap_alloc_new _ _
      obtain ⟨hz1, hz2, hz3⟩ := recCode_size HOK'.out
      refine (codec_encode _ z ⟨by omega, by omega, by omega⟩).mono ?_
      rintro e w13 ⟨A13, c13, rfl, ho13, hx13, _⟩
      have HE13 := Lib.hid (show encBytes z = recBytes z from if_pos (recCode_of HOK'.out))
      rw [HE13.out] at ho13
      have O13 := Lib.hid (Owns.reads ho13)
      rw [HE13.out, recCode_of HOK'.out]
      have X13 := Lib.hid ((X11.out.alloc _).then hx13 fun _ h => h.elim)
      clear hb12 ho13 hx13 X11
      have hle' : ((recBytes z).length : Int) ≤ l.length := by omega
      have hlc : ((recBytes z).length : Int) ≤ c := by have := HB.out.cap; omega
      have hcz : ∀ n, (convert 66 9 (.slice A13 (recBytes z).length c13)).run Try.prog (w13.drewN n) = .ok (.string (mkStr (recBytes z))) (w13.drewN n) := fun n =>
        run_convert_reads (P := Try.prog) Try.underlying66 Try.underlying5 Try.underlying9 (O13.out.below (w' := w13.drewN n) (fun _ _ => rfl)) c13
      have hcl : ∀ n, (convert 66 9 (.slice (cutA A c 0 1) (recBytes z).length c)).run Try.prog (w13.drewN n) = .ok (.string (mkStr (recBytes z))) (w13.drewN n) := fun n => by
        have h1 := (((HB.out.reads.ext (EW.out.then X13.out fun _ h => h.elim)).cutA (m := c) HB.out.cap 0).take (recBytes z).length).below (w' := w13.drewN n) (fun _ _ => rfl)
        rw [List.drop_zero, HRE.out, List.take_left] at h1
        exact run_convert_reads (P := Try.prog) Try.underlying66 Try.underlying5 Try.underlying9 h1 c
      have hss : ((mkStr (recBytes z)).toList == (mkStr (recBytes z)).toList) = true := by simp
      go_wp2_with fail
      go_quiet (fail)
      go_wp2
      go_ret
      exact ⟨rfl, (EW.out.then X13.out fun _ h => h.elim).drewN _⟩
    · have hdc := decode_code hd0
      have hdb : ((decode l).2.2 != 0) = true := bne_iff_ne.2 hd0
      rw [hdc]
      generalize (decode l).2.2 = code at hdb ⊢
      clear hd0 hdc
      have hzz : decide (Record.zero = Record.zero) = true := by simp
      go_wp2
      go_ret
      exact ⟨rfl, (EW.out.then X11.out fun _ h => h.elim).alloc _⟩
end Go.Proofs.Ytalfbhhldfffkaa
