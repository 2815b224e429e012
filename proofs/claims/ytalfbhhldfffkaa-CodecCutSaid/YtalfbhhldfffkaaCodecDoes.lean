/- CodecDoes: for every record and every bytes the law returns true and leaves its arguments as they were. No condition. -/
import Derived.Test.YtalfbhhldfffkaaCodecBegun
import Derived.Test.YtalfbhhldfffkaaRead
namespace Go.Proofs.Ytalfbhhldfffkaa
open Go.RowKit

theorem BytesIn.re {W w : World} {A : Option Addr} {n c : Nat} {l : List UInt8} (h : BytesIn W.heap.size W A n c l) (hx : Ext W w) : BytesIn w.heap.size w A n c l := ⟨h.len, h.cap, h.max, h.reads.ext hx, Nat.le_refl _⟩
theorem recAll_length {l : List UInt8} : (recAll l).length ≤ l.length := by
  obtain ⟨rest, h, _⟩ := (recAll_is l).rest
  have h1 := log_len (recAll_is l).ok
  have h2 := congrArg List.length h
  rw [List.length_append] at h2
  omega
theorem str_call2 {c : Call} (h : Call.Ok c) : StrCall c := ⟨h.2.1, h.2.2.1, h.2.2.2⟩

set_option maxHeartbeats 8000000 in
set_option maxRecDepth 100000 in
theorem codecDoes (W : World) (r : Record) (A : Option Addr) (c : Nat) (l : List UInt8) (hb : BytesIn W.heap.size W A l.length c l) (hs : StrCall r.call) (ha : r.answer.text.size ≤ 140737488351232) :
    Calls Try.prog 9 #[.agg r.cells, .slice A l.length c] W fun e w' => e = .returned (.bool true) ∧ Ext W w' := by
  have HB := Lib.hid hb
  have HS := Lib.hid hs
  have EW := Lib.hid (Touch.alloc (Touch.refl (fun _ => False) W) (.cells r.cells 63))
  have hbR : (W.alloc (.cells r.cells 63)).heap[W.heap.size]? = some (.cells r.cells 63) := heap_alloc_new _ _
  have hlm : (l.length : Int) ≤ 9223372036854775807 := by have h1 := hb.cap; have h2 := hb.max; unfold maxLen at h2; omega
  clear hb hs
  go_enter Try.func9, Try.ntmps9
  go_wp2_with fail
  generalize W.alloc (.cells r.cells 63) = V at EW hbR ⊢
  generalize W.heap.size = bR at hbR ⊢
  have HBR := Lib.hid hbR
  clear hbR
  refine (codec_begun V).mono ?_
  rintro e w1 ⟨rfl, hx1⟩
  have X1 := Lib.hid hx1
  have hb1 := hx1.blk HBR.out id
  obtain ⟨hl1, hb1'⟩ := Array.getElem?_eq_some_iff.1 hb1
  clear hx1
  go_wp2_with fail
  refine (law_greatRecord w1 r HS.out ha).mono ?_
  rintro e w2 ⟨rfl, hx2⟩
  have X2 := Lib.hid (X1.out.then hx2 fun _ h => h.elim)
  clear hx2 hb1 hl1 hb1' X1
  cases hg : greatRB r with
  | true =>
    go_wp2
    go_ret
    exact ⟨rfl, EW.out.then X2.out fun _ h => h.elim⟩
  | false =>
    clear hg
    by_cases hl4 : 4000 < l.length
    · have hl4' : (4000 : Int) < l.length := by omega
      go_wp2
      go_ret
      exact ⟨rfl, EW.out.then X2.out fun _ h => h.elim⟩
    have hl4' : ¬ (4000 : Int) < l.length := by omega
    have HL := Lib.hid hl4
    clear hl4
    have hb2 := X2.out.blk HBR.out id
    obtain ⟨hl2, hb2'⟩ := Array.getElem?_eq_some_iff.1 hb2
    go_wp2_with fail
    refine (codec_encode w2 r HS.out).mono ?_
    rintro e w3 ⟨A3, c3, rfl, ho3, hx3, _⟩
    have O3 := Lib.hid (Owns.reads ho3)
    have X3 := Lib.hid (X2.out.then hx3 fun _ h => h.elim)
    have hb3 := X3.out.blk HBR.out id
    obtain ⟨hl3, hb3'⟩ := Array.getElem?_eq_some_iff.1 hb3
    clear ho3 hx3 hb2 hl2 hb2' X2
    go_wp2_with fail
    refine (ref_recfault w3 r HS.out).mono ?_
    rintro e w4 ⟨rfl, hx4⟩
    have X4 := Lib.hid (X3.out.then hx4 fun _ h => h.elim)
    have O4 := Lib.hid (O3.out.ext hx4)
    have hb4 := X4.out.blk HBR.out id
    obtain ⟨hl4, hb4'⟩ := Array.getElem?_eq_some_iff.1 hb4
    clear hx4 hb3 hl3 hb3' X3 O3
    by_cases hrc : recCode r = 0
    · have HE := Lib.hid (show encBytes r = recBytes r from if_pos hrc)
      have hok := recCode_ok hrc
      have HRC := Lib.hid hrc
      rw [hrc, HE.out]
      have O4 := Lib.hid (show Reads w4 w4.heap.size A3 (recBytes r) by rw [← HE.out]; exact O4.out)
      clear hrc
      go_wp2_with fail
      refine (ref_bytesOf w4 r hok).mono ?_
      rintro e w6 ⟨A6, c6, rfl, ho6, hx6, _⟩
      have hcv : (convert 66 9 (.slice A6 (recBytes r).length c6)).run Try.prog w6 = .ok (.string (mkStr (recBytes r))) w6 := run_convert_reads (P := Try.prog) Try.underlying66 Try.underlying5 Try.underlying9 (Owns.reads ho6) c6
      have X6 := Lib.hid (X4.out.then hx6 fun _ h => h.elim)
      have O6 := Lib.hid (O4.out.ext hx6)
      clear ho6 hx6 X4 O4 hok
      go_wp2_with fail
      clear hcv
      clear hb4 hl4 hb4'
      refine (codec_decode w6 A l.length c l (HB.out.re (EW.out.then X6.out fun _ h => h.elim)) (by have := HL.out; omega)).mono ?_
      rintro e w7 ⟨rfl, hx7⟩
      go_wp2_with fail
      have hb8 : (w7.alloc (.cells (decode l).1.cells 63)).heap[w7.heap.size]? = some (.cells (decode l).1.cells 63) := heap_alloc_new _ _
      have X8 := Lib.hid ((X6.out.then hx7 fun _ h => h.elim).alloc (.cells (decode l).1.cells 63))
      have O8 := Lib.hid (O6.out.ext (hx7.alloc (.cells (decode l).1.cells 63)))
      clear hx7 X6 O6
      generalize w7.alloc (.cells (decode l).1.cells 63) = w8 at hb8 X8 O8 ⊢
      generalize w7.heap.size = b8 at hb8 ⊢
      have HB8 := Lib.hid hb8
      clear hb8
      refine (ref_recordOf w8 A l.length c l (HB.out.re (EW.out.then X8.out fun _ h => h.elim)) (by have := HL.out; omega)).mono ?_
      rintro e w9 ⟨rfl, hx9⟩
      go_wp2_with fail
      have hb10 : (w9.alloc (.cells (decode l).1.cells 63)).heap[w9.heap.size]? = some (.cells (decode l).1.cells 63) := heap_alloc_new _ _
      have x89 := hx9.alloc (.cells (decode l).1.cells 63)
      have X10 := Lib.hid (X8.out.then x89 fun _ h => h.elim)
      have O10 := Lib.hid (O8.out.ext x89)
      have H810 := Lib.hid (x89.blk HB8.out id)
      clear hx9 x89 X8 O8 HB8
      generalize w9.alloc (.cells (decode l).1.cells 63) = w10 at hb10 X10 O10 H810 ⊢
      generalize w9.heap.size = b10 at hb10 ⊢
      have HB10 := Lib.hid hb10
      clear hb10
      refine (codec_all w10 A l.length c l (HB.out.re (EW.out.then X10.out fun _ h => h.elim)) (by have := HL.out; omega)).mono ?_
      rintro e w11 ⟨A11, c11, rfl, ho11, hx11, _⟩
      have OA := Lib.hid (Owns.reads ho11)
      have X11 := Lib.hid hx11
      clear ho11 hx11
      go_wp2_with fail
      refine (ref_recordsOf w11 A l.length c l (HB.out.re (EW.out.then (X10.out.then X11.out fun _ h => h.elim) fun _ h => h.elim)) (by have := HL.out; omega)).mono ?_
      rintro e w12 ⟨A12, c12, rfl, ho12, hx12, _⟩
      have OB := Lib.hid (Owns.reads ho12)
      have OA := Lib.hid (OA.out.ext hx12)
      have X12 := Lib.hid (X11.out.then hx12 fun _ h => h.elim)
      have hbv := X12.out.blk (X10.out.blk HBR.out id) id
      obtain ⟨hlv, hbv'⟩ := Array.getElem?_eq_some_iff.1 hbv
      clear ho12 hx12 X11
      go_wp2_with fail
      refine (codec_check w12 r HS.out).mono ?_
      rintro e w13 ⟨rfl, hx13⟩
      rw [HRC.out]
      have X13 := Lib.hid (X12.out.then hx13 fun _ h => h.elim)
      have OA := Lib.hid (OA.out.ext hx13)
      have OB := Lib.hid (OB.out.ext hx13)
      have hcv : (convert 66 9 (.slice A3 (recBytes r).length c3)).run Try.prog w13 = .ok (.string (mkStr (recBytes r))) w13 :=
        run_convert_reads (P := Try.prog) Try.underlying66 Try.underlying5 Try.underlying9 (O10.out.ext X13.out) c3
      have h8 := X13.out.blk H810.out id
      obtain ⟨hl8, h8'⟩ := Array.getElem?_eq_some_iff.1 h8
      have h10 := X13.out.blk HB10.out id
      obtain ⟨hl10, h10'⟩ := Array.getElem?_eq_some_iff.1 h10
      clear hx13 hbv hlv hbv' X12
      have hdd : decide ((decode l).1 = (decode l).1) = true := by simp
      go_wp2_with fail
      refine (sameRecords w13 w13.heap.size A11 A12 (recAll l) (recAll l) _ _ OA.out OB.out (by have := HL.out; have := recAll_length (l := l); omega) (by have := HL.out; have := recAll_length (l := l); omega)).mono ?_
      rintro e w14 ⟨rfl, n14, rfl⟩
      have hrr : decide (recAll l = recAll l) = true := by simp
      go_wp2
      go_ret
      exact ⟨rfl, (EW.out.then (X10.out.then X13.out fun _ h => h.elim) fun _ h => h.elim).drewN _⟩
    · have HE := Lib.hid (show encBytes r = [] from if_neg hrc)
      have hcb : (recCode r == 0) = false := beq_eq_false_iff_ne.2 hrc
      generalize hgc : recCode r = code at hcb ⊢
      have HGC := Lib.hid hgc
      rw [HE.out]
      have O6 := Lib.hid (show Reads w4 w4.heap.size A3 [] by rw [← HE.out]; exact O4.out)
      clear hrc O4 hgc
      generalize w4 = w6 at X4 O6 hb4 hl4 hb4' ⊢
      have X6 := X4
      go_wp2_with fail
      clear hb4 hl4 hb4'
      refine (codec_decode w6 A l.length c l (HB.out.re (EW.out.then X6.out fun _ h => h.elim)) (by have := HL.out; omega)).mono ?_
      rintro e w7 ⟨rfl, hx7⟩
      go_wp2_with fail
      have hb8 : (w7.alloc (.cells (decode l).1.cells 63)).heap[w7.heap.size]? = some (.cells (decode l).1.cells 63) := heap_alloc_new _ _
      have X8 := Lib.hid ((X6.out.then hx7 fun _ h => h.elim).alloc (.cells (decode l).1.cells 63))
      have O8 := Lib.hid (O6.out.ext (hx7.alloc (.cells (decode l).1.cells 63)))
      clear hx7 X6 O6
      generalize w7.alloc (.cells (decode l).1.cells 63) = w8 at hb8 X8 O8 ⊢
      generalize w7.heap.size = b8 at hb8 ⊢
      have HB8 := Lib.hid hb8
      clear hb8
      refine (ref_recordOf w8 A l.length c l (HB.out.re (EW.out.then X8.out fun _ h => h.elim)) (by have := HL.out; omega)).mono ?_
      rintro e w9 ⟨rfl, hx9⟩
      go_wp2_with fail
      have hb10 : (w9.alloc (.cells (decode l).1.cells 63)).heap[w9.heap.size]? = some (.cells (decode l).1.cells 63) := heap_alloc_new _ _
      have x89 := hx9.alloc (.cells (decode l).1.cells 63)
      have X10 := Lib.hid (X8.out.then x89 fun _ h => h.elim)
      have O10 := Lib.hid (O8.out.ext x89)
      have H810 := Lib.hid (x89.blk HB8.out id)
      clear hx9 x89 X8 O8 HB8
      generalize w9.alloc (.cells (decode l).1.cells 63) = w10 at hb10 X10 O10 H810 ⊢
      generalize w9.heap.size = b10 at hb10 ⊢
      have HB10 := Lib.hid hb10
      clear hb10
      refine (codec_all w10 A l.length c l (HB.out.re (EW.out.then X10.out fun _ h => h.elim)) (by have := HL.out; omega)).mono ?_
      rintro e w11 ⟨A11, c11, rfl, ho11, hx11, _⟩
      have OA := Lib.hid (Owns.reads ho11)
      have X11 := Lib.hid hx11
      clear ho11 hx11
      go_wp2_with fail
      refine (ref_recordsOf w11 A l.length c l (HB.out.re (EW.out.then (X10.out.then X11.out fun _ h => h.elim) fun _ h => h.elim)) (by have := HL.out; omega)).mono ?_
      rintro e w12 ⟨A12, c12, rfl, ho12, hx12, _⟩
      have OB := Lib.hid (Owns.reads ho12)
      have OA := Lib.hid (OA.out.ext hx12)
      have X12 := Lib.hid (X11.out.then hx12 fun _ h => h.elim)
      have hbv := X12.out.blk (X10.out.blk HBR.out id) id
      obtain ⟨hlv, hbv'⟩ := Array.getElem?_eq_some_iff.1 hbv
      clear ho12 hx12 X11
      go_wp2_with fail
      refine (codec_check w12 r HS.out).mono ?_
      rintro e w13 ⟨rfl, hx13⟩
      rw [HGC.out]
      have X13 := Lib.hid (X12.out.then hx13 fun _ h => h.elim)
      have OA := Lib.hid (OA.out.ext hx13)
      have OB := Lib.hid (OB.out.ext hx13)
      have hcv : (convert 66 9 (.slice A3 0 c3)).run Try.prog w13 = .ok (.string ⟨#[]⟩) w13 :=
        run_convert_reads (P := Try.prog) Try.underlying66 Try.underlying5 Try.underlying9 (O10.out.ext X13.out) c3
      have h8 := X13.out.blk H810.out id
      obtain ⟨hl8, h8'⟩ := Array.getElem?_eq_some_iff.1 h8
      have h10 := X13.out.blk HB10.out id
      obtain ⟨hl10, h10'⟩ := Array.getElem?_eq_some_iff.1 h10
      clear hx13 hbv hlv hbv' X12
      have hdd : decide ((decode l).1 = (decode l).1) = true := by simp
      go_wp2_with fail
      refine (sameRecords w13 w13.heap.size A11 A12 (recAll l) (recAll l) _ _ OA.out OB.out (by have := HL.out; have := recAll_length (l := l); omega) (by have := HL.out; have := recAll_length (l := l); omega)).mono ?_
      rintro e w14 ⟨rfl, n14, rfl⟩
      have hrr : decide (recAll l = recAll l) = true := by simp
      go_wp2
      go_ret
      exact ⟨rfl, (EW.out.then (X10.out.then X13.out fun _ h => h.elim) fun _ h => h.elim).drewN _⟩
end Go.Proofs.Ytalfbhhldfffkaa
