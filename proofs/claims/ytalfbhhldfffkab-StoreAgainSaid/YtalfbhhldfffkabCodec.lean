/- Codec: the walks of codec.Check, files.Changes and the reference's RecordFault. -/
import Derived.Test.YtalfbhhldfffkabCheck3
import Derived.Test.YtalfbhhldfffkabFault2
import Derived.Test.YtalfbhhldfffkabCallsR
import Derived.Test.YtalfbhhldfffkabBytes
namespace Go.Proofs.Ytalfbhhldfffkab
open Go.RowKit

def CodePost (w : World) (n : Int) (e : Ending) (w' : World) : Prop := e = .returned (.int .i64 n) ∧ Ext w w'
set_option maxHeartbeats 2000000 in
set_option maxRecDepth 100000 in
theorem codec_check (w : World) (r : Record) (hs : StrCall r.call) :
    Calls Try.prog 110 #[.agg r.cells] w (CodePost w (recCode r)) := by
  by_cases a1 : r.client < 0
  · skip
    clear hs
    go_enter Try.func110, Try.ntmps110
    go_wp2
    go_ret
    exact ⟨by rw [show recCode r = 9 from by unfold recCode; rw [if_pos (by omega)]]; rfl, (Touch.refl _ _).alloc _⟩
  by_cases a2 : 3 ≤ r.client
  · skip
    clear hs
    go_enter Try.func110, Try.ntmps110
    go_wp2
    go_ret
    exact ⟨by rw [show recCode r = 9 from by unfold recCode; rw [if_pos (by omega)]]; rfl, (Touch.refl _ _).alloc _⟩
  by_cases a3 : r.no < 1
  · skip
    clear hs
    go_enter Try.func110, Try.ntmps110
    go_wp2
    go_ret
    exact ⟨by rw [show recCode r = 9 from by unfold recCode; rw [if_pos (by omega)]]; rfl, (Touch.refl _ _).alloc _⟩
  by_cases a4 : 200 < r.no
  · skip
    clear hs
    go_enter Try.func110, Try.ntmps110
    go_wp2
    go_ret
    exact ⟨by rw [show recCode r = 9 from by unfold recCode; rw [if_pos (by omega)]]; rfl, (Touch.refl _ _).alloc _⟩
  have h9 : ¬ (r.client < 0 ∨ 3 ≤ r.client ∨ r.no < 1 ∨ 200 < r.no) := by omega
  have H9 := Lib.hid h9
  have HS := Lib.hid hs
  clear h9 hs
  cases hk : decide (1 ≤ r.call.kind ∧ r.call.kind ≤ 4) with
  | false =>
    have HC := Lib.hid (show recCode r = 1 from by unfold recCode; rw [if_neg H9.out, if_pos (by simpa using hk)])
    go_enter Try.func110, Try.ntmps110
    go_wp2_with fail
    refine (files_changes _ r.call.kind false hk).mono ?_
    rintro e w1 ⟨rfl, rfl⟩
    clear hk
    go_wp2
    go_ret
    exact ⟨by rw [HC.out]; rfl, (Touch.refl _ _).alloc _⟩
  | true =>
  have HK := Lib.hid hk
  have hk' : ¬ ¬ (1 ≤ r.call.kind ∧ r.call.kind ≤ 4) := by simpa using hk
  have HK' := Lib.hid hk'
  clear hk hk'
  by_cases hc : callCode r.call = 0
  · by_cases a5 : r.answer.code < 0
    · have HC := Lib.hid (show recCode r = 9 from by unfold recCode; rw [if_neg H9.out, if_neg HK'.out, if_neg (by simpa using hc), if_pos (by omega)])
      go_enter Try.func110, Try.ntmps110
      go_wp2_with fail
      refine (files_changes _ r.call.kind true HK.out).mono ?_
      rintro e w1 ⟨rfl, rfl⟩
      go_wp2_with fail
      refine (files_check' _ r.call 0 hc HS.out).mono ?_
      rintro e w2 ⟨rfl, he⟩
      have HE := Lib.hid he
      have hb := he.blk (b := w.heap.size) (o := .cells r.cells 49 (0, 0)) (heap_alloc_new _ _) id
      have hg0 : w2.cell? ⟨w.heap.size, 6, none⟩ = some (.int .i64 r.answer.code) := by rw [cell_of hb 6, Record.get6]
      have hg1 : w2.cell? ⟨w.heap.size, 7, none⟩ = some (.string r.answer.text) := by rw [cell_of hb 7, Record.get7]
      obtain ⟨hlb, hb'⟩ := Array.getElem?_eq_some_iff.1 hb
      have hc' := Lib.hid hc
      clear he hc
      go_wp2
      go_ret
      exact ⟨by rw [HC.out]; rfl, ((Touch.refl _ _).alloc _).then HE.out fun _ h => h.elim⟩
    by_cases a6 : 99 < r.answer.code
    · have HC := Lib.hid (show recCode r = 9 from by unfold recCode; rw [if_neg H9.out, if_neg HK'.out, if_neg (by simpa using hc), if_pos (by omega)])
      go_enter Try.func110, Try.ntmps110
      go_wp2_with fail
      refine (files_changes _ r.call.kind true HK.out).mono ?_
      rintro e w1 ⟨rfl, rfl⟩
      go_wp2_with fail
      refine (files_check' _ r.call 0 hc HS.out).mono ?_
      rintro e w2 ⟨rfl, he⟩
      have HE := Lib.hid he
      have hb := he.blk (b := w.heap.size) (o := .cells r.cells 49 (0, 0)) (heap_alloc_new _ _) id
      have hg0 : w2.cell? ⟨w.heap.size, 6, none⟩ = some (.int .i64 r.answer.code) := by rw [cell_of hb 6, Record.get6]
      have hg1 : w2.cell? ⟨w.heap.size, 7, none⟩ = some (.string r.answer.text) := by rw [cell_of hb 7, Record.get7]
      obtain ⟨hlb, hb'⟩ := Array.getElem?_eq_some_iff.1 hb
      have hc' := Lib.hid hc
      clear he hc
      go_wp2
      go_ret
      exact ⟨by rw [HC.out]; rfl, ((Touch.refl _ _).alloc _).then HE.out fun _ h => h.elim⟩
    cases ht : r.answer.text.toList.isEmpty with
    | false =>
      have HC := Lib.hid (show recCode r = 3 from by unfold recCode; rw [if_neg H9.out, if_neg HK'.out, if_neg (by simpa using hc), if_neg (by omega), if_pos ht])
      go_enter Try.func110, Try.ntmps110
      go_wp2_with fail
      refine (files_changes _ r.call.kind true HK.out).mono ?_
      rintro e w1 ⟨rfl, rfl⟩
      go_wp2_with fail
      refine (files_check' _ r.call 0 hc HS.out).mono ?_
      rintro e w2 ⟨rfl, he⟩
      have HE := Lib.hid he
      have hb := he.blk (b := w.heap.size) (o := .cells r.cells 49 (0, 0)) (heap_alloc_new _ _) id
      have hg0 : w2.cell? ⟨w.heap.size, 6, none⟩ = some (.int .i64 r.answer.code) := by rw [cell_of hb 6, Record.get6]
      have hg1 : w2.cell? ⟨w.heap.size, 7, none⟩ = some (.string r.answer.text) := by rw [cell_of hb 7, Record.get7]
      obtain ⟨hlb, hb'⟩ := Array.getElem?_eq_some_iff.1 hb
      have hc' := Lib.hid hc
      clear he hc
      go_wp2
      go_ret
      exact ⟨by rw [HC.out]; rfl, ((Touch.refl _ _).alloc _).then HE.out fun _ h => h.elim⟩
    | true =>
      have HC := Lib.hid (show recCode r = 0 from by unfold recCode; rw [if_neg H9.out, if_neg HK'.out, if_neg (by simpa using hc), if_neg (by omega), if_neg (by simp [ht])])
      go_enter Try.func110, Try.ntmps110
      go_wp2_with fail
      refine (files_changes _ r.call.kind true HK.out).mono ?_
      rintro e w1 ⟨rfl, rfl⟩
      go_wp2_with fail
      refine (files_check' _ r.call 0 hc HS.out).mono ?_
      rintro e w2 ⟨rfl, he⟩
      have HE := Lib.hid he
      have hb := he.blk (b := w.heap.size) (o := .cells r.cells 49 (0, 0)) (heap_alloc_new _ _) id
      have hg0 : w2.cell? ⟨w.heap.size, 6, none⟩ = some (.int .i64 r.answer.code) := by rw [cell_of hb 6, Record.get6]
      have hg1 : w2.cell? ⟨w.heap.size, 7, none⟩ = some (.string r.answer.text) := by rw [cell_of hb 7, Record.get7]
      obtain ⟨hlb, hb'⟩ := Array.getElem?_eq_some_iff.1 hb
      have hc' := Lib.hid hc
      clear he hc
      go_wp2
      go_ret
      exact ⟨by rw [HC.out]; rfl, ((Touch.refl _ _).alloc _).then HE.out fun _ h => h.elim⟩
  · have HC := Lib.hid (show recCode r = callCode r.call from by unfold recCode; rw [if_neg H9.out, if_neg HK'.out, if_pos hc])
    have hcb : (callCode r.call != 0) = true := bne_iff_ne.2 hc
    generalize hcd : callCode r.call = n at HC hcb
    have hc := hcd
    clear hcd
    go_enter Try.func110, Try.ntmps110
    go_wp2_with fail
    refine (files_changes _ r.call.kind true HK.out).mono ?_
    rintro e w1 ⟨rfl, rfl⟩
    go_wp2_with fail
    refine (files_check' _ r.call n hc HS.out).mono ?_
    rintro e w2 ⟨rfl, he⟩
    have HE := Lib.hid he
    have hb := he.blk (b := w.heap.size) (o := .cells r.cells 49 (0, 0)) (heap_alloc_new _ _) id
    have hg0 : w2.cell? ⟨w.heap.size, 6, none⟩ = some (.int .i64 r.answer.code) := by rw [cell_of hb 6, Record.get6]
    have hg1 : w2.cell? ⟨w.heap.size, 7, none⟩ = some (.string r.answer.text) := by rw [cell_of hb 7, Record.get7]
    obtain ⟨hlb, hb'⟩ := Array.getElem?_eq_some_iff.1 hb
    have hc' := Lib.hid hc
    clear he hc
    go_wp2_with fail
    refine (files_check' _ r.call n hc'.out HS.out).mono ?_
    rintro e w3 ⟨rfl, he3⟩
    have HE := Lib.hid (Touch.then HE.out he3 fun _ h => h.elim)
    clear he3
    go_wp2
    go_ret
    exact ⟨by rw [HC.out]; rfl, ((Touch.refl _ _).alloc _).then HE.out fun _ h => h.elim⟩
set_option maxHeartbeats 2000000 in
set_option maxRecDepth 100000 in
theorem ref_recfault (w : World) (r : Record) (hs : StrCall r.call) :
    Calls Try.prog 91 #[.agg r.cells] w (CodePost w (recCode r)) := by
  by_cases a1 : r.client < 0
  · skip
    clear hs
    go_enter Try.func91, Try.ntmps91
    go_wp2
    go_ret
    exact ⟨by rw [show recCode r = 9 from by unfold recCode; rw [if_pos (by omega)]]; rfl, (Touch.refl _ _).alloc _⟩
  by_cases a2 : 3 ≤ r.client
  · skip
    clear hs
    go_enter Try.func91, Try.ntmps91
    go_wp2
    go_ret
    exact ⟨by rw [show recCode r = 9 from by unfold recCode; rw [if_pos (by omega)]]; rfl, (Touch.refl _ _).alloc _⟩
  by_cases a3 : r.no < 1
  · skip
    clear hs
    go_enter Try.func91, Try.ntmps91
    go_wp2
    go_ret
    exact ⟨by rw [show recCode r = 9 from by unfold recCode; rw [if_pos (by omega)]]; rfl, (Touch.refl _ _).alloc _⟩
  by_cases a4 : 200 < r.no
  · skip
    clear hs
    go_enter Try.func91, Try.ntmps91
    go_wp2
    go_ret
    exact ⟨by rw [show recCode r = 9 from by unfold recCode; rw [if_pos (by omega)]]; rfl, (Touch.refl _ _).alloc _⟩
  have h9 : ¬ (r.client < 0 ∨ 3 ≤ r.client ∨ r.no < 1 ∨ 200 < r.no) := by omega
  have H9 := Lib.hid h9
  have HS := Lib.hid hs
  clear h9 hs
  cases hk : decide (1 ≤ r.call.kind ∧ r.call.kind ≤ 4) with
  | false =>
    have HC := Lib.hid (show recCode r = 1 from by unfold recCode; rw [if_neg H9.out, if_pos (by simpa using hk)])
    go_enter Try.func91, Try.ntmps91
    go_wp2_with fail
    refine (ref_ischange' _ r.call.kind false hk).mono ?_
    rintro e w1 ⟨rfl, rfl⟩
    clear hk
    go_wp2
    go_ret
    exact ⟨by rw [HC.out]; rfl, (Touch.refl _ _).alloc _⟩
  | true =>
  have HK := Lib.hid hk
  have hk' : ¬ ¬ (1 ≤ r.call.kind ∧ r.call.kind ≤ 4) := by simpa using hk
  have HK' := Lib.hid hk'
  clear hk hk'
  by_cases hc : callCode r.call = 0
  · by_cases a5 : r.answer.code < 0
    · have HC := Lib.hid (show recCode r = 9 from by unfold recCode; rw [if_neg H9.out, if_neg HK'.out, if_neg (by simpa using hc), if_pos (by omega)])
      go_enter Try.func91, Try.ntmps91
      go_wp2_with fail
      refine (ref_ischange' _ r.call.kind true HK.out).mono ?_
      rintro e w1 ⟨rfl, rfl⟩
      go_wp2_with fail
      refine (ref_fault' _ r.call 0 hc HS.out).mono ?_
      rintro e w2 ⟨rfl, he⟩
      have HE := Lib.hid he
      have hb := he.blk (b := w.heap.size) (o := .cells r.cells 49 (0, 0)) (heap_alloc_new _ _) id
      have hg0 : w2.cell? ⟨w.heap.size, 6, none⟩ = some (.int .i64 r.answer.code) := by rw [cell_of hb 6, Record.get6]
      have hg1 : w2.cell? ⟨w.heap.size, 7, none⟩ = some (.string r.answer.text) := by rw [cell_of hb 7, Record.get7]
      obtain ⟨hlb, hb'⟩ := Array.getElem?_eq_some_iff.1 hb
      have hc' := Lib.hid hc
      clear he hc
      go_wp2
      go_ret
      exact ⟨by rw [HC.out]; rfl, ((Touch.refl _ _).alloc _).then HE.out fun _ h => h.elim⟩
    by_cases a6 : 99 < r.answer.code
    · have HC := Lib.hid (show recCode r = 9 from by unfold recCode; rw [if_neg H9.out, if_neg HK'.out, if_neg (by simpa using hc), if_pos (by omega)])
      go_enter Try.func91, Try.ntmps91
      go_wp2_with fail
      refine (ref_ischange' _ r.call.kind true HK.out).mono ?_
      rintro e w1 ⟨rfl, rfl⟩
      go_wp2_with fail
      refine (ref_fault' _ r.call 0 hc HS.out).mono ?_
      rintro e w2 ⟨rfl, he⟩
      have HE := Lib.hid he
      have hb := he.blk (b := w.heap.size) (o := .cells r.cells 49 (0, 0)) (heap_alloc_new _ _) id
      have hg0 : w2.cell? ⟨w.heap.size, 6, none⟩ = some (.int .i64 r.answer.code) := by rw [cell_of hb 6, Record.get6]
      have hg1 : w2.cell? ⟨w.heap.size, 7, none⟩ = some (.string r.answer.text) := by rw [cell_of hb 7, Record.get7]
      obtain ⟨hlb, hb'⟩ := Array.getElem?_eq_some_iff.1 hb
      have hc' := Lib.hid hc
      clear he hc
      go_wp2
      go_ret
      exact ⟨by rw [HC.out]; rfl, ((Touch.refl _ _).alloc _).then HE.out fun _ h => h.elim⟩
    cases ht : r.answer.text.toList.isEmpty with
    | false =>
      have HC := Lib.hid (show recCode r = 3 from by unfold recCode; rw [if_neg H9.out, if_neg HK'.out, if_neg (by simpa using hc), if_neg (by omega), if_pos ht])
      go_enter Try.func91, Try.ntmps91
      go_wp2_with fail
      refine (ref_ischange' _ r.call.kind true HK.out).mono ?_
      rintro e w1 ⟨rfl, rfl⟩
      go_wp2_with fail
      refine (ref_fault' _ r.call 0 hc HS.out).mono ?_
      rintro e w2 ⟨rfl, he⟩
      have HE := Lib.hid he
      have hb := he.blk (b := w.heap.size) (o := .cells r.cells 49 (0, 0)) (heap_alloc_new _ _) id
      have hg0 : w2.cell? ⟨w.heap.size, 6, none⟩ = some (.int .i64 r.answer.code) := by rw [cell_of hb 6, Record.get6]
      have hg1 : w2.cell? ⟨w.heap.size, 7, none⟩ = some (.string r.answer.text) := by rw [cell_of hb 7, Record.get7]
      obtain ⟨hlb, hb'⟩ := Array.getElem?_eq_some_iff.1 hb
      have hc' := Lib.hid hc
      clear he hc
      go_wp2
      go_ret
      exact ⟨by rw [HC.out]; rfl, ((Touch.refl _ _).alloc _).then HE.out fun _ h => h.elim⟩
    | true =>
      have HC := Lib.hid (show recCode r = 0 from by unfold recCode; rw [if_neg H9.out, if_neg HK'.out, if_neg (by simpa using hc), if_neg (by omega), if_neg (by simp [ht])])
      go_enter Try.func91, Try.ntmps91
      go_wp2_with fail
      refine (ref_ischange' _ r.call.kind true HK.out).mono ?_
      rintro e w1 ⟨rfl, rfl⟩
      go_wp2_with fail
      refine (ref_fault' _ r.call 0 hc HS.out).mono ?_
      rintro e w2 ⟨rfl, he⟩
      have HE := Lib.hid he
      have hb := he.blk (b := w.heap.size) (o := .cells r.cells 49 (0, 0)) (heap_alloc_new _ _) id
      have hg0 : w2.cell? ⟨w.heap.size, 6, none⟩ = some (.int .i64 r.answer.code) := by rw [cell_of hb 6, Record.get6]
      have hg1 : w2.cell? ⟨w.heap.size, 7, none⟩ = some (.string r.answer.text) := by rw [cell_of hb 7, Record.get7]
      obtain ⟨hlb, hb'⟩ := Array.getElem?_eq_some_iff.1 hb
      have hc' := Lib.hid hc
      clear he hc
      go_wp2
      go_ret
      exact ⟨by rw [HC.out]; rfl, ((Touch.refl _ _).alloc _).then HE.out fun _ h => h.elim⟩
  · have HC := Lib.hid (show recCode r = callCode r.call from by unfold recCode; rw [if_neg H9.out, if_neg HK'.out, if_pos hc])
    have hcb : (callCode r.call != 0) = true := bne_iff_ne.2 hc
    generalize hcd : callCode r.call = n at HC hcb
    have hc := hcd
    clear hcd
    go_enter Try.func91, Try.ntmps91
    go_wp2_with fail
    refine (ref_ischange' _ r.call.kind true HK.out).mono ?_
    rintro e w1 ⟨rfl, rfl⟩
    go_wp2_with fail
    refine (ref_fault' _ r.call n hc HS.out).mono ?_
    rintro e w2 ⟨rfl, he⟩
    have HE := Lib.hid he
    have hb := he.blk (b := w.heap.size) (o := .cells r.cells 49 (0, 0)) (heap_alloc_new _ _) id
    have hg0 : w2.cell? ⟨w.heap.size, 6, none⟩ = some (.int .i64 r.answer.code) := by rw [cell_of hb 6, Record.get6]
    have hg1 : w2.cell? ⟨w.heap.size, 7, none⟩ = some (.string r.answer.text) := by rw [cell_of hb 7, Record.get7]
    obtain ⟨hlb, hb'⟩ := Array.getElem?_eq_some_iff.1 hb
    have hc' := Lib.hid hc
    clear he hc
    skip
    go_wp2
    go_ret
    exact ⟨by rw [HC.out]; rfl, ((Touch.refl _ _).alloc _).then HE.out fun _ h => h.elim⟩
end Go.Proofs.Ytalfbhhldfffkab
