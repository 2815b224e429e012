/- Files3: the search of files. -/
import Derived.Test.YtalfbhhldfffkabFiles2
import Derived.Test.YtalfbhhldfffkabLib
namespace Go.Proofs.Ytalfbhhldfffkab
open Go.RowKit

theorem files_cmp (w : World) (x : FileD) (s : ByteArray) : Calls Try.prog 87 #[.agg x.cells, .string s] w fun e w' => e = .returned (.int .i64 (cmp3 x.name s)) ∧ Ext w w' := by
  go_enter Try.func87, Try.ntmps87
  go_wp2_with (go_at_call 88; refine (compare_names x.name s _).mono ?_; rintro e w' ⟨rfl, rfl⟩)
  go_ret
  exact ⟨rfl, (Touch.refl _ w).alloc _⟩

theorem ret_cell {α : Type} [Lies α] {P : Program} {fn : Func} {p : Tmp} {ty : TypeId} (h : fn.results = #[.cell p ty]) (ht : IsType P ty α) {R : Ending → World → Prop} {a : Act} {w : World} (b : Nat) (r : α) {T : TypeId} {fr : Nat × Nat} (hp : a.tmps.getD p undef = .pointer (some ⟨b, 0, none⟩)) (hb : w.heap[b]? = some (.cells (Lies.cells r) T fr)) (hd : a.defers = [])
    (hR : R (.returned (.agg (Lies.cells r))) w) : bodyPost P fn R (.ret) a w :=
  bodyPost_ret (results_cell h _ _ ⟨b, 0, none⟩ (.agg (Lies.cells r)) hp (load_block (x := r) ht hb)) hd hR
theorem files_no (w : World) (k : Int) : Calls Try.prog 53 #[.int .i64 k] w fun e w' => e = .returned (.agg (ans k).cells) ∧ Ext w w' := by
  go_enter Try.func53, Try.ntmps53
  go_wp2
  exact ret_cell rfl isAnswer w.heap.size (ans k) rfl (heap_alloc_new _ _) rfl ⟨rfl, (Touch.refl _ w).alloc _⟩

def SrchRel (w : World) (l : List FileD) (s : ByteArray) (a b : Value) (wr : World) : Prop :=
  ∃ lo hi : Nat, a = .int .i64 lo ∧ b = .int .i64 hi ∧ lo ≤ hi ∧ hi ≤ l.length ∧ (∀ (j : Nat) f, j < lo → l[j]? = some f → bless f.name s = true) ∧ (∀ (j : Nat) f, hi ≤ j → l[j]? = some f → bless f.name s = false) ∧ Ext w wr
def SrchPost (w : World) (l : List FileD) (s : ByteArray) (e : Ending) (w' : World) : Prop :=
  e = .returned (.tuple #[.int .i64 (pos l s), .bool (dAt l s).isSome]) ∧ Ext w w'
theorem found_at {l : List FileD} (hs : Sorted l) {s : ByteArray} {f : FileD} (hf : l[pos l s]? = some f) : (dAt l s).isSome = decide (f.name = s) := by
  by_cases h : f.name = s
  · have := dAt_of hs.names hf
    rw [h] at this
    rw [this, decide_eq_true h]; rfl
  · rw [decide_eq_false h]
    cases hd : dAt l s with
    | none => rfl
    | some i =>
      obtain ⟨f', hf', hn, _⟩ := dAt_some hd
      rw [pos_at hs hd, hf'] at hf
      injection hf with hf; subst hf
      exact absurd hn h
theorem found_no {l : List FileD} (hs : Sorted l) {s : ByteArray} (h : pos l s = l.length) : (dAt l s).isSome = false := by
  cases hd : dAt l s with
  | none => rfl
  | some i =>
    obtain ⟨f', hf', hn, hi⟩ := dAt_some hd
    rw [pos_at hs hd] at h; omega

set_option maxHeartbeats 1000000 in
set_option maxRecDepth 100000 in
theorem files_search (w : World) (A : Option Addr) (c : Nat) (l : List FileD) (s : ByteArray) (hr : Reads w w.heap.size A l) (hs : Sorted l) (hl : l.length ≤ 1000) :
    Calls Try.prog 86 #[.slice A l.length c, .string s, .func (.func 87) #[] #[]] w (SrchPost w l s) := by
  have HR := Lib.hid hr
  have HS := Lib.hid hs
  clear hr hs
  go_enter Try.func86, Try.ntmps86
  go_wp2
  go_loopw [9, 10] (fun a b wr => SrchRel w l s a b wr) (fun a b _ => (intOf b).toNat - (intOf a).toNat)
  case atStart => exact ⟨0, l.length, rfl, rfl, Nat.zero_le _, Nat.le_refl _, fun j f hj => by omega, fun j f hj hf => by have := (List.getElem?_eq_some_iff.1 hf).1; omega, Touch.refl _ w⟩
  case round =>
    obtain ⟨lo, hi, rfl, rfl, hlh, hhl, hlo, hhi, hx⟩ := hrel
    have HLO := Lib.hid hlo
    have HHI := Lib.hid hhi
    have HX := Lib.hid hx
    clear hlo hhi hx
    by_cases hlt : lo < hi
    · have hm : (lo + hi) / 2 < l.length := by omega
      obtain ⟨f, hf⟩ : ∃ f, l[(lo + hi) / 2]? = some f := ⟨l[(lo + hi) / 2], by simp [hm]⟩
      obtain ⟨ad, rfl, hb, hat⟩ := HR.out _ f hf
      have hLV : LV Try.prog 112 (ad.add ((lo + hi) / 2 * 2)) wr = .ok (.agg f.cells) wr := LV_FileF ((hat.of_same (w' := wr) (by rw [show (ad.add ((lo + hi) / 2 * Lies.size FileD)).block = ad.block by unfold Addr.add; split <;> rfl]; exact HX.out.block _ hb id)))
      have HF := Lib.hid hf
      clear hf hat
      have hin0 : (0 : Int) ≤ ((lo : Int) + (hi : Int)) / 2 := by omega
      by_cases hc : cmp3 f.name s < 0
      · go_wp2_with (go_at_call 87; refine (files_cmp _ f s).mono ?_; rintro e w' ⟨rfl, hx'⟩; have HX' := Lib.hid hx'; clear hx')
        go_roundw
        case rel =>
          refine ⟨(lo + hi) / 2 + 1, hi, by rw [show ((lo : Int) + (hi : Int)) / 2 + 1 = (((lo + hi) / 2 + 1 : Nat) : Int) by omega], rfl, by omega, hhl, fun j f' hj hf' => ?_, HHI.out, HX.out.trans HX'.out⟩
          have hb1 : bless f.name s = true := by rw [← cmp3_less]; exact hc
          by_cases hj1 : j = (lo + hi) / 2
          · rw [hj1, HF.out] at hf'; injection hf' with hf'; subst hf'; exact hb1
          · obtain ⟨h1, e1⟩ := List.getElem?_eq_some_iff.1 hf'
            obtain ⟨h2, e2⟩ := List.getElem?_eq_some_iff.1 HF.out
            exact bless_trans (by rw [← e1, ← e2]; exact List.pairwise_iff_getElem.1 HS.out j ((lo + hi) / 2) h1 h2 (by omega)) hb1
        case measure => simp [intOf]; omega
      · have hc' : 0 ≤ cmp3 f.name s := by omega
        go_wp2_with (go_at_call 87; refine (files_cmp _ f s).mono ?_; rintro e w' ⟨rfl, hx'⟩; have HX' := Lib.hid hx'; clear hx')
        go_roundw
        case rel =>
          refine ⟨lo, (lo + hi) / 2, rfl, by rw [show ((lo : Int) + (hi : Int)) / 2 = (((lo + hi) / 2 : Nat) : Int) by omega], by omega, by omega, HLO.out, fun j f' hj hf' => ?_, HX.out.trans HX'.out⟩
          have hb1 : bless f.name s = false := by cases hb : bless f.name s with
            | false => rfl
            | true => rw [← cmp3_less] at hb; omega
          cases hb : bless f'.name s with
          | false => rfl
          | true =>
            obtain ⟨h1, e1⟩ := List.getElem?_eq_some_iff.1 hf'
            obtain ⟨h2, e2⟩ := List.getElem?_eq_some_iff.1 HF.out
            by_cases hj1 : j = (lo + hi) / 2
            · rw [hj1, HF.out] at hf'; injection hf' with hf'; subst hf'; rw [hb1] at hb; cases hb
            · have := bless_trans (a := f.name) (b := f'.name) (by rw [← e1, ← e2]; exact List.pairwise_iff_getElem.1 HS.out ((lo + hi) / 2) j h2 h1 (by omega)) hb
              rw [hb1] at this; cases this
        case measure => simp [intOf]; omega
    · obtain rfl : hi = lo := by omega
      have HP := Lib.hid (pos_of (by omega) HLO.out HHI.out : hi = pos l s)
      by_cases hn : hi < l.length
      · obtain ⟨f, hf⟩ : ∃ f, l[hi]? = some f := ⟨l[hi], by simp [hn]⟩
        obtain ⟨ad, rfl, hb, hat⟩ := HR.out _ f hf
        have hLV : LV Try.prog 112 (ad.add (hi * 2)) wr = .ok (.agg f.cells) wr := LV_FileF ((hat.of_same (w' := wr) (by rw [show (ad.add (hi * Lies.size FileD)).block = ad.block by unfold Addr.add; split <;> rfl]; exact HX.out.block _ hb id)))
        have HF := Lib.hid hf
        clear hf hat
        by_cases hc : cmp3 f.name s = 0
        · have hc1 : (cmp3 f.name s == 0) = true := by simp [hc]
          go_wp2_with (go_at_call 87; refine (files_cmp _ f s).mono ?_; rintro e w' ⟨rfl, hx'⟩; have HX' := Lib.hid hx'; clear hx')
          go_ret2
          refine ⟨?_, HX.out.trans HX'.out⟩
          rw [found_at HS.out (f := f) (by rw [← HP.out]; exact HF.out), ← HP.out, decide_eq_true (by rw [← cmp3_same]; exact hc)]
          rfl
        · have hc1 : (cmp3 f.name s == 0) = false := by simp [hc]
          go_wp2_with (go_at_call 87; refine (files_cmp _ f s).mono ?_; rintro e w' ⟨rfl, hx'⟩; have HX' := Lib.hid hx'; clear hx')
          go_ret2
          refine ⟨?_, HX.out.trans HX'.out⟩
          rw [found_at HS.out (f := f) (by rw [← HP.out]; exact HF.out), ← HP.out, decide_eq_false (by rw [← cmp3_same]; exact hc)]
          rfl
      · go_wp2
        go_ret2
        refine ⟨?_, HX.out⟩
        rw [found_no HS.out (by rw [← HP.out]; omega), ← HP.out]
        rfl
end Go.Proofs.Ytalfbhhldfffkab
