/- Great: the walks of greatCall and greatClient. -/
import Derived.Test.YtalfbhhldfffkaaTypes
import Derived.Test.YtalfbhhldfffkaaText
import Derived.Test.YtalfbhhldfffkaaAt
import Derived.Test.YtalfbhhldfffkaaLater
namespace Go.Proofs.Ytalfbhhldfffkaa
open Go.RowKit

def greatB (c : Call) : Bool := decide (300 < c.name.size + c.to_.size + c.text.size)
/-- a call whose texts are short -/
structure Short (c : Call) : Prop where
  h1 : c.name.size ≤ 300
  h2 : c.to_.size ≤ 300
  h3 : c.text.size ≤ 300
theorem greatB_short {c : Call} (h : greatB c = false) : Short c := by
  unfold greatB at h
  simp at h
  exact ⟨by omega, by omega, by omega⟩
structure StrCall (c : Call) : Prop where
  h1 : c.name.size ≤ 140737488351232
  h2 : c.to_.size ≤ 140737488351232
  h3 : c.text.size ≤ 140737488351232
theorem Short.str {c : Call} (h : Short c) : StrCall c := ⟨by have := h.h1; omega, by have := h.h2; omega, by have := h.h3; omega⟩

set_option maxHeartbeats 400000 in
theorem law_greatCall (w : World) (c : Call) (hs : StrCall c) :
    Calls Try.prog 36 #[.agg c.cells] w fun e w' => e = .returned (.bool (greatB c)) ∧ w.alloc (.cells c.cells 29) = w' := by
  obtain ⟨h1, h2, h3⟩ := hs
  have e : greatB c = decide ((300 : Int) < (c.name.size : Int) + (c.to_.size : Int) + (c.text.size : Int)) := by
    unfold greatB
    rw [decide_eq_decide]
    omega
  have E := Lib.hid e
  clear e
  go_enter Try.func36, Try.ntmps36
  go_wp2
  go_ret
  exact ⟨by rw [E.out]; rfl, rfl⟩

theorem law_greatCall' (w : World) (c : Call) (b : Bool) (hb : greatB c = b) (hs : StrCall c) :
    Calls Try.prog 36 #[.agg c.cells] w fun e w' => e = .returned (.bool b) ∧ w.alloc (.cells c.cells 29) = w' := by
  subst hb
  exact law_greatCall w c hs
def ClientStep.great (x : ClientStep) : Bool := greatB x.c || greatB x.p.call || decide (300 < x.a.text.size + x.p.answer.text.size)
structure StrCStep (x : ClientStep) : Prop where
  c : StrCall x.c
  p : StrCall x.p.call
  a : x.a.text.size ≤ 140737488351232
  pa : x.p.answer.text.size ≤ 140737488351232
def GreatClient (W : World) (l : List ClientStep) (e : Ending) (w' : World) : Prop :=
  ∃ b, e = .returned (.bool b) ∧ (b = false → l.length ≤ 450 ∧ ∀ x ∈ l, x.great = false) ∧ Ext W w'

set_option maxHeartbeats 8000000 in
set_option maxRecDepth 100000 in
theorem law_greatClient (W : World) (A : Option Addr) (c : Nat) (l : List ClientStep) (hr : Reads W W.heap.size A l) (hs : ∀ x ∈ l, StrCStep x) (hl : l.length ≤ 140737488351232) :
    Calls Try.prog 26 #[.slice A l.length c] W (GreatClient W l) := by
  have HR := Lib.hid hr
  have HS := Lib.hid hs
  clear hr hs
  go_enter Try.func26, Try.ntmps26
  go_wp2_with fail
  go_loopw [3] (fun i wr => ∃ k : Nat, i = .int .i64 k ∧ k ≤ l.length ∧ k ≤ 500 ∧ (∀ (j : Nat) x, j < k → l[j]? = some x → x.great = false) ∧ Ext W wr) (fun i _ => l.length - (intOf i).toNat)
  case atStart => exact ⟨0, rfl, Nat.zero_le _, Nat.zero_le _, fun j x h => by omega, Touch.refl _ _⟩
  case round =>
    obtain ⟨k, rfl, hk, hk5, hall, hx⟩ := hrel
    have HALL := Lib.hid hall
    have HX := Lib.hid hx
    clear hall hx
    by_cases hlt : k < l.length
    · by_cases hlt5 : k < 500
      · obtain ⟨x, hxk⟩ : ∃ x, l[k]? = some x := ⟨l[k], by simp [hlt]⟩
        obtain ⟨ad, rfl, had, hat⟩ := HR.out k x hxk
        have hadk : (ad.add (k * 16)).block = ad.block := by unfold Addr.add; split <;> rfl
        replace hat : At W (ad.add (k * 16)) x := hat
        have hsx := HS.out x (List.mem_of_getElem? hxk)
        have SA := Lib.hid (show ∀ w', Ext wr w' → objPart ((ad.add (k * 16)).off + 1) 4 (w'.heap[(ad.add (k * 16)).block]?) = some x.c.cells ∧
            objPart ((ad.add (k * 16)).off + 8) 4 (w'.heap[(ad.add (k * 16)).block]?) = some x.p.call.cells ∧
            w'.cell? ⟨(ad.add (k * 16)).block, (ad.add (k * 16)).off + 15, none⟩ = some (.string x.a.text) ∧ w'.cell? ⟨(ad.add (k * 16)).block, (ad.add (k * 16)).off + 13, none⟩ = some (.string x.p.answer.text) from fun w' hx' => by
          have h1 : At w' (ad.add (k * 16)) x := hat.of_same ((((HX.out.then hx' fun _ h => h.elim).block _ (by rw [hadk]; exact had) id)))
          exact ⟨objPart_at h1 x.c 1 x.part_c, objPart_at h1 x.p.call 8 x.part_p_call, h1 15 _ rfl, h1 13 _ rfl⟩)
        have HSX := Lib.hid hsx
        have hsa : (x.a.text.size : Int) ≤ 140737488351232 := by have := hsx.a; omega
        have hsp : (x.p.answer.text.size : Int) ≤ 140737488351232 := by have := hsx.pa; omega
        have HK := Lib.hid hxk
        clear hsx hxk hat had hadk
        cases hb1 : greatB x.c with
        | true =>
          have HB1 := Lib.hid hb1
          have HB2 := HB1
          clear hb1
          have sa := fun t : Later wr => (SA.out t.to_ t.ext).1
          have sb := fun t : Later wr => (SA.out t.to_ t.ext).2.1
          have sc := fun t : Later wr => (SA.out t.to_ t.ext).2.2.1
          have sd := fun t : Later wr => (SA.out t.to_ t.ext).2.2.2
          go_wp2_with fail
          refine wp_region_later (by kernel_rfl) (by kernel_rfl) ?_
          repeat (go_big_quiet_step (first
              | (go_at_call_of 36 (Value.agg x.c.cells); exact Calls.later ((law_greatCall' _ x.c _ HB1.out HSX.out.c).mono fun e w' ⟨he, hw⟩ => ⟨he, by subst hw; exact (Touch.refl _ _).alloc _⟩))
              | (go_at_call_of 36 (Value.agg x.p.call.cells); exact Calls.later ((law_greatCall' _ x.p.call _ HB2.out HSX.out.p).mono fun e w' ⟨he, hw⟩ => ⟨he, by subst hw; exact (Touch.refl _ _).alloc _⟩))))
          refine wpQuiet_nil ?_
          rintro _ ⟨t, rfl⟩
          clear sa sb sc sd
          go_wp2
          skip
          go_ret
          exact ⟨true, rfl, (fun h => by cases h), HX.out.then t.ext fun _ h => h.elim⟩
        | false =>
          have HB1 := Lib.hid hb1
          clear hb1
          cases hb2 : greatB x.p.call with
          | true =>
            have HB2 := Lib.hid hb2
            clear hb2
            have sa := fun t : Later wr => (SA.out t.to_ t.ext).1
            have sb := fun t : Later wr => (SA.out t.to_ t.ext).2.1
            have sc := fun t : Later wr => (SA.out t.to_ t.ext).2.2.1
            have sd := fun t : Later wr => (SA.out t.to_ t.ext).2.2.2
            go_wp2_with fail
            refine wp_region_later (by kernel_rfl) (by kernel_rfl) ?_
            repeat (go_big_quiet_step (first
                | (go_at_call_of 36 (Value.agg x.c.cells); exact Calls.later ((law_greatCall' _ x.c _ HB1.out HSX.out.c).mono fun e w' ⟨he, hw⟩ => ⟨he, by subst hw; exact (Touch.refl _ _).alloc _⟩))
                | (go_at_call_of 36 (Value.agg x.p.call.cells); exact Calls.later ((law_greatCall' _ x.p.call _ HB2.out HSX.out.p).mono fun e w' ⟨he, hw⟩ => ⟨he, by subst hw; exact (Touch.refl _ _).alloc _⟩))))
            refine wpQuiet_nil ?_
            rintro _ ⟨t, rfl⟩
            clear sa sb sc sd
            go_wp2
            skip
            go_ret
            exact ⟨true, rfl, (fun h => by cases h), HX.out.then t.ext fun _ h => h.elim⟩
          | false =>
            have HB2 := Lib.hid hb2
            clear hb2
            by_cases hb3 : 300 < x.a.text.size + x.p.answer.text.size
            · have hb3' : decide ((300 : Int) < (x.a.text.size : Int) + (x.p.answer.text.size : Int)) = true := by simp; omega
              have HB3 := Lib.hid hb3
              clear hb3
              have sa := fun t : Later wr => (SA.out t.to_ t.ext).1
              have sb := fun t : Later wr => (SA.out t.to_ t.ext).2.1
              have sc := fun t : Later wr => (SA.out t.to_ t.ext).2.2.1
              have sd := fun t : Later wr => (SA.out t.to_ t.ext).2.2.2
              go_wp2_with fail
              refine wp_region_later (by kernel_rfl) (by kernel_rfl) ?_
              repeat (go_big_quiet_step (first
                  | (go_at_call_of 36 (Value.agg x.c.cells); exact Calls.later ((law_greatCall' _ x.c _ HB1.out HSX.out.c).mono fun e w' ⟨he, hw⟩ => ⟨he, by subst hw; exact (Touch.refl _ _).alloc _⟩))
                  | (go_at_call_of 36 (Value.agg x.p.call.cells); exact Calls.later ((law_greatCall' _ x.p.call _ HB2.out HSX.out.p).mono fun e w' ⟨he, hw⟩ => ⟨he, by subst hw; exact (Touch.refl _ _).alloc _⟩))))
              refine wpQuiet_nil ?_
              rintro _ ⟨t, rfl⟩
              clear sa sb sc sd
              go_wp2
              skip
              go_ret
              exact ⟨true, rfl, (fun h => by cases h), HX.out.then t.ext fun _ h => h.elim⟩
            · have hb3' : decide ((300 : Int) < (x.a.text.size : Int) + (x.p.answer.text.size : Int)) = false := by simp; omega
              have HB3 := Lib.hid hb3
              clear hb3
              have sa := fun t : Later wr => (SA.out t.to_ t.ext).1
              have sb := fun t : Later wr => (SA.out t.to_ t.ext).2.1
              have sc := fun t : Later wr => (SA.out t.to_ t.ext).2.2.1
              have sd := fun t : Later wr => (SA.out t.to_ t.ext).2.2.2
              go_wp2_with fail
              refine wp_region_later (by kernel_rfl) (by kernel_rfl) ?_
              repeat (go_big_quiet_step (first
                  | (go_at_call_of 36 (Value.agg x.c.cells); exact Calls.later ((law_greatCall' _ x.c _ HB1.out HSX.out.c).mono fun e w' ⟨he, hw⟩ => ⟨he, by subst hw; exact (Touch.refl _ _).alloc _⟩))
                  | (go_at_call_of 36 (Value.agg x.p.call.cells); exact Calls.later ((law_greatCall' _ x.p.call _ HB2.out HSX.out.p).mono fun e w' ⟨he, hw⟩ => ⟨he, by subst hw; exact (Touch.refl _ _).alloc _⟩))))
              refine wpQuiet_nil ?_
              rintro _ ⟨t, rfl⟩
              clear sa sb sc sd
              go_wp2
              go_roundw
              case rel =>
                refine ⟨k + 1, by go_num, by omega, by omega, fun j y hj hy => ?_, HX.out.then t.ext fun _ h => h.elim⟩
                by_cases e : j = k
                · subst e
                  have hyx : y = x := by have := HK.out; rw [hy] at this; injection this
                  subst hyx
                  have h3 := HB3.out
                  unfold ClientStep.great
                  rw [HB1.out, HB2.out, decide_eq_false (by omega)]
                  rfl
                · exact HALL.out j y (by omega) hy
              case measure => simp [intOf]; omega
      · go_wp2
        go_ret
        exact ⟨true, by show Ending.returned (.bool (decide ((450 : Int) < (l.length : Int)))) = _; rw [decide_eq_true (by omega)], (fun h => by cases h), HX.out⟩
    · go_wp2
      go_ret
      refine ⟨decide ((450 : Int) < (l.length : Int)), rfl, fun h => ⟨?_, fun x hx => ?_⟩, HX.out⟩
      · have := of_decide_eq_false h; omega
      · obtain ⟨j, hj, e⟩ := List.getElem_of_mem hx
        exact HALL.out j x (by omega) (by rw [List.getElem?_eq_getElem hj, e])
end Go.Proofs.Ytalfbhhldfffkaa
