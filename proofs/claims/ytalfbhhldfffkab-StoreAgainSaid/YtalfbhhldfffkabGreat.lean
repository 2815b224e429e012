/- Great: the walks of greatCall and greatClient. -/
import Derived.Test.YtalfbhhldfffkabTypes
import Derived.Test.YtalfbhhldfffkabText
import Derived.Test.YtalfbhhldfffkabAt
import Derived.Test.YtalfbhhldfffkabLater
namespace Go.Proofs.Ytalfbhhldfffkab
open Go.RowKit

def greatB (c : Call) : Bool := decide (300 < c.name.size + c.to_.size + c.text.size)
/-- a call whose texts are short -/
structure Short (c : Call) : Prop where
  h1 : c.name.size ≤ 300
  h2 : c.to_.size ≤ 300
  h3 : c.text.size ≤ 300
theorem greatB_short {c : Call} (h : greatB c = false) : Short c := by
  unfold greatB at h
  simp at h
  exact ⟨by omega, by omega, by omega⟩
structure StrCall (c : Call) : Prop where
  h1 : c.name.size ≤ 140737488351232
  h2 : c.to_.size ≤ 140737488351232
  h3 : c.text.size ≤ 140737488351232
theorem Short.str {c : Call} (h : Short c) : StrCall c := ⟨by have := h.h1; omega, by have := h.h2; omega, by have := h.h3; omega⟩

set_option maxHeartbeats 400000 in
theorem law_greatCall (w : World) (c : Call) (hs : StrCall c) :
    Calls Try.prog 31 #[.agg c.cells] w fun e w' => e = .returned (.bool (greatB c)) ∧ w.alloc (.cells c.cells 31) = w' := by
  obtain ⟨h1, h2, h3⟩ := hs
  have e : greatB c = decide ((300 : Int) < (c.name.size : Int) + (c.to_.size : Int) + (c.text.size : Int)) := by
    unfold greatB
    rw [decide_eq_decide]
    omega
  have E := Lib.hid e
  clear e
  go_enter Try.func31, Try.ntmps31
  go_wp2
  go_ret
  exact ⟨by rw [E.out]; rfl, rfl⟩

theorem law_greatCall' (w : World) (c : Call) (b : Bool) (hb : greatB c = b) (hs : StrCall c) :
    Calls Try.prog 31 #[.agg c.cells] w fun e w' => e = .returned (.bool b) ∧ w.alloc (.cells c.cells 31) = w' := by
  subst hb
  exact law_greatCall w c hs
end Go.Proofs.Ytalfbhhldfffkab
