/- Calls: Changes and Check of package files, as other walks call them. -/
import Derived.Test.YtalfbhhldfffkabCheck3
import Derived.Test.YtalfbhhldfffkabGreat
namespace Go.Proofs.Ytalfbhhldfffkab
open Go.RowKit

theorem files_changes (w : World) (k : Int) (b : Bool) (h : decide (1 ≤ k ∧ k ≤ 4) = b) :
    Calls Try.prog 52 #[.int .i64 k] w fun e w' => e = .returned (.bool b) ∧ w = w' := by
  have HB := Lib.hid h
  clear h
  by_cases h1 : 1 ≤ k
  · by_cases h4 : k ≤ 4
    · go_enter Try.func52, Try.ntmps52
      go_wp2
      go_ret
      exact ⟨by rw [← HB.out, decide_eq_true (by omega)]; rfl, rfl⟩
    · go_enter Try.func52, Try.ntmps52
      go_wp2
      go_ret
      exact ⟨by rw [← HB.out, decide_eq_false (by omega)]; rfl, rfl⟩
  · go_enter Try.func52, Try.ntmps52
    go_wp2
    go_ret
    exact ⟨by rw [← HB.out, decide_eq_false (by omega)]; rfl, rfl⟩

theorem files_check' (w : World) (c : Call) (n : Int) (h : callCode c = n) (hs : StrCall c) :
    Calls Try.prog 51 #[.agg c.cells] w fun e w' => e = .returned (.int .i64 n) ∧ Ext w w' := by
  subst h
  exact (files_check w c hs.h1 hs.h2 hs.h3).mono fun e w' ⟨he, hw⟩ => ⟨he, by subst hw; exact (Touch.refl _ _).alloc _⟩
end Go.Proofs.Ytalfbhhldfffkab
