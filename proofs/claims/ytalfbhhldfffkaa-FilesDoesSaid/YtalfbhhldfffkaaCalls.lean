/- Calls: Changes and Check of package files, as other walks call them. -/
import Derived.Test.YtalfbhhldfffkaaCheck3
import Derived.Test.YtalfbhhldfffkaaGreat
namespace Go.Proofs.Ytalfbhhldfffkaa
open Go.RowKit

theorem files_changes (w : World) (k : Int) (b : Bool) (h : decide (1 ≤ k ∧ k ≤ 4) = b) :
    Calls Try.prog 57 #[.int .i64 k] w fun e w' => e = .returned (.bool b) ∧ w = w' := by
  have HB := Lib.hid h
  clear h
  by_cases h1 : 1 ≤ k
  · by_cases h4 : k ≤ 4
    · go_enter Try.func57, Try.ntmps57
      go_wp2
      go_ret
      exact ⟨by rw [← HB.out, decide_eq_true (by omega)]; rfl, rfl⟩
    · go_enter Try.func57, Try.ntmps57
      go_wp2
      go_ret
      exact ⟨by rw [← HB.out, decide_eq_false (by omega)]; rfl, rfl⟩
  · go_enter Try.func57, Try.ntmps57
    go_wp2
    go_ret
    exact ⟨by rw [← HB.out, decide_eq_false (by omega)]; rfl, rfl⟩

theorem files_check' (w : World) (c : Call) (n : Int) (h : callCode c = n) (hs : StrCall c) :
    Calls Try.prog 50 #[.agg c.cells] w fun e w' => e = .returned (.int .i64 n) ∧ Ext w w' := by
  subst h
  exact (files_check w c hs.h1 hs.h2 hs.h3).mono fun e w' ⟨he, hw⟩ => ⟨he, by subst hw; exact (Touch.refl _ _).alloc _⟩
end Go.Proofs.Ytalfbhhldfffkaa
