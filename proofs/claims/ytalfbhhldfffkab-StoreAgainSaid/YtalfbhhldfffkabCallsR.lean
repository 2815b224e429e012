/- CallsR: the reference's CallFault and IsChange, as other walks call them. -/
import Derived.Test.YtalfbhhldfffkabFault2
import Derived.Test.YtalfbhhldfffkabCalls
namespace Go.Proofs.Ytalfbhhldfffkab
open Go.RowKit

theorem ref_fault' (w : World) (c : Call) (n : Int) (h : callCode c = n) (hs : StrCall c) :
    Calls Try.prog 92 #[.agg c.cells] w fun e w' => e = .returned (.int .i64 n) ∧ Ext w w' := by
  subst h
  exact (ref_fault w c hs.h1 hs.h2 hs.h3).mono fun e w' ⟨he, hw⟩ => ⟨he, by subst hw; exact (Touch.refl _ _).alloc _⟩
theorem ref_ischange' (w : World) (k : Int) (b : Bool) (h : decide (1 ≤ k ∧ k ≤ 4) = b) :
    Calls Try.prog 32 #[.int .i64 k] w fun e w' => e = .returned (.bool b) ∧ w = w' := by
  subst h
  exact (ref_ischange w k).mono fun e w' ⟨he, hw⟩ => ⟨he, hw.symm⟩

end Go.Proofs.Ytalfbhhldfffkab
