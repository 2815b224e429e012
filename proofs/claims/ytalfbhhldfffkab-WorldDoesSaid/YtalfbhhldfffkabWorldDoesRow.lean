/- WorldDoes: the law returns true for every input and leaves its arguments as they read. No condition. -/
import Derived.Test.YtalfbhhldfffkabWorldDoes
import Derived.Test.YtalfbhhldfffkabLaw
namespace Go.Proofs.Ytalfbhhldfffkab
open Go.ChangeShapes Go.WideShapes Go.ChangeAt Go.RowKit

set_option maxRecDepth 100000 in
theorem worldDoes_lifted (os : Os) (started : os.Started) (H : Type) (enc : TypeId × Value → H) :
    ReturnsInHanded {} Try.checked os 10 .any (Rows.worldDoesSpec.pre6 enc Try.prog Try.f10 Rows.worldDoesRow.domain false) (Rows.worldDoesSpec.post enc Try.prog Try.f10 false true false false) := by
  refine returnsInHanded_of_change_sized (C := Try.checked) own_knob started (by kernel_rfl) Try.func10
    (ChangeSpec.witness6 (enc := enc) (C := Try.checked) false ⟨#[], #[.slice none 0 0], []⟩ 8 (by kernel_rfl) (by kernel_rfl) (by kernel_rfl) (by kernel_rfl)) ?_
  intro W base args ds gs before hval0 hW hcnd hsz0 _
  have hval : ∀ (j : Nat) t v, Try.f10.params[j]? = some t → args[j]? = some v → Value.okWide Try.prog W .any base t v := hval0
  have hsz : (DataW.weightsEach Try.prog (Try.f10.params.toList ++ Rows.worldDoesSpec.plain.varTypes Try.prog) (ds ++ gs)).all (· ≤ reachBytes) = true := hsz0
  have hW' := hW
  obtain ⟨p, q, hA0, hV, rfl, hfz, hnd⟩ := hW
  have hA : DataW.TrodAll enc Try.prog W 0 (fun _ => true) true Try.f10.params.toList args.toList ds p := hA0
  rw [Try.params10] at hA hval hsz
  obtain ⟨v0, d0, rfl, rfl, h0⟩ := trodAll_one hA
  obtain ⟨A0, c0, l0, rfl, hc0, hr0, hn0, hk0, hs0⟩ := open_reads can_Step Try.underlying75 (by kernel_rfl) (hval 0 _ v0 rfl rfl) h0 (weights_arg hsz (j := 0) rfl rfl)
  refine (worldDoes W A0 c0 l0 hr0 (fun x hx => str_wstep (hk0 x hx)) (len_le hs0 (by decide +kernel))).mono fun e W' ⟨he, hx⟩ => ?_
  subst he
  exact ⟨_, rfl, law_post laid_out (reads_all (by kernel_rfl)) Try.underlying4 rfl rfl hW' rfl hx⟩

theorem worldDoes_holds : Rows.WorldDoesSaid :=
  OpenClaim.holds_of_wide 10 Try.f10 rfl rfl rfl rfl rfl rfl rfl ⟨rfl, rfl, rfl, rfl, rfl⟩ rfl rfl rfl rfl rfl (by kernel_rfl) Try.func10 (by kernel_rfl)
    (of_decide_eq_true (by kernel_rfl)) (by unfold Func.isWrapper; first | (rw [if_pos (by decide +kernel)]; kernel_rfl) | (rw [if_neg (by decide +kernel)]; exact ⟨rfl, rfl⟩))
    (fun os started H enc _ => worldDoes_lifted os started H enc)
end Go.Proofs.Ytalfbhhldfffkab
