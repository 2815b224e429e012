/- StoreOnce: the law returns true for every input and leaves its arguments as they read. No condition. -/
import Derived.Test.YtalfbhhldfffkabOnceAll
import Derived.Test.YtalfbhhldfffkabLaw
namespace Go.Proofs.Ytalfbhhldfffkab
open Go.ChangeShapes Go.WideShapes Go.ChangeAt Go.RowKit

set_option maxRecDepth 100000 in
theorem storeOnce_lifted (os : Os) (started : os.Started) (H : Type) (enc : TypeId × Value → H) :
    ReturnsInHanded {} Try.checked os 6 .any (Rows.storeOnceSpec.pre6 enc Try.prog Try.f6 Rows.storeOnceRow.domain false) (Rows.storeOnceSpec.post enc Try.prog Try.f6 false true false false) := by
  refine returnsInHanded_of_change_sized (C := Try.checked) own_knob started (by kernel_rfl) Try.func6
    (ChangeSpec.witness6 (enc := enc) (C := Try.checked) false ⟨#[], #[.slice none 0 0, .agg #[.int .i64 0, .int .i64 0, .int .i64 0, .int .i64 0, .int .i64 0, .string ⟨#[]⟩, .string ⟨#[]⟩, .string ⟨#[]⟩], .slice none 0 0], []⟩ 8 (by kernel_rfl) (by kernel_rfl) (by kernel_rfl) (by kernel_rfl)) ?_
  intro W base args ds gs before hval0 hW hcnd hsz0 _
  have hval : ∀ (j : Nat) t v, Try.f6.params[j]? = some t → args[j]? = some v → Value.okWide Try.prog W .any base t v := hval0
  have hsz : (DataW.weightsEach Try.prog (Try.f6.params.toList ++ Rows.storeOnceSpec.plain.varTypes Try.prog) (ds ++ gs)).all (· ≤ reachBytes) = true := hsz0
  have hW' := hW
  obtain ⟨p, q, hA0, hV, rfl, hfz, hnd⟩ := hW
  have hA : DataW.TrodAll enc Try.prog W 0 (fun _ => true) true Try.f6.params.toList args.toList ds p := hA0
  rw [Try.params6] at hA hval hsz
  obtain ⟨v0, v1, v2, d0, d1, d2, p0, p1, p2, rfl, rfl, rfl, h0, h1, h2⟩ := trodAll_three hA
  obtain ⟨A0, c0, l0, rfl, hc0, hr0, hn0, hk0, hs0⟩ := open_reads can_StoreStep Try.underlying38 (by kernel_rfl) (hval 0 _ v0 rfl rfl) h0 (weights_arg hsz (j := 0) rfl rfl)
  obtain ⟨x1, rfl, hk1⟩ := open_value can_StoreStep Try.underlying61 (hval 1 _ v1 rfl rfl) h1 (weights_arg hsz (j := 1) rfl rfl)
  obtain ⟨A2, c2, l2, rfl, hc2, hr2, hn2, hk2, hs2⟩ := open_reads can_StoreStep Try.underlying38 (by kernel_rfl) (hval 2 _ v2 rfl rfl) h2 (weights_arg hsz (j := 2) rfl rfl)
  refine (storeOnce W A0 c0 l0 x1 A2 c2 l2 hr0 hr2 (fun x hx => str_step (hk0 x hx)) (len_le hs0 (by decide +kernel)) (fun x hx => str_step (hk2 x hx)) (len_le hs2 (by decide +kernel)) (str_step hk1)).mono fun e W' ⟨he, hx⟩ => ?_
  subst he
  exact ⟨_, rfl, law_post laid_out (reads_all (by kernel_rfl)) Try.underlying4 rfl rfl hW' rfl hx⟩

theorem storeOnce_holds : Rows.StoreOnceSaid :=
  OpenClaim.holds_of_wide 6 Try.f6 rfl rfl rfl rfl rfl rfl rfl ⟨rfl, rfl, rfl, rfl, rfl⟩ rfl rfl rfl rfl rfl (by kernel_rfl) Try.func6 (by kernel_rfl)
    (of_decide_eq_true (by kernel_rfl)) (by unfold Func.isWrapper; first | (rw [if_pos (by decide +kernel)]; kernel_rfl) | (rw [if_neg (by decide +kernel)]; exact ⟨rfl, rfl⟩))
    (fun os started H enc _ => storeOnce_lifted os started H enc)
end Go.Proofs.Ytalfbhhldfffkab
