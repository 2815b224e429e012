/- LineBack: the law returns true for every input and leaves its arguments as they read; what the row lists is tied to the program's text. No condition of our own. -/
import Derived.Test.YtalfbhhldfffkabDoorLineBack
import Derived.Test.YtalfbhhldfffkabDoorTied
namespace Go.Proofs.YtalfbhhldfffkabDoor
open Go.ChangeShapes Go.WideShapes Go.ChangeAt Go.RowKit

set_option maxRecDepth 100000 in
theorem lineBack_lifted (os : Os) (started : os.Started) (H : Type) (enc : TypeId × Value → H) :
    ReturnsInHanded {} Tryd.checked os 4 .any (fun w args => (Rows.lineBackSpec.pre enc Tryd.prog Tryd.f4 Rows.lineBackRow.domain false w args ∧ laidMetH Tryd.prog Rows.lineBackRow.laid w) ∧ sizedMet enc Tryd.prog Tryd.f4 (OpenSpec.ofChange Rows.lineBackSpec) false w args) (Rows.lineBackSpec.post enc Tryd.prog Tryd.f4 false true false false) := by
  refine laid_shaped (C := Tryd.checked) (X := fun w => laidMetH Tryd.prog Rows.lineBackRow.laid w) (fun _ _ hh h => h.of_heap hh) own_knob started (by kernel_rfl) Tryd.func4
    (ChangeSpec.witness_shaped (enc := enc) (C := Tryd.checked) (os := os) (X := fun w _ => laidMetH Tryd.prog Rows.lineBackRow.laid w) false (World.laidAll Tryd.prog os Rows.lineBackRow.laid) #[.agg #[.int .i64 0, .string ⟨#[]⟩, .string ⟨#[]⟩, .string ⟨#[]⟩], .agg #[.int .i64 0, .string ⟨#[]⟩, .string ⟨#[]⟩, .string ⟨#[]⟩], .string ⟨#[]⟩] 8 (World.laidAll_os _ _ _)
      (World.shaped_of_ZipB (by kernel_rfl) (by kernel_rfl)) (by kernel_rfl) (by kernel_rfl) (by kernel_rfl)
      (by rw [MakeChecks.laidMetH_plain _ _ _ (by kernel_rfl)]; exact laidMet_laidAll _ (by kernel_rfl) (by kernel_rfl))) ?_
  intro W base args ds gs before hval0 hW hsz0 hL0 hsh
  have hval : ∀ (j : Nat) t v, Tryd.f4.params[j]? = some t → args[j]? = some v → Value.okWide Tryd.prog W .any base t v := hval0
  have hsz : (DataW.weightsEach Tryd.prog (Tryd.f4.params.toList ++ Rows.lineBackSpec.plain.varTypes Tryd.prog) (ds ++ gs)).all (· ≤ reachBytes) = true := hsz0
  have hW' := hW
  obtain ⟨p, q, hA0, hV, rfl, hfz, hnd⟩ := hW
  have hA : DataW.TrodAll enc Tryd.prog W 0 (fun _ => true) true Tryd.f4.params.toList args.toList ds p := hA0
  rw [Tryd.params4] at hA hval hsz
  rw [MakeChecks.laidMetH_plain _ _ _ (by kernel_rfl)] at hL0
  have hL : Laid W := ⟨tab_third hL0, laid_max hsh⟩
  obtain ⟨v0, v1, v2, d0, d1, d2, p0, p1, p2, rfl, rfl, rfl, h0, h1, h2⟩ := trodAll_three' hA
  obtain ⟨x0, rfl, hk0⟩ := open_value can_Call Tryd.underlying23 (hval 0 _ v0 rfl rfl) h0 (weights_arg hsz (j := 0) rfl rfl)
  obtain ⟨x1, rfl, hk1⟩ := open_value can_Call Tryd.underlying23 (hval 1 _ v1 rfl rfl) h1 (weights_arg hsz (j := 1) rfl rfl)
  obtain ⟨x2, rfl, hk2⟩ := open_str Tryd.underlying9 (hval 2 _ v2 rfl rfl) h2 (weights_arg hsz (j := 2) rfl rfl)
  refine (lineBack W x0 x1 x2 (str_callL hk0) (str_callL hk1) hk2 hL).mono fun e W' ⟨he, hx⟩ => ?_
  subst he
  exact ⟨_, rfl, law_post laid_out (reads_all (by kernel_rfl)) Tryd.underlying4 rfl rfl hW' rfl hx⟩

theorem lineBack_said : Rows.LineBackSaid :=
  OpenClaim.holds_of_wide 4 Tryd.f4 rfl rfl rfl rfl rfl rfl rfl ⟨rfl, rfl, rfl, rfl, rfl⟩ rfl rfl rfl rfl rfl (by kernel_rfl) Tryd.func4 (by kernel_rfl)
    (of_decide_eq_true (by kernel_rfl)) (by unfold Func.isWrapper; first | (rw [if_pos (by decide +kernel)]; kernel_rfl) | (rw [if_neg (by decide +kernel)]; exact ⟨rfl, rfl⟩))
    (fun os started H enc _ => lineBack_lifted os started H enc)
theorem lineBack_holds : Rows.LineBackCardSaid :=
  Claim7.holds_tied_plain_at .later [] [.data, .data, .data, .data, .pinned] true (true, "16d9b704314f49b8474051aa5566130dd5de2e5a279926428699790f6c258226") false
    lineBack_said (fun _ h => by cases h) (by kernel_rfl) (fun _ h => by cases h) lineBack_row_tie rfl ⟨rfl, rfl⟩ (by kernel_rfl) rfl
    (fun f fn hf hfn => by
      obtain rfl : f = 4 := Option.some.inj ((show Tryd.prog.funcNamed "postilion/postilionlaw.LineBack" = some 4 by kernel_rfl).symm.trans hf) |>.symm
      obtain rfl : fn = Tryd.f4 := (Option.some.inj (Tryd.func4.symm.trans hfn)).symm
      exact ⟨by kernel_rfl, no_stand (by kernel_rfl)⟩)
    (by kernel_rfl)
end Go.Proofs.YtalfbhhldfffkabDoor
