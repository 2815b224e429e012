/- DeskDoes: the law returns true for every input and leaves its arguments as they read; what the row lists is tied to the program's text. No condition of our own. -/
import Derived.Test.YtalfbhhldfffkaaGreatDoorDeskDoes
import Derived.Test.YtalfbhhldfffkaaGreatDoorGTied
set_option maxHeartbeats 8000000
set_option maxRecDepth 100000
namespace Go.Proofs.YtalfbhhldfffkaaGreatDoor
open Go.RowKit
end Go.Proofs.YtalfbhhldfffkaaGreatDoor
namespace Go.Proofs.YtalfbhhldfffkaaGreatDoor
open Go.ChangeShapes Go.WideShapes Go.ChangeAt Go.RowKit
theorem deskDoes_lifted (os : Os) (started : os.Started) (H : Type) (enc : TypeId × Value -> H) :
 ReturnsInHanded {} Tryz.checked os 3 .any (fun w args => (Rows.deskDoesSpec.pre enc Tryz.prog Tryz.f3 Rows.deskDoesRow.domain false w args /\ laidMetH Tryz.prog Rows.deskDoesRow.laid w) /\ sizedMet enc Tryz.prog Tryz.f3 (OpenSpec.ofChange Rows.deskDoesSpec) false w args) (Rows.deskDoesSpec.post enc Tryz.prog Tryz.f3 false true false false) := by
 refine laid_shaped (C := Tryz.checked) (X := fun w => laidMetH Tryz.prog Rows.deskDoesRow.laid w) (fun _ _ hh h => h.of_heap hh) own_knob started (by kernel_rfl) Tryz.func3
  (ChangeSpec.witness_shaped (enc := enc) (C := Tryz.checked) (os := os) (X := fun w _ => laidMetH Tryz.prog Rows.deskDoesRow.laid w) false (World.laidAll Tryz.prog os Rows.deskDoesRow.laid) #[.slice none 0 0, .slice none 0 0] 8 (World.laidAll_os _ _ _)
   (World.shaped_of_ZipB (by kernel_rfl) (by kernel_rfl)) (by kernel_rfl) (by kernel_rfl) (by kernel_rfl)
   (by rw [MakeChecks.laidMetH_plain _ _ _ (by kernel_rfl)]; exact laidMet_laidAll _ (by kernel_rfl) (by kernel_rfl))) ?_
 intro W base args ds gs before hval0 hW hsz0 hL0 hsh;have hval : ∀ (j : Nat) t v, Tryz.f3.params[j]? = some t -> args[j]? = some v -> Value.okWide Tryz.prog W .any base t v := hval0;have hsz : (DataW.weightsEach Tryz.prog (Tryz.f3.params.toList ++ Rows.deskDoesSpec.plain.varTypes Tryz.prog) (ds ++ gs)).all (· <= reachBytes) = true := hsz0;have hW' := hW;obtain ⟨p, q, hA0, hV, rfl, hfz, hnd⟩ := hW;have hA : DataW.TrodAll enc Tryz.prog W 0 (fun _ => true) true Tryz.f3.params.toList args.toList ds p := hA0;rw [Tryz.params3] at hA hval hsz;rw [MakeChecks.laidMetH_plain _ _ _ (by kernel_rfl)] at hL0;have hL : LaidD W := ⟨⟨tab_third hL0, laid_max hsh⟩, laid_err (n := "strconv.ErrSyntax") (g := 1) (text := [105, 110, 118, 97, 108, 105, 100, 32, 115, 121, 110, 116, 97, 120]) hL0.tail.tail.tail.tail.tail (by kernel_rfl) (by kernel_rfl), laid_err (n := "strconv.ErrRange") (g := 2) (text := [118, 97, 108, 117, 101, 32, 111, 117, 116, 32, 111, 102, 32, 114, 97, 110, 103, 101]) hL0.tail.tail.tail.tail (by kernel_rfl) (by kernel_rfl)⟩
 obtain ⟨v0, v1, d0, d1, p0, p1, rfl, rfl, rfl, h0, h1⟩ := trodAll_two hA;obtain ⟨A0, c0, l0, rfl, hc0, hr0, hn0, hk0, hs0⟩ := open_reads (can_str Tryz.underlying9) Tryz.underlying22 (by kernel_rfl) (hval 0 _ v0 rfl rfl) h0 (weights_arg hsz (j := 0) rfl rfl);obtain ⟨A1, c1, l1, rfl, hc1, hr1, hn1, hk1, hs1⟩ := open_reads (can_str Tryz.underlying9) Tryz.underlying22 (by kernel_rfl) (hval 1 _ v1 rfl rfl) h1 (weights_arg hsz (j := 1) rfl rfl);refine (deskDoes W A0 c0 l0 A1 c1 l1 hr0 hr1 hk0 hk1 (len_le hs0 (by decide +kernel)) (len_le hs1 (by decide +kernel)) hL).mono fun e W' ⟨he, hx⟩ => ?_;subst he;exact ⟨_, rfl, law_post laid_out (reads_all (by kernel_rfl)) Tryz.underlying4 rfl rfl hW' rfl hx⟩
theorem deskDoes_said : Rows.DeskDoesSaid :=
 OpenClaim.holds_of_wide 3 Tryz.f3 rfl rfl rfl rfl rfl rfl rfl ⟨rfl, rfl, rfl, rfl, rfl⟩ rfl rfl rfl rfl rfl (by kernel_rfl) Tryz.func3 (by kernel_rfl)
  (of_decide_eq_true (by kernel_rfl)) (by unfold Func.isWrapper; first | (rw [if_pos (by decide +kernel)]; kernel_rfl) | (rw [if_neg (by decide +kernel)]; exact ⟨rfl, rfl⟩))
  (fun os started H enc _ => deskDoes_lifted os started H enc)
theorem deskDoes_holds : Rows.DeskDoesCardSaid :=
 Claim7.holds_tied_plain_at .later [] [.data, .data, .data, .data, .sentinel, .sentinel, .pinned] true (true, "ac4640226ecbf1f17285cf84a4d7db53d83210468ca9fdea1cb37925efdc2d64") true
  deskDoes_said (fun _ h => by cases h) (by kernel_rfl) (fun _ h => by cases h) deskDoes_row_tie rfl ⟨rfl, rfl⟩ (by kernel_rfl) rfl
  (fun f fn hf hfn => by
   obtain rfl : f = 3 := Option.some.inj ((show Tryz.prog.funcNamed "postilion/postilionlaw.DeskDoes" = some 3 by kernel_rfl).symm.trans hf) |>.symm;obtain rfl : fn = Tryz.f3 := (Option.some.inj (Tryz.func3.symm.trans hfn)).symm;exact ⟨by kernel_rfl, no_stand (by kernel_rfl)⟩)
  (by kernel_rfl)
end Go.Proofs.YtalfbhhldfffkaaGreatDoor
namespace Go.Proofs.YtalfbhhldfffkaaGreatDoor
open Go.RowKit
end Go.Proofs.YtalfbhhldfffkaaGreatDoor
