/- Check2: what a call may be: the walks of files.Check and the reference's CallFault. -/
import Derived.Test.YtalfbhhldfffkabCheck
namespace Go.Proofs.Ytalfbhhldfffkab
open Go.RowKit

set_option maxHeartbeats 400000 in
theorem ref_ischange (w : World) (n : Int) :
    Calls Try.prog 32 #[.int .i64 n] w fun e w' => e = .returned (.bool (decide (1 ≤ n ∧ n ≤ 4))) ∧ w' = w := by
  have h : n = 1 ∨ n = 2 ∨ n = 3 ∨ n = 4 ∨ ¬ (1 ≤ n ∧ n ≤ 4) := by omega
  rcases h with rfl | rfl | rfl | rfl | h
  all_goals try
    go_enter Try.func32, Try.ntmps32
    go_wp2_with fail
    go_ret
    exact ⟨rfl, rfl⟩
  have h1 : (n == 1) = false := beq_eq_false_iff_ne.2 (by omega)
  have h2 : (n == 2) = false := beq_eq_false_iff_ne.2 (by omega)
  have h3 : (n == 3) = false := beq_eq_false_iff_ne.2 (by omega)
  have h4 : (n == 4) = false := beq_eq_false_iff_ne.2 (by omega)
  have H := Lib.hid h
  clear h
  go_enter Try.func32, Try.ntmps32
  go_wp2_with fail
  go_ret
  exact ⟨by rw [decide_eq_false H.out]; rfl, rfl⟩

set_option maxHeartbeats 1000000 in
set_option maxRecDepth 100000 in
theorem files_check1 (w : World) (x : Call) (h1 : x.name.size ≤ 140737488351232) (h2 : x.to_.size ≤ 140737488351232) (h3 : x.text.size ≤ 140737488351232) (hk : x.kind = 1)
    (a b c : Bool) (ha : x.to_.toList.isEmpty = a) (hb : x.text.toList.isEmpty = b) (hc : okText 97 122 5 x.name = c) :
    Calls Try.prog 51 #[.agg x.cells] w fun e w' => e = .returned (.int .i64 (callCode x)) ∧ w.alloc (.cells x.cells 31) = w' := by
  have HK := Lib.hid hk
  have HA := Lib.hid ha
  have HB := Lib.hid hb
  have HC := Lib.hid hc
  rcases a with _ | _ <;> rcases b with _ | _ <;> rcases c with _ | _
  all_goals
    go_enter Try.func51, Try.ntmps51
    go_wp2_with (first
      | (go_at_call 18; refine (files_name _ _ h1).mono ?_; rintro e w' ⟨rfl, rfl⟩)
      | (go_at_call 18; refine (files_name _ _ h2).mono ?_; rintro e w' ⟨rfl, rfl⟩)
      | (go_at_call 82; refine (files_text _ _ h3).mono ?_; rintro e w' ⟨rfl, rfl⟩))
    go_ret
    exact ⟨by unfold callCode; rw [HK.out, HA.out, HB.out, HC.out]; simp, rfl⟩
set_option maxHeartbeats 1000000 in
set_option maxRecDepth 100000 in
theorem files_check2 (w : World) (x : Call) (h1 : x.name.size ≤ 140737488351232) (h2 : x.to_.size ≤ 140737488351232) (h3 : x.text.size ≤ 140737488351232) (hk : x.kind = 2)
    (a b c : Bool) (ha : x.to_.toList.isEmpty = a) (hb : x.text.toList.isEmpty = b) (hc : okText 97 122 5 x.name = c) :
    Calls Try.prog 51 #[.agg x.cells] w fun e w' => e = .returned (.int .i64 (callCode x)) ∧ w.alloc (.cells x.cells 31) = w' := by
  have HK := Lib.hid hk
  have HA := Lib.hid ha
  have HB := Lib.hid hb
  have HC := Lib.hid hc
  rcases a with _ | _ <;> rcases b with _ | _ <;> rcases c with _ | _
  all_goals
    go_enter Try.func51, Try.ntmps51
    go_wp2_with (first
      | (go_at_call 18; refine (files_name _ _ h1).mono ?_; rintro e w' ⟨rfl, rfl⟩)
      | (go_at_call 18; refine (files_name _ _ h2).mono ?_; rintro e w' ⟨rfl, rfl⟩)
      | (go_at_call 82; refine (files_text _ _ h3).mono ?_; rintro e w' ⟨rfl, rfl⟩))
    go_ret
    exact ⟨by unfold callCode; rw [HK.out, HA.out, HB.out, HC.out]; simp, rfl⟩
set_option maxHeartbeats 1000000 in
set_option maxRecDepth 100000 in
theorem files_check4 (w : World) (x : Call) (h1 : x.name.size ≤ 140737488351232) (h2 : x.to_.size ≤ 140737488351232) (h3 : x.text.size ≤ 140737488351232) (hk : x.kind = 4)
    (a b c : Bool) (ha : x.to_.toList.isEmpty = a) (hb : okText 97 122 5 x.name = b) (hc : okText 32 126 8 x.text = c) :
    Calls Try.prog 51 #[.agg x.cells] w fun e w' => e = .returned (.int .i64 (callCode x)) ∧ w.alloc (.cells x.cells 31) = w' := by
  have HK := Lib.hid hk
  have HA := Lib.hid ha
  have HB := Lib.hid hb
  have HC := Lib.hid hc
  rcases a with _ | _ <;> rcases b with _ | _ <;> rcases c with _ | _
  all_goals
    go_enter Try.func51, Try.ntmps51
    go_wp2_with (first
      | (go_at_call 18; refine (files_name _ _ h1).mono ?_; rintro e w' ⟨rfl, rfl⟩)
      | (go_at_call 18; refine (files_name _ _ h2).mono ?_; rintro e w' ⟨rfl, rfl⟩)
      | (go_at_call 82; refine (files_text _ _ h3).mono ?_; rintro e w' ⟨rfl, rfl⟩))
    go_ret
    exact ⟨by unfold callCode; rw [HK.out, HA.out, HB.out, HC.out]; simp, rfl⟩
set_option maxHeartbeats 1000000 in
set_option maxRecDepth 100000 in
theorem files_check5 (w : World) (x : Call) (h1 : x.name.size ≤ 140737488351232) (h2 : x.to_.size ≤ 140737488351232) (h3 : x.text.size ≤ 140737488351232) (hk : x.kind = 5)
    (a b c : Bool) (ha : x.to_.toList.isEmpty = a) (hb : x.text.toList.isEmpty = b) (hc : okText 97 122 5 x.name = c) :
    Calls Try.prog 51 #[.agg x.cells] w fun e w' => e = .returned (.int .i64 (callCode x)) ∧ w.alloc (.cells x.cells 31) = w' := by
  have HK := Lib.hid hk
  have HA := Lib.hid ha
  have HB := Lib.hid hb
  have HC := Lib.hid hc
  rcases a with _ | _ <;> rcases b with _ | _ <;> rcases c with _ | _
  all_goals
    go_enter Try.func51, Try.ntmps51
    go_wp2_with (first
      | (go_at_call 18; refine (files_name _ _ h1).mono ?_; rintro e w' ⟨rfl, rfl⟩)
      | (go_at_call 18; refine (files_name _ _ h2).mono ?_; rintro e w' ⟨rfl, rfl⟩)
      | (go_at_call 82; refine (files_text _ _ h3).mono ?_; rintro e w' ⟨rfl, rfl⟩))
    go_ret
    exact ⟨by unfold callCode; rw [HK.out, HA.out, HB.out, HC.out]; simp, rfl⟩
set_option maxHeartbeats 1000000 in
set_option maxRecDepth 100000 in
theorem files_check6 (w : World) (x : Call) (h1 : x.name.size ≤ 140737488351232) (h2 : x.to_.size ≤ 140737488351232) (h3 : x.text.size ≤ 140737488351232) (hk : x.kind = 6)
    (a b c : Bool) (ha : x.name.toList.isEmpty = a) (hb : x.to_.toList.isEmpty = b) (hc : x.text.toList.isEmpty = c) :
    Calls Try.prog 51 #[.agg x.cells] w fun e w' => e = .returned (.int .i64 (callCode x)) ∧ w.alloc (.cells x.cells 31) = w' := by
  have HK := Lib.hid hk
  have HA := Lib.hid ha
  have HB := Lib.hid hb
  have HC := Lib.hid hc
  rcases a with _ | _ <;> rcases b with _ | _ <;> rcases c with _ | _
  all_goals
    go_enter Try.func51, Try.ntmps51
    go_wp2_with (first
      | (go_at_call 18; refine (files_name _ _ h1).mono ?_; rintro e w' ⟨rfl, rfl⟩)
      | (go_at_call 18; refine (files_name _ _ h2).mono ?_; rintro e w' ⟨rfl, rfl⟩)
      | (go_at_call 82; refine (files_text _ _ h3).mono ?_; rintro e w' ⟨rfl, rfl⟩))
    go_ret
    exact ⟨by unfold callCode; rw [HK.out, HA.out, HB.out, HC.out]; simp, rfl⟩
end Go.Proofs.Ytalfbhhldfffkab
