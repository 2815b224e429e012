/- Check3: what a call may be: files.Check at kind 3, and for every call. -/
import Derived.Test.YtalfbhhldfffkabCheck2
namespace Go.Proofs.Ytalfbhhldfffkab
open Go.RowKit

set_option maxHeartbeats 1000000 in
set_option maxRecDepth 100000 in
theorem files_check3 (w : World) (x : Call) (h1 : x.name.size ≤ 140737488351232) (h2 : x.to_.size ≤ 140737488351232) (hk : x.kind = 3)
    (a b c : Bool) (ha : x.text.toList.isEmpty = a) (hb : okText 97 122 5 x.name = b) (hc : okText 97 122 5 x.to_ = c) :
    Calls Try.prog 51 #[.agg x.cells] w fun e w' => e = .returned (.int .i64 (callCode x)) ∧ w.alloc (.cells x.cells 31) = w' := by
  have HK := Lib.hid hk
  have HA := Lib.hid ha
  have HB := Lib.hid hb
  have HC := Lib.hid hc
  rcases a with _ | _ <;> rcases b with _ | _ <;> rcases c with _ | _
  all_goals
    go_enter Try.func51, Try.ntmps51
    go_wp2_with fail
    try
      refine (files_name _ x.name h1).mono ?_
      rintro e w' ⟨rfl, rfl⟩
      go_wp2_with fail
    try
      refine (files_name _ x.to_ h2).mono ?_
      rintro e w' ⟨rfl, rfl⟩
      go_wp2_with fail
    go_ret
    exact ⟨by unfold callCode; rw [HK.out, HA.out, HB.out, HC.out]; simp, rfl⟩

set_option maxHeartbeats 1000000 in
set_option maxRecDepth 100000 in
theorem files_check_out (w : World) (x : Call) (hk : x.kind < 1 ∨ 6 < x.kind) :
    Calls Try.prog 51 #[.agg x.cells] w fun e w' => e = .returned (.int .i64 (callCode x)) ∧ w.alloc (.cells x.cells 31) = w' := by
  have HK := Lib.hid hk
  by_cases h1 : x.kind < 1
  · clear hk
    go_enter Try.func51, Try.ntmps51
    go_wp2_with fail
    go_ret
    exact ⟨by unfold callCode; rw [if_pos HK.out]; rfl, rfl⟩
  · have h6 : 6 < x.kind := by omega
    clear hk
    go_enter Try.func51, Try.ntmps51
    go_wp2_with fail
    go_ret
    exact ⟨by unfold callCode; rw [if_pos HK.out]; rfl, rfl⟩

/-- files.Check, of every call -/
theorem files_check (w : World) (x : Call) (h1 : x.name.size ≤ 140737488351232) (h2 : x.to_.size ≤ 140737488351232) (h3 : x.text.size ≤ 140737488351232) :
    Calls Try.prog 51 #[.agg x.cells] w fun e w' => e = .returned (.int .i64 (callCode x)) ∧ w.alloc (.cells x.cells 31) = w' := by
  have h : x.kind = 1 ∨ x.kind = 2 ∨ x.kind = 3 ∨ x.kind = 4 ∨ x.kind = 5 ∨ x.kind = 6 ∨ (x.kind < 1 ∨ 6 < x.kind) := by omega
  rcases h with h | h | h | h | h | h | h
  · exact files_check1 w x h1 h2 h3 h _ _ _ rfl rfl rfl
  · exact files_check2 w x h1 h2 h3 h _ _ _ rfl rfl rfl
  · exact files_check3 w x h1 h2 h _ _ _ rfl rfl rfl
  · exact files_check4 w x h1 h2 h3 h _ _ _ rfl rfl rfl
  · exact files_check5 w x h1 h2 h3 h _ _ _ rfl rfl rfl
  · exact files_check6 w x h1 h2 h3 h _ _ _ rfl rfl rfl
  · exact files_check_out w x h
end Go.Proofs.Ytalfbhhldfffkab
