/- Fault: the reference's CallFault answers as files.Check does, for every call. -/
import Derived.Test.YtalfbhhldfffkabCheck3
namespace Go.Proofs.Ytalfbhhldfffkab
open Go.RowKit

set_option maxHeartbeats 1000000 in
set_option maxRecDepth 100000 in
theorem ref_fault1 (w : World) (x : Call) (h1 : x.name.size ≤ 140737488351232) (h2 : x.to_.size ≤ 140737488351232) (hk : x.kind = 1)
    (a b c : Bool) (ha : x.to_.toList.isEmpty = a) (hb : x.text.toList.isEmpty = b) (hc : okText 97 122 5 x.name = c) :
    Calls Try.prog 92 #[.agg x.cells] w fun e w' => e = .returned (.int .i64 (callCode x)) ∧ w.alloc (.cells x.cells 31) = w' := by
  have HK := Lib.hid hk
  have HA := Lib.hid ha
  have HB := Lib.hid hb
  have HC := Lib.hid hc
  rcases a with _ | _ <;> rcases b with _ | _ <;> rcases c with _ | _
  all_goals
    go_enter Try.func92, Try.ntmps92
    go_wp2_with fail
    refine (ref_ischange _ _).mono ?_
    rintro e w' ⟨rfl, rfl⟩
    go_wp2_with fail
    try
      refine (ref_isname _ x.name h1).mono ?_
      rintro e w' ⟨rfl, rfl⟩
      go_wp2_with fail
    try
      refine (ref_isname _ x.to_ h2).mono ?_
      rintro e w' ⟨rfl, rfl⟩
      go_wp2_with fail
    go_ret
    exact ⟨by unfold callCode; rw [HK.out, HA.out, HB.out, HC.out]; simp, rfl⟩
set_option maxHeartbeats 1000000 in
set_option maxRecDepth 100000 in
theorem ref_fault2 (w : World) (x : Call) (h1 : x.name.size ≤ 140737488351232) (h2 : x.to_.size ≤ 140737488351232) (hk : x.kind = 2)
    (a b c : Bool) (ha : x.to_.toList.isEmpty = a) (hb : x.text.toList.isEmpty = b) (hc : okText 97 122 5 x.name = c) :
    Calls Try.prog 92 #[.agg x.cells] w fun e w' => e = .returned (.int .i64 (callCode x)) ∧ w.alloc (.cells x.cells 31) = w' := by
  have HK := Lib.hid hk
  have HA := Lib.hid ha
  have HB := Lib.hid hb
  have HC := Lib.hid hc
  rcases a with _ | _ <;> rcases b with _ | _ <;> rcases c with _ | _
  all_goals
    go_enter Try.func92, Try.ntmps92
    go_wp2_with fail
    refine (ref_ischange _ _).mono ?_
    rintro e w' ⟨rfl, rfl⟩
    go_wp2_with fail
    try
      refine (ref_isname _ x.name h1).mono ?_
      rintro e w' ⟨rfl, rfl⟩
      go_wp2_with fail
    try
      refine (ref_isname _ x.to_ h2).mono ?_
      rintro e w' ⟨rfl, rfl⟩
      go_wp2_with fail
    go_ret
    exact ⟨by unfold callCode; rw [HK.out, HA.out, HB.out, HC.out]; simp, rfl⟩
set_option maxHeartbeats 1000000 in
set_option maxRecDepth 100000 in
theorem ref_fault3 (w : World) (x : Call) (h1 : x.name.size ≤ 140737488351232) (h2 : x.to_.size ≤ 140737488351232) (hk : x.kind = 3)
    (a b c : Bool) (ha : x.text.toList.isEmpty = a) (hb : okText 97 122 5 x.name = b) (hc : okText 97 122 5 x.to_ = c) :
    Calls Try.prog 92 #[.agg x.cells] w fun e w' => e = .returned (.int .i64 (callCode x)) ∧ w.alloc (.cells x.cells 31) = w' := by
  have HK := Lib.hid hk
  have HA := Lib.hid ha
  have HB := Lib.hid hb
  have HC := Lib.hid hc
  rcases a with _ | _ <;> rcases b with _ | _ <;> rcases c with _ | _
  all_goals
    go_enter Try.func92, Try.ntmps92
    go_wp2_with fail
    refine (ref_ischange _ _).mono ?_
    rintro e w' ⟨rfl, rfl⟩
    go_wp2_with fail
    try
      refine (ref_isname _ x.name h1).mono ?_
      rintro e w' ⟨rfl, rfl⟩
      go_wp2_with fail
    try
      refine (ref_isname _ x.to_ h2).mono ?_
      rintro e w' ⟨rfl, rfl⟩
      go_wp2_with fail
    go_ret
    exact ⟨by unfold callCode; rw [HK.out, HA.out, HB.out, HC.out]; simp, rfl⟩
set_option maxHeartbeats 1000000 in
set_option maxRecDepth 100000 in
theorem ref_fault5 (w : World) (x : Call) (h1 : x.name.size ≤ 140737488351232) (h2 : x.to_.size ≤ 140737488351232) (hk : x.kind = 5)
    (a b c : Bool) (ha : x.to_.toList.isEmpty = a) (hb : x.text.toList.isEmpty = b) (hc : okText 97 122 5 x.name = c) :
    Calls Try.prog 92 #[.agg x.cells] w fun e w' => e = .returned (.int .i64 (callCode x)) ∧ w.alloc (.cells x.cells 31) = w' := by
  have HK := Lib.hid hk
  have HA := Lib.hid ha
  have HB := Lib.hid hb
  have HC := Lib.hid hc
  rcases a with _ | _ <;> rcases b with _ | _ <;> rcases c with _ | _
  all_goals
    go_enter Try.func92, Try.ntmps92
    go_wp2_with fail
    refine (ref_ischange _ _).mono ?_
    rintro e w' ⟨rfl, rfl⟩
    go_wp2_with fail
    try
      refine (ref_isname _ x.name h1).mono ?_
      rintro e w' ⟨rfl, rfl⟩
      go_wp2_with fail
    try
      refine (ref_isname _ x.to_ h2).mono ?_
      rintro e w' ⟨rfl, rfl⟩
      go_wp2_with fail
    go_ret
    exact ⟨by unfold callCode; rw [HK.out, HA.out, HB.out, HC.out]; simp, rfl⟩
set_option maxHeartbeats 1000000 in
set_option maxRecDepth 100000 in
theorem ref_fault6 (w : World) (x : Call) (h1 : x.name.size ≤ 140737488351232) (h2 : x.to_.size ≤ 140737488351232) (hk : x.kind = 6)
    (a b c : Bool) (ha : x.name.toList.isEmpty = a) (hb : x.to_.toList.isEmpty = b) (hc : x.text.toList.isEmpty = c) :
    Calls Try.prog 92 #[.agg x.cells] w fun e w' => e = .returned (.int .i64 (callCode x)) ∧ w.alloc (.cells x.cells 31) = w' := by
  have HK := Lib.hid hk
  have HA := Lib.hid ha
  have HB := Lib.hid hb
  have HC := Lib.hid hc
  rcases a with _ | _ <;> rcases b with _ | _ <;> rcases c with _ | _
  all_goals
    go_enter Try.func92, Try.ntmps92
    go_wp2_with fail
    refine (ref_ischange _ _).mono ?_
    rintro e w' ⟨rfl, rfl⟩
    go_wp2_with fail
    try
      refine (ref_isname _ x.name h1).mono ?_
      rintro e w' ⟨rfl, rfl⟩
      go_wp2_with fail
    try
      refine (ref_isname _ x.to_ h2).mono ?_
      rintro e w' ⟨rfl, rfl⟩
      go_wp2_with fail
    go_ret
    exact ⟨by unfold callCode; rw [HK.out, HA.out, HB.out, HC.out]; simp, rfl⟩
end Go.Proofs.Ytalfbhhldfffkab
