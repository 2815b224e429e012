/- Check: what a call may be: the walks of files.Name, files.text, files.Check and the reference's IsName, IsChange, CallFault. (And behind it: Check2, Check3, Fault, Fault2, Great, Calls, CallsR.) -/
import Derived.Test.YtalfbhhldfffkaaGreatDoorTypes
import Derived.Test.YtalfbhhldfffkaaGreatDoorGPlain
import Derived.Lib.Hide
import Derived.Test.YtalfbhhldfffkaaGreatDoorGBasis
set_option maxHeartbeats 8000000
set_option maxRecDepth 100000
namespace Go.Proofs.YtalfbhhldfffkaaGreatDoor
open Go.RowKit
theorem files_name (w : World) (s : ByteArray) (hs : s.size <= 140737488351232) :
 Calls Tryz.prog 80 #[.string s] w fun e w' => e = .returned (.bool (okText 97 122 5 s)) /\ w' = w := by
 go_enter Tryz.func80, Tryz.ntmps80
 go_wp2_with fail
 go_loopw [3, 6] (fun _ i wr => ∃ k : Nat, i = .int .i64 k /\ k <= s.size /\ wr = w /\ Within 97 122 s k) (fun _ i _ => s.size - (intOf i).toNat)
 case atStart => exact ⟨0, rfl, Nat.zero_le _, rfl, fun i b h => by omega⟩
 case round =>
  obtain ⟨k, rfl, hk, rfl, hin⟩ := hrel;have HIN := lh hin;clear hin;by_cases hlt : k < s.size
  ·by_cases h1 : s[k].toNat < 97
   ·have H1 := lh h1;have h1' : (s[k].toNat : Int) < 97 := by omega
    clear h1;go_wp2_with fail
    go_ret
    exact ⟨by rw [okText_out hlt (.inl H1.out)]; rfl, rfl⟩
   ·by_cases h2 : 122 < s[k].toNat
    ·have H1 := lh h2;have h1' : ¬ (s[k].toNat : Int) < 97 := by omega
     have h2' : (122 : Int) < (s[k].toNat : Int) := by omega
     clear h1 h2;go_wp2_with fail
     go_ret
     exact ⟨by rw [okText_out hlt (.inr H1.out)]; rfl, rfl⟩
    ·have H1 := lh h1;have H2 := lh h2;have h1' : ¬ (s[k].toNat : Int) < 97 := by omega
     have h2' : ¬ (122 : Int) < (s[k].toNat : Int) := by omega
     clear h1 h2;go_wp2_with fail
     go_roundw
     case rel => exact ⟨k + 1, by go_num, by omega, by trivial, HIN.out.next hlt (by have := H1.out; omega) (by have := H2.out; omega)⟩
     case measure => simp [intOf]; omega
  ·obtain rfl : k = s.size := by omega
   by_cases hz : s.size = 0
   ·have he : s.toList.isEmpty = true := by rw [isEmpty_toList]; simp [hz]
    have HZ := lh hz;clear hz;go_wp2_with fail
    go_ret
    exact ⟨by rw [okText_in HIN.out]; simp [HZ.out], rfl⟩
   ·have he : s.toList.isEmpty = false := by rw [isEmpty_toList]; simp [hz]
    have HZ := lh hz;clear hz;go_wp2_with fail
    go_ret
    refine ⟨?_, rfl⟩;rw [okText_in HIN.out, decide_eq_true (show 0 < s.size by have := HZ.out; omega), Bool.true_and];congr 3
    simp;omega
theorem files_text (w : World) (s : ByteArray) (hs : s.size <= 140737488351232) :
 Calls Tryz.prog 81 #[.string s] w fun e w' => e = .returned (.bool (okText 32 126 8 s)) /\ w' = w := by
 go_enter Tryz.func81, Tryz.ntmps81
 go_wp2_with fail
 go_loopw [3, 6] (fun _ i wr => ∃ k : Nat, i = .int .i64 k /\ k <= s.size /\ wr = w /\ Within 32 126 s k) (fun _ i _ => s.size - (intOf i).toNat)
 case atStart => exact ⟨0, rfl, Nat.zero_le _, rfl, fun i b h => by omega⟩
 case round =>
  obtain ⟨k, rfl, hk, rfl, hin⟩ := hrel;have HIN := lh hin;clear hin;by_cases hlt : k < s.size
  ·by_cases h1 : s[k].toNat < 32
   ·have H1 := lh h1;have h1' : (s[k].toNat : Int) < 32 := by omega
    clear h1;go_wp2_with fail
    go_ret
    exact ⟨by rw [okText_out hlt (.inl H1.out)]; rfl, rfl⟩
   ·by_cases h2 : 126 < s[k].toNat
    ·have H1 := lh h2;have h1' : ¬ (s[k].toNat : Int) < 32 := by omega
     have h2' : (126 : Int) < (s[k].toNat : Int) := by omega
     clear h1 h2;go_wp2_with fail
     go_ret
     exact ⟨by rw [okText_out hlt (.inr H1.out)]; rfl, rfl⟩
    ·have H1 := lh h1;have H2 := lh h2;have h1' : ¬ (s[k].toNat : Int) < 32 := by omega
     have h2' : ¬ (126 : Int) < (s[k].toNat : Int) := by omega
     clear h1 h2;go_wp2_with fail
     go_roundw
     case rel => exact ⟨k + 1, by go_num, by omega, by trivial, HIN.out.next hlt (by have := H1.out; omega) (by have := H2.out; omega)⟩
     case measure => simp [intOf]; omega
  ·obtain rfl : k = s.size := by omega
   by_cases hz : s.size = 0
   ·have he : s.toList.isEmpty = true := by rw [isEmpty_toList]; simp [hz]
    have HZ := lh hz;clear hz;go_wp2_with fail
    go_ret
    exact ⟨by rw [okText_in HIN.out]; simp [HZ.out], rfl⟩
   ·have he : s.toList.isEmpty = false := by rw [isEmpty_toList]; simp [hz]
    have HZ := lh hz;clear hz;go_wp2_with fail
    go_ret
    refine ⟨?_, rfl⟩;rw [okText_in HIN.out, decide_eq_true (show 0 < s.size by have := HZ.out; omega), Bool.true_and];congr 3
    simp;omega
theorem ref_isname (w : World) (s : ByteArray) (hs : s.size <= 140737488351232) :
 Calls Tryz.prog 110 #[.string s] w fun e w' => e = .returned (.bool (okText 97 122 5 s)) /\ w' = w := by
 by_cases h0 : s.size < 1
 ·have H0 := lh h0;have h0' : (s.size : Int) < 1 := by omega
  clear h0;go_enter Tryz.func110, Tryz.ntmps110
  go_wp2_with fail
  go_ret
  exact ⟨by rw [okText_size (.inl H0.out)]; rfl, rfl⟩
 by_cases h5 : 5 < s.size
 ·have H0 := lh h5;have h0' : ¬ (s.size : Int) < 1 := by omega
  have h5' : (5 : Int) < (s.size : Int) := by omega
  clear h0 h5;go_enter Tryz.func110, Tryz.ntmps110
  go_wp2_with fail
  go_ret
  exact ⟨by rw [okText_size (.inr H0.out)]; rfl, rfl⟩
 have HS := lh (show 0 < s.size /\ s.size <= 5 by omega);have h0' : ¬ (s.size : Int) < 1 := by omega
 have h5' : ¬ (5 : Int) < (s.size : Int) := by omega
 clear h0 h5;go_enter Tryz.func110, Tryz.ntmps110
 go_wp2_with fail
 go_loopw [3] (fun i wr => ∃ k : Nat, i = .int .i64 k /\ k <= s.size /\ wr = w /\ Within 97 122 s k) (fun i _ => s.size - (intOf i).toNat)
 case atStart => exact ⟨0, rfl, Nat.zero_le _, rfl, fun i b h => by omega⟩
 case round =>
  obtain ⟨k, rfl, hk, rfl, hin⟩ := hrel;have HIN := lh hin;clear hin;by_cases hlt : k < s.size
  ·by_cases h1 : s[k].toNat < 97
   ·have H1 := lh h1;have h1' : (s[k].toNat : Int) < 97 := by omega
    clear h1;go_wp2_with fail
    go_ret
    exact ⟨by rw [okText_out hlt (.inl H1.out)]; rfl, rfl⟩
   ·by_cases h2 : 122 < s[k].toNat
    ·have H1 := lh h2;have h1' : ¬ (s[k].toNat : Int) < 97 := by omega
     have h2' : (122 : Int) < (s[k].toNat : Int) := by omega
     clear h1 h2;go_wp2_with fail
     go_ret
     exact ⟨by rw [okText_out hlt (.inr H1.out)]; rfl, rfl⟩
    ·have H1 := lh h1;have H2 := lh h2;have h1' : ¬ (s[k].toNat : Int) < 97 := by omega
     have h2' : ¬ (122 : Int) < (s[k].toNat : Int) := by omega
     clear h1 h2;go_wp2_with fail
     go_roundw
     case rel => exact ⟨k + 1, by go_num, by omega, by trivial, HIN.out.next hlt (by have := H1.out; omega) (by have := H2.out; omega)⟩
     case measure => simp [intOf]; omega
  ·obtain rfl : k = s.size := by omega
   go_wp2_with fail
   go_ret
   exact ⟨by rw [okText_in HIN.out, decide_eq_true HS.out.1, decide_eq_true HS.out.2]; rfl, rfl⟩
theorem ref_ischange (w : World) (n : Int) :
 Calls Tryz.prog 109 #[.int .i64 n] w fun e w' => e = .returned (.bool (decide (1 <= n /\ n <= 4))) /\ w' = w := by
 have h : n = 1 \/ n = 2 \/ n = 3 \/ n = 4 \/ ¬ (1 <= n /\ n <= 4) := by omega
 rcases h with rfl | rfl | rfl | rfl | h
 all_goals try
  go_enter Tryz.func109, Tryz.ntmps109
  go_wp2_with fail
  go_ret
  exact ⟨rfl, rfl⟩
 have h1 : (n == 1) = false := bF (by omega);have h2 : (n == 2) = false := bF (by omega);have h3 : (n == 3) = false := bF (by omega);have h4 : (n == 4) = false := bF (by omega);have H := lh h;clear h;go_enter Tryz.func109, Tryz.ntmps109
 go_wp2_with fail
 go_ret
 exact ⟨by rw [decide_eq_false H.out]; rfl, rfl⟩
theorem files_check1 (w : World) (x : Call) (h1 : x.name.size <= 140737488351232) (_h2 : x.to_.size <= 140737488351232) (_h3 : x.text.size <= 140737488351232) (hk : x.kind = 1)
 (a b c : Bool) (ha : x.to_.toList.isEmpty = a) (hb : x.text.toList.isEmpty = b) (hc : okText 97 122 5 x.name = c) :
 Calls Tryz.prog 51 #[.agg x.cells] w fun e w' => e = .returned (.int .i64 (callCode x)) /\ w.alloc (.cells x.cells 66) = w' := by
 have HK := lh hk;have HA := lh ha;have HB := lh hb;have HC := lh hc;rcases a with _ | _ <;> rcases b with _ | _ <;> rcases c with _ | _
 all_goals
  go_enter Tryz.func51, Tryz.ntmps51
  go_wp2_with (first
   | (go_at_call 80; refine (files_name _ _ h1).mono ?_; rintro e w' ⟨rfl, rfl⟩)
   | (go_at_call 80; refine (files_name _ _ h2).mono ?_; rintro e w' ⟨rfl, rfl⟩)
   | (go_at_call 81; refine (files_text _ _ h3).mono ?_; rintro e w' ⟨rfl, rfl⟩))
  go_ret
  exact ⟨by unfold callCode; rw [HK.out, HA.out, HB.out, HC.out]; simp, rfl⟩
theorem files_check2 (w : World) (x : Call) (h1 : x.name.size <= 140737488351232) (_h2 : x.to_.size <= 140737488351232) (_h3 : x.text.size <= 140737488351232) (hk : x.kind = 2)
 (a b c : Bool) (ha : x.to_.toList.isEmpty = a) (hb : x.text.toList.isEmpty = b) (hc : okText 97 122 5 x.name = c) :
 Calls Tryz.prog 51 #[.agg x.cells] w fun e w' => e = .returned (.int .i64 (callCode x)) /\ w.alloc (.cells x.cells 66) = w' := by
 have HK := lh hk;have HA := lh ha;have HB := lh hb;have HC := lh hc;rcases a with _ | _ <;> rcases b with _ | _ <;> rcases c with _ | _
 all_goals
  go_enter Tryz.func51, Tryz.ntmps51
  go_wp2_with (first
   | (go_at_call 80; refine (files_name _ _ h1).mono ?_; rintro e w' ⟨rfl, rfl⟩)
   | (go_at_call 80; refine (files_name _ _ h2).mono ?_; rintro e w' ⟨rfl, rfl⟩)
   | (go_at_call 81; refine (files_text _ _ h3).mono ?_; rintro e w' ⟨rfl, rfl⟩))
  go_ret
  exact ⟨by unfold callCode; rw [HK.out, HA.out, HB.out, HC.out]; simp, rfl⟩
theorem files_check4 (w : World) (x : Call) (h1 : x.name.size <= 140737488351232) (_h2 : x.to_.size <= 140737488351232) (h3 : x.text.size <= 140737488351232) (hk : x.kind = 4)
 (a b c : Bool) (ha : x.to_.toList.isEmpty = a) (hb : okText 97 122 5 x.name = b) (hc : okText 32 126 8 x.text = c) :
 Calls Tryz.prog 51 #[.agg x.cells] w fun e w' => e = .returned (.int .i64 (callCode x)) /\ w.alloc (.cells x.cells 66) = w' := by
 have HK := lh hk;have HA := lh ha;have HB := lh hb;have HC := lh hc;rcases a with _ | _ <;> rcases b with _ | _ <;> rcases c with _ | _
 all_goals
  go_enter Tryz.func51, Tryz.ntmps51
  go_wp2_with (first
   | (go_at_call 80; refine (files_name _ _ h1).mono ?_; rintro e w' ⟨rfl, rfl⟩)
   | (go_at_call 80; refine (files_name _ _ h2).mono ?_; rintro e w' ⟨rfl, rfl⟩)
   | (go_at_call 81; refine (files_text _ _ h3).mono ?_; rintro e w' ⟨rfl, rfl⟩))
  go_ret
  exact ⟨by unfold callCode; rw [HK.out, HA.out, HB.out, HC.out]; simp, rfl⟩
theorem files_check5 (w : World) (x : Call) (h1 : x.name.size <= 140737488351232) (_h2 : x.to_.size <= 140737488351232) (_h3 : x.text.size <= 140737488351232) (hk : x.kind = 5)
 (a b c : Bool) (ha : x.to_.toList.isEmpty = a) (hb : x.text.toList.isEmpty = b) (hc : okText 97 122 5 x.name = c) :
 Calls Tryz.prog 51 #[.agg x.cells] w fun e w' => e = .returned (.int .i64 (callCode x)) /\ w.alloc (.cells x.cells 66) = w' := by
 have HK := lh hk;have HA := lh ha;have HB := lh hb;have HC := lh hc;rcases a with _ | _ <;> rcases b with _ | _ <;> rcases c with _ | _
 all_goals
  go_enter Tryz.func51, Tryz.ntmps51
  go_wp2_with (first
   | (go_at_call 80; refine (files_name _ _ h1).mono ?_; rintro e w' ⟨rfl, rfl⟩)
   | (go_at_call 80; refine (files_name _ _ h2).mono ?_; rintro e w' ⟨rfl, rfl⟩)
   | (go_at_call 81; refine (files_text _ _ h3).mono ?_; rintro e w' ⟨rfl, rfl⟩))
  go_ret
  exact ⟨by unfold callCode; rw [HK.out, HA.out, HB.out, HC.out]; simp, rfl⟩
theorem files_check6 (w : World) (x : Call) (_h1 : x.name.size <= 140737488351232) (_h2 : x.to_.size <= 140737488351232) (_h3 : x.text.size <= 140737488351232) (hk : x.kind = 6)
 (a b c : Bool) (ha : x.name.toList.isEmpty = a) (hb : x.to_.toList.isEmpty = b) (hc : x.text.toList.isEmpty = c) :
 Calls Tryz.prog 51 #[.agg x.cells] w fun e w' => e = .returned (.int .i64 (callCode x)) /\ w.alloc (.cells x.cells 66) = w' := by
 have HK := lh hk;have HA := lh ha;have HB := lh hb;have HC := lh hc;rcases a with _ | _ <;> rcases b with _ | _ <;> rcases c with _ | _
 all_goals
  go_enter Tryz.func51, Tryz.ntmps51
  go_wp2_with (first
   | (go_at_call 80; refine (files_name _ _ h1).mono ?_; rintro e w' ⟨rfl, rfl⟩)
   | (go_at_call 80; refine (files_name _ _ h2).mono ?_; rintro e w' ⟨rfl, rfl⟩)
   | (go_at_call 81; refine (files_text _ _ h3).mono ?_; rintro e w' ⟨rfl, rfl⟩))
  go_ret
  exact ⟨by unfold callCode; rw [HK.out, HA.out, HB.out, HC.out]; simp, rfl⟩
theorem files_check3 (w : World) (x : Call) (h1 : x.name.size <= 140737488351232) (h2 : x.to_.size <= 140737488351232) (hk : x.kind = 3)
 (a b c : Bool) (ha : x.text.toList.isEmpty = a) (hb : okText 97 122 5 x.name = b) (hc : okText 97 122 5 x.to_ = c) :
 Calls Tryz.prog 51 #[.agg x.cells] w fun e w' => e = .returned (.int .i64 (callCode x)) /\ w.alloc (.cells x.cells 66) = w' := by
 have HK := lh hk;have HA := lh ha;have HB := lh hb;have HC := lh hc;rcases a with _ | _ <;> rcases b with _ | _ <;> rcases c with _ | _
 all_goals
  go_enter Tryz.func51, Tryz.ntmps51
  go_wp2_with fail
  try
   refine (files_name _ x.name h1).mono ?_;rintro e w' ⟨rfl, rfl⟩;go_wp2_with fail
  try
   refine (files_name _ x.to_ h2).mono ?_;rintro e w' ⟨rfl, rfl⟩;go_wp2_with fail
  go_ret
  exact ⟨by unfold callCode; rw [HK.out, HA.out, HB.out, HC.out]; simp, rfl⟩
theorem files_check_out (w : World) (x : Call) (hk : x.kind < 1 \/ 6 < x.kind) :
 Calls Tryz.prog 51 #[.agg x.cells] w fun e w' => e = .returned (.int .i64 (callCode x)) /\ w.alloc (.cells x.cells 66) = w' := by
 have HK := lh hk;by_cases h1 : x.kind < 1
 ·clear hk;go_enter Tryz.func51, Tryz.ntmps51
  go_wp2_with fail
  go_ret
  exact ⟨by unfold callCode; rw [if_pos HK.out]; rfl, rfl⟩
 ·have h6 : 6 < x.kind := by omega
  clear hk;go_enter Tryz.func51, Tryz.ntmps51
  go_wp2_with fail
  go_ret
  exact ⟨by unfold callCode; rw [if_pos HK.out]; rfl, rfl⟩
theorem files_check (w : World) (x : Call) (h1 : x.name.size <= 140737488351232) (h2 : x.to_.size <= 140737488351232) (h3 : x.text.size <= 140737488351232) :
 Calls Tryz.prog 51 #[.agg x.cells] w fun e w' => e = .returned (.int .i64 (callCode x)) /\ w.alloc (.cells x.cells 66) = w' := by
 have h : x.kind = 1 \/ x.kind = 2 \/ x.kind = 3 \/ x.kind = 4 \/ x.kind = 5 \/ x.kind = 6 \/ (x.kind < 1 \/ 6 < x.kind) := by omega
 rcases h with h | h | h | h | h | h | h
 ·exact files_check1 w x h1 h2 h3 h _ _ _ rfl rfl rfl
 ·exact files_check2 w x h1 h2 h3 h _ _ _ rfl rfl rfl
 ·exact files_check3 w x h1 h2 h _ _ _ rfl rfl rfl
 ·exact files_check4 w x h1 h2 h3 h _ _ _ rfl rfl rfl
 ·exact files_check5 w x h1 h2 h3 h _ _ _ rfl rfl rfl
 ·exact files_check6 w x h1 h2 h3 h _ _ _ rfl rfl rfl
 ·exact files_check_out w x h
theorem ref_fault1 (w : World) (x : Call) (h1 : x.name.size <= 140737488351232) (_h2 : x.to_.size <= 140737488351232) (hk : x.kind = 1)
 (a b c : Bool) (ha : x.to_.toList.isEmpty = a) (hb : x.text.toList.isEmpty = b) (hc : okText 97 122 5 x.name = c) :
 Calls Tryz.prog 64 #[.agg x.cells] w fun e w' => e = .returned (.int .i64 (callCode x)) /\ w.alloc (.cells x.cells 66) = w' := by
 have HK := lh hk;have HA := lh ha;have HB := lh hb;have HC := lh hc;rcases a with _ | _ <;> rcases b with _ | _ <;> rcases c with _ | _
 all_goals
  go_enter Tryz.func64, Tryz.ntmps64
  go_wp2_with fail
  refine (ref_ischange _ _).mono ?_;rintro e w' ⟨rfl, rfl⟩;go_wp2_with fail
  try
   refine (ref_isname _ x.name h1).mono ?_;rintro e w' ⟨rfl, rfl⟩;go_wp2_with fail
  try
   refine (ref_isname _ x.to_ h2).mono ?_;rintro e w' ⟨rfl, rfl⟩;go_wp2_with fail
  go_ret
  exact ⟨by unfold callCode; rw [HK.out, HA.out, HB.out, HC.out]; simp, rfl⟩
theorem ref_fault2 (w : World) (x : Call) (h1 : x.name.size <= 140737488351232) (_h2 : x.to_.size <= 140737488351232) (hk : x.kind = 2)
 (a b c : Bool) (ha : x.to_.toList.isEmpty = a) (hb : x.text.toList.isEmpty = b) (hc : okText 97 122 5 x.name = c) :
 Calls Tryz.prog 64 #[.agg x.cells] w fun e w' => e = .returned (.int .i64 (callCode x)) /\ w.alloc (.cells x.cells 66) = w' := by
 have HK := lh hk;have HA := lh ha;have HB := lh hb;have HC := lh hc;rcases a with _ | _ <;> rcases b with _ | _ <;> rcases c with _ | _
 all_goals
  go_enter Tryz.func64, Tryz.ntmps64
  go_wp2_with fail
  refine (ref_ischange _ _).mono ?_;rintro e w' ⟨rfl, rfl⟩;go_wp2_with fail
  try
   refine (ref_isname _ x.name h1).mono ?_;rintro e w' ⟨rfl, rfl⟩;go_wp2_with fail
  try
   refine (ref_isname _ x.to_ h2).mono ?_;rintro e w' ⟨rfl, rfl⟩;go_wp2_with fail
  go_ret
  exact ⟨by unfold callCode; rw [HK.out, HA.out, HB.out, HC.out]; simp, rfl⟩
theorem ref_fault3 (w : World) (x : Call) (h1 : x.name.size <= 140737488351232) (h2 : x.to_.size <= 140737488351232) (hk : x.kind = 3)
 (a b c : Bool) (ha : x.text.toList.isEmpty = a) (hb : okText 97 122 5 x.name = b) (hc : okText 97 122 5 x.to_ = c) :
 Calls Tryz.prog 64 #[.agg x.cells] w fun e w' => e = .returned (.int .i64 (callCode x)) /\ w.alloc (.cells x.cells 66) = w' := by
 have HK := lh hk;have HA := lh ha;have HB := lh hb;have HC := lh hc;rcases a with _ | _ <;> rcases b with _ | _ <;> rcases c with _ | _
 all_goals
  go_enter Tryz.func64, Tryz.ntmps64
  go_wp2_with fail
  refine (ref_ischange _ _).mono ?_;rintro e w' ⟨rfl, rfl⟩;go_wp2_with fail
  try
   refine (ref_isname _ x.name h1).mono ?_;rintro e w' ⟨rfl, rfl⟩;go_wp2_with fail
  try
   refine (ref_isname _ x.to_ h2).mono ?_;rintro e w' ⟨rfl, rfl⟩;go_wp2_with fail
  go_ret
  exact ⟨by unfold callCode; rw [HK.out, HA.out, HB.out, HC.out]; simp, rfl⟩
theorem ref_fault5 (w : World) (x : Call) (h1 : x.name.size <= 140737488351232) (_h2 : x.to_.size <= 140737488351232) (hk : x.kind = 5)
 (a b c : Bool) (ha : x.to_.toList.isEmpty = a) (hb : x.text.toList.isEmpty = b) (hc : okText 97 122 5 x.name = c) :
 Calls Tryz.prog 64 #[.agg x.cells] w fun e w' => e = .returned (.int .i64 (callCode x)) /\ w.alloc (.cells x.cells 66) = w' := by
 have HK := lh hk;have HA := lh ha;have HB := lh hb;have HC := lh hc;rcases a with _ | _ <;> rcases b with _ | _ <;> rcases c with _ | _
 all_goals
  go_enter Tryz.func64, Tryz.ntmps64
  go_wp2_with fail
  refine (ref_ischange _ _).mono ?_;rintro e w' ⟨rfl, rfl⟩;go_wp2_with fail
  try
   refine (ref_isname _ x.name h1).mono ?_;rintro e w' ⟨rfl, rfl⟩;go_wp2_with fail
  try
   refine (ref_isname _ x.to_ h2).mono ?_;rintro e w' ⟨rfl, rfl⟩;go_wp2_with fail
  go_ret
  exact ⟨by unfold callCode; rw [HK.out, HA.out, HB.out, HC.out]; simp, rfl⟩
theorem ref_fault6 (w : World) (x : Call) (_h1 : x.name.size <= 140737488351232) (_h2 : x.to_.size <= 140737488351232) (hk : x.kind = 6)
 (a b c : Bool) (ha : x.name.toList.isEmpty = a) (hb : x.to_.toList.isEmpty = b) (hc : x.text.toList.isEmpty = c) :
 Calls Tryz.prog 64 #[.agg x.cells] w fun e w' => e = .returned (.int .i64 (callCode x)) /\ w.alloc (.cells x.cells 66) = w' := by
 have HK := lh hk;have HA := lh ha;have HB := lh hb;have HC := lh hc;rcases a with _ | _ <;> rcases b with _ | _ <;> rcases c with _ | _
 all_goals
  go_enter Tryz.func64, Tryz.ntmps64
  go_wp2_with fail
  refine (ref_ischange _ _).mono ?_;rintro e w' ⟨rfl, rfl⟩;go_wp2_with fail
  try
   refine (ref_isname _ x.name h1).mono ?_;rintro e w' ⟨rfl, rfl⟩;go_wp2_with fail
  try
   refine (ref_isname _ x.to_ h2).mono ?_;rintro e w' ⟨rfl, rfl⟩;go_wp2_with fail
  go_ret
  exact ⟨by unfold callCode; rw [HK.out, HA.out, HB.out, HC.out]; simp, rfl⟩
theorem callCode4_bad {x : Call} (hk : x.kind = 4) (ha : x.to_.toList.isEmpty = true) (hn : okText 97 122 5 x.name = true) (h : okText 32 126 8 x.text = false) : callCode x = 4 := by
 unfold callCode; rw [hk, ha, hn, h]; simp
theorem callCode4_good {x : Call} (hk : x.kind = 4) (ha : x.to_.toList.isEmpty = true) (hn : okText 97 122 5 x.name = true) (h : okText 32 126 8 x.text = true) : callCode x = 0 := by
 unfold callCode; rw [hk, ha, hn, h]; simp
theorem ref_fault4 (w : World) (x : Call) (h1 : x.name.size <= 140737488351232) (h3 : x.text.size <= 140737488351232) (hk : x.kind = 4) :
 Calls Tryz.prog 64 #[.agg x.cells] w fun e w' => e = .returned (.int .i64 (callCode x)) /\ w.alloc (.cells x.cells 66) = w' := by
 have HK := lh hk;by_cases ha : x.to_.toList.isEmpty = true
 case neg =>
  have ha' : x.to_.toList.isEmpty = false := by simpa using ha
  have HA := lh ha';clear ha;go_enter Tryz.func64, Tryz.ntmps64
  go_wp2_with fail
  refine (ref_ischange _ _).mono ?_;rintro e w' ⟨rfl, rfl⟩;go_wp2_with fail
  go_ret
  exact ⟨by unfold callCode; rw [HK.out, HA.out]; simp, rfl⟩
 have HA := lh ha;by_cases hn : okText 97 122 5 x.name = true
 case neg =>
  have hn' : okText 97 122 5 x.name = false := by simpa using hn
  have HN := lh hn';clear hn;go_enter Tryz.func64, Tryz.ntmps64
  go_wp2_with fail
  refine (ref_ischange _ _).mono ?_;rintro e w' ⟨rfl, rfl⟩;go_wp2_with fail
  refine (ref_isname _ x.name h1).mono ?_;rintro e w' ⟨rfl, rfl⟩;go_wp2_with fail
  go_ret
  exact ⟨by unfold callCode; rw [HK.out, HA.out, HN.out]; simp, rfl⟩
 have HN := lh hn;by_cases h0 : x.text.size < 1
 ·have H0 := lh h0;have h0' : (x.text.size : Int) < 1 := by omega
  clear h0;go_enter Tryz.func64, Tryz.ntmps64
  go_wp2_with fail
  refine (ref_ischange _ _).mono ?_;rintro e w' ⟨rfl, rfl⟩;go_wp2_with fail
  refine (ref_isname _ x.name h1).mono ?_;rintro e w' ⟨rfl, rfl⟩;go_wp2_with fail
  go_ret
  exact ⟨by rw [callCode4_bad HK.out HA.out HN.out (okText_size (.inl H0.out))]; rfl, rfl⟩
 by_cases h8 : 8 < x.text.size
 ·have H0 := lh h8;have h0' : ¬ (x.text.size : Int) < 1 := by omega
  have h8' : (8 : Int) < (x.text.size : Int) := by omega
  clear h0 h8;go_enter Tryz.func64, Tryz.ntmps64
  go_wp2_with fail
  refine (ref_ischange _ _).mono ?_;rintro e w' ⟨rfl, rfl⟩;go_wp2_with fail
  refine (ref_isname _ x.name h1).mono ?_;rintro e w' ⟨rfl, rfl⟩;go_wp2_with fail
  go_ret
  exact ⟨by rw [callCode4_bad HK.out HA.out HN.out (okText_size (.inr H0.out))]; rfl, rfl⟩
 have HS := lh (show 0 < x.text.size /\ x.text.size <= 8 by omega);have h0' : ¬ (x.text.size : Int) < 1 := by omega
 have h8' : ¬ (8 : Int) < (x.text.size : Int) := by omega
 clear h0 h8;go_enter Tryz.func64, Tryz.ntmps64
 go_wp2_with fail
 refine (ref_ischange _ _).mono ?_;rintro e w' ⟨rfl, rfl⟩;go_wp2_with fail
 refine (ref_isname _ x.name h1).mono ?_;rintro e w' ⟨rfl, rfl⟩;go_wp2_with fail
 have hb := heap_alloc_new w (.cells x.cells 66 (0, 0));have hc3 : (w.alloc (.cells x.cells 66 (0, 0))).cell? ⟨w.heap.size, 3, none⟩ = some (.string x.text) := cell_of hb 3;generalize hwa : w.alloc (.cells x.cells 66 (0, 0)) = wa at *;go_loopw [3] (fun i wr => ∃ k : Nat, i = .int .i64 k /\ k <= x.text.size /\ wr = wa /\ Within 32 126 x.text k) (fun i _ => x.text.size - (intOf i).toNat)
 case atStart => exact ⟨0, rfl, Nat.zero_le _, rfl, fun i b h => by omega⟩
 case round =>
  obtain ⟨k, rfl, hk, rfl, hin⟩ := hrel;have HIN := lh hin;clear hin;by_cases hlt : k < x.text.size
  ·by_cases h1 : x.text[k].toNat < 32
   ·have H1 := lh h1;have h1' : (x.text[k].toNat : Int) < 32 := by omega
    clear h1;go_wp2_with fail
    go_ret
    exact ⟨by rw [callCode4_bad HK.out HA.out HN.out (okText_out hlt (.inl H1.out))]; rfl, by first | exact hwa | rfl⟩
   ·by_cases h2 : 126 < x.text[k].toNat
    ·have H1 := lh h2;have h1' : ¬ (x.text[k].toNat : Int) < 32 := by omega
     have h2' : (126 : Int) < (x.text[k].toNat : Int) := by omega
     clear h1 h2;go_wp2_with fail
     go_ret
     exact ⟨by rw [callCode4_bad HK.out HA.out HN.out (okText_out hlt (.inr H1.out))]; rfl, by first | exact hwa | rfl⟩
    ·have H1 := lh h1;have H2 := lh h2;have h1' : ¬ (x.text[k].toNat : Int) < 32 := by omega
     have h2' : ¬ (126 : Int) < (x.text[k].toNat : Int) := by omega
     clear h1 h2;go_wp2_with fail
     go_roundw
     case rel => exact ⟨k + 1, by go_num, by omega, by trivial, HIN.out.next hlt (by have := H1.out; omega) (by have := H2.out; omega)⟩
     case measure => simp [intOf]; omega
  ·obtain rfl : k = x.text.size := by omega
   go_wp2_with fail
   go_ret
   exact ⟨by rw [callCode4_good HK.out HA.out HN.out (by rw [okText_in HIN.out, decide_eq_true HS.out.1, decide_eq_true HS.out.2]; rfl)]; rfl, by first | exact hwa | rfl⟩
theorem ref_fault_out (w : World) (x : Call) (hk : x.kind < 1 \/ 6 < x.kind) :
 Calls Tryz.prog 64 #[.agg x.cells] w fun e w' => e = .returned (.int .i64 (callCode x)) /\ w.alloc (.cells x.cells 66) = w' := by
 have HK := lh hk;have h0 : decide (1 <= x.kind /\ x.kind <= 4) = false := decide_eq_false (by omega);have h5 : (x.kind != 5) = true := bne_iff_ne.2 (by omega);have h6 : (x.kind != 6) = true := bne_iff_ne.2 (by omega);have h5n : ¬ x.kind = 5 := by omega
 have h6n : ¬ x.kind = 6 := by omega
 clear hk;go_enter Tryz.func64, Tryz.ntmps64
 go_wp2_with fail
 refine (ref_ischange _ _).mono ?_;rw [h0];rintro e w' ⟨rfl, rfl⟩;go_wp2_with fail
 go_ret
 exact ⟨by unfold callCode; rw [if_pos HK.out]; rfl, rfl⟩
theorem ref_fault (w : World) (x : Call) (h1 : x.name.size <= 140737488351232) (h2 : x.to_.size <= 140737488351232) (h3 : x.text.size <= 140737488351232) :
 Calls Tryz.prog 64 #[.agg x.cells] w fun e w' => e = .returned (.int .i64 (callCode x)) /\ w.alloc (.cells x.cells 66) = w' := by
 have h : x.kind = 1 \/ x.kind = 2 \/ x.kind = 3 \/ x.kind = 4 \/ x.kind = 5 \/ x.kind = 6 \/ (x.kind < 1 \/ 6 < x.kind) := by omega
 rcases h with h | h | h | h | h | h | h
 ·exact ref_fault1 w x h1 h2 h _ _ _ rfl rfl rfl
 ·exact ref_fault2 w x h1 h2 h _ _ _ rfl rfl rfl
 ·exact ref_fault3 w x h1 h2 h _ _ _ rfl rfl rfl
 ·exact ref_fault4 w x h1 h3 h
 ·exact ref_fault5 w x h1 h2 h _ _ _ rfl rfl rfl
 ·exact ref_fault6 w x h1 h2 h _ _ _ rfl rfl rfl
 ·exact ref_fault_out w x h
structure StrCall (c : Call) : Prop where
 h1 : c.name.size <= 140737488351232
 h2 : c.to_.size <= 140737488351232
 h3 : c.text.size <= 140737488351232
theorem files_changes (w : World) (k : Int) (b : Bool) (h : decide (1 <= k /\ k <= 4) = b) :
 Calls Tryz.prog 169 #[.int .i64 k] w fun e w' => e = .returned (.bool b) /\ w = w' := by
 have HB := lh h;clear h;by_cases h1 : 1 <= k
 ·by_cases h4 : k <= 4
  ·go_enter Tryz.func169, Tryz.ntmps169
   go_wp2
   go_ret
   exact ⟨by rw [<- HB.out, decide_eq_true (by omega)]; rfl, rfl⟩
  ·go_enter Tryz.func169, Tryz.ntmps169
   go_wp2
   go_ret
   exact ⟨by rw [<- HB.out, decide_eq_false (by omega)]; rfl, rfl⟩
 ·go_enter Tryz.func169, Tryz.ntmps169
  go_wp2
  go_ret
  exact ⟨by rw [<- HB.out, decide_eq_false (by omega)]; rfl, rfl⟩
theorem files_check' (w : World) (c : Call) (n : Int) (h : callCode c = n) (hs : StrCall c) :
 Calls Tryz.prog 51 #[.agg c.cells] w fun e w' => e = .returned (.int .i64 n) /\ Ext w w' := by
 subst h;exact (files_check w c hs.h1 hs.h2 hs.h3).mono fun e w' ⟨he, hw⟩ => ⟨he, by subst hw; exact (Touch.refl _ _).alloc _⟩
theorem ref_fault' (w : World) (c : Call) (n : Int) (h : callCode c = n) (hs : StrCall c) :
 Calls Tryz.prog 64 #[.agg c.cells] w fun e w' => e = .returned (.int .i64 n) /\ Ext w w' := by
 subst h;exact (ref_fault w c hs.h1 hs.h2 hs.h3).mono fun e w' ⟨he, hw⟩ => ⟨he, by subst hw; exact (Touch.refl _ _).alloc _⟩
theorem ref_ischange' (w : World) (k : Int) (b : Bool) (h : decide (1 <= k /\ k <= 4) = b) :
 Calls Tryz.prog 109 #[.int .i64 k] w fun e w' => e = .returned (.bool b) /\ w = w' := by
 subst h;exact (ref_ischange w k).mono fun e w' ⟨he, hw⟩ => ⟨he, hw.symm⟩
end Go.Proofs.YtalfbhhldfffkaaGreatDoor
