/- Check: what a call may be: the walks of files.Name, files.text, files.Check and the reference's IsName, IsChange, CallFault.
   Check2: what a call may be: the walks of files.Check and the reference's CallFault.
   Check3: what a call may be: files.Check at kind 3, and for every call.
   Fault: the reference's CallFault answers as files.Check does, for every call.
   Fault2: the reference's CallFault at kind 4, at a kind that is none, and for every call.
   Great: the walks of greatCall and greatClient.
   Calls: Changes and Check of package files, as other walks call them.
   CallsR: the reference's CallFault and IsChange, as other walks call them. -/
import Derived.Test.YtalfbhhldfffkabGreatDoorTypes
import Derived.Test.YtalfbhhldfffkabGreatDoorGPlain
import Derived.Lib.Hide
import Derived.Test.YtalfbhhldfffkabGreatDoorGBasis
namespace Go.Proofs.YtalfbhhldfffkabGreatDoor
open Go.RowKit

set_option maxHeartbeats 400000 in
theorem files_name (w : World) (s : ByteArray) (hs : s.size ≤ 140737488351232) :
    Calls Tryz.prog 52 #[.string s] w fun e w' => e = .returned (.bool (okText 97 122 5 s)) ∧ w' = w := by
  go_enter Tryz.func52, Tryz.ntmps52
  go_wp2_with fail
  go_loopw [3, 6] (fun _ i wr => ∃ k : Nat, i = .int .i64 k ∧ k ≤ s.size ∧ wr = w ∧ Within 97 122 s k) (fun _ i _ => s.size - (intOf i).toNat)
  case atStart => exact ⟨0, rfl, Nat.zero_le _, rfl, fun i b h => by omega⟩
  case round =>
    obtain ⟨k, rfl, hk, rfl, hin⟩ := hrel
    have HIN := Lib.hid hin
    clear hin
    by_cases hlt : k < s.size
    · by_cases h1 : s[k].toNat < 97
      · have H1 := Lib.hid h1
        have h1' : (s[k].toNat : Int) < 97 := by omega
        clear h1
        go_wp2_with fail
        go_ret
        exact ⟨by rw [okText_out hlt (.inl H1.out)]; rfl, rfl⟩
      · by_cases h2 : 122 < s[k].toNat
        · have H1 := Lib.hid h2
          have h1' : ¬ (s[k].toNat : Int) < 97 := by omega
          have h2' : (122 : Int) < (s[k].toNat : Int) := by omega
          clear h1 h2
          go_wp2_with fail
          go_ret
          exact ⟨by rw [okText_out hlt (.inr H1.out)]; rfl, rfl⟩
        · have H1 := Lib.hid h1
          have H2 := Lib.hid h2
          have h1' : ¬ (s[k].toNat : Int) < 97 := by omega
          have h2' : ¬ (122 : Int) < (s[k].toNat : Int) := by omega
          clear h1 h2
          go_wp2_with fail
          go_roundw
          case rel => exact ⟨k + 1, by go_num, by omega, by trivial, HIN.out.next hlt (by have := H1.out; omega) (by have := H2.out; omega)⟩
          case measure => simp [intOf]; omega
    · obtain rfl : k = s.size := by omega
      by_cases hz : s.size = 0
      · have he : s.toList.isEmpty = true := by rw [isEmpty_toList]; simp [hz]
        have HZ := Lib.hid hz
        clear hz
        go_wp2_with fail
        go_ret
        exact ⟨by rw [okText_in HIN.out]; simp [HZ.out], rfl⟩
      · have he : s.toList.isEmpty = false := by rw [isEmpty_toList]; simp [hz]
        have HZ := Lib.hid hz
        clear hz
        go_wp2_with fail
        go_ret
        refine ⟨?_, rfl⟩
        rw [okText_in HIN.out, decide_eq_true (show 0 < s.size by have := HZ.out; omega), Bool.true_and]
        congr 3
        simp
        omega
set_option maxHeartbeats 400000 in
theorem files_text (w : World) (s : ByteArray) (hs : s.size ≤ 140737488351232) :
    Calls Tryz.prog 53 #[.string s] w fun e w' => e = .returned (.bool (okText 32 126 8 s)) ∧ w' = w := by
  go_enter Tryz.func53, Tryz.ntmps53
  go_wp2_with fail
  go_loopw [3, 6] (fun _ i wr => ∃ k : Nat, i = .int .i64 k ∧ k ≤ s.size ∧ wr = w ∧ Within 32 126 s k) (fun _ i _ => s.size - (intOf i).toNat)
  case atStart => exact ⟨0, rfl, Nat.zero_le _, rfl, fun i b h => by omega⟩
  case round =>
    obtain ⟨k, rfl, hk, rfl, hin⟩ := hrel
    have HIN := Lib.hid hin
    clear hin
    by_cases hlt : k < s.size
    · by_cases h1 : s[k].toNat < 32
      · have H1 := Lib.hid h1
        have h1' : (s[k].toNat : Int) < 32 := by omega
        clear h1
        go_wp2_with fail
        go_ret
        exact ⟨by rw [okText_out hlt (.inl H1.out)]; rfl, rfl⟩
      · by_cases h2 : 126 < s[k].toNat
        · have H1 := Lib.hid h2
          have h1' : ¬ (s[k].toNat : Int) < 32 := by omega
          have h2' : (126 : Int) < (s[k].toNat : Int) := by omega
          clear h1 h2
          go_wp2_with fail
          go_ret
          exact ⟨by rw [okText_out hlt (.inr H1.out)]; rfl, rfl⟩
        · have H1 := Lib.hid h1
          have H2 := Lib.hid h2
          have h1' : ¬ (s[k].toNat : Int) < 32 := by omega
          have h2' : ¬ (126 : Int) < (s[k].toNat : Int) := by omega
          clear h1 h2
          go_wp2_with fail
          go_roundw
          case rel => exact ⟨k + 1, by go_num, by omega, by trivial, HIN.out.next hlt (by have := H1.out; omega) (by have := H2.out; omega)⟩
          case measure => simp [intOf]; omega
    · obtain rfl : k = s.size := by omega
      by_cases hz : s.size = 0
      · have he : s.toList.isEmpty = true := by rw [isEmpty_toList]; simp [hz]
        have HZ := Lib.hid hz
        clear hz
        go_wp2_with fail
        go_ret
        exact ⟨by rw [okText_in HIN.out]; simp [HZ.out], rfl⟩
      · have he : s.toList.isEmpty = false := by rw [isEmpty_toList]; simp [hz]
        have HZ := Lib.hid hz
        clear hz
        go_wp2_with fail
        go_ret
        refine ⟨?_, rfl⟩
        rw [okText_in HIN.out, decide_eq_true (show 0 < s.size by have := HZ.out; omega), Bool.true_and]
        congr 3
        simp
        omega

end Go.Proofs.YtalfbhhldfffkabGreatDoor
namespace Go.Proofs.YtalfbhhldfffkabGreatDoor
open Go.RowKit

set_option maxHeartbeats 1000000 in
set_option maxRecDepth 100000 in
theorem files_check1 (w : World) (x : Call) (h1 : x.name.size ≤ 140737488351232) (_h2 : x.to_.size ≤ 140737488351232) (_h3 : x.text.size ≤ 140737488351232) (hk : x.kind = 1)
    (a b c : Bool) (ha : x.to_.toList.isEmpty = a) (hb : x.text.toList.isEmpty = b) (hc : okText 97 122 5 x.name = c) :
    Calls Tryz.prog 33 #[.agg x.cells] w fun e w' => e = .returned (.int .i64 (callCode x)) ∧ w.alloc (.cells x.cells 59) = w' := by
  have HK := Lib.hid hk
  have HA := Lib.hid ha
  have HB := Lib.hid hb
  have HC := Lib.hid hc
  rcases a with _ | _ <;> rcases b with _ | _ <;> rcases c with _ | _
  all_goals
    go_enter Tryz.func33, Tryz.ntmps33
    go_wp2_with (first
      | (go_at_call 52; refine (files_name _ _ h1).mono ?_; rintro e w' ⟨rfl, rfl⟩)
      | (go_at_call 52; refine (files_name _ _ h2).mono ?_; rintro e w' ⟨rfl, rfl⟩)
      | (go_at_call 53; refine (files_text _ _ h3).mono ?_; rintro e w' ⟨rfl, rfl⟩))
    go_ret
    exact ⟨by unfold callCode; rw [HK.out, HA.out, HB.out, HC.out]; simp, rfl⟩
set_option maxHeartbeats 1000000 in
set_option maxRecDepth 100000 in
theorem files_check2 (w : World) (x : Call) (h1 : x.name.size ≤ 140737488351232) (_h2 : x.to_.size ≤ 140737488351232) (_h3 : x.text.size ≤ 140737488351232) (hk : x.kind = 2)
    (a b c : Bool) (ha : x.to_.toList.isEmpty = a) (hb : x.text.toList.isEmpty = b) (hc : okText 97 122 5 x.name = c) :
    Calls Tryz.prog 33 #[.agg x.cells] w fun e w' => e = .returned (.int .i64 (callCode x)) ∧ w.alloc (.cells x.cells 59) = w' := by
  have HK := Lib.hid hk
  have HA := Lib.hid ha
  have HB := Lib.hid hb
  have HC := Lib.hid hc
  rcases a with _ | _ <;> rcases b with _ | _ <;> rcases c with _ | _
  all_goals
    go_enter Tryz.func33, Tryz.ntmps33
    go_wp2_with (first
      | (go_at_call 52; refine (files_name _ _ h1).mono ?_; rintro e w' ⟨rfl, rfl⟩)
      | (go_at_call 52; refine (files_name _ _ h2).mono ?_; rintro e w' ⟨rfl, rfl⟩)
      | (go_at_call 53; refine (files_text _ _ h3).mono ?_; rintro e w' ⟨rfl, rfl⟩))
    go_ret
    exact ⟨by unfold callCode; rw [HK.out, HA.out, HB.out, HC.out]; simp, rfl⟩
set_option maxHeartbeats 1000000 in
set_option maxRecDepth 100000 in
theorem files_check4 (w : World) (x : Call) (h1 : x.name.size ≤ 140737488351232) (_h2 : x.to_.size ≤ 140737488351232) (h3 : x.text.size ≤ 140737488351232) (hk : x.kind = 4)
    (a b c : Bool) (ha : x.to_.toList.isEmpty = a) (hb : okText 97 122 5 x.name = b) (hc : okText 32 126 8 x.text = c) :
    Calls Tryz.prog 33 #[.agg x.cells] w fun e w' => e = .returned (.int .i64 (callCode x)) ∧ w.alloc (.cells x.cells 59) = w' := by
  have HK := Lib.hid hk
  have HA := Lib.hid ha
  have HB := Lib.hid hb
  have HC := Lib.hid hc
  rcases a with _ | _ <;> rcases b with _ | _ <;> rcases c with _ | _
  all_goals
    go_enter Tryz.func33, Tryz.ntmps33
    go_wp2_with (first
      | (go_at_call 52; refine (files_name _ _ h1).mono ?_; rintro e w' ⟨rfl, rfl⟩)
      | (go_at_call 52; refine (files_name _ _ h2).mono ?_; rintro e w' ⟨rfl, rfl⟩)
      | (go_at_call 53; refine (files_text _ _ h3).mono ?_; rintro e w' ⟨rfl, rfl⟩))
    go_ret
    exact ⟨by unfold callCode; rw [HK.out, HA.out, HB.out, HC.out]; simp, rfl⟩
set_option maxHeartbeats 1000000 in
set_option maxRecDepth 100000 in
theorem files_check5 (w : World) (x : Call) (h1 : x.name.size ≤ 140737488351232) (_h2 : x.to_.size ≤ 140737488351232) (_h3 : x.text.size ≤ 140737488351232) (hk : x.kind = 5)
    (a b c : Bool) (ha : x.to_.toList.isEmpty = a) (hb : x.text.toList.isEmpty = b) (hc : okText 97 122 5 x.name = c) :
    Calls Tryz.prog 33 #[.agg x.cells] w fun e w' => e = .returned (.int .i64 (callCode x)) ∧ w.alloc (.cells x.cells 59) = w' := by
  have HK := Lib.hid hk
  have HA := Lib.hid ha
  have HB := Lib.hid hb
  have HC := Lib.hid hc
  rcases a with _ | _ <;> rcases b with _ | _ <;> rcases c with _ | _
  all_goals
    go_enter Tryz.func33, Tryz.ntmps33
    go_wp2_with (first
      | (go_at_call 52; refine (files_name _ _ h1).mono ?_; rintro e w' ⟨rfl, rfl⟩)
      | (go_at_call 52; refine (files_name _ _ h2).mono ?_; rintro e w' ⟨rfl, rfl⟩)
      | (go_at_call 53; refine (files_text _ _ h3).mono ?_; rintro e w' ⟨rfl, rfl⟩))
    go_ret
    exact ⟨by unfold callCode; rw [HK.out, HA.out, HB.out, HC.out]; simp, rfl⟩
set_option maxHeartbeats 1000000 in
set_option maxRecDepth 100000 in
theorem files_check6 (w : World) (x : Call) (_h1 : x.name.size ≤ 140737488351232) (_h2 : x.to_.size ≤ 140737488351232) (_h3 : x.text.size ≤ 140737488351232) (hk : x.kind = 6)
    (a b c : Bool) (ha : x.name.toList.isEmpty = a) (hb : x.to_.toList.isEmpty = b) (hc : x.text.toList.isEmpty = c) :
    Calls Tryz.prog 33 #[.agg x.cells] w fun e w' => e = .returned (.int .i64 (callCode x)) ∧ w.alloc (.cells x.cells 59) = w' := by
  have HK := Lib.hid hk
  have HA := Lib.hid ha
  have HB := Lib.hid hb
  have HC := Lib.hid hc
  rcases a with _ | _ <;> rcases b with _ | _ <;> rcases c with _ | _
  all_goals
    go_enter Tryz.func33, Tryz.ntmps33
    go_wp2_with (first
      | (go_at_call 52; refine (files_name _ _ h1).mono ?_; rintro e w' ⟨rfl, rfl⟩)
      | (go_at_call 52; refine (files_name _ _ h2).mono ?_; rintro e w' ⟨rfl, rfl⟩)
      | (go_at_call 53; refine (files_text _ _ h3).mono ?_; rintro e w' ⟨rfl, rfl⟩))
    go_ret
    exact ⟨by unfold callCode; rw [HK.out, HA.out, HB.out, HC.out]; simp, rfl⟩
end Go.Proofs.YtalfbhhldfffkabGreatDoor
namespace Go.Proofs.YtalfbhhldfffkabGreatDoor
open Go.RowKit

set_option maxHeartbeats 1000000 in
set_option maxRecDepth 100000 in
theorem files_check3 (w : World) (x : Call) (h1 : x.name.size ≤ 140737488351232) (h2 : x.to_.size ≤ 140737488351232) (hk : x.kind = 3)
    (a b c : Bool) (ha : x.text.toList.isEmpty = a) (hb : okText 97 122 5 x.name = b) (hc : okText 97 122 5 x.to_ = c) :
    Calls Tryz.prog 33 #[.agg x.cells] w fun e w' => e = .returned (.int .i64 (callCode x)) ∧ w.alloc (.cells x.cells 59) = w' := by
  have HK := Lib.hid hk
  have HA := Lib.hid ha
  have HB := Lib.hid hb
  have HC := Lib.hid hc
  rcases a with _ | _ <;> rcases b with _ | _ <;> rcases c with _ | _
  all_goals
    go_enter Tryz.func33, Tryz.ntmps33
    go_wp2_with fail
    try
      refine (files_name _ x.name h1).mono ?_
      rintro e w' ⟨rfl, rfl⟩
      go_wp2_with fail
    try
      refine (files_name _ x.to_ h2).mono ?_
      rintro e w' ⟨rfl, rfl⟩
      go_wp2_with fail
    go_ret
    exact ⟨by unfold callCode; rw [HK.out, HA.out, HB.out, HC.out]; simp, rfl⟩

set_option maxHeartbeats 1000000 in
set_option maxRecDepth 100000 in
theorem files_check_out (w : World) (x : Call) (hk : x.kind < 1 ∨ 6 < x.kind) :
    Calls Tryz.prog 33 #[.agg x.cells] w fun e w' => e = .returned (.int .i64 (callCode x)) ∧ w.alloc (.cells x.cells 59) = w' := by
  have HK := Lib.hid hk
  by_cases h1 : x.kind < 1
  · clear hk
    go_enter Tryz.func33, Tryz.ntmps33
    go_wp2_with fail
    go_ret
    exact ⟨by unfold callCode; rw [if_pos HK.out]; rfl, rfl⟩
  · have h6 : 6 < x.kind := by omega
    clear hk
    go_enter Tryz.func33, Tryz.ntmps33
    go_wp2_with fail
    go_ret
    exact ⟨by unfold callCode; rw [if_pos HK.out]; rfl, rfl⟩

theorem files_check (w : World) (x : Call) (h1 : x.name.size ≤ 140737488351232) (h2 : x.to_.size ≤ 140737488351232) (h3 : x.text.size ≤ 140737488351232) :
    Calls Tryz.prog 33 #[.agg x.cells] w fun e w' => e = .returned (.int .i64 (callCode x)) ∧ w.alloc (.cells x.cells 59) = w' := by
  have h : x.kind = 1 ∨ x.kind = 2 ∨ x.kind = 3 ∨ x.kind = 4 ∨ x.kind = 5 ∨ x.kind = 6 ∨ (x.kind < 1 ∨ 6 < x.kind) := by omega
  rcases h with h | h | h | h | h | h | h
  · exact files_check1 w x h1 h2 h3 h _ _ _ rfl rfl rfl
  · exact files_check2 w x h1 h2 h3 h _ _ _ rfl rfl rfl
  · exact files_check3 w x h1 h2 h _ _ _ rfl rfl rfl
  · exact files_check4 w x h1 h2 h3 h _ _ _ rfl rfl rfl
  · exact files_check5 w x h1 h2 h3 h _ _ _ rfl rfl rfl
  · exact files_check6 w x h1 h2 h3 h _ _ _ rfl rfl rfl
  · exact files_check_out w x h
end Go.Proofs.YtalfbhhldfffkabGreatDoor
namespace Go.Proofs.YtalfbhhldfffkabGreatDoor
open Go.RowKit

end Go.Proofs.YtalfbhhldfffkabGreatDoor
namespace Go.Proofs.YtalfbhhldfffkabGreatDoor
open Go.RowKit

theorem callCode4_bad {x : Call} (hk : x.kind = 4) (ha : x.to_.toList.isEmpty = true) (hn : okText 97 122 5 x.name = true) (h : okText 32 126 8 x.text = false) : callCode x = 4 := by
  unfold callCode; rw [hk, ha, hn, h]; simp
theorem callCode4_good {x : Call} (hk : x.kind = 4) (ha : x.to_.toList.isEmpty = true) (hn : okText 97 122 5 x.name = true) (h : okText 32 126 8 x.text = true) : callCode x = 0 := by
  unfold callCode; rw [hk, ha, hn, h]; simp

end Go.Proofs.YtalfbhhldfffkabGreatDoor
namespace Go.Proofs.YtalfbhhldfffkabGreatDoor
open Go.RowKit

def greatB (c : Call) : Bool := decide (300 < c.name.size + c.to_.size + c.text.size)
structure Short (c : Call) : Prop where
  h1 : c.name.size ≤ 300
  h2 : c.to_.size ≤ 300
  h3 : c.text.size ≤ 300
theorem greatB_short {c : Call} (h : greatB c = false) : Short c := by
  unfold greatB at h
  simp at h
  exact ⟨by omega, by omega, by omega⟩
structure StrCall (c : Call) : Prop where
  h1 : c.name.size ≤ 140737488351232
  h2 : c.to_.size ≤ 140737488351232
  h3 : c.text.size ≤ 140737488351232
theorem Short.str {c : Call} (h : Short c) : StrCall c := ⟨by have := h.h1; omega, by have := h.h2; omega, by have := h.h3; omega⟩

end Go.Proofs.YtalfbhhldfffkabGreatDoor
namespace Go.Proofs.YtalfbhhldfffkabGreatDoor
open Go.RowKit

theorem files_changes (w : World) (k : Int) (b : Bool) (h : decide (1 ≤ k ∧ k ≤ 4) = b) :
    Calls Tryz.prog 129 #[.int .i64 k] w fun e w' => e = .returned (.bool b) ∧ w = w' := by
  have HB := Lib.hid h
  clear h
  by_cases h1 : 1 ≤ k
  · by_cases h4 : k ≤ 4
    · go_enter Tryz.func129, Tryz.ntmps129
      go_wp2
      go_ret
      exact ⟨by rw [← HB.out, decide_eq_true (by omega)]; rfl, rfl⟩
    · go_enter Tryz.func129, Tryz.ntmps129
      go_wp2
      go_ret
      exact ⟨by rw [← HB.out, decide_eq_false (by omega)]; rfl, rfl⟩
  · go_enter Tryz.func129, Tryz.ntmps129
    go_wp2
    go_ret
    exact ⟨by rw [← HB.out, decide_eq_false (by omega)]; rfl, rfl⟩

theorem files_check' (w : World) (c : Call) (n : Int) (h : callCode c = n) (hs : StrCall c) :
    Calls Tryz.prog 33 #[.agg c.cells] w fun e w' => e = .returned (.int .i64 n) ∧ Ext w w' := by
  subst h
  exact (files_check w c hs.h1 hs.h2 hs.h3).mono fun e w' ⟨he, hw⟩ => ⟨he, by subst hw; exact (Touch.refl _ _).alloc _⟩
end Go.Proofs.YtalfbhhldfffkabGreatDoor
namespace Go.Proofs.YtalfbhhldfffkabGreatDoor
open Go.RowKit

end Go.Proofs.YtalfbhhldfffkabGreatDoor
