/- Check: what a call may be: the walks of files.Name, files.text, files.Check and the reference's IsName, IsChange, CallFault. -/
import Derived.Test.YtalfbhhldfffkabTypes
import Derived.Test.YtalfbhhldfffkabText
import Derived.Lib.Hide
namespace Go.Proofs.Ytalfbhhldfffkab
open Go.RowKit

set_option maxHeartbeats 400000 in
theorem files_name (w : World) (s : ByteArray) (hs : s.size ≤ 140737488351232) :
    Calls Try.prog 18 #[.string s] w fun e w' => e = .returned (.bool (okText 97 122 5 s)) ∧ w' = w := by
  go_enter Try.func18, Try.ntmps18
  go_wp2_with fail
  go_loopw [3, 6] (fun _ i wr => ∃ k : Nat, i = .int .i64 k ∧ k ≤ s.size ∧ wr = w ∧ Within 97 122 s k) (fun _ i _ => s.size - (intOf i).toNat)
  case atStart => exact ⟨0, rfl, Nat.zero_le _, rfl, fun i b h => by omega⟩
  case round =>
    obtain ⟨k, rfl, hk, rfl, hin⟩ := hrel
    have HIN := Lib.hid hin
    clear hin
    by_cases hlt : k < s.size
    · by_cases h1 : s[k].toNat < 97
      · have H1 := Lib.hid h1
        have h1' : (s[k].toNat : Int) < 97 := by omega
        clear h1
        go_wp2_with fail
        go_ret
        exact ⟨by rw [okText_out hlt (.inl H1.out)]; rfl, rfl⟩
      · by_cases h2 : 122 < s[k].toNat
        · have H1 := Lib.hid h2
          have h1' : ¬ (s[k].toNat : Int) < 97 := by omega
          have h2' : (122 : Int) < (s[k].toNat : Int) := by omega
          clear h1 h2
          go_wp2_with fail
          go_ret
          exact ⟨by rw [okText_out hlt (.inr H1.out)]; rfl, rfl⟩
        · have H1 := Lib.hid h1
          have H2 := Lib.hid h2
          have h1' : ¬ (s[k].toNat : Int) < 97 := by omega
          have h2' : ¬ (122 : Int) < (s[k].toNat : Int) := by omega
          clear h1 h2
          go_wp2_with fail
          go_roundw
          case rel => exact ⟨k + 1, by go_num, by omega, by trivial, HIN.out.next hlt (by have := H1.out; omega) (by have := H2.out; omega)⟩
          case measure => simp [intOf]; omega
    · obtain rfl : k = s.size := by omega
      by_cases hz : s.size = 0
      · have he : s.toList.isEmpty = true := by rw [isEmpty_toList]; simp [hz]
        have HZ := Lib.hid hz
        clear hz
        go_wp2_with fail
        go_ret
        exact ⟨by rw [okText_in HIN.out]; simp [HZ.out], rfl⟩
      · have he : s.toList.isEmpty = false := by rw [isEmpty_toList]; simp [hz]
        have HZ := Lib.hid hz
        clear hz
        go_wp2_with fail
        go_ret
        refine ⟨?_, rfl⟩
        rw [okText_in HIN.out, decide_eq_true (show 0 < s.size by have := HZ.out; omega), Bool.true_and]
        congr 3
        simp
        omega
set_option maxHeartbeats 400000 in
theorem files_text (w : World) (s : ByteArray) (hs : s.size ≤ 140737488351232) :
    Calls Try.prog 82 #[.string s] w fun e w' => e = .returned (.bool (okText 32 126 8 s)) ∧ w' = w := by
  go_enter Try.func82, Try.ntmps82
  go_wp2_with fail
  go_loopw [3, 6] (fun _ i wr => ∃ k : Nat, i = .int .i64 k ∧ k ≤ s.size ∧ wr = w ∧ Within 32 126 s k) (fun _ i _ => s.size - (intOf i).toNat)
  case atStart => exact ⟨0, rfl, Nat.zero_le _, rfl, fun i b h => by omega⟩
  case round =>
    obtain ⟨k, rfl, hk, rfl, hin⟩ := hrel
    have HIN := Lib.hid hin
    clear hin
    by_cases hlt : k < s.size
    · by_cases h1 : s[k].toNat < 32
      · have H1 := Lib.hid h1
        have h1' : (s[k].toNat : Int) < 32 := by omega
        clear h1
        go_wp2_with fail
        go_ret
        exact ⟨by rw [okText_out hlt (.inl H1.out)]; rfl, rfl⟩
      · by_cases h2 : 126 < s[k].toNat
        · have H1 := Lib.hid h2
          have h1' : ¬ (s[k].toNat : Int) < 32 := by omega
          have h2' : (126 : Int) < (s[k].toNat : Int) := by omega
          clear h1 h2
          go_wp2_with fail
          go_ret
          exact ⟨by rw [okText_out hlt (.inr H1.out)]; rfl, rfl⟩
        · have H1 := Lib.hid h1
          have H2 := Lib.hid h2
          have h1' : ¬ (s[k].toNat : Int) < 32 := by omega
          have h2' : ¬ (126 : Int) < (s[k].toNat : Int) := by omega
          clear h1 h2
          go_wp2_with fail
          go_roundw
          case rel => exact ⟨k + 1, by go_num, by omega, by trivial, HIN.out.next hlt (by have := H1.out; omega) (by have := H2.out; omega)⟩
          case measure => simp [intOf]; omega
    · obtain rfl : k = s.size := by omega
      by_cases hz : s.size = 0
      · have he : s.toList.isEmpty = true := by rw [isEmpty_toList]; simp [hz]
        have HZ := Lib.hid hz
        clear hz
        go_wp2_with fail
        go_ret
        exact ⟨by rw [okText_in HIN.out]; simp [HZ.out], rfl⟩
      · have he : s.toList.isEmpty = false := by rw [isEmpty_toList]; simp [hz]
        have HZ := Lib.hid hz
        clear hz
        go_wp2_with fail
        go_ret
        refine ⟨?_, rfl⟩
        rw [okText_in HIN.out, decide_eq_true (show 0 < s.size by have := HZ.out; omega), Bool.true_and]
        congr 3
        simp
        omega

set_option maxHeartbeats 400000 in
theorem ref_isname (w : World) (s : ByteArray) (hs : s.size ≤ 140737488351232) :
    Calls Try.prog 111 #[.string s] w fun e w' => e = .returned (.bool (okText 97 122 5 s)) ∧ w' = w := by
  by_cases h0 : s.size < 1
  · have H0 := Lib.hid h0
    have h0' : (s.size : Int) < 1 := by omega
    clear h0
    go_enter Try.func111, Try.ntmps111
    go_wp2_with fail
    go_ret
    exact ⟨by rw [okText_size (.inl H0.out)]; rfl, rfl⟩
  by_cases h5 : 5 < s.size
  · have H0 := Lib.hid h5
    have h0' : ¬ (s.size : Int) < 1 := by omega
    have h5' : (5 : Int) < (s.size : Int) := by omega
    clear h0 h5
    go_enter Try.func111, Try.ntmps111
    go_wp2_with fail
    go_ret
    exact ⟨by rw [okText_size (.inr H0.out)]; rfl, rfl⟩
  have HS := Lib.hid (show 0 < s.size ∧ s.size ≤ 5 by omega)
  have h0' : ¬ (s.size : Int) < 1 := by omega
  have h5' : ¬ (5 : Int) < (s.size : Int) := by omega
  clear h0 h5
  go_enter Try.func111, Try.ntmps111
  go_wp2_with fail
  go_loopw [3] (fun i wr => ∃ k : Nat, i = .int .i64 k ∧ k ≤ s.size ∧ wr = w ∧ Within 97 122 s k) (fun i _ => s.size - (intOf i).toNat)
  case atStart => exact ⟨0, rfl, Nat.zero_le _, rfl, fun i b h => by omega⟩
  case round =>
    obtain ⟨k, rfl, hk, rfl, hin⟩ := hrel
    have HIN := Lib.hid hin
    clear hin
    by_cases hlt : k < s.size
    · by_cases h1 : s[k].toNat < 97
      · have H1 := Lib.hid h1
        have h1' : (s[k].toNat : Int) < 97 := by omega
        clear h1
        go_wp2_with fail
        go_ret
        exact ⟨by rw [okText_out hlt (.inl H1.out)]; rfl, rfl⟩
      · by_cases h2 : 122 < s[k].toNat
        · have H1 := Lib.hid h2
          have h1' : ¬ (s[k].toNat : Int) < 97 := by omega
          have h2' : (122 : Int) < (s[k].toNat : Int) := by omega
          clear h1 h2
          go_wp2_with fail
          go_ret
          exact ⟨by rw [okText_out hlt (.inr H1.out)]; rfl, rfl⟩
        · have H1 := Lib.hid h1
          have H2 := Lib.hid h2
          have h1' : ¬ (s[k].toNat : Int) < 97 := by omega
          have h2' : ¬ (122 : Int) < (s[k].toNat : Int) := by omega
          clear h1 h2
          go_wp2_with fail
          go_roundw
          case rel => exact ⟨k + 1, by go_num, by omega, by trivial, HIN.out.next hlt (by have := H1.out; omega) (by have := H2.out; omega)⟩
          case measure => simp [intOf]; omega
    · obtain rfl : k = s.size := by omega
      go_wp2_with fail
      go_ret
      exact ⟨by rw [okText_in HIN.out, decide_eq_true HS.out.1, decide_eq_true HS.out.2]; rfl, rfl⟩
end Go.Proofs.Ytalfbhhldfffkab
