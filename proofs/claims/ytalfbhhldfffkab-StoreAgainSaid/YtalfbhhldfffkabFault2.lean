/- Fault2: the reference's CallFault at kind 4, at a kind that is none, and for every call. -/
import Derived.Test.YtalfbhhldfffkabFault
namespace Go.Proofs.Ytalfbhhldfffkab
open Go.RowKit

theorem callCode4_bad {x : Call} (hk : x.kind = 4) (ha : x.to_.toList.isEmpty = true) (hn : okText 97 122 5 x.name = true) (h : okText 32 126 8 x.text = false) : callCode x = 4 := by
  unfold callCode; rw [hk, ha, hn, h]; simp
theorem callCode4_good {x : Call} (hk : x.kind = 4) (ha : x.to_.toList.isEmpty = true) (hn : okText 97 122 5 x.name = true) (h : okText 32 126 8 x.text = true) : callCode x = 0 := by
  unfold callCode; rw [hk, ha, hn, h]; simp

set_option maxHeartbeats 1000000 in
set_option maxRecDepth 100000 in
theorem ref_fault4 (w : World) (x : Call) (h1 : x.name.size ≤ 140737488351232) (h3 : x.text.size ≤ 140737488351232) (hk : x.kind = 4) :
    Calls Try.prog 92 #[.agg x.cells] w fun e w' => e = .returned (.int .i64 (callCode x)) ∧ w.alloc (.cells x.cells 31) = w' := by
  have HK := Lib.hid hk
  by_cases ha : x.to_.toList.isEmpty = true
  case neg =>
    have ha' : x.to_.toList.isEmpty = false := by simpa using ha
    have HA := Lib.hid ha'
    clear ha
    go_enter Try.func92, Try.ntmps92
    go_wp2_with fail
    refine (ref_ischange _ _).mono ?_
    rintro e w' ⟨rfl, rfl⟩
    go_wp2_with fail
    go_ret
    exact ⟨by unfold callCode; rw [HK.out, HA.out]; simp, rfl⟩
  have HA := Lib.hid ha
  by_cases hn : okText 97 122 5 x.name = true
  case neg =>
    have hn' : okText 97 122 5 x.name = false := by simpa using hn
    have HN := Lib.hid hn'
    clear hn
    go_enter Try.func92, Try.ntmps92
    go_wp2_with fail
    refine (ref_ischange _ _).mono ?_
    rintro e w' ⟨rfl, rfl⟩
    go_wp2_with fail
    refine (ref_isname _ x.name h1).mono ?_
    rintro e w' ⟨rfl, rfl⟩
    go_wp2_with fail
    go_ret
    exact ⟨by unfold callCode; rw [HK.out, HA.out, HN.out]; simp, rfl⟩
  have HN := Lib.hid hn
  by_cases h0 : x.text.size < 1
  · have H0 := Lib.hid h0
    have h0' : (x.text.size : Int) < 1 := by omega
    clear h0
    go_enter Try.func92, Try.ntmps92
    go_wp2_with fail
    refine (ref_ischange _ _).mono ?_
    rintro e w' ⟨rfl, rfl⟩
    go_wp2_with fail
    refine (ref_isname _ x.name h1).mono ?_
    rintro e w' ⟨rfl, rfl⟩
    go_wp2_with fail
    go_ret
    exact ⟨by rw [callCode4_bad HK.out HA.out HN.out (okText_size (.inl H0.out))]; rfl, rfl⟩
  by_cases h8 : 8 < x.text.size
  · have H0 := Lib.hid h8
    have h0' : ¬ (x.text.size : Int) < 1 := by omega
    have h8' : (8 : Int) < (x.text.size : Int) := by omega
    clear h0 h8
    go_enter Try.func92, Try.ntmps92
    go_wp2_with fail
    refine (ref_ischange _ _).mono ?_
    rintro e w' ⟨rfl, rfl⟩
    go_wp2_with fail
    refine (ref_isname _ x.name h1).mono ?_
    rintro e w' ⟨rfl, rfl⟩
    go_wp2_with fail
    go_ret
    exact ⟨by rw [callCode4_bad HK.out HA.out HN.out (okText_size (.inr H0.out))]; rfl, rfl⟩
  have HS := Lib.hid (show 0 < x.text.size ∧ x.text.size ≤ 8 by omega)
  have h0' : ¬ (x.text.size : Int) < 1 := by omega
  have h8' : ¬ (8 : Int) < (x.text.size : Int) := by omega
  clear h0 h8
  go_enter Try.func92, Try.ntmps92
  go_wp2_with fail
  refine (ref_ischange _ _).mono ?_
  rintro e w' ⟨rfl, rfl⟩
  go_wp2_with fail
  refine (ref_isname _ x.name h1).mono ?_
  rintro e w' ⟨rfl, rfl⟩
  go_wp2_with fail
  have hb := heap_alloc_new w (.cells x.cells 31 (0, 0))
  have hc3 : (w.alloc (.cells x.cells 31 (0, 0))).cell? ⟨w.heap.size, 3, none⟩ = some (.string x.text) := cell_of hb 3
  generalize hwa : w.alloc (.cells x.cells 31 (0, 0)) = wa at *
  go_loopw [3] (fun i wr => ∃ k : Nat, i = .int .i64 k ∧ k ≤ x.text.size ∧ wr = wa ∧ Within 32 126 x.text k) (fun i _ => x.text.size - (intOf i).toNat)
  case atStart => exact ⟨0, rfl, Nat.zero_le _, rfl, fun i b h => by omega⟩
  case round =>
    obtain ⟨k, rfl, hk, rfl, hin⟩ := hrel
    have HIN := Lib.hid hin
    clear hin
    by_cases hlt : k < x.text.size
    · by_cases h1 : x.text[k].toNat < 32
      · have H1 := Lib.hid h1
        have h1' : (x.text[k].toNat : Int) < 32 := by omega
        clear h1
        go_wp2_with fail
        go_ret
        exact ⟨by rw [callCode4_bad HK.out HA.out HN.out (okText_out hlt (.inl H1.out))]; rfl, by first | exact hwa | rfl⟩
      · by_cases h2 : 126 < x.text[k].toNat
        · have H1 := Lib.hid h2
          have h1' : ¬ (x.text[k].toNat : Int) < 32 := by omega
          have h2' : (126 : Int) < (x.text[k].toNat : Int) := by omega
          clear h1 h2
          go_wp2_with fail
          go_ret
          exact ⟨by rw [callCode4_bad HK.out HA.out HN.out (okText_out hlt (.inr H1.out))]; rfl, by first | exact hwa | rfl⟩
        · have H1 := Lib.hid h1
          have H2 := Lib.hid h2
          have h1' : ¬ (x.text[k].toNat : Int) < 32 := by omega
          have h2' : ¬ (126 : Int) < (x.text[k].toNat : Int) := by omega
          clear h1 h2
          go_wp2_with fail
          go_roundw
          case rel => exact ⟨k + 1, by go_num, by omega, by trivial, HIN.out.next hlt (by have := H1.out; omega) (by have := H2.out; omega)⟩
          case measure => simp [intOf]; omega
    · obtain rfl : k = x.text.size := by omega
      go_wp2_with fail
      go_ret
      exact ⟨by rw [callCode4_good HK.out HA.out HN.out (by rw [okText_in HIN.out, decide_eq_true HS.out.1, decide_eq_true HS.out.2]; rfl)]; rfl, by first | exact hwa | rfl⟩

set_option maxHeartbeats 1000000 in
set_option maxRecDepth 100000 in
theorem ref_fault_out (w : World) (x : Call) (hk : x.kind < 1 ∨ 6 < x.kind) :
    Calls Try.prog 92 #[.agg x.cells] w fun e w' => e = .returned (.int .i64 (callCode x)) ∧ w.alloc (.cells x.cells 31) = w' := by
  have HK := Lib.hid hk
  have h0 : decide (1 ≤ x.kind ∧ x.kind ≤ 4) = false := decide_eq_false (by omega)
  have h5 : (x.kind != 5) = true := bne_iff_ne.2 (by omega)
  have h6 : (x.kind != 6) = true := bne_iff_ne.2 (by omega)
  have h5n : ¬ x.kind = 5 := by omega
  have h6n : ¬ x.kind = 6 := by omega
  clear hk
  go_enter Try.func92, Try.ntmps92
  go_wp2_with fail
  refine (ref_ischange _ _).mono ?_
  rw [h0]
  rintro e w' ⟨rfl, rfl⟩
  go_wp2_with fail
  go_ret
  exact ⟨by unfold callCode; rw [if_pos HK.out]; rfl, rfl⟩

/-- CallFault, of every call -/
theorem ref_fault (w : World) (x : Call) (h1 : x.name.size ≤ 140737488351232) (h2 : x.to_.size ≤ 140737488351232) (h3 : x.text.size ≤ 140737488351232) :
    Calls Try.prog 92 #[.agg x.cells] w fun e w' => e = .returned (.int .i64 (callCode x)) ∧ w.alloc (.cells x.cells 31) = w' := by
  have h : x.kind = 1 ∨ x.kind = 2 ∨ x.kind = 3 ∨ x.kind = 4 ∨ x.kind = 5 ∨ x.kind = 6 ∨ (x.kind < 1 ∨ 6 < x.kind) := by omega
  rcases h with h | h | h | h | h | h | h
  · exact ref_fault1 w x h1 h2 h _ _ _ rfl rfl rfl
  · exact ref_fault2 w x h1 h2 h _ _ _ rfl rfl rfl
  · exact ref_fault3 w x h1 h2 h _ _ _ rfl rfl rfl
  · exact ref_fault4 w x h1 h3 h
  · exact ref_fault5 w x h1 h2 h _ _ _ rfl rfl rfl
  · exact ref_fault6 w x h1 h2 h _ _ _ rfl rfl rfl
  · exact ref_fault_out w x h
end Go.Proofs.Ytalfbhhldfffkab
