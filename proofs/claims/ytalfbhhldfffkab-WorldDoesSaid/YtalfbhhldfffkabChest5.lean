/- Chest5: the walk of Tear of the reference's Chest. -/
import Derived.Test.YtalfbhhldfffkabChest4
namespace Go.Proofs.Ytalfbhhldfffkab
open Go.RowKit

theorem tear_snoc {L : List Record} {client no : Int} {c : Call} (h : 0 < (chestCall L client no c).1.2.1) : ∃ r, (chestCall L client no c).2 = L ++ [r] := by
  have hw := chest_way L client no c
  generalize chestCall L client no c = r at *
  rcases hw with ⟨k, hk, rfl⟩ | ⟨_, _, rfl⟩ | ⟨_, _, x, _, _, _, rfl⟩ | ⟨hc, hk, hl, hs, rfl⟩
  · exact absurd h (by show ¬ (0 : Int) < 0; omega)
  · exact absurd h (by show ¬ (0 : Int) < 0; omega)
  · exact absurd h (by show ¬ (0 : Int) < 0; omega)
  · exact ⟨_, rfl⟩
def CTPost (w : World) (g : Nat) (F : Nat → Prop) (r : Int × List Record) (e : Ending) (w' : World) : Prop :=
  e = .returned (.int .i64 r.1) ∧ Moved (repChest g) w F r.2 w'
set_option maxHeartbeats 1000000 in
set_option maxRecDepth 100000 in
theorem chest_tear_no (w : World) (g : Nat) (F : Nat → Prop) (L : List Record) (client no : Int) (c : Call) (keep : Int) (h : (repChest g).on w F L) (hL : LogOk L) (hst : StrCall c)
    (hno : ¬ ((chestCall L client no c).1.2.2 = 0 ∧ 0 < (chestCall L client no c).1.2.1 ∧ keep < (chestCall L client no c).1.2.1)) :
    Calls Try.prog 63 #[.pointer (some ⟨g, 0, none⟩), .int .i64 client, .int .i64 no, .agg c.cells, .int .i64 keep] w (CTPost w g F (chestTear L client no c keep)) := by
  have HT := Lib.hid (show chestTear L client no c keep = ((chestCall L client no c).1.2.2, (chestCall L client no c).2) by unfold chestTear; rw [if_neg hno])
  have M0 := Lib.hid (Rep.stays h)
  have HL := Lib.hid hL
  have HST := Lib.hid hst
  clear h hL hst
  go_enter Try.func63, Try.ntmps63
  go_wp2_with fail
  have M2 := Lib.hid (M0.out.behind ((Touch.refl _ w).alloc (.cells c.cells 31)))
  generalize w.alloc (.cells c.cells 31) = w2 at M2 ⊢
  obtain ⟨F2, hF2, hm2⟩ := M2.out.opened
  refine (chest_call w2 g F2 L client no c hF2 HL.out HST.out).mono ?_
  rintro e w3 ⟨rfl, hq3⟩
  have M3 := Lib.hid (hm2 _ _ hq3)
  clear hF2 hm2 hq3 M2
  generalize chestCall L client no c = R at *
  have M4 := Lib.hid (M3.out.behind ((Touch.refl _ w3).alloc (.cells R.1.1.cells 28)))
  by_cases e1 : R.1.2.2 = 0
  · have e1' : (R.1.2.2 == 0) = true := by simp [e1]
    by_cases e2 : 0 < R.1.2.1
    · have e3 : ¬ keep < R.1.2.1 := fun h => hno ⟨e1, e2, h⟩
      go_wp2
      go_ret
      unfold CTPost
      rw [HT.out]
      exact ⟨by rw [e1]; rfl, M4.out⟩
    · go_wp2
      go_ret
      unfold CTPost
      rw [HT.out]
      exact ⟨by rw [e1]; rfl, M4.out⟩
  · have e1' : (R.1.2.2 == 0) = false := by simp [e1]
    go_wp2
    go_ret
    unfold CTPost
    rw [HT.out]
    exact ⟨rfl, M4.out⟩
set_option maxHeartbeats 1000000 in
set_option maxRecDepth 100000 in
theorem chest_tear_yes (w : World) (g : Nat) (F : Nat → Prop) (L : List Record) (client no : Int) (c : Call) (keep : Int) (h : (repChest g).on w F L) (hL : LogOk L) (hst : StrCall c)
    (e1 : (chestCall L client no c).1.2.2 = 0) (e2 : 0 < (chestCall L client no c).1.2.1) (e3 : keep < (chestCall L client no c).1.2.1) :
    Calls Try.prog 63 #[.pointer (some ⟨g, 0, none⟩), .int .i64 client, .int .i64 no, .agg c.cells, .int .i64 keep] w (CTPost w g F (chestTear L client no c keep)) := by
  have HT := Lib.hid (show chestTear L client no c keep = (0, L) by unfold chestTear; rw [if_pos ⟨e1, e2, e3⟩, e1])
  obtain ⟨r, hr⟩ := tear_snoc e2
  have HR := Lib.hid hr
  have hlen : L.length ≤ 10000 := by have h1 := log_len hL.each; have h2 := hL.len; omega
  have M0 := Lib.hid (Rep.stays h)
  have HL := Lib.hid hL
  have HST := Lib.hid hst
  clear h hL hst
  go_enter Try.func63, Try.ntmps63
  go_wp2_with fail
  have M2 := Lib.hid (M0.out.behind ((Touch.refl _ w).alloc (.cells c.cells 31)))
  generalize w.alloc (.cells c.cells 31) = w2 at M2 ⊢
  obtain ⟨F2, hF2, hm2⟩ := M2.out.opened
  refine (chest_call w2 g F2 L client no c hF2 HL.out HST.out).mono ?_
  rintro e w3 ⟨rfl, hq3⟩
  have M3 := Lib.hid (hm2 _ _ hq3)
  clear hF2 hm2 hq3 M2
  rw [hr] at M3
  obtain ⟨a, ha⟩ : ∃ a, (chestCall L client no c).1.1 = a := ⟨_, rfl⟩
  obtain ⟨n, hn⟩ : ∃ n, (chestCall L client no c).1.2.1 = n := ⟨_, rfl⟩
  rw [hn] at e2 e3
  rw [ha, hn, e1]
  clear ha hn e1 hr
  obtain ⟨F3, hF3, hm3⟩ := M3.out.opened
  obtain ⟨v, hS3⟩ := holds_parts hF3 (by decide)
  have m3 := Rep.stays hS3
  obtain ⟨A, c0, rfl, hcc, hcm, _⟩ := m3.own3.form
  have hll : (L ++ [r]).length = L.length + 1 := by simp
  rw [hll] at hS3 m3 hcc
  have M3a := Lib.hid m3
  have HM3 := Lib.hid hm3
  clear hS3 m3 hm3 hF3 M3 hll
  have M4 := Lib.hid (M3a.out.behind ((Touch.refl _ w3).alloc (.cells a.cells 28)))
  have hbg4 := M4.out.cell0
  obtain ⟨lt4, at4⟩ := Array.getElem?_eq_some_iff.1 hbg4
  have hcg4 : (w3.alloc (.cells a.cells 28)).cell? ⟨g, 0, none⟩ = some (.slice A (L.length + 1) c0) := cell_of hbg4 0
  have hfr4 := frozen_of hbg4 0
  have hbg5 : ((w3.alloc (.cells a.cells 28)).setCell ⟨g, 0, none⟩ (.slice A L.length c0)).heap[g]? = some (.cells #[.slice A L.length c0] 58 (0, 0)) := setCell_heap hbg4 0 _
  have m5 := ((M4.out.turn0 (w' := (w3.alloc (.cells a.cells 28)).setCell ⟨g, 0, none⟩ (.slice A L.length c0)) ((Touch.refl (fun k => k = g) _).setCell (a := ⟨g, 0, none⟩) (.inl rfl) _) hbg5).upto L.length (by simp)).behind (Touch.drew (Touch.refl _ _))
  rw [List.take_left] at m5
  have M5 := Lib.hid (HM3.out _ _ m5.holds)
  have hsub : ((L.length : Int) + 1) - 1 = (L.length : Int) := by omega
  have hsub2 : ((L.length + 1 : Nat) : Int) - 1 = (L.length : Int) := by omega
  have hc0 : (L.length : Int) ≤ c0 := by omega
  clear hbg5 m5
  go_wp2_with fail
  generalize w3.alloc (.cells a.cells 28) = w4 at M4 M5 hbg4 lt4 at4 hcg4 hfr4 ⊢
  go_region
  all_goals
    go_wp2
    go_ret
    unfold CTPost
    rw [HT.out]
    exact ⟨rfl, M5.out⟩
theorem chest_tear (w : World) (g : Nat) (F : Nat → Prop) (L : List Record) (client no : Int) (c : Call) (keep : Int) (h : (repChest g).on w F L) (hL : LogOk L) (hst : StrCall c) :
    Calls Try.prog 63 #[.pointer (some ⟨g, 0, none⟩), .int .i64 client, .int .i64 no, .agg c.cells, .int .i64 keep] w (CTPost w g F (chestTear L client no c keep)) := by
  by_cases hcut : (chestCall L client no c).1.2.2 = 0 ∧ 0 < (chestCall L client no c).1.2.1 ∧ keep < (chestCall L client no c).1.2.1
  · exact chest_tear_yes w g F L client no c keep h hL hst hcut.1 hcut.2.1 hcut.2.2
  · exact chest_tear_no w g F L client no c keep h hL hst hcut
end Go.Proofs.Ytalfbhhldfffkab
