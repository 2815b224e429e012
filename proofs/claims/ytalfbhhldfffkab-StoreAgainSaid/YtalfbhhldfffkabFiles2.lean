/- Files2: slices.Insert of files where there is no room; whole. -/
import Derived.Test.YtalfbhhldfffkabFiles1
namespace Go.Proofs.Ytalfbhhldfffkab
open Go.RowKit

set_option maxHeartbeats 1000000 in
set_option maxRecDepth 100000 in
theorem insert_grow (w : World) (g c : Nat) (l : List FileD) (i : Nat) (hi : i < l.length) (hroom : c < l.length + 1) (h : Owns w 112 (.slice (some ⟨g, 0, none⟩) l.length c) l) (hl : l.length ≤ 1000) (b : Nat) (x : FileD)
    (hb : w.heap[b]? = some (.cells x.cells 112 (0, 0))) :
    Calls Try.prog 89 #[.slice (some ⟨g, 0, none⟩) l.length c, .int .i64 (i : Int), .slice (some ⟨b, 0, none⟩) 1 1] w (InsPost w 112 (.slice (some ⟨g, 0, none⟩) l.length c) (l.take i ++ x :: l.drop i)) := by
  rcases h.2 with ⟨hv, _⟩ | ⟨g', cap, cur, hv, _, hg, hnc, hcm, hcs, htake⟩
  · cases hv
  injection hv with e1 e2 e3
  injection e1 with e1
  injection e1 with e1
  subst e1; subst e3; clear e2
  have hS : Lies.size FileD = 2 := rfl
  have hlt : g < w.heap.size := (Array.getElem?_eq_some_iff.1 hg).1
  have hblt : b < w.heap.size := (Array.getElem?_eq_some_iff.1 hb).1
  rw [hS] at hcs htake
  have hread0 : ∀ j v, (flat (l.take i))[j]? = some v → w.cell? ((⟨g, 0, none⟩ : Addr).add j) = some v := by
    intro j v hj
    have hadd : (⟨g, 0, none⟩ : Addr).add j = ⟨g, j, none⟩ := by unfold Addr.add; split <;> simp_all
    rw [hadd, cell_of hg]
    rw [← flat_take, ← htake, List.getElem?_take] at hj
    split at hj
    · rw [List.getElem?_take] at hj
      split at hj
      · simpa using hj
      · cases hj
    · cases hj
  have hread : ∀ (W : World), W.heap[g]? = w.heap[g]? → ∀ j v, (flat (l.drop i))[j]? = some v → W.cell? ((⟨g, i * 2, none⟩ : Addr).add j) = some v := by
    intro W hW j v hj
    have hadd : (⟨g, i * 2, none⟩ : Addr).add j = ⟨g, i * 2 + j, none⟩ := by unfold Addr.add; split <;> simp_all
    rw [hadd, cell_of (hW.trans hg)]
    rw [← flat_drop, ← htake, List.getElem?_drop, List.getElem?_take] at hj
    split at hj
    · rw [hS] at hj; simpa using hj
    · cases hj
  have hfd : (flat (l.drop i)).length = (l.length - i) * 2 := by rw [length_flat, List.length_drop, hS]
  have hft : (flat (l.take i)).length = i * 2 := by rw [length_flat, List.length_take, hS, Nat.min_eq_left (by omega)]
  have hfx : (flat [x]).length = 2 := by rw [length_flat, hS]; rfl
  obtain ⟨Y, c1, hap, hc1, hcm1, hY⟩ := run_append_zeros (w := w) elemFileF 103 3 103 Try.underlying103 Try.underlying3 (b := ⟨g, 0, none⟩) (sLen := i) (cap := c) (k := l.length + 1 - i) (l.take i)
    (by rw [List.length_take, Nat.min_eq_left (by omega)]) hread0 (by omega) (by omega) (by omega)
  rw [show ((l.length + 1 - i : Nat) : Int) = (l.length : Int) + 1 - (i : Int) by omega, show i + (l.length + 1 - i) = l.length + 1 by omega] at hap
  rw [show i + (l.length + 1 - i) = l.length + 1 by omega] at hc1
  rw [hS] at hY
  obtain ⟨w1, hw1⟩ : ∃ w1, w1 = w.drew.alloc (.cells (flat (l.take i) ++ Y).toArray 112) := ⟨_, rfl⟩
  obtain ⟨H, hH⟩ : ∃ H, H = w.heap.size := ⟨_, rfl⟩
  have hg1 : w1.heap[H]? = some (.cells (flat (l.take i) ++ Y).toArray 112 (0, 0)) := by rw [hw1, hH]; exact heap_alloc_new w.drew _
  have hb1 : w1.heap[b]? = some (.cells x.cells 112 (0, 0)) := by rw [hw1]; exact (Below.heap_alloc w.drew _ _ hblt).trans hb
  have hgg1 : w1.heap[g]? = w.heap[g]? := by rw [hw1]; exact Below.heap_alloc w.drew _ _ hlt
  have ht1 : Ext w w1 := by rw [hw1]; exact (Touch.refl _ w).drew.alloc _
  rw [← hw1, ← hH] at hap
  have hcp1 := fun ty dc (dl : Nat) (h1 : 1 ≤ dl) => run_copy_in (w := w1) elemFileF 103 ty Try.underlying103 (g := H) (o := i * 2) (dLen := dl) (dCap := dc) (sLen := 1) (sCap := 1) (ad := ⟨b, 0, none⟩)
    hg1 [x] (by simp only [List.length_cons, List.length_nil, Nat.min_def]; split <;> omega) (fun j v hj => by
      have hadd : (⟨b, 0, none⟩ : Addr).add j = ⟨b, j, none⟩ := by unfold Addr.add; split <;> simp_all
      rw [hadd, cell_of hb1]
      rw [flat_one, Array.getElem?_toList] at hj
      exact hj) (by rw [hfx, hY]; omega)
  obtain ⟨w2, hw2⟩ : ∃ w2, w2 = w1.setRow H (lay (flat (l.take i) ++ Y) (i * 2) (flat [x])).toArray := ⟨_, rfl⟩
  have hg2 : w2.drew.heap[H]? = some (.cells (lay (flat (l.take i) ++ Y) (i * 2) (flat [x])).toArray 112 (0, 0)) := by rw [hw2]; exact setRow_heap _ _ _ _ _ _ hg1
  have hgg2 : w2.drew.heap[g]? = w.heap[g]? := by rw [hw2]; exact (setRow_other _ _ _ _ (by omega)).trans hgg1
  have hl2 : (lay (flat (l.take i) ++ Y) (i * 2) (flat [x])).length = c1 * 2 := by rw [length_lay (by rw [hfx, hY]; omega), hY]
  have ht2 : Ext w w2 := by rw [hw2]; exact ht1.setRow (.inr (by omega)) _
  rw [← hw2] at hcp1
  have hcp2 := fun ty dc sc (dl sl : Nat) (h1 : dl = l.length - i) (h2 : sl = l.length - i) => run_copy_in (w := w2.drew) elemFileF 103 ty Try.underlying103 (g := H) (o := (i + 1) * 2) (dLen := dl) (dCap := dc) (sLen := sl) (sCap := sc) (ad := ⟨g, i * 2, none⟩)
    hg2 (l.drop i) (by rw [List.length_drop]; simp only [Nat.min_def]; split <;> omega) (hread _ hgg2) (by rw [hfd, hl2]; omega)
  have hins := (lay_insert (Y := flat (l.take i) ++ Y) (l := l) (x := x) (i := i) (by omega) (by rw [hY, hS]; omega) (by rw [hS, ← hft, List.take_left])).1
  rw [hS] at hins
  obtain ⟨w3, hw3⟩ : ∃ w3, w3 = w2.drew.setRow H (lay (lay (flat (l.take i) ++ Y) (i * 2) (flat [x])) ((i + 1) * 2) (flat (l.drop i))).toArray := ⟨_, rfl⟩
  have hg3 : w3.heap[H]? = some (.cells (lay (lay (flat (l.take i) ++ Y) (i * 2) (flat [x])) ((i + 1) * 2) (flat (l.drop i))).toArray 112 (0, 0)) := by rw [hw3]; exact setRow_heap _ _ _ _ _ _ hg2
  have ht3 : Ext w w3 := by rw [hw3]; exact ht2.drew.setRow (.inr (by omega)) _
  rw [← hw3] at hcp2
  have hll : (l.take i ++ x :: l.drop i).length = l.length + 1 := by simp; omega
  have hown : Owns w3 112 (.slice (some ⟨H, 0, none⟩) (l.length + 1) c1) (l.take i ++ x :: l.drop i) :=
    own_take_drop hg3 hll hc1 hcm1 (by rw [List.size_toArray, length_lay (by rw [hl2, hfd]; omega), hl2]; rfl) (by rw [hS]; exact hins)
  have HAP := Lib.hid hap
  have HC1 := Lib.hid hcp1
  have HC2 := Lib.hid hcp2
  have HO := Lib.hid hown
  have HT := Lib.hid ht3
  have HLL := Lib.hid hll
  have HHH := Lib.hid hH
  have hm := hcm
  unfold maxLen at hm
  unfold maxLen at hcm1
  have hci1 : (c1 = i + 1) = False := by simp; omega
  have hci0 : (c1 = i) = False := by simp; omega
  have hci2 : (c = i) = False := by simp; omega
  have hin : i ≤ l.length := by omega
  have hin0 : i ≤ c := by omega
  have hin2 : (i : Int) ≤ (l.length : Int) + 1 := by omega
  have hin3 : (i : Int) ≤ (l.length : Int) := by omega
  have hin4 : (i : Int) + 1 ≤ (l.length : Int) + 1 := by omega
  have hin5 : i + 1 ≤ l.length + 1 := by omega
  have hin6 : i + 1 ≤ c1 := by omega
  have hin7 : (c : Int) < (l.length : Int) + 1 := by omega
  have hwi1 : IntKind.i64.wrap ((i : Int) + 1) = (i : Int) + 1 := by rw [IntKind.wrap_i64]; omega
  have hwi2 : ((i : Int) + 1).toNat = i + 1 := by omega
  have hne : ((i : Int) == (l.length : Int)) = false := beq_eq_false_iff_ne.2 (by omega)
  have hi1 : (0 : Int) ≤ (i : Int) + 1 := by omega
  clear hap hcp1 hcp2 hown ht3 hll hins hg3 hg2 hb1 ht2 hl2 hread hread0 hg hb hcs htake h hw1 hw2 hw3 hfd hfx hft hY hg1 hgg1 hgg2 ht1 hH
  go_enter Try.func89, Try.ntmps89
  go_wp2_with (first
    | (at_builtin; refine wpList_append_eq2 rfl (.tmp 34) (.tmp 39) 103 3 rfl _ _ _ rfl rfl HAP.out ?_)
    | (refine wpList_copy_eq rfl (.tmp 43) (.tmp 44) 103 rfl _ _ _ rfl rfl (HC1.out _ _ _ (by omega)) ?_))
  go_region_law ((refine step_copy_eq (by rfl) (.tmp 50) (.tmp 53) 103 (by rfl) _ _ _ (by simp [Act.eval, Act.put]; first | done | exact ⟨rfl, rfl⟩) (by simp [Act.eval, Act.put]; first | done | exact ⟨rfl, rfl⟩) (HC2.out _ _ _ _ _ (by omega) (by omega)) ?_))
  go_wp2
  go_ret
  exact ⟨_, _, by rw [HLL.out]; rfl, by rw [HLL.out]; exact HO.out, HT.out.mono fun k hk => hk.elim, fun k hk => .inr (by simp [Value.ownBlock] at hk; have := HHH.out; omega)⟩

theorem insert_files (w : World) (A : Option Addr) (c : Nat) (l : List FileD) (i : Nat) (hi : i ≤ l.length) (h : Owns w 112 (.slice A l.length c) l) (hl : l.length ≤ 1000) (b : Nat) (x : FileD)
    (hb : w.heap[b]? = some (.cells x.cells 112 (0, 0))) (hbg : (Value.slice A l.length c).ownBlock ≠ some b) :
    Calls Try.prog 89 #[.slice A l.length c, .int .i64 (i : Int), .slice (some ⟨b, 0, none⟩) 1 1] w (InsPost w 112 (.slice A l.length c) (l.take i ++ x :: l.drop i)) := by
  by_cases he : i = l.length
  · subst he
    rw [List.take_length, List.drop_length]
    exact insert_end w A c l h hl b x hb
  · rcases A with _ | ad
    · have := h.none_nil
      subst this
      exact absurd (Nat.le_zero.1 hi) he
    · obtain ⟨g, rfl⟩ := h.some_form
      by_cases hroom : l.length + 1 ≤ c
      · exact insert_room w g c l i (by omega) hroom h hl b x hb (fun e => hbg (by subst e; rfl))
      · exact insert_grow w g c l i (by omega) (by omega) h hl b x hb
end Go.Proofs.Ytalfbhhldfffkab
