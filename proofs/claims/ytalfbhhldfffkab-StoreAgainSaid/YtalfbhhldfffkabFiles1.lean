/- Files1: slices.Delete and slices.Insert of files. -/
import Derived.Test.YtalfbhhldfffkabTypes
import Derived.Test.YtalfbhhldfffkabMem2
import Derived.Deep.RegionHeld3
import Derived.Deep.RegionLaw
import Derived.Test.YtalfbhhldfffkabRep
namespace Go.Proofs.Ytalfbhhldfffkab
open Go.RowKit

/-- Behind slices.Delete(s, i, i+1) -/
def FDeleted {α : Type} [Lies α] (w : World) (E : TypeId) (g cap : Nat) (l : List α) (e : Ending) (w' : World) : Prop :=
  e = .returned (.slice (some ⟨g, 0, none⟩) l.length cap) ∧ Owns w' E (.slice (some ⟨g, 0, none⟩) l.length cap) l ∧ Touch (fun k => k = g) w w'

set_option maxHeartbeats 1000000 in
theorem delete_files_at (w : World) (g cap : Nat) (l : List FileD) (i : Nat) (hi : i < l.length) (A1 : Addr) (h : Owns w 112 (.slice (some ⟨g, 0, none⟩) l.length cap) l) (hl : l.length ≤ 100000)
    (hA1 : cap = i + 1 ∧ A1 = ⟨g, 0, none⟩ ∨ (cap = i + 1) = False ∧ A1 = ⟨g, (i + 1) * 2, none⟩) :
    Calls Try.prog 57 #[.slice (some ⟨g, 0, none⟩) l.length cap, .int .i64 (i : Int), .int .i64 ((i : Int) + 1)] w (FDeleted w 112 g cap (l.take i ++ l.drop (i + 1))) := by
  obtain ⟨A, c, hv, hc, hcm, hr⟩ := h.form
  injection hv with hv1 hv2 hv3
  subst hv3
  have hm := hcm
  unfold maxLen at hm
  have H := Lib.hid h
  clear h hr hcm hv1 hv2
  have hne : ((i : Int) == (i : Int) + 1) = false := beq_eq_false_iff_ne.2 (by omega)
  have hi1 : (i : Int) + 1 ≤ l.length := by omega
  have hic : i ≤ cap := by omega
  have hil : i + 1 ≤ l.length := by omega
  have hi0 : (0 : Int) ≤ (i : Int) + 1 := by omega
  obtain ⟨w1, hrun1, hown1, ht1⟩ := run_append_cut (w := w.drew) elemFileF 103 103 Try.underlying103 (c' := cap - (i + 1)) H.out i (i + 1) (by omega) (by omega) (A := some A1)
    (by rcases hA1 with ⟨h1, rfl⟩ | ⟨h1, rfl⟩ <;> simp [h1] <;> rfl)
  obtain ⟨n, hn⟩ : ∃ n, i + (l.length - (i + 1)) = n := ⟨_, rfl⟩
  rw [hn] at hrun1 hown1
  have hn1 : n + 1 = l.length := by omega
  have HN := Lib.hid hn1
  have hnc : n + 1 ≤ cap := by omega
  have hnl : n + 1 ≤ l.length := by omega
  clear hn hn1
  have hll : (l.take i ++ l.drop (i + 1)).length = n := by simp; have := HN.out; omega
  have hown1' : Owns w1 112 (.slice (some ⟨g, 0, none⟩) (l.take i ++ l.drop (i + 1)).length cap) (l.take i ++ l.drop (i + 1)) := by rw [hll]; exact hown1
  obtain ⟨w2, hrun2, hown2, ht2⟩ := run_clear_tail elemFileF 103 0 Try.underlying103 (m := l.length - n) (c' := cap - n) hown1' (by rw [hll]; omega) rfl
  rw [hll, if_neg (by omega), show (Lies.size FileD) = 2 from rfl] at hrun2
  have HL := Lib.hid hll
  have HO2 := Lib.hid hown2
  have HR1 := Lib.hid hrun1
  have HR2 := Lib.hid hrun2
  clear hll hown2 hown1 hown1' hrun1 hrun2
  rcases hA1 with ⟨h1, rfl⟩ | ⟨h1, rfl⟩
  · subst h1
    have hic2 : (i : Int) ≤ (i : Int) + 1 := by omega
    have HR1' := HR1.out
    rw [show l.length - (i + 1) = 0 by omega, Nat.sub_self] at HR1'
    have HR1 := Lib.hid HR1'
    clear HR1'
    go_enter Try.func57, Try.ntmps57
    go_wp2
    go_region_law ((refine step_append_eq (by rfl) (.tmp 22) (.tmp 25) 103 (by rfl) _ _ _ (by rfl) (by rfl) HR1.out ?_))
    iterate 19 go_step
    refine wpList_clear_eq rfl (.tmp 31) 103 rfl _ _ ?hs HR2.out ?_
    case hs => rfl
    go_wp2
    go_ret
    exact ⟨by rw [HL.out]; rfl, HO2.out, (Touch.refl _ w).drew.trans (ht1.trans ht2)⟩
  · go_enter Try.func57, Try.ntmps57
    go_wp2
    go_region_law ((refine step_append_eq (by rfl) (.tmp 22) (.tmp 25) 103 (by rfl) _ _ _ (by rfl) (by rfl) HR1.out ?_))
    iterate 19 go_step
    refine wpList_clear_eq rfl (.tmp 31) 103 rfl _ _ ?hs HR2.out ?_
    case hs => rfl
    go_wp2
    go_ret
    exact ⟨by rw [HL.out]; rfl, HO2.out, (Touch.refl _ w).drew.trans (ht1.trans ht2)⟩
theorem delete_files (w : World) (g cap : Nat) (l : List FileD) (i : Nat) (hi : i < l.length) (h : Owns w 112 (.slice (some ⟨g, 0, none⟩) l.length cap) l) (hl : l.length ≤ 100000) :
    Calls Try.prog 57 #[.slice (some ⟨g, 0, none⟩) l.length cap, .int .i64 (i : Int), .int .i64 ((i : Int) + 1)] w (FDeleted w 112 g cap (l.take i ++ l.drop (i + 1))) := by
  by_cases hc : cap = i + 1
  · exact delete_files_at w g cap l i hi _ h hl (.inl ⟨hc, rfl⟩)
  · exact delete_files_at w g cap l i hi _ h hl (.inr ⟨by simp [hc], rfl⟩)
theorem delete_files' (w : World) (ad : Addr) (cap : Nat) (l : List FileD) (i : Nat) (hi : i < l.length) (h : Owns w 112 (.slice (some ad) l.length cap) l) (hl : l.length ≤ 100000) :
    Calls Try.prog 57 #[.slice (some ad) l.length cap, .int .i64 (i : Int), .int .i64 ((i : Int) + 1)] w fun e w' =>
      ∃ n, n + 1 = l.length ∧ e = .returned (.slice (some ad) n cap) ∧ Owns w' 112 (.slice (some ad) n cap) (l.take i ++ l.drop (i + 1)) ∧ Touch (fun k => k = ad.block) w w' := by
  obtain ⟨g, rfl⟩ := h.some_form
  refine (delete_files w g cap l i hi h hl).mono fun e w' ⟨he, ho, ht⟩ => ?_
  have hll : (l.take i ++ l.drop (i + 1)).length = l.length - 1 := by simp; omega
  rw [hll] at he ho
  exact ⟨l.length - 1, by omega, he, ho, ht⟩



/-- Behind slices.Insert(s, i, x): the list, its own block or a new one. -/
def InsPost (w : World) (E : TypeId) (v : Value) (l : List FileD) (e : Ending) (w' : World) : Prop :=
  ∃ A c, e = .returned (.slice A l.length c) ∧ Owns w' E (.slice A l.length c) l ∧ Touch (fun k => v.ownBlock = some k) w w' ∧ ∀ k, (Value.slice A l.length c).ownBlock = some k → v.ownBlock = some k ∨ w.heap.size ≤ k

set_option maxHeartbeats 1000000 in
theorem insert_end (w : World) (A : Option Addr) (c : Nat) (l : List FileD) (h : Owns w 112 (.slice A l.length c) l) (hl : l.length ≤ 1000) (b : Nat) (x : FileD) (hb : w.heap[b]? = some (.cells x.cells 112 (0, 0))) :
    Calls Try.prog 89 #[.slice A l.length c, .int .i64 (l.length : Int), .slice (some ⟨b, 0, none⟩) 1 1] w (InsPost w 112 (.slice A l.length c) (l ++ [x])) := by
  obtain ⟨A', c', hv, hc, hcm, hr⟩ := h.form
  injection hv with hv1 hv2 hv3
  subst hv1; subst hv3
  have hblt : b < w.heap.size := (Array.getElem?_eq_some_iff.1 hb).1
  have H := Lib.hid h
  have HB := Lib.hid hb
  unfold maxLen at hcm
  have HL := Lib.hid (show (l ++ [x]).length = l.length + 1 by simp)
  have hN : l.length + 1 ≤ 1001 := by omega
  clear h hr hb
  by_cases hcl : c = l.length
  · subst hcl
    go_enter Try.func89, Try.ntmps89
    go_wp2_with (at_builtin
                 refine wpList_append_own' (by rfl) (.tmp 23) (.tmp 24) 103 (by rfl) elemFileF Try.underlying103 (v := _) (l := l) (by rfl) H.out [x] (by rfl) (l.length + 1) (by rfl) (by rfl) (reads_block HB.out w.heap.size hblt) (by simp; omega) ?_
                 intro A1 c1 w1 hown1 hgrow1 hat1
                 have HO1 := Lib.hid hown1
                 have HG1 := Lib.hid hgrow1
                 have HA1 := Lib.hid hat1
                 clear hown1 hgrow1 hat1)
    go_ret
    refine ⟨A1, c1, by rw [HL.out]; rfl, by rw [HL.out]; exact HO1.out, (Touch.refl _ w).grown HG1.out fun k hk => .inl hk, fun k hk => ?_⟩
    rw [HL.out] at hk
    rcases HA1.out with h | h
    · exact .inl (by rw [← h]; exact hk)
    · rw [h] at hk; injection hk with hk; exact .inr (by omega)
  · have hcl' : (c = l.length) = False := by simp [hcl]
    clear hcl
    go_enter Try.func89, Try.ntmps89
    go_wp2_with (at_builtin
                 refine wpList_append_own' (by rfl) (.tmp 23) (.tmp 24) 103 (by rfl) elemFileF Try.underlying103 (v := _) (l := l) (by rfl) H.out [x] (by rfl) (l.length + 1) (by rfl) (by rfl) (reads_block HB.out w.heap.size hblt) (by simp; omega) ?_
                 intro A1 c1 w1 hown1 hgrow1 hat1
                 have HO1 := Lib.hid hown1
                 have HG1 := Lib.hid hgrow1
                 have HA1 := Lib.hid hat1
                 clear hown1 hgrow1 hat1)
    go_ret
    refine ⟨A1, c1, by rw [HL.out]; rfl, by rw [HL.out]; exact HO1.out, (Touch.refl _ w).grown HG1.out fun k hk => .inl hk, fun k hk => ?_⟩
    rw [HL.out] at hk
    rcases HA1.out with h | h
    · exact .inl (by rw [← h]; exact hk)
    · rw [h] at hk; injection hk with hk; exact .inr (by omega)

set_option maxHeartbeats 1000000 in
set_option maxRecDepth 100000 in
theorem insert_room (w : World) (g c : Nat) (l : List FileD) (i : Nat) (hi : i < l.length) (hroom : l.length + 1 ≤ c) (h : Owns w 112 (.slice (some ⟨g, 0, none⟩) l.length c) l) (hl : l.length ≤ 1000) (b : Nat) (x : FileD)
    (hb : w.heap[b]? = some (.cells x.cells 112 (0, 0))) (hbg : b ≠ g) :
    Calls Try.prog 89 #[.slice (some ⟨g, 0, none⟩) l.length c, .int .i64 (i : Int), .slice (some ⟨b, 0, none⟩) 1 1] w (InsPost w 112 (.slice (some ⟨g, 0, none⟩) l.length c) (l.take i ++ x :: l.drop i)) := by
  rcases h.2 with ⟨hv, _⟩ | ⟨g', cap, cur, hv, _, hg, hnc, hcm, hcs, htake⟩
  · cases hv
  injection hv with e1 e2 e3
  injection e1 with e1
  injection e1 with e1
  subst e1; subst e3; clear e2
  have hS : Lies.size FileD = 2 := rfl
  rw [hS] at hcs htake
  have hread : ∀ (W : World), (∀ a, W.cell? a = w.cell? a) → ∀ j v, (flat (l.drop i))[j]? = some v → W.cell? ((⟨g, i * 2, none⟩ : Addr).add j) = some v := by
    intro W hW j v hj
    have hadd : (⟨g, i * 2, none⟩ : Addr).add j = ⟨g, i * 2 + j, none⟩ := by unfold Addr.add; split <;> simp_all
    rw [hW, hadd, cell_of hg]
    rw [← flat_drop, ← htake, List.getElem?_drop, List.getElem?_take] at hj
    split at hj
    · rw [hS] at hj; simpa using hj
    · cases hj
  have hlenC : cur.toList.length = c * 2 := by rw [Array.length_toList, hcs]
  have hfd : (flat (l.drop i)).length = (l.length - i) * 2 := by rw [length_flat, List.length_drop, hS]
  have hfx : (flat [x]).length = 2 := by rw [length_flat, hS]; rfl
  have hov : ∀ lb cb, (callFunc 107 #[.slice (some ⟨b, 0, none⟩) 1 1, .slice (some ⟨g, (i + 1) * 2, none⟩) lb cb]).run Try.prog w = .ok (.value (.bool false)) w := fun lb cb => by
    rw [run_callFunc_extern Try.func107 (by kernel_rfl) (by kernel_rfl) (by kernel_rfl) (e := Extern.SlicesOverlaps.overlaps #[103, 103] #[4]) (by kernel_rfl),
      Lib.run_overlaps_apart w 103 4 112 Try.underlying103 2 Try.sizeOf112 ⟨b, 0, none⟩ ⟨g, (i + 1) * 2, none⟩ 1 1 lb cb hbg 112 112 2 cur.size
        (by simp [World.shape?, hb]) (by simp [World.shape?, hg]) (by omega) (by simp [World.frozen?, hb]) (by simp [World.frozen?, hb])]
    rfl
  have hcp1 := fun ty dc sc (dl sl : Nat) (h1 : dl = l.length - i) (h2 : l.length - i ≤ sl) => run_copy_in (w := w.drew) elemFileF 103 ty Try.underlying103 (g := g) (o := (i + 1) * 2) (dLen := dl) (dCap := dc) (sLen := sl) (sCap := sc) (ad := ⟨g, i * 2, none⟩)
    (cur := cur.toList) (T := 112) hg (l.drop i) (by rw [List.length_drop]; simp only [Nat.min_def]; split <;> omega) (hread _ fun _ => rfl) (by rw [hfd, hlenC]; omega)
  obtain ⟨w2, hw2⟩ : ∃ w2, w2 = w.drew.setRow g (lay cur.toList ((i + 1) * 2) (flat (l.drop i))).toArray := ⟨_, rfl⟩
  have hg2 : w2.heap[g]? = some (.cells (lay cur.toList ((i + 1) * 2) (flat (l.drop i))).toArray 112 (0, 0)) := by rw [hw2]; exact setRow_heap _ _ _ _ _ _ hg
  have hb2 : w2.heap[b]? = some (.cells x.cells 112 (0, 0)) := by rw [hw2]; exact (setRow_other _ _ _ _ hbg).trans hb
  have ht2 : Touch (fun k => k = g) w w2 := by rw [hw2]; exact (Touch.refl (fun k => k = g) w).drew.setRow (g := g) (.inl rfl) _
  have hl2 : (lay cur.toList ((i + 1) * 2) (flat (l.drop i))).length = c * 2 := by rw [length_lay (by rw [hfd, hlenC]; omega), hlenC]
  rw [← hw2] at hcp1
  have hcp2 := fun ty dc (dl : Nat) (h1 : 1 ≤ dl) => run_copy_in (w := w2) elemFileF 103 ty Try.underlying103 (g := g) (o := i * 2) (dLen := dl) (dCap := dc) (sLen := 1) (sCap := 1) (ad := ⟨b, 0, none⟩)
    hg2 [x] (by simp only [List.length_cons, List.length_nil, Nat.min_def]; split <;> omega) (fun j v hj => by
      have hadd : (⟨b, 0, none⟩ : Addr).add j = ⟨b, j, none⟩ := by unfold Addr.add; split <;> simp_all
      rw [hadd, cell_of hb2]
      rw [flat_one, Array.getElem?_toList] at hj
      exact hj) (by rw [hfx, hl2]; omega)
  have hins := (lay_insert (Y := cur.toList) (l := l) (x := x) (i := i) (by omega) (by rw [hlenC, hS]; omega) (by
    rw [hS]
    have := congrArg (List.take (i * 2)) htake
    rw [List.take_take, Nat.min_eq_left (by omega)] at this
    rw [this, ← hS, flat_take])).2
  rw [hS] at hins
  obtain ⟨w3, hw3⟩ : ∃ w3, w3 = w2.setRow g (lay (lay cur.toList ((i + 1) * 2) (flat (l.drop i))) (i * 2) (flat [x])).toArray := ⟨_, rfl⟩
  have hg3 : w3.heap[g]? = some (.cells (lay (lay cur.toList ((i + 1) * 2) (flat (l.drop i))) (i * 2) (flat [x])).toArray 112 (0, 0)) := by rw [hw3]; exact setRow_heap _ _ _ _ _ _ hg2
  have ht3 : Touch (fun k => k = g) w w3 := by rw [hw3]; exact ht2.setRow (g := g) (.inl rfl) _
  rw [← hw3] at hcp2
  have hll : (l.take i ++ x :: l.drop i).length = l.length + 1 := by simp; omega
  have hown : Owns w3 112 (.slice (some ⟨g, 0, none⟩) (l.length + 1) c) (l.take i ++ x :: l.drop i) :=
    own_take_drop hg3 hll hroom hcm (by rw [List.size_toArray, length_lay (by rw [hl2, hfx]; omega), hl2]; rfl) (by rw [hS]; exact hins)
  have HOV := Lib.hid hov
  have HC1 := Lib.hid hcp1
  have HC2 := Lib.hid hcp2
  have HO := Lib.hid hown
  have HT := Lib.hid ht3
  have HLL := Lib.hid hll
  have hm := hcm
  unfold maxLen at hm
  have hc1 : (c = i + 1) = False := by simp; omega
  have hc0 : (c = i) = False := by simp; omega
  have hin : i ≤ l.length := by omega
  have hin2 : (i : Int) ≤ (l.length : Int) + 1 := by omega
  have hin3 : (i : Int) ≤ (l.length : Int) := by omega
  have hin4 : (i : Int) + 1 ≤ (l.length : Int) + 1 := by omega
  have hin5 : i + 1 ≤ l.length + 1 := by omega
  have hin6 : i + 1 ≤ c := by omega
  have hwi1 : IntKind.i64.wrap ((i : Int) + 1) = (i : Int) + 1 := by rw [IntKind.wrap_i64]; omega
  have hwi2 : ((i : Int) + 1).toNat = i + 1 := by omega
  have hne : ((i : Int) == (l.length : Int)) = false := beq_eq_false_iff_ne.2 (by omega)
  have hi1 : (0 : Int) ≤ (i : Int) + 1 := by omega
  clear hov hcp1 hcp2 hown ht3 hll hins hg3 hg2 hb2 ht2 hl2 hread hg hb hnc hcm hcs htake h hw2 hw3 hlenC hfd hfx
  go_enter Try.func89, Try.ntmps89
  go_wp2_with (simp only [HOV.out])
  go_region_law ((refine step_copy_eq (by rfl) (.tmp 73) (.tmp 76) 103 (by rfl) _ _ _ (by simp [Act.eval, Act.put]; first | done | exact ⟨rfl, rfl⟩) (by simp [Act.eval, Act.put]; first | done | exact ⟨rfl, rfl⟩) (HC1.out _ _ _ _ _ (by omega) (by omega)) ?_))
  iterate 16 go_step
  refine wpList_copy_eq rfl (.tmp 80) (.tmp 81) 103 rfl _ _ _ rfl rfl (HC2.out _ _ _ (by omega)) ?_
  go_wp2
  go_ret
  exact ⟨_, _, by rw [HLL.out]; rfl, by rw [HLL.out]; exact HO.out, HT.out.mono fun k hk => .inl (by subst hk; rfl), fun k hk => .inl hk⟩
end Go.Proofs.Ytalfbhhldfffkab
