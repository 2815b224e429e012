/- Files1: slices.Delete and slices.Insert of files. (And behind it: Files2, Files3, Files4, Files5, Files6, Files7, Files8, FilesBegun, FilesAll.) -/
import Derived.Test.YtalfbhhldfffkaaGreatDoorTypes
import Derived.Test.YtalfbhhldfffkaaGreatDoorGBasis
import Derived.Deep.RegionHeld3
import Derived.Deep.RegionLaw
import Derived.Test.YtalfbhhldfffkaaGreatDoorGCheck
import Derived.Test.YtalfbhhldfffkaaGreatDoorGPlain
set_option maxHeartbeats 8000000
set_option maxRecDepth 100000
namespace Go.Proofs.YtalfbhhldfffkaaGreatDoor
open Go.RowKit
def FDeleted {α : Type} [Lies α] (w : World) (E : TypeId) (g cap : Nat) (l : List α) (e : Ending) (w' : World) : Prop :=
 e = .returned (.slice (some ⟨g, 0, none⟩) l.length cap) /\ Owns w' E (.slice (some ⟨g, 0, none⟩) l.length cap) l /\ Touch (fun k => k = g) w w'
theorem delete_files_at (w : World) (g cap : Nat) (l : List FileD) (i : Nat) (hi : i < l.length) (A1 : Addr) (h : Owns w 217 (.slice (some ⟨g, 0, none⟩) l.length cap) l) (hl : l.length <= 100000)
 (hA1 : cap = i + 1 /\ A1 = ⟨g, 0, none⟩ \/ (cap = i + 1) = False /\ A1 = ⟨g, (i + 1) * 2, none⟩) :
 Calls Tryz.prog 161 #[.slice (some ⟨g, 0, none⟩) l.length cap, .int .i64 (i : Int), .int .i64 ((i : Int) + 1)] w (FDeleted w 217 g cap (l.take i ++ l.drop (i + 1))) := by
 obtain ⟨A, c, hv, hc, hcm, hr⟩ := h.form;injection hv with hv1 hv2 hv3;subst hv3;have hm := hcm;unfold maxLen at hm;have H := lh h;clear h hr hcm hv1 hv2;have hne : ((i : Int) == (i : Int) + 1) = false := bF (by omega);have hi1 : (i : Int) + 1 <= l.length := by omega
 have hic : i <= cap := by omega
 have hil : i + 1 <= l.length := by omega
 have hi0 : (0 : Int) <= (i : Int) + 1 := by omega
 obtain ⟨w1, hrun1, hown1, ht1⟩ := run_append_cut (w := w.drew) elemFileF 142 142 Tryz.underlying142 (c' := cap - (i + 1)) H.out i (i + 1) (by omega) (by omega) (A := some A1)
  (by rcases hA1 with ⟨h1, rfl⟩ | ⟨h1, rfl⟩ <;> simp [h1] <;> rfl)
 obtain ⟨n, hn⟩ : ∃ n, i + (l.length - (i + 1)) = n := ⟨_, rfl⟩
 rw [hn] at hrun1 hown1;have hn1 : n + 1 = l.length := by omega
 have HN := lh hn1;have hnc : n + 1 <= cap := by omega
 have hnl : n + 1 <= l.length := by omega
 clear hn hn1;have hll : (l.take i ++ l.drop (i + 1)).length = n := by simp; have := HN.out; omega
 have hown1' : Owns w1 217 (.slice (some ⟨g, 0, none⟩) (l.take i ++ l.drop (i + 1)).length cap) (l.take i ++ l.drop (i + 1)) := by rw [hll]; exact hown1
 obtain ⟨w2, hrun2, hown2, ht2⟩ := run_clear_tail elemFileF 142 0 Tryz.underlying142 (m := l.length - n) (c' := cap - n) hown1' (by rw [hll]; omega) rfl;rw [hll, if_neg (by omega), show (Lies.size FileD) = 2 from rfl] at hrun2;have HL := lh hll;have HO2 := lh hown2;have HR1 := lh hrun1;have HR2 := lh hrun2;clear hll hown2 hown1 hown1' hrun1 hrun2;rcases hA1 with ⟨h1, rfl⟩ | ⟨h1, rfl⟩
 ·subst h1;have hic2 : (i : Int) <= (i : Int) + 1 := by omega
  have HR1' := HR1.out;rw [show l.length - (i + 1) = 0 by omega, Nat.sub_self] at HR1';have HR1 := lh HR1';clear HR1';go_enter Tryz.func161, Tryz.ntmps161
  go_wp2
  go_region_law ((refine step_append_eq (by rfl) (.tmp 22) (.tmp 25) 142 (by rfl) _ _ _ (by rfl) (by rfl) HR1.out ?_))
  iterate 19 go_step
  refine wpList_clear_eq rfl (.tmp 31) 142 rfl _ _ ?hs HR2.out ?_
  case hs => rfl
  go_wp2
  go_ret
  exact ⟨by rw [HL.out]; rfl, HO2.out, (Touch.refl _ w).drew.trans (ht1.trans ht2)⟩
 ·go_enter Tryz.func161, Tryz.ntmps161
  go_wp2
  go_region_law ((refine step_append_eq (by rfl) (.tmp 22) (.tmp 25) 142 (by rfl) _ _ _ (by rfl) (by rfl) HR1.out ?_))
  iterate 19 go_step
  refine wpList_clear_eq rfl (.tmp 31) 142 rfl _ _ ?hs HR2.out ?_
  case hs => rfl
  go_wp2
  go_ret
  exact ⟨by rw [HL.out]; rfl, HO2.out, (Touch.refl _ w).drew.trans (ht1.trans ht2)⟩
theorem delete_files (w : World) (g cap : Nat) (l : List FileD) (i : Nat) (hi : i < l.length) (h : Owns w 217 (.slice (some ⟨g, 0, none⟩) l.length cap) l) (hl : l.length <= 100000) :
 Calls Tryz.prog 161 #[.slice (some ⟨g, 0, none⟩) l.length cap, .int .i64 (i : Int), .int .i64 ((i : Int) + 1)] w (FDeleted w 217 g cap (l.take i ++ l.drop (i + 1))) := by
 by_cases hc : cap = i + 1
 ·exact delete_files_at w g cap l i hi _ h hl (.inl ⟨hc, rfl⟩)
 ·exact delete_files_at w g cap l i hi _ h hl (.inr ⟨by simp [hc], rfl⟩)
theorem delete_files' (w : World) (ad : Addr) (cap : Nat) (l : List FileD) (i : Nat) (hi : i < l.length) (h : Owns w 217 (.slice (some ad) l.length cap) l) (hl : l.length <= 100000) :
 Calls Tryz.prog 161 #[.slice (some ad) l.length cap, .int .i64 (i : Int), .int .i64 ((i : Int) + 1)] w fun e w' =>
  ∃ n, n + 1 = l.length /\ e = .returned (.slice (some ad) n cap) /\ Owns w' 217 (.slice (some ad) n cap) (l.take i ++ l.drop (i + 1)) /\ Touch (fun k => k = ad.block) w w' := by
 obtain ⟨g, rfl⟩ := h.some_form;refine (delete_files w g cap l i hi h hl).mono fun e w' ⟨he, ho, ht⟩ => ?_;have hll : (l.take i ++ l.drop (i + 1)).length = l.length - 1 := by simp; omega
 rw [hll] at he ho;exact ⟨l.length - 1, by omega, he, ho, ht⟩
def InsPost (w : World) (E : TypeId) (v : Value) (l : List FileD) (e : Ending) (w' : World) : Prop :=
 ∃ A c, e = .returned (.slice A l.length c) /\ Owns w' E (.slice A l.length c) l /\ Touch (fun k => v.ownBlock = some k) w w' /\ ∀ k, (Value.slice A l.length c).ownBlock = some k -> v.ownBlock = some k \/ w.heap.size <= k
theorem insert_end (w : World) (A : Option Addr) (c : Nat) (l : List FileD) (h : Owns w 217 (.slice A l.length c) l) (hl : l.length <= 1000) (b : Nat) (x : FileD) (hb : w.heap[b]? = some (.cells x.cells 217 (0, 0))) :
 Calls Tryz.prog 176 #[.slice A l.length c, .int .i64 (l.length : Int), .slice (some ⟨b, 0, none⟩) 1 1] w (InsPost w 217 (.slice A l.length c) (l ++ [x])) := by
 obtain ⟨A', c', hv, hc, hcm, hr⟩ := h.form;injection hv with hv1 hv2 hv3;subst hv1; subst hv3;have hblt : b < w.heap.size := (aG hb).1;have H := lh h;have HB := lh hb;unfold maxLen at hcm;have HL := lh (show (l ++ [x]).length = l.length + 1 by simp);have hN : l.length + 1 <= 1001 := by omega
 clear h hr hb;by_cases hcl : c = l.length
 ·subst hcl;go_enter Tryz.func176, Tryz.ntmps176
  go_wp2_with (at_builtin
               refine wpList_append_own' (by rfl) (.tmp 23) (.tmp 24) 142 (by rfl) elemFileF Tryz.underlying142 (v := _) (l := l) (by rfl) H.out [x] (by rfl) (l.length + 1) (by rfl) (by rfl) (reads_block HB.out w.heap.size hblt) (by simp; omega) ?_;intro A1 c1 w1 hown1 hgrow1 hat1;have HO1 := lh hown1;have HG1 := lh hgrow1;have HA1 := lh hat1;clear hown1 hgrow1 hat1)
  go_ret
  refine ⟨A1, c1, by rw [HL.out]; rfl, by rw [HL.out]; exact HO1.out, (Touch.refl _ w).grown HG1.out fun k hk => .inl hk, fun k hk => ?_⟩;rw [HL.out] at hk;rcases HA1.out with h | h
  ·exact .inl (by rw [<- h]; exact hk)
  ·rw [h] at hk; injection hk with hk; exact .inr (by omega)
 ·have hcl' : (c = l.length) = False := by simp [hcl]
  clear hcl;go_enter Tryz.func176, Tryz.ntmps176
  go_wp2_with (at_builtin
               refine wpList_append_own' (by rfl) (.tmp 23) (.tmp 24) 142 (by rfl) elemFileF Tryz.underlying142 (v := _) (l := l) (by rfl) H.out [x] (by rfl) (l.length + 1) (by rfl) (by rfl) (reads_block HB.out w.heap.size hblt) (by simp; omega) ?_;intro A1 c1 w1 hown1 hgrow1 hat1;have HO1 := lh hown1;have HG1 := lh hgrow1;have HA1 := lh hat1;clear hown1 hgrow1 hat1)
  go_ret
  refine ⟨A1, c1, by rw [HL.out]; rfl, by rw [HL.out]; exact HO1.out, (Touch.refl _ w).grown HG1.out fun k hk => .inl hk, fun k hk => ?_⟩;rw [HL.out] at hk;rcases HA1.out with h | h
  ·exact .inl (by rw [<- h]; exact hk)
  ·rw [h] at hk; injection hk with hk; exact .inr (by omega)
theorem insert_room (w : World) (g c : Nat) (l : List FileD) (i : Nat) (hi : i < l.length) (hroom : l.length + 1 <= c) (h : Owns w 217 (.slice (some ⟨g, 0, none⟩) l.length c) l) (hl : l.length <= 1000) (b : Nat) (x : FileD)
 (hb : w.heap[b]? = some (.cells x.cells 217 (0, 0))) (hbg : b ≠ g) :
 Calls Tryz.prog 176 #[.slice (some ⟨g, 0, none⟩) l.length c, .int .i64 (i : Int), .slice (some ⟨b, 0, none⟩) 1 1] w (InsPost w 217 (.slice (some ⟨g, 0, none⟩) l.length c) (l.take i ++ x :: l.drop i)) := by
 rcases h.2 with ⟨hv, _⟩ | ⟨g', cap, cur, hv, _, hg, hnc, hcm, hcs, htake⟩
 ·cases hv
 injection hv with e1 e2 e3;injection e1 with e1;injection e1 with e1;subst e1; subst e3; clear e2;have hS : Lies.size FileD = 2 := rfl;rw [hS] at hcs htake
 have hread : ∀ (W : World), (∀ a, W.cell? a = w.cell? a) -> ∀ j v, (flat (l.drop i))[j]? = some v -> W.cell? ((⟨g, i * 2, none⟩ : Addr).add j) = some v := by
  intro W hW j v hj;have hadd : (⟨g, i * 2, none⟩ : Addr).add j = ⟨g, i * 2 + j, none⟩ := by unfold Addr.add; split <;> simp_all
  rw [hW, hadd, cell_of hg];rw [<- flat_drop, <- htake, List.getElem?_drop, List.getElem?_take] at hj;split at hj
  ·rw [hS] at hj; simpa using hj
  ·cases hj
 have hlenC : cur.toList.length = c * 2 := by rw [Array.length_toList, hcs]
 have hfd : (flat (l.drop i)).length = (l.length - i) * 2 := by rw [length_flat, List.length_drop, hS]
 have hfx : (flat [x]).length = 2 := by rw [length_flat, hS]; rfl
 have hov : ∀ lb cb, (callFunc 181 #[.slice (some ⟨b, 0, none⟩) 1 1, .slice (some ⟨g, (i + 1) * 2, none⟩) lb cb]).run Tryz.prog w = .ok (.value (.bool false)) w := fun lb cb => by
  rw [run_callFunc_extern Tryz.func181 (by kernel_rfl) (by kernel_rfl) (by kernel_rfl) (e := Extern.SlicesOverlaps.overlaps #[142, 142] #[4]) (by kernel_rfl),
   Lib.run_overlaps_apart w 142 4 217 Tryz.underlying142 2 Tryz.sizeOf217 ⟨b, 0, none⟩ ⟨g, (i + 1) * 2, none⟩ 1 1 lb cb hbg 217 217 2 cur.size
    (by simp [World.shape?, hb]) (by simp [World.shape?, hg]) (by omega) (by simp [World.frozen?, hb]) (by simp [World.frozen?, hb])]
  rfl
 have hcp1 := fun ty dc sc (dl sl : Nat) (h1 : dl = l.length - i) (h2 : l.length - i <= sl) => run_copy_in (w := w.drew) elemFileF 142 ty Tryz.underlying142 (g := g) (o := (i + 1) * 2) (dLen := dl) (dCap := dc) (sLen := sl) (sCap := sc) (ad := ⟨g, i * 2, none⟩)
  (cur := cur.toList) (T := 217) hg (l.drop i) (by rw [List.length_drop]; simp only [Nat.min_def]; split <;> omega) (hread _ fun _ => rfl) (by rw [hfd, hlenC]; omega)
 obtain ⟨w2, hw2⟩ : ∃ w2, w2 = w.drew.setRow g (lay cur.toList ((i + 1) * 2) (flat (l.drop i))).toArray := ⟨_, rfl⟩
 have hg2 : w2.heap[g]? = some (.cells (lay cur.toList ((i + 1) * 2) (flat (l.drop i))).toArray 217 (0, 0)) := by rw [hw2]; exact setRow_heap _ _ _ _ _ _ hg
 have hb2 : w2.heap[b]? = some (.cells x.cells 217 (0, 0)) := by rw [hw2]; exact (setRow_other _ _ _ _ hbg).trans hb
 have ht2 : Touch (fun k => k = g) w w2 := by rw [hw2]; exact (Touch.refl (fun k => k = g) w).drew.setRow (g := g) (.inl rfl) _
 have hl2 : (lay cur.toList ((i + 1) * 2) (flat (l.drop i))).length = c * 2 := by rw [length_lay (by rw [hfd, hlenC]; omega), hlenC]
 rw [<- hw2] at hcp1
 have hcp2 := fun ty dc (dl : Nat) (h1 : 1 <= dl) => run_copy_in (w := w2) elemFileF 142 ty Tryz.underlying142 (g := g) (o := i * 2) (dLen := dl) (dCap := dc) (sLen := 1) (sCap := 1) (ad := ⟨b, 0, none⟩)
  hg2 [x] (by simp only [List.length_cons, List.length_nil, Nat.min_def]; split <;> omega) (fun j v hj => by
   have hadd : (⟨b, 0, none⟩ : Addr).add j = ⟨b, j, none⟩ := by unfold Addr.add; split <;> simp_all
   rw [hadd, cell_of hb2];rw [flat_one, Array.getElem?_toList] at hj;exact hj) (by rw [hfx, hl2]; omega)
 have hins := (lay_insert (Y := cur.toList) (l := l) (x := x) (i := i) (by omega) (by rw [hlenC, hS]; omega) (by
  rw [hS];have := congrArg (List.take (i * 2)) htake;rw [List.take_take, Nat.min_eq_left (by omega)] at this;rw [this, <- hS, flat_take])).2
 rw [hS] at hins;obtain ⟨w3, hw3⟩ : ∃ w3, w3 = w2.setRow g (lay (lay cur.toList ((i + 1) * 2) (flat (l.drop i))) (i * 2) (flat [x])).toArray := ⟨_, rfl⟩
 have hg3 : w3.heap[g]? = some (.cells (lay (lay cur.toList ((i + 1) * 2) (flat (l.drop i))) (i * 2) (flat [x])).toArray 217 (0, 0)) := by rw [hw3]; exact setRow_heap _ _ _ _ _ _ hg2
 have ht3 : Touch (fun k => k = g) w w3 := by rw [hw3]; exact ht2.setRow (g := g) (.inl rfl) _
 rw [<- hw3] at hcp2;have hll : (l.take i ++ x :: l.drop i).length = l.length + 1 := by simp; omega
 have hown : Owns w3 217 (.slice (some ⟨g, 0, none⟩) (l.length + 1) c) (l.take i ++ x :: l.drop i) :=
  own_take_drop hg3 hll hroom hcm (by rw [List.size_toArray, length_lay (by rw [hl2, hfx]; omega), hl2]; rfl) (by rw [hS]; exact hins)
 have HOV := lh hov;have HC1 := lh hcp1;have HC2 := lh hcp2;have HO := lh hown;have HT := lh ht3;have HLL := lh hll;have hm := hcm;unfold maxLen at hm;have hc1 : (c = i + 1) = False := by simp; omega
 have hc0 : (c = i) = False := by simp; omega
 have hin : i <= l.length := by omega
 have hin2 : (i : Int) <= (l.length : Int) + 1 := by omega
 have hin3 : (i : Int) <= (l.length : Int) := by omega
 have hin4 : (i : Int) + 1 <= (l.length : Int) + 1 := by omega
 have hin5 : i + 1 <= l.length + 1 := by omega
 have hin6 : i + 1 <= c := by omega
 have hwi1 : IntKind.i64.wrap ((i : Int) + 1) = (i : Int) + 1 := by rw [IntKind.wrap_i64]; omega
 have hwi2 : ((i : Int) + 1).toNat = i + 1 := by omega
 have hne : ((i : Int) == (l.length : Int)) = false := bF (by omega);have hi1 : (0 : Int) <= (i : Int) + 1 := by omega
 clear hov hcp1 hcp2 hown ht3 hll hins hg3 hg2 hb2 ht2 hl2 hread hg hb hnc hcm hcs htake h hw2 hw3 hlenC hfd hfx;go_enter Tryz.func176, Tryz.ntmps176
 go_wp2_with (simp only [HOV.out])
 go_region_law ((refine step_copy_eq (by rfl) (.tmp 73) (.tmp 76) 142 (by rfl) _ _ _ (by simp [Act.eval, Act.put]; first | done | exact ⟨rfl, rfl⟩) (by simp [Act.eval, Act.put]; first | done | exact ⟨rfl, rfl⟩) (HC1.out _ _ _ _ _ (by omega) (by omega)) ?_))
 iterate 16 go_step
 refine wpList_copy_eq rfl (.tmp 80) (.tmp 81) 142 rfl _ _ _ rfl rfl (HC2.out _ _ _ (by omega)) ?_;go_wp2
 go_ret
 exact ⟨_, _, by rw [HLL.out]; rfl, by rw [HLL.out]; exact HO.out, HT.out.mono fun k hk => .inl (by subst hk; rfl), fun k hk => .inl hk⟩
theorem insert_grow (w : World) (g c : Nat) (l : List FileD) (i : Nat) (hi : i < l.length) (hroom : c < l.length + 1) (h : Owns w 217 (.slice (some ⟨g, 0, none⟩) l.length c) l) (hl : l.length <= 1000) (b : Nat) (x : FileD)
 (hb : w.heap[b]? = some (.cells x.cells 217 (0, 0))) :
 Calls Tryz.prog 176 #[.slice (some ⟨g, 0, none⟩) l.length c, .int .i64 (i : Int), .slice (some ⟨b, 0, none⟩) 1 1] w (InsPost w 217 (.slice (some ⟨g, 0, none⟩) l.length c) (l.take i ++ x :: l.drop i)) := by
 rcases h.2 with ⟨hv, _⟩ | ⟨g', cap, cur, hv, _, hg, hnc, hcm, hcs, htake⟩
 ·cases hv
 injection hv with e1 e2 e3;injection e1 with e1;injection e1 with e1;subst e1; subst e3; clear e2;have hS : Lies.size FileD = 2 := rfl;have hlt : g < w.heap.size := (aG hg).1;have hblt : b < w.heap.size := (aG hb).1;rw [hS] at hcs htake
 have hread0 : ∀ j v, (flat (l.take i))[j]? = some v -> w.cell? ((⟨g, 0, none⟩ : Addr).add j) = some v := by
  intro j v hj;have hadd : (⟨g, 0, none⟩ : Addr).add j = ⟨g, j, none⟩ := by unfold Addr.add; split <;> simp_all
  rw [hadd, cell_of hg];rw [<- flat_take, <- htake, List.getElem?_take] at hj;split at hj
  ·rw [List.getElem?_take] at hj;split at hj
   ·simpa using hj
   ·cases hj
  ·cases hj
 have hread : ∀ (W : World), W.heap[g]? = w.heap[g]? -> ∀ j v, (flat (l.drop i))[j]? = some v -> W.cell? ((⟨g, i * 2, none⟩ : Addr).add j) = some v := by
  intro W hW j v hj;have hadd : (⟨g, i * 2, none⟩ : Addr).add j = ⟨g, i * 2 + j, none⟩ := by unfold Addr.add; split <;> simp_all
  rw [hadd, cell_of (hW.trans hg)];rw [<- flat_drop, <- htake, List.getElem?_drop, List.getElem?_take] at hj;split at hj
  ·rw [hS] at hj; simpa using hj
  ·cases hj
 have hfd : (flat (l.drop i)).length = (l.length - i) * 2 := by rw [length_flat, List.length_drop, hS]
 have hft : (flat (l.take i)).length = i * 2 := by rw [length_flat, List.length_take, hS, Nat.min_eq_left (by omega)]
 have hfx : (flat [x]).length = 2 := by rw [length_flat, hS]; rfl
 obtain ⟨Y, c1, hap, hc1, hcm1, hY⟩ := run_append_zeros (w := w) elemFileF 142 3 142 Tryz.underlying142 Tryz.underlying3 (b := ⟨g, 0, none⟩) (sLen := i) (cap := c) (k := l.length + 1 - i) (l.take i)
  (by rw [List.length_take, Nat.min_eq_left (by omega)]) hread0 (by omega) (by omega) (by omega)
 rw [show ((l.length + 1 - i : Nat) : Int) = (l.length : Int) + 1 - (i : Int) by omega, show i + (l.length + 1 - i) = l.length + 1 by omega] at hap;rw [show i + (l.length + 1 - i) = l.length + 1 by omega] at hc1;rw [hS] at hY;obtain ⟨w1, hw1⟩ : ∃ w1, w1 = w.drew.alloc (.cells (flat (l.take i) ++ Y).toArray 217) := ⟨_, rfl⟩
 obtain ⟨H, hH⟩ : ∃ H, H = w.heap.size := ⟨_, rfl⟩
 have hg1 : w1.heap[H]? = some (.cells (flat (l.take i) ++ Y).toArray 217 (0, 0)) := by rw [hw1, hH]; exact heap_alloc_new w.drew _
 have hb1 : w1.heap[b]? = some (.cells x.cells 217 (0, 0)) := by rw [hw1]; exact (Below.heap_alloc w.drew _ _ hblt).trans hb
 have hgg1 : w1.heap[g]? = w.heap[g]? := by rw [hw1]; exact Below.heap_alloc w.drew _ _ hlt
 have ht1 : Ext w w1 := by rw [hw1]; exact (Touch.refl _ w).drew.alloc _
 rw [<- hw1, <- hH] at hap
 have hcp1 := fun ty dc (dl : Nat) (h1 : 1 <= dl) => run_copy_in (w := w1) elemFileF 142 ty Tryz.underlying142 (g := H) (o := i * 2) (dLen := dl) (dCap := dc) (sLen := 1) (sCap := 1) (ad := ⟨b, 0, none⟩)
  hg1 [x] (by simp only [List.length_cons, List.length_nil, Nat.min_def]; split <;> omega) (fun j v hj => by
   have hadd : (⟨b, 0, none⟩ : Addr).add j = ⟨b, j, none⟩ := by unfold Addr.add; split <;> simp_all
   rw [hadd, cell_of hb1];rw [flat_one, Array.getElem?_toList] at hj;exact hj) (by rw [hfx, hY]; omega)
 obtain ⟨w2, hw2⟩ : ∃ w2, w2 = w1.setRow H (lay (flat (l.take i) ++ Y) (i * 2) (flat [x])).toArray := ⟨_, rfl⟩
 have hg2 : w2.drew.heap[H]? = some (.cells (lay (flat (l.take i) ++ Y) (i * 2) (flat [x])).toArray 217 (0, 0)) := by rw [hw2]; exact setRow_heap _ _ _ _ _ _ hg1
 have hgg2 : w2.drew.heap[g]? = w.heap[g]? := by rw [hw2]; exact (setRow_other _ _ _ _ (by omega)).trans hgg1
 have hl2 : (lay (flat (l.take i) ++ Y) (i * 2) (flat [x])).length = c1 * 2 := by rw [length_lay (by rw [hfx, hY]; omega), hY]
 have ht2 : Ext w w2 := by rw [hw2]; exact ht1.setRow (.inr (by omega)) _
 rw [<- hw2] at hcp1
 have hcp2 := fun ty dc sc (dl sl : Nat) (h1 : dl = l.length - i) (h2 : sl = l.length - i) => run_copy_in (w := w2.drew) elemFileF 142 ty Tryz.underlying142 (g := H) (o := (i + 1) * 2) (dLen := dl) (dCap := dc) (sLen := sl) (sCap := sc) (ad := ⟨g, i * 2, none⟩)
  hg2 (l.drop i) (by rw [List.length_drop]; simp only [Nat.min_def]; split <;> omega) (hread _ hgg2) (by rw [hfd, hl2]; omega)
 have hins := (lay_insert (Y := flat (l.take i) ++ Y) (l := l) (x := x) (i := i) (by omega) (by rw [hY, hS]; omega) (by rw [hS, <- hft, List.take_left])).1;rw [hS] at hins;obtain ⟨w3, hw3⟩ : ∃ w3, w3 = w2.drew.setRow H (lay (lay (flat (l.take i) ++ Y) (i * 2) (flat [x])) ((i + 1) * 2) (flat (l.drop i))).toArray := ⟨_, rfl⟩
 have hg3 : w3.heap[H]? = some (.cells (lay (lay (flat (l.take i) ++ Y) (i * 2) (flat [x])) ((i + 1) * 2) (flat (l.drop i))).toArray 217 (0, 0)) := by rw [hw3]; exact setRow_heap _ _ _ _ _ _ hg2
 have ht3 : Ext w w3 := by rw [hw3]; exact ht2.drew.setRow (.inr (by omega)) _
 rw [<- hw3] at hcp2;have hll : (l.take i ++ x :: l.drop i).length = l.length + 1 := by simp; omega
 have hown : Owns w3 217 (.slice (some ⟨H, 0, none⟩) (l.length + 1) c1) (l.take i ++ x :: l.drop i) :=
  own_take_drop hg3 hll hc1 hcm1 (by rw [List.size_toArray, length_lay (by rw [hl2, hfd]; omega), hl2]; rfl) (by rw [hS]; exact hins)
 have HAP := lh hap;have HC1 := lh hcp1;have HC2 := lh hcp2;have HO := lh hown;have HT := lh ht3;have HLL := lh hll;have HHH := lh hH;have hm := hcm;unfold maxLen at hm;unfold maxLen at hcm1;have hci1 : (c1 = i + 1) = False := by simp; omega
 have hci0 : (c1 = i) = False := by simp; omega
 have hci2 : (c = i) = False := by simp; omega
 have hin : i <= l.length := by omega
 have hin0 : i <= c := by omega
 have hin2 : (i : Int) <= (l.length : Int) + 1 := by omega
 have hin3 : (i : Int) <= (l.length : Int) := by omega
 have hin4 : (i : Int) + 1 <= (l.length : Int) + 1 := by omega
 have hin5 : i + 1 <= l.length + 1 := by omega
 have hin6 : i + 1 <= c1 := by omega
 have hin7 : (c : Int) < (l.length : Int) + 1 := by omega
 have hwi1 : IntKind.i64.wrap ((i : Int) + 1) = (i : Int) + 1 := by rw [IntKind.wrap_i64]; omega
 have hwi2 : ((i : Int) + 1).toNat = i + 1 := by omega
 have hne : ((i : Int) == (l.length : Int)) = false := bF (by omega);have hi1 : (0 : Int) <= (i : Int) + 1 := by omega
 clear hap hcp1 hcp2 hown ht3 hll hins hg3 hg2 hb1 ht2 hl2 hread hread0 hg hb hcs htake h hw1 hw2 hw3 hfd hfx hft hY hg1 hgg1 hgg2 ht1 hH;go_enter Tryz.func176, Tryz.ntmps176
 go_wp2_with (first
  | (at_builtin; refine wpList_append_eq2 rfl (.tmp 34) (.tmp 39) 142 3 rfl _ _ _ rfl rfl HAP.out ?_)
  | (refine wpList_copy_eq rfl (.tmp 43) (.tmp 44) 142 rfl _ _ _ rfl rfl (HC1.out _ _ _ (by omega)) ?_))
 go_region_law ((refine step_copy_eq (by rfl) (.tmp 50) (.tmp 53) 142 (by rfl) _ _ _ (by simp [Act.eval, Act.put]; first | done | exact ⟨rfl, rfl⟩) (by simp [Act.eval, Act.put]; first | done | exact ⟨rfl, rfl⟩) (HC2.out _ _ _ _ _ (by omega) (by omega)) ?_))
 go_wp2
 go_ret
 exact ⟨_, _, by rw [HLL.out]; rfl, by rw [HLL.out]; exact HO.out, HT.out.mono fun k hk => hk.elim, fun k hk => .inr (by simp [Value.ownBlock] at hk; have := HHH.out; omega)⟩
theorem insert_files (w : World) (A : Option Addr) (c : Nat) (l : List FileD) (i : Nat) (hi : i <= l.length) (h : Owns w 217 (.slice A l.length c) l) (hl : l.length <= 1000) (b : Nat) (x : FileD)
 (hb : w.heap[b]? = some (.cells x.cells 217 (0, 0))) (hbg : (Value.slice A l.length c).ownBlock ≠ some b) :
 Calls Tryz.prog 176 #[.slice A l.length c, .int .i64 (i : Int), .slice (some ⟨b, 0, none⟩) 1 1] w (InsPost w 217 (.slice A l.length c) (l.take i ++ x :: l.drop i)) := by
 by_cases he : i = l.length
 ·subst he;rw [List.take_length, List.drop_length];exact insert_end w A c l h hl b x hb
 ·rcases A with _ | ad
  ·have := h.none_nil;subst this;exact absurd (Nat.le_zero.1 hi) he
  ·obtain ⟨g, rfl⟩ := h.some_form;by_cases hroom : l.length + 1 <= c
   ·exact insert_room w g c l i (by omega) hroom h hl b x hb (fun e => hbg (by subst e; rfl))
   ·exact insert_grow w g c l i (by omega) (by omega) h hl b x hb
theorem files_cmp (w : World) (x : FileD) (s : ByteArray) : Calls Tryz.prog 174 #[.agg x.cells, .string s] w fun e w' => e = .returned (.int .i64 (cmp3 x.name s)) /\ Ext w w' := by
 go_enter Tryz.func174, Tryz.ntmps174
 go_wp2_with (go_at_call 175; refine (compare_names x.name s _).mono ?_; rintro e w' ⟨rfl, rfl⟩)
 go_ret
 exact ⟨rfl, (Touch.refl _ w).alloc _⟩
theorem ret_cell {α : Type} [Lies α] {P : Program} {fn : Func} {p : Tmp} {ty : TypeId} (h : fn.results = #[.cell p ty]) (ht : IsType P ty α) {R : Ending -> World -> Prop} {a : Act} {w : World} (b : Nat) (r : α) {T : TypeId} {fr : Nat × Nat} (hp : a.tmps.getD p undef = .pointer (some ⟨b, 0, none⟩)) (hb : w.heap[b]? = some (.cells (Lies.cells r) T fr)) (hd : a.defers = [])
 (hR : R (.returned (.agg (Lies.cells r))) w) : bodyPost P fn R (.ret) a w :=
 bodyPost_ret (results_cell h _ _ ⟨b, 0, none⟩ (.agg (Lies.cells r)) hp (load_block (x := r) ht hb)) hd hR
theorem files_no (w : World) (k : Int) : Calls Tryz.prog 157 #[.int .i64 k] w fun e w' => e = .returned (.agg (ans k).cells) /\ Ext w w' := by
 go_enter Tryz.func157, Tryz.ntmps157
 go_wp2
 exact ret_cell rfl isAnswer w.heap.size (ans k) rfl (heap_alloc_new _ _) rfl ⟨rfl, (Touch.refl _ w).alloc _⟩
def SrchRel (w : World) (l : List FileD) (s : ByteArray) (a b : Value) (wr : World) : Prop :=
 ∃ lo hi : Nat, a = .int .i64 lo /\ b = .int .i64 hi /\ lo <= hi /\ hi <= l.length /\ (∀ (j : Nat) f, j < lo -> l[j]? = some f -> bless f.name s = true) /\ (∀ (j : Nat) f, hi <= j -> l[j]? = some f -> bless f.name s = false) /\ Ext w wr
def SrchPost (w : World) (l : List FileD) (s : ByteArray) (e : Ending) (w' : World) : Prop :=
 e = .returned (.tuple #[.int .i64 (pos l s), .bool (dAt l s).isSome]) /\ Ext w w'
theorem found_at {l : List FileD} (hs : Sorted l) {s : ByteArray} {f : FileD} (hf : l[pos l s]? = some f) : (dAt l s).isSome = decide (f.name = s) := by
 by_cases h : f.name = s
 ·have := dAt_of hs.names hf;rw [h] at this;rw [this, decide_eq_true h]; rfl
 ·rw [decide_eq_false h];cases hd : dAt l s with
  | none => rfl
  | some i =>
    obtain ⟨f', hf', hn, _⟩ := dAt_some hd;rw [pos_at hs hd, hf'] at hf;injection hf with hf; subst hf;exact absurd hn h
theorem found_no {l : List FileD} (hs : Sorted l) {s : ByteArray} (h : pos l s = l.length) : (dAt l s).isSome = false := by
 cases hd : dAt l s with
 | none => rfl
 | some i =>
   obtain ⟨f', hf', hn, hi⟩ := dAt_some hd;rw [pos_at hs hd] at h; omega
theorem files_search (w : World) (A : Option Addr) (c : Nat) (l : List FileD) (s : ByteArray) (hr : Reads w w.heap.size A l) (hs : Sorted l) (hl : l.length <= 1000) :
 Calls Tryz.prog 173 #[.slice A l.length c, .string s, .func (.func 174) #[] #[]] w (SrchPost w l s) := by
 have HR := lh hr;have HS := lh hs;clear hr hs;go_enter Tryz.func173, Tryz.ntmps173
 go_wp2
 go_loopw [9, 10] (fun a b wr => SrchRel w l s a b wr) (fun a b _ => (intOf b).toNat - (intOf a).toNat)
 case atStart => exact ⟨0, l.length, rfl, rfl, Nat.zero_le _, Nat.le_refl _, fun j f hj => by omega, fun j f hj hf => by have := (lG hf).1; omega, Touch.refl _ w⟩
 case round =>
  obtain ⟨lo, hi, rfl, rfl, hlh, hhl, hlo, hhi, hx⟩ := hrel;have HLO := lh hlo;have HHI := lh hhi;have HX := lh hx;clear hlo hhi hx;by_cases hlt : lo < hi
  ·have hm : (lo + hi) / 2 < l.length := by omega
   obtain ⟨f, hf⟩ : ∃ f, l[(lo + hi) / 2]? = some f := ⟨l[(lo + hi) / 2], by simp [hm]⟩
   obtain ⟨ad, rfl, hb, hat⟩ := HR.out _ f hf;have hLV : LV Tryz.prog 217 (ad.add ((lo + hi) / 2 * 2)) wr = .ok (.agg f.cells) wr := LV_FileF ((hat.of_same (w' := wr) (by rw [show (ad.add ((lo + hi) / 2 * Lies.size FileD)).block = ad.block by unfold Addr.add; split <;> rfl]; exact HX.out.block _ hb id)));have HF := lh hf;clear hf hat
   have hin0 : (0 : Int) <= ((lo : Int) + (hi : Int)) / 2 := by omega
   by_cases hc : cmp3 f.name s < 0
   ·go_wp2_with (go_at_call 174; refine (files_cmp _ f s).mono ?_; rintro e w' ⟨rfl, hx'⟩; have HX' := lh hx'; clear hx')
    go_roundw
    case rel =>
     refine ⟨(lo + hi) / 2 + 1, hi, by rw [show ((lo : Int) + (hi : Int)) / 2 + 1 = (((lo + hi) / 2 + 1 : Nat) : Int) by omega], rfl, by omega, hhl, fun j f' hj hf' => ?_, HHI.out, HX.out.trans HX'.out⟩;have hb1 : bless f.name s = true := by rw [<- cmp3_less]; exact hc
     by_cases hj1 : j = (lo + hi) / 2
     ·rw [hj1, HF.out] at hf'; injection hf' with hf'; subst hf'; exact hb1
     ·obtain ⟨h1, e1⟩ := lG hf';obtain ⟨h2, e2⟩ := lG HF.out;exact bless_trans (by rw [<- e1, <- e2]; exact List.pairwise_iff_getElem.1 HS.out j ((lo + hi) / 2) h1 h2 (by omega)) hb1
    case measure => simp [intOf]; omega
   ·have hc' : 0 <= cmp3 f.name s := by omega
    go_wp2_with (go_at_call 174; refine (files_cmp _ f s).mono ?_; rintro e w' ⟨rfl, hx'⟩; have HX' := lh hx'; clear hx')
    go_roundw
    case rel =>
     refine ⟨lo, (lo + hi) / 2, rfl, by rw [show ((lo : Int) + (hi : Int)) / 2 = (((lo + hi) / 2 : Nat) : Int) by omega], by omega, by omega, HLO.out, fun j f' hj hf' => ?_, HX.out.trans HX'.out⟩
     have hb1 : bless f.name s = false := by cases hb : bless f.name s with
      | false => rfl
      | true => rw [<- cmp3_less] at hb; omega
     cases hb : bless f'.name s with
     | false => rfl
     | true =>
       obtain ⟨h1, e1⟩ := lG hf';obtain ⟨h2, e2⟩ := lG HF.out;by_cases hj1 : j = (lo + hi) / 2
       ·rw [hj1, HF.out] at hf'; injection hf' with hf'; subst hf'; rw [hb1] at hb; cases hb
       ·have := bless_trans (a := f.name) (b := f'.name) (by rw [<- e1, <- e2]; exact List.pairwise_iff_getElem.1 HS.out ((lo + hi) / 2) j h2 h1 (by omega)) hb;rw [hb1] at this; cases this
    case measure => simp [intOf]; omega
  ·obtain rfl : hi = lo := by omega
   have HP := lh (pos_of (by omega) HLO.out HHI.out : hi = pos l s);by_cases hn : hi < l.length
   ·obtain ⟨f, hf⟩ : ∃ f, l[hi]? = some f := ⟨l[hi], by simp [hn]⟩
    obtain ⟨ad, rfl, hb, hat⟩ := HR.out _ f hf;have hLV : LV Tryz.prog 217 (ad.add (hi * 2)) wr = .ok (.agg f.cells) wr := LV_FileF ((hat.of_same (w' := wr) (by rw [show (ad.add (hi * Lies.size FileD)).block = ad.block by unfold Addr.add; split <;> rfl]; exact HX.out.block _ hb id)));have HF := lh hf;clear hf hat
    by_cases hc : cmp3 f.name s = 0
    ·have hc1 : (cmp3 f.name s == 0) = true := by simp [hc]
     go_wp2_with (go_at_call 174; refine (files_cmp _ f s).mono ?_; rintro e w' ⟨rfl, hx'⟩; have HX' := lh hx'; clear hx')
     go_ret2
     refine ⟨?_, HX.out.trans HX'.out⟩;rw [found_at HS.out (f := f) (by rw [<- HP.out]; exact HF.out), <- HP.out, decide_eq_true (by rw [<- cmp3_same]; exact hc)];rfl
    ·have hc1 : (cmp3 f.name s == 0) = false := by simp [hc]
     go_wp2_with (go_at_call 174; refine (files_cmp _ f s).mono ?_; rintro e w' ⟨rfl, hx'⟩; have HX' := lh hx'; clear hx')
     go_ret2
     refine ⟨?_, HX.out.trans HX'.out⟩;rw [found_at HS.out (f := f) (by rw [<- HP.out]; exact HF.out), <- HP.out, decide_eq_false (by rw [<- cmp3_same]; exact hc)];rfl
   ·go_wp2
    go_ret2
    refine ⟨?_, HX.out⟩;rw [found_no HS.out (by rw [<- HP.out]; omega), <- HP.out];rfl
theorem files_new (w : World) : Calls Tryz.prog 46 #[] w fun e w' => e = .returned (.pointer (some ⟨w.heap.size, 0, none⟩)) /\ w' = w.alloc (.cells #[.slice none 0 0] 144) := by
 go_enter Tryz.func46, Tryz.ntmps46
 go_wp2
 go_ret
 exact ⟨rfl, rfl⟩
theorem files_find (w : World) (g : Nat) (v : Value) (l : List FileD) (s : ByteArray) (h : Holds w g 144 217 v l) (hs : Sorted l) (hl : l.length <= 1000) :
 Calls Tryz.prog 159 #[.pointer (some ⟨g, 0, none⟩), .string s] w (SrchPost w l s) := by
 obtain ⟨A, c, rfl, hc, hcm, hr⟩ := h.own.form;have hc0 := cell_of h.cell 0;have HR := lh hr;have HS := lh hs;clear h hr hs;go_enter Tryz.func159, Tryz.ntmps159
 go_wp2_with (go_at_call 173; refine (files_search w A c l s HR.out HS.out hl).mono ?_; rintro e w' ⟨rfl, hx⟩; have HX := lh hx; clear hx)
 go_ret2
 exact ⟨rfl, HX.out⟩
def NamesRel (w : World) (l : List FileD) (out i : Value) (wr : World) : Prop :=
 ∃ (k : Nat) (A1 : Option Addr) (c1 : Nat), i = .int .i64 k /\ k <= l.length /\ out = .slice A1 k c1 /\ Owns wr 9 (.slice A1 k c1) ((l.take k).map (·.name)) /\ Ext w wr /\ ∀ q, (Value.slice A1 k c1).ownBlock = some q -> w.heap.size <= q
theorem files_names (w : World) (g : Nat) (v : Value) (l : List FileD) (h : Holds w g 144 217 v l) (hl : l.length <= 1000) :
 Calls Tryz.prog 158 #[.pointer (some ⟨g, 0, none⟩)] w (NewList w 9 (l.map (·.name))) := by
 obtain ⟨A, c, rfl, hc, hcm, hr⟩ := h.own.form;have hc0 := cell_of h.cell 0;have HR := lh hr;clear h hr;go_enter Tryz.func158, Tryz.ntmps158
 go_wp2
 go_loopw [3, 11] (fun out i wr => NamesRel w l out i wr) (fun _ i _ => l.length - (intOf i).toNat)
 case atStart => exact ⟨0, none, 0, rfl, Nat.zero_le _, rfl, Owns.nil _ _, Touch.refl _ w, fun k hk => by simp [Value.ownBlock] at hk⟩
 case round =>
  obtain ⟨k, A1, c1, rfl, hk, rfl, ho, hx, hf⟩ := hrel;have HO := lh ho;have HX := lh hx;have HB := lh hf;clear ho hx hf;by_cases hlt : k < l.length
  ·obtain ⟨f, hf⟩ : ∃ f, l[k]? = some f := ⟨l[k], by simp [hlt]⟩
   obtain ⟨ad, rfl, hb, hat⟩ := HR.out _ f hf;have hLV : LV Tryz.prog 217 (ad.add (k * 2)) wr = .ok (.agg f.cells) wr := LV_FileF ((hat.of_same (w' := wr) (by rw [show (ad.add (k * Lies.size FileD)).block = ad.block by unfold Addr.add; split <;> rfl]; exact HX.out.block _ hb id)));have HF := lh hf;clear hf hat
   go_wp2_with (at_builtin
                go_loud (refine wpList_append_own' (by rfl) (.tmp 15) (.tmp 18) 22 (by rfl) elemString Tryz.underlying22 (v := _) (l := (l.take k).map (·.name)) (by rfl) ((HO.out.ext ((Touch.refl _ wr).alloc _)).ext ((Touch.refl _ _).alloc _)) [f.name] (by rfl) (k + 1) (by simp; omega) (by rfl) (reads_block (x := f.name) (b := wr.heap.size + 1) (by simp only [heap_alloc_at, World.size_alloc]; rfl) (wr.heap.size + 2) (by omega)) (by simp; omega) ?_)
                intro A2 c2 w2 hown2 hgrow2 hat2;have HO2 := lh hown2;have HG2 := lh hgrow2;have HA2 := lh hat2;clear hown2 hgrow2 hat2)
   go_roundw
   case rel =>
    have hsub : (l.take k).map (·.name) ++ [f.name] = (l.take (k + 1)).map (·.name) := by rw [List.take_add_one, HF.out]; simp
    refine ⟨k + 1, A2, c2, by go_num, by omega, rfl, by rw [<- hsub]; exact HO2.out, ?_, fun q hq => ?_⟩
    ·exact ((HX.out.alloc _).alloc _).grown HG2.out fun q hq => .inr (HB.out q hq)
    ·rcases HA2.out with h | h
     ·rw [h] at hq; exact HB.out q hq
     ·rw [h] at hq; injection hq with hq; have := HX.out.size; simp at hq; omega
   case measure => simp [intOf]; omega
  ·obtain rfl : k = l.length := by omega
   go_wp2
   go_ret
   have HO' := HO.out;rw [List.take_length] at HO';exact ⟨A1, c1, by rw [List.length_map]; rfl, by rw [List.length_map]; exact HO', HX.out, by rw [List.length_map]; exact HB.out⟩
theorem insert_at (w : World) (A : Option Addr) (c : Nat) (l : List FileD) (x : FileD) (h : Owns w 217 (.slice A l.length c) l) (hl : l.length <= 1000) (b : Nat)
 (hb : w.heap[b]? = some (.cells x.cells 217 (0, 0))) (hbg : (Value.slice A l.length c).ownBlock ≠ some b) :
 Calls Tryz.prog 176 #[.slice A l.length c, .int .i64 (pos l x.name : Int), .slice (some ⟨b, 0, none⟩) 1 1] w (InsPost w 217 (.slice A l.length c) (insAt l x)) :=
 insert_files w A c l (pos l x.name) (pos_le _ _) h hl b x hb hbg
theorem file_all (x : FileD) (T : TypeId) (fr : Nat × Nat) : objPart 0 2 (some (.cells x.cells T fr)) = some x.cells := by rw [objPart_cells 0 2 x.cells T fr (by simp)]; rw [x.ext_all]
def AddPost (w : World) (g : Nat) (F : Nat -> Prop) (l : List FileD) (x : FileD) (e : Ending) (w' : World) : Prop :=
 e = .returned (.agg (ans (if (dAt l x.name).isSome then 5 else 0)).cells) /\ Moved (repHolds g 144 217) w F (if (dAt l x.name).isSome then l else insAt l x) w'
theorem files_add (w : World) (g : Nat) (F : Nat -> Prop) (l : List FileD) (x : FileD) (h : (repHolds g 144 217).on w F l) (hs : Sorted l) (hl : l.length <= 999) :
 Calls Tryz.prog 160 #[.pointer (some ⟨g, 0, none⟩), .agg x.cells] w (AddPost w g F l x) := by
 have HR := lh h;obtain ⟨v, hF, hh⟩ := h;obtain ⟨A, c, rfl, hc, hcm, hr⟩ := hh.own.form;have hlt := hh.lt;have H := lh hh;have HS := lh hs;have HF := lh hF;have hg1 : (w.heap.size = g) = False := by simp; omega
 have hg2 : (w.heap.size + 1 = g) = False := by simp; omega
 clear hr hs hh hF;cases hd : (dAt l x.name).isSome with
 | true =>
   have HD := lh hd;go_enter Tryz.func160, Tryz.ntmps160
   go_wp2_with (first
    | (go_at_call 159
       refine (files_find _ g _ l x.name (H.out.ext (((Touch.refl _ w).alloc _).alloc _)) HS.out (by omega)).mono ?_;rintro e w1 ⟨rfl, hx1⟩;have hbr := hx1.blk (b := w.heap.size + 1) (o := .cells Answer.zero.cells 101 (0, 0)) (by simp only [heap_alloc_at, World.size_alloc]) id;have HX1 := lh hx1;clear hx1)
    | (go_at_call 157
       refine (files_no _ 5).mono ?_;rintro e w2 ⟨rfl, hx2⟩;have hbr2 := hx2.blk (b := w.heap.size + 1) hbr id;have HX2 := lh hx2;clear hx2))
   refine ret_cell rfl isAnswer (w.heap.size + 1) (ans 5) rfl (setRow_heap _ _ _ _ _ _ hbr2) rfl ?_;unfold AddPost;rw [HD.out];exact ⟨rfl, Rep.moved HR.out (((((Touch.refl _ w).alloc _).alloc _).trans HX1.out).trans HX2.out |>.setRow (.inr (by omega)) _)⟩
 | false =>
   have HD := lh hd;go_enter Tryz.func160, Tryz.ntmps160
   go_wp2_with (first | (go_at_call 159
                         refine (files_find _ g _ l x.name (H.out.ext (((Touch.refl _ w).alloc _).alloc _)) HS.out (by omega)).mono ?_;rintro e w1 ⟨rfl, hx1⟩;have hbr := hx1.blk (b := w.heap.size + 1) (o := .cells Answer.zero.cells 101 (0, 0)) (by simp only [heap_alloc_at, World.size_alloc]) id;have hbx := hx1.blk (b := w.heap.size) (o := .cells x.cells 217 (0, 0)) (by simp only [heap_alloc_past, heap_alloc_at, World.size_alloc, Nat.lt_add_one]) id;have hbg := (((Touch.refl (fun _ => False) w).alloc (.cells x.cells 217)).alloc (.cells Answer.zero.cells 101)).trans hx1;have hbg := hbg.blk H.out.cell id;have hc1 := cell_of hbg 0;have HX1 := lh hx1;clear hx1))
   have HBG := lh hbg;have hw1 : w.heap.size + 2 <= w1.heap.size := by have := HX1.out.size; simpa using this
   have HNE := lh (H.out.own.elem H.out.cell (by decide));have hown1 := lh (H.out.own.ext ((((Touch.refl (fun _ => False) w).alloc (.cells x.cells 217)).alloc (.cells Answer.zero.cells 101)).trans HX1.out));have hbxx : objPart 0 2 (w1.heap[w.heap.size]?) = some x.cells := by rw [hbx]; exact file_all x _ _
   have hlt1 : w.heap.size < w1.heap.size := by omega
   have hg3 : (g = w.heap.size) = False := by simp; omega
   have hg4 : (w1.heap.size = g) = False := by simp; omega
   have hltg : g < w1.heap.size := by omega
   obtain ⟨hlx, hbx'⟩ := aG hbx
   go_region_with
    (first
     | (go_at_call 176
        refine (insert_at _ A c l x (hown1.out.ext ((Touch.refl _ w1).alloc _).drew) (by omega) w1.heap.size (heap_alloc_new w1 (.cells x.cells 217)) (fun e => absurd (hown1.out.lt _ e) (by omega))).mono ?_;rintro e w2 ⟨A2, c2, rfl, ho2, ht2, hf2⟩;have hbg2 := ht2.blk (b := g) (o := .cells #[.slice A l.length c] 144 (0, 0)) ((Below.heap_alloc w1 _ _ hltg).trans HBG.out) HNE.out;have hc2 := cell_of hbg2 0;have hf2' := frozen_of hbg2 0;have hl2 : g < w2.heap.size := (aG hbg2).1;have HO2 := lh ho2;have HT2 := lh ht2;have HF2 := lh hf2;have hbx2 := ht2.blk (b := w.heap.size) (o := .cells x.cells 217 (0, 0)) ((Below.heap_alloc w1 _ _ hlt1).trans hbx) (fun e => absurd (H.out.own.lt _ e) (by omega))))
   all_goals
    have hbr2 := HT2.out.blk (b := w.heap.size + 1) (o := .cells Answer.zero.cells 101 (0, 0)) ((Below.heap_alloc w1 _ _ (by omega)).trans hbr) (fun e => absurd (H.out.own.lt _ e) (by omega));have hlr2 : w.heap.size + 1 < w2.heap.size := (aG hbr2).1;obtain ⟨_, hbr2'⟩ := aG hbr2
    have HNF := lh (show ¬ foot g (.slice A2 (insAt l x).length c2) (w.heap.size + 1) from fun hk => by
     rcases hk with e | e
     ·omega
     ·rcases HF2.out _ e with h | h
      ·exact absurd (H.out.own.lt _ h) (by omega)
      ·have h : (w1.alloc (.cells x.cells 217)).heap.size <= w.heap.size + 1 := h;rw [World.size_alloc] at h; omega)
    go_wp2
    refine ret_cell rfl isAnswer (w.heap.size + 1) (ans 0) rfl (setRow_heap _ _ _ _ _ _ ((heap_setCell_other _ _ _ _ (show w.heap.size + 1 ≠ g by omega)).trans hbr2)) rfl ?_;unfold AddPost;rw [HD.out];refine ⟨rfl, foot g (.slice A2 (insAt l x).length c2), ⟨_, fun k => Iff.rfl, (Holds.stored hbg2 HO2.out (by decide)).setRow HNF.out _⟩, ?_, fun k hk => ?_⟩
    ·have t1 : Touch F w w1 := ((((Touch.refl (fun _ => False) w).alloc (.cells x.cells 217)).alloc (.cells Answer.zero.cells 101)).trans HX1.out).mono fun _ h => h.elim;exact (((t1.alloc _).drew.then HT2.out fun k hk => .inl ((HF.out k).2 (.inr hk))).setCell (.inl ((HF.out g).2 (.inl rfl))) _).setRow (.inr (by omega)) _
    ·rcases hk with e | e
     ·exact .inl ((HF.out k).2 (.inl e))
     ·rcases HF2.out _ e with h | h
      ·exact .inl ((HF.out k).2 (.inr h))
      ·have h : (w1.alloc (.cells x.cells 217)).heap.size <= k := h;rw [World.size_alloc] at h; exact .inr (by omega)
theorem Moved.write {X : Type} {R : Rep X} {w wa w' w'' : World} {F : Nat -> Prop} {x : X} (hx : Ext w wa) (h : Moved R wa F x w') {b : Nat} (hb1 : w.heap.size <= b) (hb2 : b < wa.heap.size) (hF : ¬ F b) (ht : Touch (fun k => k = b) w' w'') : Moved R w F x w'' := by
 obtain ⟨F', h1, h2, h3⟩ := h
 have hn : ¬ F' b := fun hk => by
  rcases h3 b hk with h | h
  ·exact hF h
  ·omega
 refine ⟨F', R.touch h1 ht (fun k hk e => hn (e ▸ hk)), ((hx.mono fun _ h => h.elim).then h2 fun k hk => .inl hk).then ht fun k hk => .inr (by omega), fun k hk => ?_⟩;rcases h3 k hk with h | h
 ·exact .inl h
 ·exact .inr (Nat.le_trans hx.size h)
theorem join_le {m : Nat} {xs : List ByteArray} (h : ∀ s ∈ xs, s.size <= m) : (Lib.join (xs.map (·.data.toList)) [32]).length <= xs.length * (m + 1) := by
 have ht : ∀ (r : List ByteArray), (∀ s ∈ r, s.size <= m) -> (Lib.joinTail [32] (r.map (·.data.toList))).length <= r.length * (m + 1) := by
  intro r hr;induction r with
  | nil => simp [Lib.joinTail]
  | cons x r ih =>
    have h1 := ih fun s hs => hr s (List.mem_cons_of_mem _ hs);have h2 : x.data.toList.length <= m := hr x List.mem_cons_self;have e : (Lib.joinTail [32] ((x :: r).map (·.data.toList))).length = 1 + x.data.toList.length + (Lib.joinTail [32] (r.map (·.data.toList))).length := by simp [Lib.joinTail]; omega
    rw [e, List.length_cons, Nat.add_mul];omega
 cases xs with
 | nil => simp [Lib.join_nil]
 | cons x r =>
   rw [List.map_cons, Lib.join_cons, List.length_append, List.length_cons, Nat.add_mul];have h1 := ht r fun s hs => h s (List.mem_cons_of_mem _ hs);have h2 : x.data.toList.length <= m := h x List.mem_cons_self;omega
theorem okText_le {lo hi m : Nat} {s : ByteArray} (h : okText lo hi m s = true) : s.size <= m := by
 unfold okText at h;simp at h;omega
theorem FOk.names_le {l : List FileD} (h : FOk l) : (Lib.join ((l.map (·.name)).map (·.data.toList)) [32]).length <= 140737488355328 := by
 have h1 := join_le (m := 5) (xs := l.map (·.name)) (fun s hs => by
  obtain ⟨f, hf, rfl⟩ := List.mem_map.1 hs;exact okText_le (h.each f hf).1)
 rw [List.length_map] at h1;have := h.len;have h2 : l.length * 6 <= 6 * 6 := Nat.mul_le_mul_right _ this;omega
def DoPost (w : World) (g : Nat) (F : Nat -> Prop) (l : List FileD) (x : Call) (e : Ending) (w' : World) : Prop :=
 e = .returned (.agg (fdo l x).1.cells) /\ Moved (repHolds g 144 217) w F (fdo l x).2 w'
theorem files_do_fault (w : World) (g : Nat) (F : Nat -> Prop) (l : List FileD) (x : Call) (n : Int) (h : (repHolds g 144 217).on w F l) (hok : FOk l) (hst : StrCall x) (hn : callCode x = n) (h0 : n ≠ 0) :
 Calls Tryz.prog 139 #[.pointer (some ⟨g, 0, none⟩), .agg x.cells] w (DoPost w g F l x) := by
 have HR := lh h;obtain ⟨v, hF, hh⟩ := h;obtain ⟨A, c, rfl, hc, hcm, hr⟩ := hh.own.form;have hlt := hh.lt;have H := lh hh;have HOK := lh hok;have HF := lh hF;have hl6 := hok.len;have hg1 : (w.heap.size = g) = False := by simp; omega
 have hg2 : (w.heap.size + 1 = g) = False := by simp; omega
 clear hr hok hh hF;have HC0 := lh hn;have HST := lh hst;have HD := lh (show fdo l x = (ans n, l) from by unfold fdo; rw [hn, if_pos h0]);have hn1 : (n == 0) = false := bF h0;clear hn hst h0;go_enter Tryz.func139, Tryz.ntmps139
 go_wp2_with (first
  |
   (go_at_call 51
    refine (files_check' _ x _ HC0.out HST.out).mono ?_;rintro e w1 ⟨rfl, hx1⟩;have hbx1 := hx1.blk (b := w.heap.size) (o := .cells x.cells 66 (0, 0)) (by simp only [heap_alloc_past, heap_alloc_at, World.size_alloc, Nat.lt_add_one]) id;have hbr1 := hx1.blk (b := w.heap.size + 1) (o := .cells Answer.zero.cells 101 (0, 0)) (by simp only [heap_alloc_at, World.size_alloc]) id;have ht1 := (((Touch.refl (fun _ => False) w).alloc (.cells x.cells 66)).alloc (.cells Answer.zero.cells 101)).trans hx1;have hbg1 := ht1.blk H.out.cell id;have hc10 := cell_of hbx1 0;have hc11 := cell_of hbx1 1;have hc12 := cell_of hbx1 2;have hc13 := cell_of hbx1 3;have hcg1 := cell_of hbg1 0;have hlb1 : w.heap.size + 2 <= w1.heap.size := by have := hx1.size; simpa using this
    have HE1 := lh (show Ext w w1 from ht1);have HBG1 := lh hbg1;clear hx1 ht1)
  | (go_at_call 157
     refine (files_no _ n).mono ?_;rintro e w2 ⟨rfl, hx2⟩;have hbr2 := hx2.blk (b := w.heap.size + 1) hbr1 id;have HX2 := lh hx2;clear hx2))
 refine ret_cell rfl isAnswer (w.heap.size + 1) (ans n) rfl (setRow_heap _ _ _ _ _ _ hbr2) rfl ?_;unfold DoPost;rw [HD.out];exact ⟨rfl, Rep.moved HR.out ((HE1.out.trans HX2.out).setRow (.inr (by omega)) _)⟩
theorem fdo_list {l : List FileD} {x : Call} (h0 : callCode x = 0) (h6 : x.kind = 6) : fdo l x = (⟨0, joinSp (l.map (·.name))⟩, l) := by
 unfold fdo; rw [if_neg (by simp [h0]), if_pos h6]
theorem fdo_make {l : List FileD} {x : Call} (h0 : callCode x = 0) (h1 : x.kind = 1) : fdo l x = (match dAt l x.name with | some _ => (ans 5, l) | none => if 6 <= l.length then (ans 7, l) else (ans 0, insAt l ⟨x.name, noText⟩)) := by
 unfold fdo; rw [if_neg (by simp [h0]), if_neg (by omega), if_pos h1]; cases dAt l x.name <;> rfl
theorem fdo_lost {l : List FileD} {x : Call} (h0 : callCode x = 0) (h6 : x.kind ≠ 6) (h1 : x.kind ≠ 1) (hd : dAt l x.name = none) : fdo l x = (ans 6, l) := by
 unfold fdo; rw [if_neg (by simp [h0]), if_neg h6, if_neg h1, hd]
theorem files_do_list (w : World) (g : Nat) (F : Nat -> Prop) (l : List FileD) (x : Call) (h : (repHolds g 144 217).on w F l) (hok : FOk l) (hst : StrCall x) (hn : callCode x = 0) (h6 : x.kind = 6) :
 Calls Tryz.prog 139 #[.pointer (some ⟨g, 0, none⟩), .agg x.cells] w (DoPost w g F l x) := by
 have HR := lh h;obtain ⟨v, hF, hh⟩ := h;obtain ⟨A, c, rfl, hc, hcm, hr⟩ := hh.own.form;have hlt := hh.lt;have H := lh hh;have HOK := lh hok;have HF := lh hF;have hl6 := hok.len;have hg1 : (w.heap.size = g) = False := by simp; omega
 have hg2 : (w.heap.size + 1 = g) = False := by simp; omega
 clear hr hok hh hF;have HC0 := lh hn;have HST := lh hst;have HD := lh (fdo_list (l := l) hn h6);have hk6 : (x.kind == 6) = true := by rw [h6]; rfl
 clear hn hst h6;go_enter Tryz.func139, Tryz.ntmps139
 go_wp2_with (first
  |
   (go_at_call 51
    refine (files_check' _ x _ HC0.out HST.out).mono ?_;rintro e w1 ⟨rfl, hx1⟩;have hbx1 := hx1.blk (b := w.heap.size) (o := .cells x.cells 66 (0, 0)) (by simp only [heap_alloc_past, heap_alloc_at, World.size_alloc, Nat.lt_add_one]) id;have hbr1 := hx1.blk (b := w.heap.size + 1) (o := .cells Answer.zero.cells 101 (0, 0)) (by simp only [heap_alloc_at, World.size_alloc]) id;have ht1 := (((Touch.refl (fun _ => False) w).alloc (.cells x.cells 66)).alloc (.cells Answer.zero.cells 101)).trans hx1;have hbg1 := ht1.blk H.out.cell id;have hc10 := cell_of hbx1 0;have hc11 := cell_of hbx1 1;have hc12 := cell_of hbx1 2;have hc13 := cell_of hbx1 3;have hcg1 := cell_of hbg1 0;have hlb1 : w.heap.size + 2 <= w1.heap.size := by have := hx1.size; simpa using this
    have HE1 := lh (show Ext w w1 from ht1);have HBG1 := lh hbg1;clear hx1 ht1)
  | (go_at_call 158
     refine (files_names w1 g _ l (H.out.ext HE1.out) (by omega)).mono ?_;rintro e w2 ⟨A2, c2, he2, ho2, hx2, hf2⟩;rw [List.length_map] at he2 ho2;subst he2;have hbr2 := hx2.blk (b := w.heap.size + 1) hbr1 id;have HO2 := lh ho2;have HX2 := lh hx2;clear ho2 hx2 hf2)
  | (go_at_call 53
     refine (join_names w2 _ _ _ _ HO2.out (by rw [List.length_map]; omega) HOK.out.names_le).mono ?_;rintro e w3 ⟨rfl, hx3⟩;have hbr3 := hx3.blk (b := w.heap.size + 1) hbr2 id;have HX3 := lh hx3;clear hx3))
 refine ret_cell rfl isAnswer (w.heap.size + 1) (⟨0, joinSp (l.map (·.name))⟩ : Answer) rfl (setRow_heap _ _ _ _ _ _ hbr3) rfl ?_;unfold DoPost;rw [HD.out];exact ⟨rfl, Rep.moved HR.out (((HE1.out.trans HX2.out).trans HX3.out).setRow (.inr (by omega)) _)⟩
theorem files_do_lost (w : World) (g : Nat) (F : Nat -> Prop) (l : List FileD) (x : Call) (h : (repHolds g 144 217).on w F l) (hok : FOk l) (hst : StrCall x) (hn : callCode x = 0) (h6 : x.kind ≠ 6) (h1 : x.kind ≠ 1) (hd : dAt l x.name = none) :
 Calls Tryz.prog 139 #[.pointer (some ⟨g, 0, none⟩), .agg x.cells] w (DoPost w g F l x) := by
 have HR := lh h;obtain ⟨v, hF, hh⟩ := h;obtain ⟨A, c, rfl, hc, hcm, hr⟩ := hh.own.form;have hlt := hh.lt;have H := lh hh;have HOK := lh hok;have HF := lh hF;have hl6 := hok.len;have hg1 : (w.heap.size = g) = False := by simp; omega
 have hg2 : (w.heap.size + 1 = g) = False := by simp; omega
 clear hr hok hh hF;have HC0 := lh hn;have HST := lh hst;have HD := lh (fdo_lost (l := l) hn h6 h1 hd);have hk6 : (x.kind == 6) = false := bF h6;have hk1 : (x.kind == 1) = false := bF h1;have hds : (dAt l x.name).isSome = false := by rw [hd]; rfl
 clear hn hst h6 h1 hd;go_enter Tryz.func139, Tryz.ntmps139
 go_wp2_with (first
  |
   (go_at_call 51
    refine (files_check' _ x _ HC0.out HST.out).mono ?_;rintro e w1 ⟨rfl, hx1⟩;have hbx1 := hx1.blk (b := w.heap.size) (o := .cells x.cells 66 (0, 0)) (by simp only [heap_alloc_past, heap_alloc_at, World.size_alloc, Nat.lt_add_one]) id;have hbr1 := hx1.blk (b := w.heap.size + 1) (o := .cells Answer.zero.cells 101 (0, 0)) (by simp only [heap_alloc_at, World.size_alloc]) id;have ht1 := (((Touch.refl (fun _ => False) w).alloc (.cells x.cells 66)).alloc (.cells Answer.zero.cells 101)).trans hx1;have hbg1 := ht1.blk H.out.cell id;have hc10 := cell_of hbx1 0;have hc11 := cell_of hbx1 1;have hc12 := cell_of hbx1 2;have hc13 := cell_of hbx1 3;have hcg1 := cell_of hbg1 0;have hlb1 : w.heap.size + 2 <= w1.heap.size := by have := hx1.size; simpa using this
    have HE1 := lh (show Ext w w1 from ht1);have HBG1 := lh hbg1;clear hx1 ht1)
  | (go_at_call 159
     refine (files_find w1 g _ l x.name (H.out.ext HE1.out) HOK.out.srt (by omega)).mono ?_;rintro e w2 ⟨rfl, hx2⟩;have hbr2 := hx2.blk (b := w.heap.size + 1) hbr1 id;have HX2 := lh hx2;clear hx2)
  | (go_at_call 157
     refine (files_no _ 6).mono ?_;rintro e w3 ⟨rfl, hx3⟩;have hbr3 := hx3.blk (b := w.heap.size + 1) hbr2 id;have HX3 := lh hx3;clear hx3))
 refine ret_cell rfl isAnswer (w.heap.size + 1) (ans 6) rfl (setRow_heap _ _ _ _ _ _ hbr3) rfl ?_;unfold DoPost;rw [HD.out];exact ⟨rfl, Rep.moved HR.out (((HE1.out.trans HX2.out).trans HX3.out).setRow (.inr (by omega)) _)⟩
theorem files_do_full (w : World) (g : Nat) (F : Nat -> Prop) (l : List FileD) (x : Call) (h : (repHolds g 144 217).on w F l) (hok : FOk l) (hst : StrCall x) (hn : callCode x = 0) (h1 : x.kind = 1) (hd : dAt l x.name = none) (hfull : 6 <= l.length) :
 Calls Tryz.prog 139 #[.pointer (some ⟨g, 0, none⟩), .agg x.cells] w (DoPost w g F l x) := by
 have HR := lh h;obtain ⟨v, hF, hh⟩ := h;obtain ⟨A, c, rfl, hc, hcm, hr⟩ := hh.own.form;have hlt := hh.lt;have H := lh hh;have HOK := lh hok;have HF := lh hF;have hl6 := hok.len;have hg1 : (w.heap.size = g) = False := by simp; omega
 have hg2 : (w.heap.size + 1 = g) = False := by simp; omega
 clear hr hok hh hF;have HC0 := lh hn;have HST := lh hst;have HD := lh (show fdo l x = (ans 7, l) by rw [fdo_make hn h1, hd]; simp only [if_pos hfull]);have hk6 : (x.kind == 6) = false := by rw [h1]; rfl
 have hk1 : (x.kind == 1) = true := by rw [h1]; rfl
 have hds : (dAt l x.name).isSome = false := by rw [hd]; rfl
 have hfull' : (6 : Int) <= l.length := by omega
 clear hn hst h1 hd;go_enter Tryz.func139, Tryz.ntmps139
 go_wp2_with (first
  |
   (go_at_call 51
    refine (files_check' _ x _ HC0.out HST.out).mono ?_;rintro e w1 ⟨rfl, hx1⟩;have hbx1 := hx1.blk (b := w.heap.size) (o := .cells x.cells 66 (0, 0)) (by simp only [heap_alloc_past, heap_alloc_at, World.size_alloc, Nat.lt_add_one]) id;have hbr1 := hx1.blk (b := w.heap.size + 1) (o := .cells Answer.zero.cells 101 (0, 0)) (by simp only [heap_alloc_at, World.size_alloc]) id;have ht1 := (((Touch.refl (fun _ => False) w).alloc (.cells x.cells 66)).alloc (.cells Answer.zero.cells 101)).trans hx1;have hbg1 := ht1.blk H.out.cell id;have hc10 := cell_of hbx1 0;have hc11 := cell_of hbx1 1;have hc12 := cell_of hbx1 2;have hc13 := cell_of hbx1 3;have hcg1 := cell_of hbg1 0;have hlb1 : w.heap.size + 2 <= w1.heap.size := by have := hx1.size; simpa using this
    have HE1 := lh (show Ext w w1 from ht1);have HBG1 := lh hbg1;clear hx1 ht1)
  | (go_at_call 159
     refine (files_find w1 g _ l x.name (H.out.ext HE1.out) HOK.out.srt (by omega)).mono ?_;rintro e w2 ⟨rfl, hx2⟩;have hbr2 := hx2.blk (b := w.heap.size + 1) hbr1 id;have hbg2 := hx2.blk hbg1 id;have hcg2 := cell_of hbg2 0;have HX2 := lh hx2;clear hx2)
  | (go_at_call 157
     refine (files_no _ 7).mono ?_;rintro e w3 ⟨rfl, hx3⟩;have hbr3 := hx3.blk (b := w.heap.size + 1) hbr2 id;have HX3 := lh hx3;clear hx3))
 refine ret_cell rfl isAnswer (w.heap.size + 1) (ans 7) rfl (setRow_heap _ _ _ _ _ _ hbr3) rfl ?_;unfold DoPost;rw [HD.out];exact ⟨rfl, Rep.moved HR.out (((HE1.out.trans HX2.out).trans HX3.out).setRow (.inr (by omega)) _)⟩
theorem fdo_add {l : List FileD} {x : Call} (h0 : callCode x = 0) (h1 : x.kind = 1) (h : (dAt l x.name).isSome = true \/ l.length < 6) :
 fdo l x = (ans (if (dAt l x.name).isSome then 5 else 0), if (dAt l x.name).isSome then l else insAt l ⟨x.name, noText⟩) := by
 rw [fdo_make h0 h1];cases hd : dAt l x.name with
 | none =>
   have : ¬ 6 <= l.length := by rcases h with h | h; rw [hd] at h; cases h; omega
   simp [this]
 | some i => rfl
theorem files_do_there (w : World) (g : Nat) (F : Nat -> Prop) (l : List FileD) (x : Call) (h : (repHolds g 144 217).on w F l) (hok : FOk l) (hst : StrCall x) (hn : callCode x = 0) (h1 : x.kind = 1) (hds : (dAt l x.name).isSome = true) :
 Calls Tryz.prog 139 #[.pointer (some ⟨g, 0, none⟩), .agg x.cells] w (DoPost w g F l x) := by
 have hadd := Or.inl (b := l.length < 6) hds;have HR := lh h;obtain ⟨v, hF, hh⟩ := h;obtain ⟨A, c, rfl, hc, hcm, hr⟩ := hh.own.form;have hlt := hh.lt;have H := lh hh;have HOK := lh hok;have HF := lh hF;have hl6 := hok.len;have hg1 : (w.heap.size = g) = False := by simp; omega
 have hg2 : (w.heap.size + 1 = g) = False := by simp; omega
 clear hr hok hh hF;have HC0 := lh hn;have HST := lh hst;have HD := lh (show fdo l x = (ans 5, l) by have h2 := fdo_add (l := l) hn h1 hadd; rw [hds] at h2; exact h2);have hk6 : (x.kind == 6) = false := by rw [h1]; rfl
 have hk1 : (x.kind == 1) = true := by rw [h1]; rfl
 clear hn hst h1 hadd;go_enter Tryz.func139, Tryz.ntmps139
 go_wp2_with (first
  |
   (go_at_call 51
    refine (files_check' _ x _ HC0.out HST.out).mono ?_;rintro e w1 ⟨rfl, hx1⟩;have hbx1 := hx1.blk (b := w.heap.size) (o := .cells x.cells 66 (0, 0)) (by simp only [heap_alloc_past, heap_alloc_at, World.size_alloc, Nat.lt_add_one]) id;have hbr1 := hx1.blk (b := w.heap.size + 1) (o := .cells Answer.zero.cells 101 (0, 0)) (by simp only [heap_alloc_at, World.size_alloc]) id;have ht1 := (((Touch.refl (fun _ => False) w).alloc (.cells x.cells 66)).alloc (.cells Answer.zero.cells 101)).trans hx1;have hbg1 := ht1.blk H.out.cell id;have hc10 := cell_of hbx1 0;have hc11 := cell_of hbx1 1;have hc12 := cell_of hbx1 2;have hc13 := cell_of hbx1 3;have hcg1 := cell_of hbg1 0;have hlb1 : w.heap.size + 2 <= w1.heap.size := by have := hx1.size; simpa using this
    have HE1 := lh (show Ext w w1 from ht1);have HBG1 := lh hbg1;clear hx1 ht1)
  | (go_at_call 159
     refine (files_find w1 g _ l x.name (H.out.ext HE1.out) HOK.out.srt (by omega)).mono ?_;rintro e w2 ⟨rfl, hx2⟩;have hbr2 := hx2.blk (b := w.heap.size + 1) hbr1 id;have hbg2 := hx2.blk hbg1 id;have hbx2 := hx2.blk hbx1 id;have hcg2 := cell_of hbg2 0;have hcx2 := cell_of hbx2 1;have hlw2 := hx2.size;have HX2 := lh hx2;clear hx2)
  | (go_at_call 160
     refine (files_add w2 g F l ⟨x.name, noText⟩ (Rep.ext HR.out (HE1.out.trans HX2.out)) HOK.out.srt (by omega)).mono ?_;rintro e w3 ⟨rfl, hm3⟩;rw [hds] at hm3;have hnF : ¬ F (w.heap.size + 1) := fun hk => by have := Rep.lt _ HR.out _ hk; omega
     have hbr3 : w3.heap[w.heap.size + 1]? = some (.cells Answer.zero.cells 101 (0, 0)) := by
      obtain ⟨F', _, ht, _⟩ := hm3;exact ht.blk hbr2 hnF
     have HM3 := lh hm3;clear hm3))
 refine ret_cell rfl isAnswer (w.heap.size + 1) (ans 5) rfl (setRow_heap _ _ _ _ _ _ hbr3) rfl ?_;unfold DoPost;rw [HD.out];exact ⟨rfl, Moved.write (HE1.out.trans HX2.out) HM3.out (by omega) (by omega) hnF ((Touch.refl (fun k => k = w.heap.size + 1) w3).setRow (.inl rfl) _)⟩
theorem files_do_made (w : World) (g : Nat) (F : Nat -> Prop) (l : List FileD) (x : Call) (h : (repHolds g 144 217).on w F l) (hok : FOk l) (hst : StrCall x) (hn : callCode x = 0) (h1 : x.kind = 1) (hds : (dAt l x.name).isSome = false) (hroom : l.length < 6) :
 Calls Tryz.prog 139 #[.pointer (some ⟨g, 0, none⟩), .agg x.cells] w (DoPost w g F l x) := by
 have hadd := Or.inr (a := (dAt l x.name).isSome = true) hroom;have hroom' : (l.length : Int) < 6 := by omega
 have HR := lh h;obtain ⟨v, hF, hh⟩ := h;obtain ⟨A, c, rfl, hc, hcm, hr⟩ := hh.own.form;have hlt := hh.lt;have H := lh hh;have HOK := lh hok;have HF := lh hF;have hl6 := hok.len;have hg1 : (w.heap.size = g) = False := by simp; omega
 have hg2 : (w.heap.size + 1 = g) = False := by simp; omega
 clear hr hok hh hF;have HC0 := lh hn;have HST := lh hst;have HD := lh (show fdo l x = (ans 0, insAt l ⟨x.name, noText⟩) by have h2 := fdo_add (l := l) hn h1 hadd; rw [hds] at h2; exact h2);have hk6 : (x.kind == 6) = false := by rw [h1]; rfl
 have hk1 : (x.kind == 1) = true := by rw [h1]; rfl
 clear hn hst h1 hadd;go_enter Tryz.func139, Tryz.ntmps139
 go_wp2_with (first
  |
   (go_at_call 51
    refine (files_check' _ x _ HC0.out HST.out).mono ?_;rintro e w1 ⟨rfl, hx1⟩;have hbx1 := hx1.blk (b := w.heap.size) (o := .cells x.cells 66 (0, 0)) (by simp only [heap_alloc_past, heap_alloc_at, World.size_alloc, Nat.lt_add_one]) id;have hbr1 := hx1.blk (b := w.heap.size + 1) (o := .cells Answer.zero.cells 101 (0, 0)) (by simp only [heap_alloc_at, World.size_alloc]) id;have ht1 := (((Touch.refl (fun _ => False) w).alloc (.cells x.cells 66)).alloc (.cells Answer.zero.cells 101)).trans hx1;have hbg1 := ht1.blk H.out.cell id;have hc10 := cell_of hbx1 0;have hc11 := cell_of hbx1 1;have hc12 := cell_of hbx1 2;have hc13 := cell_of hbx1 3;have hcg1 := cell_of hbg1 0;have hlb1 : w.heap.size + 2 <= w1.heap.size := by have := hx1.size; simpa using this
    have HE1 := lh (show Ext w w1 from ht1);have HBG1 := lh hbg1;clear hx1 ht1)
  | (go_at_call 159
     refine (files_find w1 g _ l x.name (H.out.ext HE1.out) HOK.out.srt (by omega)).mono ?_;rintro e w2 ⟨rfl, hx2⟩;have hbr2 := hx2.blk (b := w.heap.size + 1) hbr1 id;have hbg2 := hx2.blk hbg1 id;have hbx2 := hx2.blk hbx1 id;have hcg2 := cell_of hbg2 0;have hcx2 := cell_of hbx2 1;have hlw2 := hx2.size;have HX2 := lh hx2;clear hx2)
  | (go_at_call 160
     refine (files_add w2 g F l ⟨x.name, noText⟩ (Rep.ext HR.out (HE1.out.trans HX2.out)) HOK.out.srt (by omega)).mono ?_;rintro e w3 ⟨rfl, hm3⟩;rw [hds] at hm3;have hnF : ¬ F (w.heap.size + 1) := fun hk => by have := Rep.lt _ HR.out _ hk; omega
     have hbr3 : w3.heap[w.heap.size + 1]? = some (.cells Answer.zero.cells 101 (0, 0)) := by
      obtain ⟨F', _, ht, _⟩ := hm3;exact ht.blk hbr2 hnF
     have HM3 := lh hm3;clear hm3))
 refine ret_cell rfl isAnswer (w.heap.size + 1) (ans 0) rfl (setRow_heap _ _ _ _ _ _ hbr3) rfl ?_;unfold DoPost;rw [HD.out];exact ⟨rfl, Moved.write (HE1.out.trans HX2.out) HM3.out (by omega) (by omega) hnF ((Touch.refl (fun k => k = w.heap.size + 1) w3).setRow (.inl rfl) _)⟩
theorem files_found (w : World) (g : Nat) (v : Value) (l : List FileD) (s : ByteArray) (i : Nat) (hd : dAt l s = some i) (h : Holds w g 144 217 v l) (hs : Sorted l) (hl : l.length <= 1000) :
 Calls Tryz.prog 159 #[.pointer (some ⟨g, 0, none⟩), .string s] w fun e w' => e = .returned (.tuple #[.int .i64 i, .bool true]) /\ Ext w w' :=
 (files_find w g v l s h hs hl).mono fun e w' ⟨he, hx⟩ => ⟨by rw [he, pos_at hs hd, hd]; rfl, hx⟩
theorem fdo_found {l : List FileD} {x : Call} (h0 : callCode x = 0) (h6 : x.kind ≠ 6) (h1 : x.kind ≠ 1) {i : Nat} {f : FileD} (hd : dAt l x.name = some i) (hf : l[i]? = some f) :
 fdo l x = (if x.kind = 5 then (⟨0, f.text⟩, l)
     else if x.kind = 4 then (if 16 < f.text.size + x.text.size then (ans 7, l) else (ans 0, l.set i ⟨f.name, f.text ++ x.text⟩))
     else if x.kind = 3 then (match dAt l x.to_ with
      | some _ => (ans 5, l)
      | none => (ans 0, insAt (l.eraseIdx i) ⟨x.to_, f.text⟩))
     else (ans 0, l.eraseIdx i)) := by
 unfold fdo; rw [if_neg (by simp [h0]), if_neg h6, if_neg h1, hd];simp only [hf];cases dAt l x.to_ <;> rfl
theorem files_do_read (w : World) (g : Nat) (F : Nat -> Prop) (l : List FileD) (x : Call) (h : (repHolds g 144 217).on w F l) (hok : FOk l) (hst : StrCall x) (hn : callCode x = 0) (h5 : x.kind = 5) (i : Nat) (f : FileD) (hd : dAt l x.name = some i) (hf : l[i]? = some f) :
 Calls Tryz.prog 139 #[.pointer (some ⟨g, 0, none⟩), .agg x.cells] w (DoPost w g F l x) := by
 have HD := lh (show fdo l x = (⟨0, f.text⟩, l) by rw [fdo_found hn (by omega) (by omega) hd hf, if_pos h5]);have HR := lh h;obtain ⟨v, hF, hh⟩ := h;obtain ⟨A, c, rfl, hc, hcm, hr⟩ := hh.own.form;have hlt := hh.lt;have H := lh hh;have HOK := lh hok;have HF := lh hF;have hl6 := hok.len;have hg1 : (w.heap.size = g) = False := by simp; omega
 have hg2 : (w.heap.size + 1 = g) = False := by simp; omega
 clear hr hok hh hF;have HC0 := lh hn;have HST := lh hst;have HDI := lh hd;have hk6 : (x.kind == 6) = false := bF (by omega);have hk1 : (x.kind == 1) = false := bF (by omega);have hil : i < l.length := (lG hf).1;obtain ⟨ad, rfl, hadb, hat⟩ := H.out.own.reads i f hf;have HFI := lh hf;have HAT := lh (show At w (ad.add (i * 2)) f from hat);have HQ := lh H.out.own.some_form;clear hn hst hd hf hat
 have hk5 : (x.kind == 5) = true := by rw [h5]; rfl
 clear h5;go_enter Tryz.func139, Tryz.ntmps139
 go_wp2_with (first
  |
   (go_at_call 51
    refine (files_check' _ x _ HC0.out HST.out).mono ?_;rintro e w1 ⟨rfl, hx1⟩;have hbx1 := hx1.blk (b := w.heap.size) (o := .cells x.cells 66 (0, 0)) (by simp only [heap_alloc_past, heap_alloc_at, World.size_alloc, Nat.lt_add_one]) id;have hbr1 := hx1.blk (b := w.heap.size + 1) (o := .cells Answer.zero.cells 101 (0, 0)) (by simp only [heap_alloc_at, World.size_alloc]) id;have ht1 := (((Touch.refl (fun _ => False) w).alloc (.cells x.cells 66)).alloc (.cells Answer.zero.cells 101)).trans hx1;have hbg1 := ht1.blk H.out.cell id;have hc10 := cell_of hbx1 0;have hc11 := cell_of hbx1 1;have hc12 := cell_of hbx1 2;have hc13 := cell_of hbx1 3;have hcg1 := cell_of hbg1 0;have hlb1 : w.heap.size + 2 <= w1.heap.size := by have := hx1.size; simpa using this
    have HE1 := lh (show Ext w w1 from ht1);have HBG1 := lh hbg1;clear hx1 ht1)
  |
   (go_at_call 159
    refine (files_found w1 g _ l x.name i HDI.out (H.out.ext HE1.out) HOK.out.srt (by omega)).mono ?_;rintro e w2 ⟨rfl, hx2⟩;have hbr2 := hx2.blk (b := w.heap.size + 1) hbr1 id;have hbg2 := hx2.blk hbg1 id;have hbx2 := hx2.blk hbx1 id;have hcg2 := cell_of hbg2 0;have hcx20 := cell_of hbx2 0;have hcx22 := cell_of hbx2 2;have hcx23 := cell_of hbx2 3;have hlw2 := hx2.size;have hlx2 : w.heap.size < w2.heap.size := by omega
    have hlr2 : w.heap.size + 1 < w2.heap.size := by omega
    have hlg2 : g < w2.heap.size := by omega
    obtain ⟨_, hbr2'⟩ := aG hbr2;obtain ⟨_, hbx2'⟩ := aG hbx2;have hnx2 : (w2.heap.size = w.heap.size) = False := by simp; omega
    have hnr2 : (w2.heap.size = w.heap.size + 1) = False := by simp; omega
    have hng2 : (w2.heap.size = g) = False := by simp; omega
    have HE2 := lh (HE1.out.trans hx2);have hLV2 : LV Tryz.prog 217 (ad.add (i * 2)) w2 = .ok (.agg f.cells) w2 := LV_FileF (HAT.out.of_same (by rw [show (ad.add (i * 2)).block = ad.block by unfold Addr.add; split <;> rfl]; exact HE2.out.block _ hadb id));clear hx2)
  )
 refine ret_cell rfl isAnswer (w.heap.size + 1) (⟨0, f.text⟩ : Answer) rfl ((Below.heap_alloc _ _ _ (by simpa using hlr2)).trans (setRow_heap _ _ _ _ _ _ hbr2)) rfl ?_;unfold DoPost;rw [HD.out];exact ⟨rfl, Rep.moved HR.out ((HE2.out.setRow (.inr (by omega)) _).alloc _)⟩
theorem files_do_long (w : World) (g : Nat) (F : Nat -> Prop) (l : List FileD) (x : Call) (h : (repHolds g 144 217).on w F l) (hok : FOk l) (hst : StrCall x) (hn : callCode x = 0) (h4 : x.kind = 4) (i : Nat) (f : FileD) (hd : dAt l x.name = some i) (hf : l[i]? = some f)
 (hsz : f.text.size <= 16) (hxs : x.text.size <= 8) (hlong : 16 < f.text.size + x.text.size) :
 Calls Tryz.prog 139 #[.pointer (some ⟨g, 0, none⟩), .agg x.cells] w (DoPost w g F l x) := by
 have HD := lh (show fdo l x = (ans 7, l) by rw [fdo_found hn (by omega) (by omega) hd hf, if_neg (by omega), if_pos h4, if_pos hlong]);have HR := lh h;obtain ⟨v, hF, hh⟩ := h;obtain ⟨A, c, rfl, hc, hcm, hr⟩ := hh.own.form;have hlt := hh.lt;have H := lh hh;have HOK := lh hok;have HF := lh hF;have hl6 := hok.len;have hg1 : (w.heap.size = g) = False := by simp; omega
 have hg2 : (w.heap.size + 1 = g) = False := by simp; omega
 clear hr hok hh hF;have HC0 := lh hn;have HST := lh hst;have HDI := lh hd;have hk6 : (x.kind == 6) = false := bF (by omega);have hk1 : (x.kind == 1) = false := bF (by omega);have hil : i < l.length := (lG hf).1;obtain ⟨ad, rfl, hadb, hat⟩ := H.out.own.reads i f hf;have HFI := lh hf;have HAT := lh (show At w (ad.add (i * 2)) f from hat);have HQ := lh H.out.own.some_form;clear hn hst hd hf hat
 have hk5 : (x.kind == 5) = false := by rw [h4]; rfl
 have hk4 : (x.kind == 4) = true := by rw [h4]; rfl
 have hlong' : (16 : Int) < (f.text.size : Int) + (x.text.size : Int) := by omega
 have hs1 : (0 : Int) <= (f.text.size : Int) + (x.text.size : Int) := by omega
 have hs2 : (f.text.size : Int) + (x.text.size : Int) <= 24 := by omega
 clear h4;go_enter Tryz.func139, Tryz.ntmps139
 go_wp2_with (first
  |
   (go_at_call 51
    refine (files_check' _ x _ HC0.out HST.out).mono ?_;rintro e w1 ⟨rfl, hx1⟩;have hbx1 := hx1.blk (b := w.heap.size) (o := .cells x.cells 66 (0, 0)) (by simp only [heap_alloc_past, heap_alloc_at, World.size_alloc, Nat.lt_add_one]) id;have hbr1 := hx1.blk (b := w.heap.size + 1) (o := .cells Answer.zero.cells 101 (0, 0)) (by simp only [heap_alloc_at, World.size_alloc]) id;have ht1 := (((Touch.refl (fun _ => False) w).alloc (.cells x.cells 66)).alloc (.cells Answer.zero.cells 101)).trans hx1;have hbg1 := ht1.blk H.out.cell id;have hc10 := cell_of hbx1 0;have hc11 := cell_of hbx1 1;have hc12 := cell_of hbx1 2;have hc13 := cell_of hbx1 3;have hcg1 := cell_of hbg1 0;have hlb1 : w.heap.size + 2 <= w1.heap.size := by have := hx1.size; simpa using this
    have HE1 := lh (show Ext w w1 from ht1);have HBG1 := lh hbg1;clear hx1 ht1)
  |
   (go_at_call 159
    refine (files_found w1 g _ l x.name i HDI.out (H.out.ext HE1.out) HOK.out.srt (by omega)).mono ?_;rintro e w2 ⟨rfl, hx2⟩;have hbr2 := hx2.blk (b := w.heap.size + 1) hbr1 id;have hbg2 := hx2.blk hbg1 id;have hbx2 := hx2.blk hbx1 id;have hcg2 := cell_of hbg2 0;have hcx20 := cell_of hbx2 0;have hcx22 := cell_of hbx2 2;have hcx23 := cell_of hbx2 3;have hlw2 := hx2.size;have hlx2 : w.heap.size < w2.heap.size := by omega
    have hlr2 : w.heap.size + 1 < w2.heap.size := by omega
    have hlg2 : g < w2.heap.size := by omega
    obtain ⟨_, hbr2'⟩ := aG hbr2;obtain ⟨_, hbx2'⟩ := aG hbx2;have hnx2 : (w2.heap.size = w.heap.size) = False := by simp; omega
    have hnr2 : (w2.heap.size = w.heap.size + 1) = False := by simp; omega
    have hng2 : (w2.heap.size = g) = False := by simp; omega
    have HE2 := lh (HE1.out.trans hx2);have hLV2 : LV Tryz.prog 217 (ad.add (i * 2)) w2 = .ok (.agg f.cells) w2 := LV_FileF (HAT.out.of_same (by rw [show (ad.add (i * 2)).block = ad.block by unfold Addr.add; split <;> rfl]; exact HE2.out.block _ hadb id));clear hx2)
  |
   (go_at_call 157
    refine (files_no _ 7).mono ?_;rintro e w3 ⟨rfl, hx3⟩;have hbr3 := hx3.blk (b := w.heap.size + 1) ((Below.heap_alloc w2 _ _ hlr2).trans hbr2) id;have HX3 := lh hx3;clear hx3)
  )
 refine ret_cell rfl isAnswer (w.heap.size + 1) (ans 7) rfl (setRow_heap _ _ _ _ _ _ hbr3) rfl ?_;unfold DoPost;rw [HD.out];exact ⟨rfl, Rep.moved HR.out (((HE2.out.alloc _).trans HX3.out).setRow (.inr (by omega)) _)⟩
theorem files_do_taken (w : World) (g : Nat) (F : Nat -> Prop) (l : List FileD) (x : Call) (h : (repHolds g 144 217).on w F l) (hok : FOk l) (hst : StrCall x) (hn : callCode x = 0) (h3 : x.kind = 3) (i j : Nat) (f : FileD) (hd : dAt l x.name = some i) (hf : l[i]? = some f) (hto : dAt l x.to_ = some j) :
 Calls Tryz.prog 139 #[.pointer (some ⟨g, 0, none⟩), .agg x.cells] w (DoPost w g F l x) := by
 have HD := lh (show fdo l x = (ans 5, l) by rw [fdo_found hn (by omega) (by omega) hd hf, if_neg (by omega), if_neg (by omega), if_pos h3, hto]);have HR := lh h;obtain ⟨v, hF, hh⟩ := h;obtain ⟨A, c, rfl, hc, hcm, hr⟩ := hh.own.form;have hlt := hh.lt;have H := lh hh;have HOK := lh hok;have HF := lh hF;have hl6 := hok.len;have hg1 : (w.heap.size = g) = False := by simp; omega
 have hg2 : (w.heap.size + 1 = g) = False := by simp; omega
 clear hr hok hh hF;have HC0 := lh hn;have HST := lh hst;have HDI := lh hd;have hk6 : (x.kind == 6) = false := bF (by omega);have hk1 : (x.kind == 1) = false := bF (by omega);have hil : i < l.length := (lG hf).1;obtain ⟨ad, rfl, hadb, hat⟩ := H.out.own.reads i f hf;have HFI := lh hf;have HAT := lh (show At w (ad.add (i * 2)) f from hat);have HQ := lh H.out.own.some_form;clear hn hst hd hf hat
 have HTO := lh hto;have hk5 : (x.kind == 5) = false := by rw [h3]; rfl
 have hk4 : (x.kind == 4) = false := by rw [h3]; rfl
 have hk3 : (x.kind == 3) = true := by rw [h3]; rfl
 clear h3 hto;go_enter Tryz.func139, Tryz.ntmps139
 go_wp2_with (first
  | (go_at_call 159
     refine (files_found _ g _ l x.to_ j HTO.out (H.out.ext (HE2.out.alloc _)) HOK.out.srt (by omega)).mono ?_;rintro e w4 ⟨rfl, hx4⟩;have hbr4 := hx4.blk ((Below.heap_alloc w2 _ _ hlr2).trans hbr2) id;have HX4 := lh hx4;clear hx4)
  |
   (go_at_call 51
    refine (files_check' _ x _ HC0.out HST.out).mono ?_;rintro e w1 ⟨rfl, hx1⟩;have hbx1 := hx1.blk (b := w.heap.size) (o := .cells x.cells 66 (0, 0)) (by simp only [heap_alloc_past, heap_alloc_at, World.size_alloc, Nat.lt_add_one]) id;have hbr1 := hx1.blk (b := w.heap.size + 1) (o := .cells Answer.zero.cells 101 (0, 0)) (by simp only [heap_alloc_at, World.size_alloc]) id;have ht1 := (((Touch.refl (fun _ => False) w).alloc (.cells x.cells 66)).alloc (.cells Answer.zero.cells 101)).trans hx1;have hbg1 := ht1.blk H.out.cell id;have hc10 := cell_of hbx1 0;have hc11 := cell_of hbx1 1;have hc12 := cell_of hbx1 2;have hc13 := cell_of hbx1 3;have hcg1 := cell_of hbg1 0;have hlb1 : w.heap.size + 2 <= w1.heap.size := by have := hx1.size; simpa using this
    have HE1 := lh (show Ext w w1 from ht1);have HBG1 := lh hbg1;clear hx1 ht1)
  |
   (go_at_call 159
    refine (files_found w1 g _ l x.name i HDI.out (H.out.ext HE1.out) HOK.out.srt (by omega)).mono ?_;rintro e w2 ⟨rfl, hx2⟩;have hbr2 := hx2.blk (b := w.heap.size + 1) hbr1 id;have hbg2 := hx2.blk hbg1 id;have hbx2 := hx2.blk hbx1 id;have hcg2 := cell_of hbg2 0;have hcx20 := cell_of hbx2 0;have hcx22 := cell_of hbx2 2;have hcx23 := cell_of hbx2 3;have hlw2 := hx2.size;have hlx2 : w.heap.size < w2.heap.size := by omega
    have hlr2 : w.heap.size + 1 < w2.heap.size := by omega
    have hlg2 : g < w2.heap.size := by omega
    obtain ⟨_, hbr2'⟩ := aG hbr2;obtain ⟨_, hbx2'⟩ := aG hbx2;have hnx2 : (w2.heap.size = w.heap.size) = False := by simp; omega
    have hnr2 : (w2.heap.size = w.heap.size + 1) = False := by simp; omega
    have hng2 : (w2.heap.size = g) = False := by simp; omega
    have HE2 := lh (HE1.out.trans hx2);have hLV2 : LV Tryz.prog 217 (ad.add (i * 2)) w2 = .ok (.agg f.cells) w2 := LV_FileF (HAT.out.of_same (by rw [show (ad.add (i * 2)).block = ad.block by unfold Addr.add; split <;> rfl]; exact HE2.out.block _ hadb id));clear hx2)
  |
   (go_at_call 157
    refine (files_no _ 5).mono ?_;rintro e w3 ⟨rfl, hx3⟩;have hbr3 := hx3.blk (b := w.heap.size + 1) (hbr4) id;have HX3 := lh hx3;clear hx3)
  )
 refine ret_cell rfl isAnswer (w.heap.size + 1) (ans 5) rfl (setRow_heap _ _ _ _ _ _ hbr3) rfl ?_;unfold DoPost;rw [HD.out];exact ⟨rfl, Rep.moved HR.out ((((HE2.out.alloc _).trans HX4.out).trans HX3.out).setRow (.inr (by omega)) _)⟩
theorem Moved.write2 {X : Type} {R : Rep X} {w wa w' w'' : World} {F : Nat -> Prop} {x : X} (hx : Touch F w wa) (h : Moved R wa F x w') {b : Nat} (hb1 : w.heap.size <= b) (hb2 : b < wa.heap.size) (hF : ¬ F b) (ht : Touch (fun k => k = b) w' w'') : Moved R w F x w'' := by
 obtain ⟨F', h1, h2, h3⟩ := h
 have hn : ¬ F' b := fun hk => by
  rcases h3 b hk with h | h
  ·exact hF h
  ·omega
 refine ⟨F', R.touch h1 ht (fun k hk e => hn (e ▸ hk)), (hx.then h2 fun k hk => .inl hk).then ht fun k hk => .inr (by omega), fun k hk => ?_⟩;rcases h3 k hk with h | h
 ·exact .inl h
 ·exact .inr (Nat.le_trans hx.size h)
theorem files_do_remove (w : World) (g : Nat) (F : Nat -> Prop) (l : List FileD) (x : Call) (h : (repHolds g 144 217).on w F l) (hok : FOk l) (hst : StrCall x) (hn : callCode x = 0) (h2 : x.kind = 2) (i : Nat) (f : FileD) (hd : dAt l x.name = some i) (hf : l[i]? = some f) :
 Calls Tryz.prog 139 #[.pointer (some ⟨g, 0, none⟩), .agg x.cells] w (DoPost w g F l x) := by
 have HD := lh (show fdo l x = (ans 0, l.eraseIdx i) by rw [fdo_found hn (by omega) (by omega) hd hf, if_neg (by omega), if_neg (by omega), if_neg (by omega)]);have HR := lh h;obtain ⟨v, hF, hh⟩ := h;obtain ⟨A, c, rfl, hc, hcm, hr⟩ := hh.own.form;have hlt := hh.lt;have H := lh hh;have HOK := lh hok;have HF := lh hF;have hl6 := hok.len;have hg1 : (w.heap.size = g) = False := by simp; omega
 have hg2 : (w.heap.size + 1 = g) = False := by simp; omega
 clear hr hok hh hF;have HC0 := lh hn;have HST := lh hst;have HDI := lh hd;have hk6 : (x.kind == 6) = false := bF (by omega);have hk1 : (x.kind == 1) = false := bF (by omega);have hil : i < l.length := (lG hf).1;obtain ⟨ad, rfl, hadb, hat⟩ := H.out.own.reads i f hf;have HFI := lh hf;have HAT := lh (show At w (ad.add (i * 2)) f from hat);have HQ := lh H.out.own.some_form;clear hn hst hd hf hat
 have HNE := lh (H.out.own.elem H.out.cell (by decide));have hk5 : (x.kind == 5) = false := by rw [h2]; rfl
 have hk4 : (x.kind == 4) = false := by rw [h2]; rfl
 have hk3 : (x.kind == 3) = false := by rw [h2]; rfl
 have hk2 : (x.kind == 2) = true := by rw [h2]; rfl
 have hi1 : (0 : Int) <= (i : Int) + 1 := by omega
 have hi2 : (i : Int) + 1 <= 7 := by omega
 clear h2;go_enter Tryz.func139, Tryz.ntmps139
 go_wp2_with (first
  |
   (go_at_call 51
    refine (files_check' _ x _ HC0.out HST.out).mono ?_;rintro e w1 ⟨rfl, hx1⟩;have hbx1 := hx1.blk (b := w.heap.size) (o := .cells x.cells 66 (0, 0)) (by simp only [heap_alloc_past, heap_alloc_at, World.size_alloc, Nat.lt_add_one]) id;have hbr1 := hx1.blk (b := w.heap.size + 1) (o := .cells Answer.zero.cells 101 (0, 0)) (by simp only [heap_alloc_at, World.size_alloc]) id;have ht1 := (((Touch.refl (fun _ => False) w).alloc (.cells x.cells 66)).alloc (.cells Answer.zero.cells 101)).trans hx1;have hbg1 := ht1.blk H.out.cell id;have hc10 := cell_of hbx1 0;have hc11 := cell_of hbx1 1;have hc12 := cell_of hbx1 2;have hc13 := cell_of hbx1 3;have hcg1 := cell_of hbg1 0;have hlb1 : w.heap.size + 2 <= w1.heap.size := by have := hx1.size; simpa using this
    have HE1 := lh (show Ext w w1 from ht1);have HBG1 := lh hbg1;clear hx1 ht1)
  |
   (go_at_call 159
    refine (files_found w1 g _ l x.name i HDI.out (H.out.ext HE1.out) HOK.out.srt (by omega)).mono ?_;rintro e w2 ⟨rfl, hx2⟩;have hbr2 := hx2.blk (b := w.heap.size + 1) hbr1 id;have hbg2 := hx2.blk hbg1 id;have hbx2 := hx2.blk hbx1 id;have hcg2 := cell_of hbg2 0;have hcx20 := cell_of hbx2 0;have hcx22 := cell_of hbx2 2;have hcx23 := cell_of hbx2 3;have hlw2 := hx2.size;have hlx2 : w.heap.size < w2.heap.size := by omega
    have hlr2 : w.heap.size + 1 < w2.heap.size := by omega
    have hlg2 : g < w2.heap.size := by omega
    obtain ⟨_, hbr2'⟩ := aG hbr2;obtain ⟨_, hbx2'⟩ := aG hbx2;have hnx2 : (w2.heap.size = w.heap.size) = False := by simp; omega
    have hnr2 : (w2.heap.size = w.heap.size + 1) = False := by simp; omega
    have hng2 : (w2.heap.size = g) = False := by simp; omega
    have HE2 := lh (HE1.out.trans hx2);have hLV2 : LV Tryz.prog 217 (ad.add (i * 2)) w2 = .ok (.agg f.cells) w2 := LV_FileF (HAT.out.of_same (by rw [show (ad.add (i * 2)).block = ad.block by unfold Addr.add; split <;> rfl]; exact HE2.out.block _ hadb id));clear hx2)
  |
   (go_at_call 161
    refine (delete_files' _ ad c l i hil ((H.out.ext (HE2.out.alloc _)).own) (by omega)).mono ?_;rintro e w3 ⟨n3, hn3, rfl, ho3, ht3⟩;have hbg3 := ht3.blk ((Below.heap_alloc w2 _ _ hlg2).trans hbg2) (fun e => HNE.out (by simp [Value.ownBlock, e]));have hbr3 := ht3.blk ((Below.heap_alloc w2 _ _ hlr2).trans hbr2) (fun e => by omega);have hbx3 := ht3.blk ((Below.heap_alloc w2 _ _ hlx2).trans hbx2) (fun e => by omega);have hbf3 := ht3.blk (heap_alloc_new w2 (.cells f.cells 217)) (fun e => by omega);have hcg3 := cell_of hbg3 0;have hfg3 := frozen_of hbg3 0;have hcx3 := cell_of hbx3 2;have hcf3 := cell_of hbf3 1;have HN3 := lh hn3;have HO3 := lh ho3;have HT3 := lh ht3;have hlw3 : w2.heap.size + 1 <= w3.heap.size := by have := ht3.size; simpa using this
    clear hn3 ho3 ht3)
  )
 refine ret_cell rfl isAnswer (w.heap.size + 1) (ans 0) rfl (setRow_heap _ _ _ _ _ _ ((heap_setCell_other _ _ _ _ (show w.heap.size + 1 ≠ g by omega)).trans hbr3)) rfl ?_;unfold DoPost;rw [HD.out, List.eraseIdx_eq_take_drop_succ];have hll : (l.take i ++ l.drop (i + 1)).length = n3 := by simp; have := HN3.out; omega
 have hrep : (repHolds g 144 217).on (w3.setCell ⟨g, 0, none⟩ (.slice (some ad) n3 c)) F (l.take i ++ l.drop (i + 1)) := ⟨.slice (some ad) n3 c, HF.out, Holds.stored hbg3 HO3.out (by decide)⟩
 have ht : Touch F w (w3.setCell ⟨g, 0, none⟩ (.slice (some ad) n3 c)) :=
  (((HE2.out.alloc _).mono fun _ h => h.elim).then HT3.out fun k hk => .inl ((HF.out k).2 (.inr (by rw [hk]; rfl)))).setCell (.inl ((HF.out g).2 (.inl rfl))) _
 have hnF : ¬ F (w.heap.size + 1) := fun hk => by have := Rep.lt _ HR.out _ hk; omega
 exact ⟨rfl, Moved.write2 ht (Rep.moved hrep (Touch.refl _ _)) (by omega) (by simp; omega) hnF ((Touch.refl (fun k => k = w.heap.size + 1) _).setRow (.inl rfl) _)⟩
theorem files_do_rename (w : World) (g : Nat) (F : Nat -> Prop) (l : List FileD) (x : Call) (h : (repHolds g 144 217).on w F l) (hok : FOk l) (hst : StrCall x) (hn : callCode x = 0) (h3 : x.kind = 3) (i : Nat) (f : FileD) (hd : dAt l x.name = some i) (hf : l[i]? = some f) (hto : dAt l x.to_ = none) :
 Calls Tryz.prog 139 #[.pointer (some ⟨g, 0, none⟩), .agg x.cells] w (DoPost w g F l x) := by
 have HD := lh (show fdo l x = (ans 0, insAt (l.eraseIdx i) ⟨x.to_, f.text⟩) by rw [fdo_found hn (by omega) (by omega) hd hf, if_neg (by omega), if_neg (by omega), if_pos h3, hto]);have HR := lh h;obtain ⟨v, hF, hh⟩ := h;obtain ⟨A, c, rfl, hc, hcm, hr⟩ := hh.own.form;have hlt := hh.lt;have H := lh hh;have HOK := lh hok;have HF := lh hF;have hl6 := hok.len;have hg1 : (w.heap.size = g) = False := by simp; omega
 have hg2 : (w.heap.size + 1 = g) = False := by simp; omega
 clear hr hok hh hF;have HC0 := lh hn;have HST := lh hst;have HDI := lh hd;have hk6 : (x.kind == 6) = false := bF (by omega);have hk1 : (x.kind == 1) = false := bF (by omega);have hil : i < l.length := (lG hf).1;obtain ⟨ad, rfl, hadb, hat⟩ := H.out.own.reads i f hf;have HFI := lh hf;have HAT := lh (show At w (ad.add (i * 2)) f from hat);have HQ := lh H.out.own.some_form;clear hn hst hd hf hat
 have HNE := lh (H.out.own.elem H.out.cell (by decide));have hte : (dAt (l.eraseIdx i) x.to_).isSome = false := by rw [dAt_erase hto]; rfl
 have HTE := lh hte;have hts : (dAt l x.to_).isSome = false := by rw [hto]; rfl
 have hk5 : (x.kind == 5) = false := by rw [h3]; rfl
 have hk4 : (x.kind == 4) = false := by rw [h3]; rfl
 have hk3 : (x.kind == 3) = true := by rw [h3]; rfl
 have hi1 : (0 : Int) <= (i : Int) + 1 := by omega
 have hi2 : (i : Int) + 1 <= 7 := by omega
 have hnF : ¬ F (w.heap.size + 1) := fun hk => by have := Rep.lt _ HR.out _ hk; omega
 have HNF := lh hnF;have hse := lh (HOK.out.srt.erase i);have hle : (l.eraseIdx i).length <= 6 := by rw [List.length_eraseIdx_of_lt hil]; omega
 clear h3 hto hnF;go_enter Tryz.func139, Tryz.ntmps139
 go_wp2_with (first
  | (go_at_call 160
     have hrep : (repHolds g 144 217).on (w3.setCell ⟨g, 0, none⟩ (.slice (some ad) n3 c)) F (l.eraseIdx i) := ⟨.slice (some ad) n3 c, HF.out, Holds.stored hbg3 (by rw [List.eraseIdx_eq_take_drop_succ]; exact HO3.out) (by decide)⟩
     refine (files_add _ g F (l.eraseIdx i) ⟨x.to_, f.text⟩ hrep hse.out (by omega)).mono ?_;rintro e w5 ⟨rfl, hm5⟩;rw [HTE.out] at hm5
     have hbr5 : w5.heap[w.heap.size + 1]? = some (.cells Answer.zero.cells 101 (0, 0)) := by
      obtain ⟨F', _, ht, _⟩ := hm5;exact ht.blk ((heap_setCell_other _ _ _ _ (show w.heap.size + 1 ≠ g by omega)).trans hbr3) HNF.out
     have HM5 := lh hm5;clear hm5 hrep)
  | (go_at_call 159
     refine (files_find _ g _ l x.to_ (H.out.ext HE2.out |>.ext ((Touch.refl _ w2).alloc _)) HOK.out.srt (by omega)).mono ?_;rintro e w4 ⟨rfl, hx4⟩;have hbr4 := hx4.blk ((Below.heap_alloc w2 _ _ hlr2).trans hbr2) id;have hbg4 := hx4.blk ((Below.heap_alloc w2 _ _ hlg2).trans hbg2) id;have hbx4 := hx4.blk ((Below.heap_alloc w2 _ _ hlx2).trans hbx2) id;have hbf4 := hx4.blk (heap_alloc_new w2 (.cells f.cells 217)) id;have hcg4 := cell_of hbg4 0;have HX4 := lh hx4;have hlw4 : w2.heap.size + 1 <= w4.heap.size := by have := hx4.size; simpa using this
     clear hx4)
  |
   (go_at_call 51
    refine (files_check' _ x _ HC0.out HST.out).mono ?_;rintro e w1 ⟨rfl, hx1⟩;have hbx1 := hx1.blk (b := w.heap.size) (o := .cells x.cells 66 (0, 0)) (by simp only [heap_alloc_past, heap_alloc_at, World.size_alloc, Nat.lt_add_one]) id;have hbr1 := hx1.blk (b := w.heap.size + 1) (o := .cells Answer.zero.cells 101 (0, 0)) (by simp only [heap_alloc_at, World.size_alloc]) id;have ht1 := (((Touch.refl (fun _ => False) w).alloc (.cells x.cells 66)).alloc (.cells Answer.zero.cells 101)).trans hx1;have hbg1 := ht1.blk H.out.cell id;have hc10 := cell_of hbx1 0;have hc11 := cell_of hbx1 1;have hc12 := cell_of hbx1 2;have hc13 := cell_of hbx1 3;have hcg1 := cell_of hbg1 0;have hlb1 : w.heap.size + 2 <= w1.heap.size := by have := hx1.size; simpa using this
    have HE1 := lh (show Ext w w1 from ht1);have HBG1 := lh hbg1;clear hx1 ht1)
  |
   (go_at_call 159
    refine (files_found w1 g _ l x.name i HDI.out (H.out.ext HE1.out) HOK.out.srt (by omega)).mono ?_;rintro e w2 ⟨rfl, hx2⟩;have hbr2 := hx2.blk (b := w.heap.size + 1) hbr1 id;have hbg2 := hx2.blk hbg1 id;have hbx2 := hx2.blk hbx1 id;have hcg2 := cell_of hbg2 0;have hcx20 := cell_of hbx2 0;have hcx22 := cell_of hbx2 2;have hcx23 := cell_of hbx2 3;have hlw2 := hx2.size;have hlx2 : w.heap.size < w2.heap.size := by omega
    have hlr2 : w.heap.size + 1 < w2.heap.size := by omega
    have hlg2 : g < w2.heap.size := by omega
    obtain ⟨_, hbr2'⟩ := aG hbr2;obtain ⟨_, hbx2'⟩ := aG hbx2;have hnx2 : (w2.heap.size = w.heap.size) = False := by simp; omega
    have hnr2 : (w2.heap.size = w.heap.size + 1) = False := by simp; omega
    have hng2 : (w2.heap.size = g) = False := by simp; omega
    have HE2 := lh (HE1.out.trans hx2);have hLV2 : LV Tryz.prog 217 (ad.add (i * 2)) w2 = .ok (.agg f.cells) w2 := LV_FileF (HAT.out.of_same (by rw [show (ad.add (i * 2)).block = ad.block by unfold Addr.add; split <;> rfl]; exact HE2.out.block _ hadb id));clear hx2)
  | (go_at_call 161
     refine (delete_files' _ ad c l i hil ((H.out.ext ((HE2.out.alloc _).trans HX4.out)).own) (by omega)).mono ?_;rintro e w3 ⟨n3, hn3, rfl, ho3, ht3⟩;have hbg3 := ht3.blk hbg4 (fun e => HNE.out (by simp [Value.ownBlock, e]));have hbr3 := ht3.blk hbr4 (fun e => by omega);have hbx3 := ht3.blk hbx4 (fun e => by omega);have hbf3 := ht3.blk hbf4 (fun e => by omega);have hcg3 := cell_of hbg3 0;have hfg3 := frozen_of hbg3 0;have hcx3 := cell_of hbx3 2;have hcf3 := cell_of hbf3 1;have HN3 := lh hn3;have HO3 := lh ho3;have HT3 := lh ht3;have hlw3 : w4.heap.size <= w3.heap.size := ht3.size;clear hn3 ho3 ht3))
 refine ret_cell rfl isAnswer (w.heap.size + 1) (ans 0) rfl (setRow_heap _ _ _ _ _ _ hbr5) rfl ?_;unfold DoPost;rw [HD.out]
 have ht : Touch F w (w3.setCell ⟨g, 0, none⟩ (.slice (some ad) n3 c)) :=
  ((((HE2.out.alloc _).trans HX4.out).mono fun _ h => h.elim).then HT3.out fun k hk => .inl ((HF.out k).2 (.inr (by rw [hk]; rfl)))).setCell (.inl ((HF.out g).2 (.inl rfl))) _
 exact ⟨rfl, Moved.write2 ht HM5.out (by omega) (by simp; omega) HNF.out ((Touch.refl (fun k => k = w.heap.size + 1) _).setRow (.inl rfl) _)⟩
theorem flat_text (l : List FileD) (i : Nat) (f : FileD) (hf : l[i]? = some f) (t : ByteArray) : (flat l).set (i * 2 + 1) (.string t) = flat (l.set i ⟨f.name, t⟩) := by
 induction l generalizing i with
 | nil => simp at hf
 | cons x l ih =>
   cases i with
   | zero =>
     simp at hf;subst hf;rw [List.set_cons_zero, flat_cons, flat_cons];rfl
   | succ i =>
     rw [List.set_cons_succ, flat_cons, flat_cons, <- ih i (by simpa using hf), show (i + 1) * 2 + 1 = (i * 2 + 1) + 2 by omega];rfl
theorem Owns.setText {w : World} {e : TypeId} {q n c : Nat} {l : List FileD} (h : Owns w e (.slice (some ⟨q, 0, none⟩) n c) l) {i : Nat} {f : FileD} (hf : l[i]? = some f) (t : ByteArray) :
 Owns (w.setCell ⟨q, i * 2 + 1, none⟩ (.string t)) e (.slice (some ⟨q, 0, none⟩) n c) (l.set i ⟨f.name, t⟩) := by
 have h1 := h.1;rcases h.2 with ⟨hv, _⟩ | ⟨g', cap, cur, hv, hb, hg, hn, hc, hs, ht⟩
 ·cases hv
 ·injection hv with e1 e2 e3;injection e1 with e1;injection e1 with e1;subst e1;refine ⟨by rw [length_flat], .inr ⟨q, cap, cur.setIfInBounds (i * 2 + 1) (.string t), by rw [e2, e3, List.length_set], hb, heap_setCell_same w q (i * 2 + 1) cur e _ hg, by rw [List.length_set]; exact hn, hc, by simpa using hs, ?_⟩⟩;rw [List.length_set, <- flat_text l i f hf, <- ht, Array.toList_setIfInBounds, List.take_set]
theorem files_do_append (w : World) (g : Nat) (F : Nat -> Prop) (l : List FileD) (x : Call) (h : (repHolds g 144 217).on w F l) (hok : FOk l) (hst : StrCall x) (hn : callCode x = 0) (h4 : x.kind = 4) (i : Nat) (f : FileD) (hd : dAt l x.name = some i) (hf : l[i]? = some f)
 (hsz : f.text.size <= 16) (hxs : x.text.size <= 8) (hlong : ¬ 16 < f.text.size + x.text.size) :
 Calls Tryz.prog 139 #[.pointer (some ⟨g, 0, none⟩), .agg x.cells] w (DoPost w g F l x) := by
 have HD := lh (show fdo l x = (ans 0, l.set i ⟨f.name, f.text ++ x.text⟩) by rw [fdo_found hn (by omega) (by omega) hd hf, if_neg (by omega), if_pos h4, if_neg hlong]);have HR := lh h;obtain ⟨v, hF, hh⟩ := h;obtain ⟨A, c, rfl, hc, hcm, hr⟩ := hh.own.form;have hlt := hh.lt;have H := lh hh;have HOK := lh hok;have HF := lh hF;have hl6 := hok.len;have hg1 : (w.heap.size = g) = False := by simp; omega
 have hg2 : (w.heap.size + 1 = g) = False := by simp; omega
 clear hr hok hh hF;have HC0 := lh hn;have HST := lh hst;have HDI := lh hd;have hk6 : (x.kind == 6) = false := bF (by omega);have hk1 : (x.kind == 1) = false := bF (by omega);have hil : i < l.length := (lG hf).1;obtain ⟨ad, rfl, hadb, hat⟩ := H.out.own.reads i f hf;have HFI := lh hf;have HAT := lh (show At w (ad.add (i * 2)) f from hat);have HQ := lh H.out.own.some_form;clear hn hst hd hf hat
 have HNE := lh (H.out.own.elem H.out.cell (by decide));have hk5 : (x.kind == 5) = false := by rw [h4]; rfl
 have hk4 : (x.kind == 4) = true := by rw [h4]; rfl
 have hlong' : (f.text.size : Int) + (x.text.size : Int) <= 16 := by omega
 have hs1 : (0 : Int) <= (f.text.size : Int) + (x.text.size : Int) := by omega
 have hbig : f.text.size + x.text.size <= 16 := by omega
 clear h4 hlong;go_enter Tryz.func139, Tryz.ntmps139
 go_wp2_with (first
  |
   (go_at_call 51
    refine (files_check' _ x _ HC0.out HST.out).mono ?_;rintro e w1 ⟨rfl, hx1⟩;have hbx1 := hx1.blk (b := w.heap.size) (o := .cells x.cells 66 (0, 0)) (by simp only [heap_alloc_past, heap_alloc_at, World.size_alloc, Nat.lt_add_one]) id;have hbr1 := hx1.blk (b := w.heap.size + 1) (o := .cells Answer.zero.cells 101 (0, 0)) (by simp only [heap_alloc_at, World.size_alloc]) id;have ht1 := (((Touch.refl (fun _ => False) w).alloc (.cells x.cells 66)).alloc (.cells Answer.zero.cells 101)).trans hx1;have hbg1 := ht1.blk H.out.cell id;have hc10 := cell_of hbx1 0;have hc11 := cell_of hbx1 1;have hc12 := cell_of hbx1 2;have hc13 := cell_of hbx1 3;have hcg1 := cell_of hbg1 0;have hlb1 : w.heap.size + 2 <= w1.heap.size := by have := hx1.size; simpa using this
    have HE1 := lh (show Ext w w1 from ht1);have HBG1 := lh hbg1;clear hx1 ht1)
  |
   (go_at_call 159
    refine (files_found w1 g _ l x.name i HDI.out (H.out.ext HE1.out) HOK.out.srt (by omega)).mono ?_;rintro e w2 ⟨rfl, hx2⟩;have hbr2 := hx2.blk (b := w.heap.size + 1) hbr1 id;have hbg2 := hx2.blk hbg1 id;have hbx2 := hx2.blk hbx1 id;have hcg2 := cell_of hbg2 0;have hcx20 := cell_of hbx2 0;have hcx22 := cell_of hbx2 2;have hcx23 := cell_of hbx2 3;have hlw2 := hx2.size;have hlx2 : w.heap.size < w2.heap.size := by omega
    have hlr2 : w.heap.size + 1 < w2.heap.size := by omega
    have hlg2 : g < w2.heap.size := by omega
    obtain ⟨_, hbr2'⟩ := aG hbr2;obtain ⟨_, hbx2'⟩ := aG hbx2;have hnx2 : (w2.heap.size = w.heap.size) = False := by simp; omega
    have hnr2 : (w2.heap.size = w.heap.size + 1) = False := by simp; omega
    have hng2 : (w2.heap.size = g) = False := by simp; omega
    have HE2 := lh (HE1.out.trans hx2);have hLV2 : LV Tryz.prog 217 (ad.add (i * 2)) w2 = .ok (.agg f.cells) w2 := LV_FileF (HAT.out.of_same (by rw [show (ad.add (i * 2)).block = ad.block by unfold Addr.add; split <;> rfl]; exact HE2.out.block _ hadb id));clear hx2)
  )
 have hblk : (ad.add (i * 2)).block = ad.block := by unfold Addr.add; split <;> rfl
 have hbl2 : ad.block < w2.heap.size := by omega
 have hnb2 : (w2.heap.size = ad.block) = False := by simp; omega
 have hct : w2.cell? ⟨ad.block, (ad.add (i * 2)).off + 1, none⟩ = some (.string f.text) := by
  have hadd1 : ∀ a : Addr, a.add 1 = ⟨a.block, a.off + 1, none⟩ := fun a => by simp [Addr.add]
  have h1 : At w2 (ad.add (i * 2)) f := HAT.out.of_same (by rw [hblk]; exact HE2.out.block _ hadb id);have h2 := h1 1 (.string f.text) rfl;rwa [hadd1, hblk] at h2
 have hft : w2.frozen? ⟨ad.block, (ad.add (i * 2)).off + 1, none⟩ = false := by
  rcases (H.out.ext HE2.out).own.2 with ⟨hv, _⟩ | ⟨g', cap, cur, hv, _, hg, _⟩
  ·cases hv
  ·injection hv with e1;injection e1 with e1;have : ad.block = g' := by rw [e1]
   rw [this];exact frozen_of hg _
 go_region
 have hbr3 : (w2.setCell ⟨ad.block, (ad.add (i * 2)).off + 1, none⟩ (.string (f.text ++ x.text))).heap[w.heap.size + 1]? = some (.cells Answer.zero.cells 101 (0, 0)) :=
  (heap_setCell_other w2 ⟨ad.block, (ad.add (i * 2)).off + 1, none⟩ _ _ (show w.heap.size + 1 ≠ ad.block by omega)).trans hbr2
 have hS := lh (show (repHolds g 144 217).on (w2.setCell ⟨ad.block, (ad.add (i * 2)).off + 1, none⟩ (.string (f.text ++ x.text))) F (l.set i ⟨f.name, f.text ++ x.text⟩) from by
  obtain ⟨q, hq⟩ := HQ.out;subst hq;have haq : ((⟨q, 0, none⟩ : Addr).add (i * 2)).off + 1 = i * 2 + 1 := by unfold Addr.add; split <;> simp_all
  rw [haq];refine ⟨.slice (some ⟨q, 0, none⟩) l.length c, HF.out, ?_, (H.out.ext HE2.out).own.setText HFI.out _⟩;exact (heap_setCell_other _ _ _ _ (fun e => HNE.out (by simp [Value.ownBlock]; exact e.symm))).trans hbg2)
 have hT := lh (show Touch F w (w2.setCell ⟨ad.block, (ad.add (i * 2)).off + 1, none⟩ (.string (f.text ++ x.text))) from
  (HE2.out.mono fun _ h => h.elim).setCell (a := ⟨ad.block, (ad.add (i * 2)).off + 1, none⟩) (.inl ((HF.out ad.block).2 (.inr rfl))) _)
 generalize w2.setCell ⟨ad.block, (ad.add (i * 2)).off + 1, none⟩ (.string (f.text ++ x.text)) = w3 at *;obtain ⟨hlr3, hbr3'⟩ := aG hbr3;have hlw3 := hT.out.size;go_wp2
 refine ret_cell rfl isAnswer (w.heap.size + 1) (ans 0) rfl ((Below.heap_alloc _ _ _ (by simpa using hlr3)).trans (setRow_heap _ _ _ _ _ _ hbr3)) rfl ?_;unfold DoPost;rw [HD.out];have hnF : ¬ F (w.heap.size + 1) := fun hk => by have := Rep.lt _ HR.out _ hk; omega
 exact ⟨rfl, Moved.write2 hT.out (Rep.moved hS.out (Touch.refl _ _)) (by omega) hlr3 hnF (((Touch.refl (fun k => k = w.heap.size + 1) _).setRow (.inl rfl) _).alloc _).drew⟩
theorem files_do (w : World) (g : Nat) (F : Nat -> Prop) (l : List FileD) (x : Call) (h : (repHolds g 144 217).on w F l) (hok : FOk l) (hst : StrCall x) :
 Calls Tryz.prog 139 #[.pointer (some ⟨g, 0, none⟩), .agg x.cells] w (DoPost w g F l x) := by
 by_cases h0 : callCode x = 0
 ·have hk := callCode_kind h0;by_cases h6 : x.kind = 6
  ·exact files_do_list w g F l x h hok hst h0 h6
  by_cases h1 : x.kind = 1
  ·cases hd : (dAt l x.name).isSome with
   | true => exact files_do_there w g F l x h hok hst h0 h1 hd
   | false =>
     by_cases hf : 6 <= l.length
     ·exact files_do_full w g F l x h hok hst h0 h1 (by simpa using hd) hf
     ·exact files_do_made w g F l x h hok hst h0 h1 hd (by omega)
  cases hd : dAt l x.name with
  | none => exact files_do_lost w g F l x h hok hst h0 h6 h1 hd
  | some i =>
    obtain ⟨f, hf, _, _⟩ := dAt_some hd;by_cases h5 : x.kind = 5
    ·exact files_do_read w g F l x h hok hst h0 h5 i f hd hf
    by_cases h4 : x.kind = 4
    ·have h8 := okText_le (callCode_text h0 h4);have h16 := (hok.each f (List.mem_of_getElem? hf)).2;by_cases hlong : 16 < f.text.size + x.text.size
     ·exact files_do_long w g F l x h hok hst h0 h4 i f hd hf h16 h8 hlong
     ·exact files_do_append w g F l x h hok hst h0 h4 i f hd hf h16 h8 hlong
    by_cases h3 : x.kind = 3
    ·cases hto : dAt l x.to_ with
     | some j => exact files_do_taken w g F l x h hok hst h0 h3 i j f hd hf hto
     | none => exact files_do_rename w g F l x h hok hst h0 h3 i f hd hf hto
    ·exact files_do_remove w g F l x h hok hst h0 (by omega) i f hd hf
 ·exact files_do_fault w g F l x _ h hok hst rfl h0
theorem files_do' (w : World) (g : Nat) (F : Nat -> Prop) (l : List FileD) (x : Call) {r : Answer} {l' : List FileD} (h : (repHolds g 144 217).on w F l) (hok : FOk l) (hst : StrCall x) (hf : fdo l x = (r, l')) :
 Calls Tryz.prog 139 #[.pointer (some ⟨g, 0, none⟩), .agg x.cells] w fun e w' => e = .returned (.agg r.cells) /\ Moved (repHolds g 144 217) w F l' w' :=
 (files_do w g F l x h hok hst).mono fun e w' ⟨he, hm⟩ => by rw [hf] at he hm; exact ⟨he, hm⟩
@[go_sem ↓] theorem run_field_text (x : Answer) (w : World) : (Instr.field 101 (.agg x.cells) 1).run Tryz.prog w = .ok (.string x.text) w := by
  show (Instr.field 101 (.agg #[.int .i64 x.code, .string x.text]) 1).run Tryz.prog w = _;simp [Instr.field, run_underlying Tryz.underlying101, asAgg, part, Tryz.isAgg9]
theorem Has.owns {α : Type} [Lies α] {E : TypeId} {W w : World} {v : Value} {l : List α} (h : Has (repOwn E) W w (v, l)) : Owns w E v l := by
 obtain ⟨F, hF, _⟩ := h.ex;exact hF.2
theorem Has.append {α Y : Type} [Lies α] {S : Rep Y} {E : TypeId} {W w wx w' : World} {y : Y} {v v' : Value} {l l' : List α} (h : Has (S.and (repOwn E)) W w (y, (v, l))) (hx : Ext w wx) (hown : Owns w' E v' l') (hgrow : wx.grownBy w' v.ownBlock)
 (hat : v'.ownBlock = v.ownBlock \/ v'.ownBlock = some wx.heap.size) : Has (S.and (repOwn E)) W w' (y, (v', l')) := by
 obtain ⟨F, hF, hm⟩ := h.snd;have e : F = fun k => v.ownBlock = some k := funext fun k => propext (hF.1 k);subst e;exact hm _ _ (Owns.moved hF.2 hx hown hgrow hat)
theorem Has.newList {α Y : Type} [Lies α] {S : Rep Y} {E : TypeId} {W w w' : World} {y : Y} {v : Value} {l : List α} (h : Has S W w y) (hx : Ext w w') (hown : Owns w' E v l) (hf : ∀ k, v.ownBlock = some k -> w.heap.size <= k) : Has (S.and (repOwn E)) W w' (y, (v, l)) :=
 h.beside (G := fun k => v.ownBlock = some k) hx ⟨fun _ => Iff.rfl, hown⟩ hf
end Go.Proofs.YtalfbhhldfffkaaGreatDoor
