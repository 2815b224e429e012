/- WorldSerial: the walk of the law. -/
import Derived.Test.YtalfbhhldfffkacGWorldLaw
import Derived.Test.YtalfbhhldfffkacHouseSerial
import Derived.Test.YtalfbhhldfffkacRecRead
import Derived.Test.YtalfbhhldfffkacGCheck
import Derived.Test.YtalfbhhldfffkacGDrawer
import Derived.Test.YtalfbhhldfffkacGStore
import Derived.Test.YtalfbhhldfffkacGFiles
import Derived.Test.YtalfbhhldfffkacGBasis
import Derived.Deep.DeepCutAuto
namespace Go.Proofs.Ytalfbhhldfffkac
open Go.RowKit

abbrev Ser3 (gw bf bx bw : Nat) : Rep (((House × Array Value) × Array Value) × Array Value) := (((repWorld gw).and (repBlock bf 52)).and (repBlock bx 32)).and (repBlock bw 52)
abbrev Ser4 (gw bf bx bw : Nat) : Rep ((((House × Array Value) × Array Value) × Array Value) × (Value × List Record)) := (Ser3 gw bf bx bw).and (repOwn 48)
section
variable {gw bf bx bw : Nat} {W w w' : World} {F : Nat → Prop} {h : House} {c1 c1' c2 c3 : Array Value} {o : Value × List Record}
theorem ser_on (hh : (Ser3 gw bf bx bw).on w F (((h, c1), c2), c3)) : ∃ F', (repWorld gw).on w F' h ∧ ∀ h' w', Moved (repWorld gw) w F' h' w' → Moved (Ser3 gw bf bx bw) w F (((h', c1), c2), c3) w' := by
  obtain ⟨F1, h1, m1⟩ := Rep.fst hh
  obtain ⟨F2, h2, m2⟩ := Rep.fst h1
  obtain ⟨F3, h3, m3⟩ := Rep.fst h2
  exact ⟨F3, h3, fun _ _ m => m1 _ _ (m2 _ _ (m3 _ _ m))⟩
theorem ser_bf (H : Has (Ser4 gw bf bx bw) W w ((((h, c1), c2), c3), o)) : w.heap[bf]? = some (.cells c1 52 (0, 0)) := H.left.left.left.blk
theorem ser_bx (H : Has (Ser4 gw bf bx bw) W w ((((h, c1), c2), c3), o)) : w.heap[bx]? = some (.cells c2 32 (0, 0)) := H.left.left.blk
theorem ser_bw (H : Has (Ser4 gw bf bx bw) W w ((((h, c1), c2), c3), o)) : w.heap[bw]? = some (.cells c3 52 (0, 0)) := H.left.blk
theorem ser_turn (H : Has (Ser4 gw bf bx bw) W w ((((h, c1), c2), c3), o)) (ht : Touch (fun k => k = bf) w w') (hc : w'.heap[bf]? = some (.cells c1' 52 (0, 0))) : Has (Ser4 gw bf bx bw) W w' ((((h, c1'), c2), c3), o) := by
  have h1 := H.map fun _ => Rep.cg fun _ => Rep.cg fun _ => Rep.ex
  have h2 := h1.map fun _ => Rep.cg fun _ => Rep.ex
  have h3 := h2.map fun _ => Rep.ex
  have h4 := h3.turn ht hc
  have h5 := h4.map fun _ => Rep.ex
  have h6 := h5.map fun _ => Rep.cg fun _ => Rep.ex
  exact h6.map fun _ => Rep.cg fun _ => Rep.cg fun _ => Rep.ex
end
def SerRel (W : World) (gw bf : Nat) (l : List Step) (i : Value) (wr : World) : Prop :=
  ∃ k : Nat, i = .int .i64 k ∧ k ≤ l.length ∧ Has ((repWorld gw).and (repBlock bf 52)) W wr (hAt l k, cells3 (frUpto l k))
theorem step_done {h : House} {fr : Nat → Nat} (hh : HouseOk h fr) (x : Step) {j : Nat} (hj : j < 3) :
    ((hStep h x).2.G j).done = (h.G j).done ∨ ∃ r, ((hStep h x).2.G j).done = (h.G j).done ++ [r] ∧ StrCall r.call ∧ (¬ Changing r.call → ∃ n, frStep fr h x j ≤ n ∧ n ≤ (hStep h x).2.S.length ∧ (ddo (dbehind ((hStep h x).2.S.take n)) r.call).1 = r.answer) := by
  rcases hStep_grew hh x j with h1 | ⟨r, h1, h2⟩
  · exact .inl h1
  · refine .inr ⟨r, h1, code_str ((hStep_ok hh x).calls j hj r.call ?_), fun hc => ?_⟩
    · unfold asked; rw [h1]; simp
    · obtain ⟨n, a, b, c⟩ := h2 hc
      exact ⟨n, a, b, by rw [c]; exact (fdo_ddo (behind_srt _) r.call).1.symm⟩
theorem step_from {h : House} {fr : Nat → Nat} (x : Step) (b : Bool) (hb : decide (x.kind = 1 ∧ (hStep h x).1 = 0) = b) :
    (b = true → (0 ≤ x.n ∧ x.n < 3) ∧ frStep fr h x = upd fr x.n.toNat (hStep h x).2.S.length) ∧ (b = false → frStep fr h x = fr) := by
  subst hb
  refine ⟨fun h1 => ?_, fun h1 => frStep_no (of_decide_eq_false h1)⟩
  have h2 := of_decide_eq_true h1
  exact ⟨(hStep_asked_yes h2.1 h2.2).1, frStep_yes h2⟩
theorem cells3_upd (f : Nat → Nat) {j : Nat} (hj : j < 3) (m : Nat) : (cells3 f).setIfInBounds j (.int .i64 m) = cells3 (upd f j m) := cells3_set f hj m
theorem drawer_begin {Y : Type} {S : Rep Y} {W w : World} {y : Y} (h : Has S W w y) :
    Has (S.and (repHolds (w.heap.size + 1) 57 97)) W ((w.alloc (.cells #[] 97)).alloc (.cells #[.slice (some ⟨w.heap.size, 0, none⟩) 0 0] 57)) (y, ([] : List FileD)) := by
  refine h.beside (G := foot (w.heap.size + 1) (.slice (some ⟨w.heap.size, 0, none⟩) 0 0)) (((Touch.refl _ w).alloc _).alloc _) ⟨_, fun _ => Iff.rfl, ⟨?_, ?_⟩⟩ (fun k hk => ?_)
  · exact heap_alloc_at _ _ _ (by simp)
  · exact own_empty ((Below.heap_alloc _ _ _ (by simp)).trans (heap_alloc_new _ _))
  · rcases hk with rfl | hk
    · omega
    · simp [Value.ownBlock] at hk; omega
theorem drawer_names_of (w : World) (L : List Record) (N : List ByteArray) {A : Option Addr} {c : Nat} (h : Owns w 97 (.slice A (dbehind L).length c) (dbehind L)) (hN : (fbehind L).map (·.name) = N) :
    Calls Try.prog 24 #[.slice A (dbehind L).length c] w (NewList w 9 N) := by
  have hl : (dbehind L).length ≤ 6 := (behind_dok L).len
  rw [← hN, ← (behind_srt L).names]
  exact drawer_names w A c (dbehind L) h.reads (by omega)
abbrev SerE (gw gd : Nat) : Rep ((House × (Value × List Record)) × List FileD) := ((repWorld gw).and (repOwn 48)).and (repHolds gd 57 97)
set_option maxHeartbeats 4000000 in
set_option maxRecDepth 100000 in
theorem worldSerial (W : World) (A : Option Addr) (c : Nat) (l : List Step) (hr : Reads W W.heap.size A l) (hs : ∀ x ∈ l, StrWStep x) (hl : l.length ≤ 140737488351232) :
    Calls Try.prog 4 #[.slice A l.length c] W fun e w' => e = .returned (.bool true) ∧ Ext W w' := by
  have HR := Lib.hid hr
  have HS := Lib.hid hs
  clear hr hs
  go_enter Try.func4, Try.ntmps4
  go_wp2_with fail
  refine (world_begun W).mono ?_
  rintro e w1 ⟨rfl, hx1⟩
  have X1 := Lib.hid hx1
  clear hx1
  go_wp2_with fail
  refine (law_greatSteps w1 w1.heap.size A c l (HR.out.ext X1.out) (Nat.le_refl _) HS.out hl).mono ?_
  rintro e w2 ⟨b2, rfl, hx2⟩
  have X2 := Lib.hid (X1.out.trans hx2)
  clear hx2
  cases b2
  rotate_left
  · go_wp2
    go_ret
    exact ⟨rfl, X2.out⟩
  go_wp2_with fail
  refine (world_new w2).mono ?_
  rintro e w3 ⟨gw, rfl, hn3⟩
  have H0 := Lib.hid (hn3.since X2.out)
  clear hn3
  have H4 := Lib.hid (H0.out.box #[.int .i64 0, .int .i64 0, .int .i64 0] 52)
  clear H0
  go_wp2_with fail
  change Code.wp Try.prog _ _ _ (w3.alloc (.cells #[.int .i64 0, .int .i64 0, .int .i64 0] 52))
  generalize w3.alloc (.cells #[.int .i64 0, .int .i64 0, .int .i64 0] 52) = w4 at H4 ⊢
  generalize w3.heap.size = bf at H4 ⊢
  go_loopw [5] (fun i wr => SerRel W gw bf l i wr) (fun i _ => l.length - (intOf i).toNat)
  case atStart => exact ⟨0, rfl, Nat.zero_le _, H4.out⟩
  case round =>
    clear H4
    obtain ⟨k, rfl, hk, hz⟩ := hrel
    have HZ := Lib.hid hz
    clear hz
    by_cases hlt : k < l.length
    · skip
      obtain ⟨x, hx⟩ : ∃ x, l[k]? = some x := ⟨l[k], by simp [hlt]⟩
      obtain ⟨ad, rfl, hadb, hat⟩ := HR.out _ x hx
      have hLV : LV Try.prog 32 (ad.add (k * 7)) wr = .ok (.agg x.cells) wr := LV_Step ((hat.of_same (w' := wr) (by rw [show (ad.add (k * Lies.size Step)).block = ad.block by unfold Addr.add; split <;> rfl]; exact HZ.out.ext.block _ hadb id)))
      have HXX := Lib.hid hx
      have HFI := Lib.hid (hAt_fits l k)
      have HST := Lib.hid (HS.out x (List.mem_of_getElem? hx))
      clear hx hat
      go_wp2_with fail
      have h2 := (HZ.out.box x.cells 32).box #[.int .i64 0, .int .i64 0, .int .i64 0] 52
      rw [show (wr.alloc (.cells x.cells 32)).heap.size = wr.heap.size + 1 from World.size_alloc _ _] at h2
      have H2 := Lib.hid h2
      clear HZ hLV h2
      change Code.wp Try.prog _ _ _ ((wr.alloc (.cells x.cells 32)).alloc (.cells #[.int .i64 0, .int .i64 0, .int .i64 0] 52))
      generalize (wr.alloc (.cells x.cells 32)).alloc (.cells #[.int .i64 0, .int .i64 0, .int .i64 0] 52) = w4 at H2 ⊢
      generalize wr.heap.size + 1 = bw at H2 ⊢
      generalize wr.heap.size = bx at H2 ⊢
      go_loopw [8] (fun i wz => ∃ q : Nat, i = .int .i64 q ∧ q ≤ 3 ∧ Has (Ser3 gw bf bx bw) W wz (((hAt l k, cells3 (frUpto l k)), x.cells), wasArr (fun j => ((hAt l k).G j).done.length) q)) (fun i _ => 3 - (intOf i).toNat)
      case atStart => exact ⟨0, rfl, by omega, H2.out⟩
      case round =>
        clear H2
        obtain ⟨q, rfl, hq, hz⟩ := hrel
        by_cases hq3 : q = 3
        · subst hq3
          have HQ := Lib.hid (show Has (Ser3 gw bf bx bw) W _ (((hAt l k, cells3 (frUpto l k)), x.cells), cells3 (fun j => ((hAt l k).G j).done.length)) from hz)
          clear hz
          have hbx := HQ.out.left.blk
          have hok := frUpto_ok l k (by omega)
          have hok1 := hStep_ok hok x
          have hsd := fun j (hj : j < 3) => step_done hok x hj
          have hnx := hAt_next HXX.out
          have hfx := frUpto_succ HXX.out
          go_wp2_with fail
          obtain ⟨F1, hF1, hm1⟩ := HQ.out.one
          obtain ⟨F2, hF2, hm2⟩ := ser_on hF1
          refine (world_step wr gw F2 _ x hF2 HFI.out HST.out).mono ?_
          rintro e w5 ⟨rfl, hq5⟩
          have h5 := hm1 _ _ (hm2 _ _ hq5)
          clear hF1 hF2 hm1 hm2 hq5 HQ hbx
          obtain ⟨bb, hbb⟩ : ∃ bb, decide (x.kind = 1 ∧ (hStep (hAt l k) x).1 = 0) = bb := ⟨_, rfl⟩
          have hsf := step_from (fr := frUpto l k) x bb hbb
          generalize (hStep (hAt l k) x).1 = code at *
          generalize (hStep (hAt l k) x).2 = H' at *
          generalize hfr : frStep (frUpto l k) (hAt l k) x = fr' at *
          have HOKn := Lib.hid hok1
          have HSD := Lib.hid hsd
          have HNX := Lib.hid hnx
          have HFX := Lib.hid hfx
          have HBB := Lib.hid hbb
          have HSF := Lib.hid hsf
          clear hfr hok hok1 hsd hnx hfx hbb hsf
          obtain ⟨F3, hF3, _⟩ := h5.one
          obtain ⟨F4, hF4, _⟩ := ser_on hF3
          obtain ⟨gs, Fs, hcs⟩ := world_store2 hF4
          have HCS := Lib.hid hcs
          have H5 := Lib.hid h5
          have hcs0 := (hcs w5 (Touch.refl _ _)).1
          clear hF3 hF4 hcs h5
          go_wp2_with fail
          refine (store_logs w5 gs Fs _ (HCS.out w5 (Touch.refl _ _)).2 HOKn.out.log).mono ?_
          rintro e w6 ⟨A6, c6, rfl, ho6, hx6, _⟩
          have HO6 := Lib.hid ho6
          have X6 := Lib.hid hx6
          have HALL := Lib.hid (log_all HOKn.out.log)
          have hlen := HOKn.out.log.len
          have HLL := Lib.hid (show H'.S.length * 8 ≤ (logBytes H'.S).length from log_len HOKn.out.log.each)
          clear ho6 hx6 hcs0
          go_wp2_with fail
          refine (ref_recordsOf w6 A6 _ c6 (logBytes H'.S) HO6.out.bytesIn (by omega)).mono ?_
          rintro e w8 ⟨A8, c8, rfl, ho8, hx8, hf8⟩
          rw [HALL.out] at ho8 hf8 ⊢
          have H8 := Lib.hid (show Has (Ser4 gw bf bx bw) W w8 ((((H', cells3 (frUpto l k)), x.cells), cells3 (fun j => ((hAt l k).G j).done.length)), (.slice A8 H'.S.length c8, H'.S)) from (H5.out.step X6.out).newList hx8 ho8 hf8)
          have hSl : H'.S.length ≤ 250 := by have := HLL.out; omega
          have hck := (cell_of (ser_bx H8.out) 0).trans (Step.get0 x)
          have hcn := (cell_of (ser_bx H8.out) 1).trans (Step.get1 x)
          clear ho8 hx8 hf8 H5 HCS X6 HO6 HLL HALL hlen
          go_upto_region 20 with fail
          go_cut [79] (fun s wz => s = .bool bb ∧ w8 = wz)
          case first =>
            cases bb with
            | true =>
              have hy := of_decide_eq_true HBB.out
              have hyn := (HSF.out.1 rfl).1
              have hk1 : (x.kind == 1) = true := by simp [hy.1]
              have hk0 : (code == 0) = true := by simp [hy.2]
              have hn0 : ¬ x.n < 0 := by omega
              have hn2 : ¬ 3 ≤ x.n := by omega
              clear hy hyn
              go_wp2_with fail
              go_meet
              case rel => exact ⟨rfl, rfl⟩
            | false =>
              have hy := of_decide_eq_false HBB.out
              by_cases hy1 : x.kind = 1
              · have hk1 : (x.kind == 1) = true := by simp [hy1]
                have hk0 : (code == 0) = false := by simp; exact fun e => hy ⟨hy1, e⟩
                clear hy hy1
                go_wp2_with fail
                go_meet
                case rel => exact ⟨rfl, rfl⟩
              · have hk1 : (x.kind == 1) = false := by simp [hy1]
                clear hy hy1
                by_cases hk0 : code = 0
                · subst hk0
                  go_wp2_with fail
                  go_meet
                  case rel => exact ⟨rfl, rfl⟩
                · have hk0' : (code == 0) = false := by simp [hk0]
                  clear hk0
                  go_wp2_with fail
                  go_meet
                  case rel => exact ⟨rfl, rfl⟩
          obtain ⟨rfl, rfl⟩ := hcut
          clear hck hcn
          go_upto_if 79 with fail
          go_cut [] (fun wz => Has (Ser4 gw bf bx bw) W wz ((((H', cells3 fr'), x.cells), cells3 (fun j => ((hAt l k).G j).done.length)), (.slice A8 H'.S.length c8, H'.S)))
          case first =>
            cases bb with
            | true =>
              have hyn := (HSF.out.1 rfl).1
              obtain hj | hj | hj : x.n = 0 ∨ x.n = 1 ∨ x.n = 2 := by omega
              · have hb8 := ser_bf H8.out
                have hcn := (cell_of (ser_bx H8.out) 1).trans (Step.get1 x)
                rw [hj] at hcn
                have hcf := cell_of hb8 0
                have hff := frozen_of hb8 0
                have hb9 := setCell_heap hb8 0 (.int .i64 H'.S.length)
                rw [cells3_set _ (by omega)] at hb9
                have h9 := ser_turn H8.out ((Touch.refl (fun k => k = bf) w8).setCell (a := ⟨bf, 0, none⟩) (.inl rfl) _) hb9
                have hyy := (HSF.out.1 rfl).2
                rw [hj] at hyy
                rw [show upd (frUpto l k) 0 H'.S.length = fr' from hyy.symm] at h9
                have H9 := Lib.hid h9
                clear hb9 h9 hyy hb8
                go_wp2_with fail
                go_meet
                case rel => exact H9.out
              · have hb8 := ser_bf H8.out
                have hcn := (cell_of (ser_bx H8.out) 1).trans (Step.get1 x)
                rw [hj] at hcn
                have hcf := cell_of hb8 1
                have hff := frozen_of hb8 1
                have hb9 := setCell_heap hb8 1 (.int .i64 H'.S.length)
                rw [cells3_set _ (by omega)] at hb9
                have h9 := ser_turn H8.out ((Touch.refl (fun k => k = bf) w8).setCell (a := ⟨bf, 1, none⟩) (.inl rfl) _) hb9
                have hyy := (HSF.out.1 rfl).2
                rw [hj] at hyy
                rw [show upd (frUpto l k) 1 H'.S.length = fr' from hyy.symm] at h9
                have H9 := Lib.hid h9
                clear hb9 h9 hyy hb8
                go_wp2_with fail
                go_meet
                case rel => exact H9.out
              · have hb8 := ser_bf H8.out
                have hcn := (cell_of (ser_bx H8.out) 1).trans (Step.get1 x)
                rw [hj] at hcn
                have hcf := cell_of hb8 2
                have hff := frozen_of hb8 2
                have hb9 := setCell_heap hb8 2 (.int .i64 H'.S.length)
                rw [cells3_set _ (by omega)] at hb9
                have h9 := ser_turn H8.out ((Touch.refl (fun k => k = bf) w8).setCell (a := ⟨bf, 2, none⟩) (.inl rfl) _) hb9
                have hyy := (HSF.out.1 rfl).2
                rw [hj] at hyy
                rw [show upd (frUpto l k) 2 H'.S.length = fr' from hyy.symm] at h9
                have H9 := Lib.hid h9
                clear hb9 h9 hyy hb8
                go_wp2_with fail
                go_meet
                case rel => exact H9.out
            | false =>
              have HNO := Lib.hid (HSF.out.2 rfl)
              have H9 := Lib.hid (show Has (Ser4 gw bf bx bw) W _ ((((H', cells3 fr'), x.cells), cells3 (fun j => ((hAt l k).G j).done.length)), (.slice A8 H'.S.length c8, H'.S)) from by rw [show fr' = frUpto l k from HNO.out]; exact H8.out)
              go_wp2_with fail
              go_meet
              case rel => exact H9.out
          clear H8
          have HN := Lib.hid hcut
          clear hcut
          have HOR := Lib.hid HN.out.right.owns
          have hSc : (H'.S.length : Int) ≤ c8 := by
            obtain ⟨_, _, e, hcap, _⟩ := HOR.out.form
            cases e
            omega
          go_wp2_with fail
          go_loopw [12] (fun i wz => ∃ j : Nat, i = .int .i64 j ∧ j ≤ 3 ∧ Ext wc wz) (fun i _ => 3 - (intOf i).toNat)
          case atStart => exact ⟨0, rfl, by omega, Touch.refl _ _⟩
          case round =>
            obtain ⟨j, rfl, hj, hx⟩ := hrel
            have HX := Lib.hid hx
            clear hx
            by_cases hj3 : j < 3
            · have hj3' : (j : Int) < 3 := by omega
              have h9 := HN.out.step HX.out
              obtain ⟨Fa, hFa, _⟩ := h9.left.one
              obtain ⟨Fb, hFb, _⟩ := ser_on hFa
              obtain ⟨ga, Fca, hca, hga⟩ := world_cl hFb j hj3
              have HGA := Lib.hid hga
              have HCA := Lib.hid hca
              have hdn := gOk_done (HOKn.out.guest j hj3)
              have HBW := Lib.hid (ser_bw h9)
              have HBF := Lib.hid (ser_bf h9)
              clear hFa hFb hca hga h9
              go_wp2_with fail
              refine HGA.out.mono ?_
              rintro e w' ⟨rfl, rfl⟩
              go_wp2_with fail
              refine (client_done' _ Fca ga _ HCA.out (by omega)).mono ?_
              rintro e w9 ⟨A9, c9, rfl, ho9, hx9, _⟩
              have X9 := Lib.hid (HX.out.trans hx9)
              have HO9 := Lib.hid ho9
              have hcw := (cell_of (hx9.blk HBW.out id) j).trans (cells3_get (fun j => ((hAt l k).G j).done.length) hj3)
              have hcf := (cell_of (hx9.blk HBF.out id) j).trans (cells3_get fr' hj3)
              have HBF9 := Lib.hid (hx9.blk HBF.out id)
              have hsd := HSD.out j hj3
              clear ho9 hx9 HBW HBF HX HGA HCA
              generalize ((hAt l k).G j).done = D at *
              generalize (H'.G j).done = D' at *
              rcases hsd with hs | ⟨r, hs, hst, hch⟩
              · subst hs
                clear hcf
                go_wp2
                go_roundw
                case rel => exact ⟨j + 1, by go_num, by omega, X9.out⟩
                case measure => simp [intOf]; omega
              · obtain ⟨m, hm⟩ : ∃ m, D.length = m := ⟨_, rfl⟩
                rw [hm] at hcw
                have hm1 : D'.length = m + 1 := by rw [hs]; simp [hm]
                rw [hm1]
                obtain ⟨ad, rfl, hrec⟩ := rec_reads HO9.out.reads (k := m) (r := r) (by rw [hs]; simp [← hm])
                have hlv := (hrec w9 (Touch.refl _ _)).whole
                have HST' := Lib.hid hst
                have HCH := Lib.hid hch
                have hmle : (m : Int) + 1 ≤ 200 := by omega
                have hm0 : (0 : Int) ≤ m := by omega
                clear hs hst hch hm hm1 hrec hcf hdn HO9
                go_upto_region 30 with fail
                have hrd := reads_block (x := r) (t := 48) (fr := (0, 0)) (heap_alloc_new w9 (.cells r.cells 48)) (w9.alloc (.cells r.cells 48)).heap.size (by rw [World.size_alloc]; omega)
                obtain ⟨al, e, hrs⟩ := rec_reads hrd (k := 0) rfl
                cases e
                have X10 := Lib.hid (X9.out.alloc (.cells r.cells 48))
                clear hrd hlv
                generalize w9.alloc (.cells r.cells 48) = w10 at hrs X10 ⊢
                generalize w9.heap.size = br at hrs ⊢
                have HRS := Lib.hid (show ∀ w', Ext w10 w' → RecSeen w' ⟨br, 0, none⟩ r from hrs)
                have hkd := (HRS.out w10 (Touch.refl _ _)).kind
                clear hrs
                go_wp2_with fail
                by_cases hch : Changing r.call
                · have HC := Lib.hid (show decide (1 ≤ r.call.kind ∧ r.call.kind ≤ 4) = true from decide_eq_true hch)
                  clear hch
                  refine (files_changes w10 r.call.kind true HC.out).mono ?_
                  rintro e w' ⟨rfl, rfl⟩
                  go_wp2
                  go_roundw
                  case rel => exact ⟨j + 1, by go_num, by omega, X10.out⟩
                  case measure => simp [intOf]; omega
                · obtain ⟨N, hN1, hN2, hN3⟩ := HCH.out hch
                  have HN3 := Lib.hid hN3
                  have HC := Lib.hid (show decide (1 ≤ r.call.kind ∧ r.call.kind ≤ 4) = false from decide_eq_false hch)
                  have hcf := (cell_of (((Touch.refl _ wc).trans X10.out).blk (ser_bf HN.out) id) j).trans (cells3_get fr' hj3)
                  clear hch hN3
                  refine (files_changes w10 r.call.kind false HC.out).mono ?_
                  rintro e w' ⟨rfl, rfl⟩
                  go_wp2_with fail
                  clear hcf hkd
                  go_loopw [16, 15] (fun n b wz => ∃ (q : Nat) (hb : Bool), n = .int .i64 q ∧ b = .bool hb ∧ q ≤ N + 1 ∧ (hb = false → q ≤ N) ∧ Ext w10 wz) (fun n _ _ => N + 1 - (intOf n).toNat)
                  case atStart => exact ⟨fr' j, false, rfl, rfl, by omega, fun _ => hN1, Touch.refl _ _⟩
                  case round =>
                    obtain ⟨q, hb, rfl, rfl, hq, hqn, hx⟩ := hrel
                    have HX := Lib.hid hx
                    have HQN := Lib.hid hqn
                    clear hx hqn
                    cases hb with
                    | true =>
                      by_cases hqs : (q : Int) ≤ H'.S.length
                      · go_wp2
                        go_roundw
                        case rel => exact ⟨j + 1, by go_num, by omega, X10.out.trans HX.out⟩
                        case measure => simp [intOf]; omega
                      · go_wp2
                        go_roundw
                        case rel => exact ⟨j + 1, by go_num, by omega, X10.out.trans HX.out⟩
                        case measure => simp [intOf]; omega
                    | false =>
                      have hqN := HQN.out rfl
                      have hqs : (q : Int) ≤ H'.S.length := by omega
                      have hqc : (q : Int) ≤ c8 := by omega
                      obtain ⟨an, han⟩ : ∃ an, (ddo (dbehind (H'.S.take q)) r.call).1 = an := ⟨_, rfl⟩
                      obtain ⟨b2, hb2⟩ : ∃ b2, decide (an = r.answer) = b2 := ⟨_, rfl⟩
                      have HAN := Lib.hid han
                      have HB2 := Lib.hid (show b2 = false → q + 1 ≤ N from fun e => by
                        have h1 := of_decide_eq_false (hb2.trans e)
                        have h2 : q ≠ N := fun e => h1 (by rw [← han, e]; exact HN3.out)
                        omega)
                      clear han
                      go_wp2_with fail
                      refine wp_region_held_drew (S := fun w' => Ext wr w') (by kernel_rfl) (Touch.drew (Touch.refl _ wr)) (fun hHeld => ?_)
                      refine wpAnyH_take (i := 0) (v := ?_) (List.getElem?_toArray.trans rfl) (by kernel_rfl) (by kernel_rfl) (by kernel_rfl) (fun _ _ _ h => h) (Or.inl ⟨by rfl, ?_⟩) (by assumption) ?_
                      rotate_left
                      · intro w' hw'
                        try dsimp only at hw'
                        skip
                        go_simp
                        try with_reducible rfl
                      try simp only [Act.put, List.setIfInBounds_toArray, List.set_cons_zero, List.set_cons_succ]
                      refine wpAnyH_take (i := 1) (v := ?_) (List.getElem?_toArray.trans rfl) (by kernel_rfl) (by kernel_rfl) (by kernel_rfl) (fun _ _ _ h => h) (Or.inl ⟨by rfl, ?_⟩) (by assumption) ?_
                      rotate_left
                      · intro w' hw'
                        try dsimp only at hw'
                        skip
                        go_simp
                        try with_reducible rfl
                      try simp only [Act.put, List.setIfInBounds_toArray, List.set_cons_zero, List.set_cons_succ]
                      refine wpAnyH_take (i := 4) (v := ?_) (List.getElem?_toArray.trans rfl) (by kernel_rfl) (by kernel_rfl) (by kernel_rfl) (fun _ _ _ h => h) (Or.inl ⟨by rfl, ?_⟩) (by assumption) ?_
                      rotate_left
                      · intro w' hw'
                        try dsimp only at hw'
                        skip
                        go_simp
                        try with_reducible rfl
                      try simp only [Act.put, List.setIfInBounds_toArray, List.set_cons_zero, List.set_cons_succ]
                      refine wpAnyH_take (i := 7) (v := ?_) (List.getElem?_toArray.trans rfl) (by kernel_rfl) (by kernel_rfl) (by kernel_rfl) (fun _ _ _ h => h) (Or.inl ⟨by rfl, ?_⟩) (by assumption) ?_
                      rotate_left
                      · intro w' hw'
                        try dsimp only at hw'
                        skip
                        go_simp
                        try with_reducible rfl
                      try simp only [Act.put, List.setIfInBounds_toArray, List.set_cons_zero, List.set_cons_succ]
                      refine wpAnyH_take (i := 2) (v := ?_) (List.getElem?_toArray.trans rfl) (by kernel_rfl) (by kernel_rfl) (by kernel_rfl) (fun _ _ _ h => h) (Or.inl ⟨by rfl, ?_⟩) (by assumption) ?_
                      rotate_left
                      · intro w' hw'
                        try dsimp only at hw'
                        skip
                        go_simp
                        try with_reducible rfl
                      try simp only [Act.put, List.setIfInBounds_toArray, List.set_cons_zero, List.set_cons_succ]
                      refine wpAnyH_take (i := 5) (v := ?_) (List.getElem?_toArray.trans rfl) (by kernel_rfl) (by kernel_rfl) (by kernel_rfl) (fun _ _ _ h => h) (Or.inl ⟨by rfl, ?_⟩) (by assumption) ?_
                      rotate_left
                      · intro w' hw'
                        try dsimp only at hw'
                        have hh1 := (HRS.out w' (HX.out.trans hw')).call
                        go_simp
                        try with_reducible rfl
                      try simp only [Act.put, List.setIfInBounds_toArray, List.set_cons_zero, List.set_cons_succ]
                      refine wpAnyH_take (i := 8) (v := ?_) (List.getElem?_toArray.trans rfl) (by kernel_rfl) (by kernel_rfl) (by kernel_rfl) (fun _ _ _ h => h) (Or.inl ⟨by rfl, ?_⟩) (by assumption) ?_
                      rotate_left
                      · intro w' hw'
                        try dsimp only at hw'
                        have hh1 := (HRS.out w' (HX.out.trans hw')).answer
                        go_simp
                        try with_reducible rfl
                      try simp only [Act.put, List.setIfInBounds_toArray, List.set_cons_zero, List.set_cons_succ]
                      refine wpAnyH_ready (rs := [3]) (by kernel_rfl) (by simp) ?_
                      refine AllReadyH.cons (List.getElem?_toArray.trans rfl) (fun K hK => ?_) AllReadyH.nil
                      go_simp
                      go_at_call 20
                      have hdrw : Ext wr wr.drew := Touch.drew (Touch.refl _ wr)
                      refine (ref_behind _ wr.drew.heap.size A8 q c8 (H'.S.take q) ((HOR.out.ext (X10.out.trans (HX.out.trans hdrw))).reads.take q) (Nat.le_refl _) (by rw [List.length_take]; omega) (fun r hr => recok_str (HOKn.out.log.each r (List.mem_of_mem_take hr))) (by rw [List.length_take]; omega)).mono ?_
                      rintro e w12 ⟨gd, rfl, hd12⟩
                      have H12 := Lib.hid (hd12.since hdrw)
                      clear hd12 hdrw
                      refine hK.out _ _ H12.out.ext (fun hHeld => ?_)
                      clear hK K
                      try simp only [Act.put, List.setIfInBounds_toArray, List.set_cons_zero, List.set_cons_succ]
                      refine wpAnyH_ready (rs := [6]) (by kernel_rfl) (by simp) ?_
                      refine AllReadyH.cons (List.getElem?_toArray.trans rfl) (fun K hK => ?_) AllReadyH.nil
                      go_simp
                      go_at_call 21
                      obtain ⟨F13, hF13, hm13⟩ := H12.out.one
                      refine (drawer_do _ gd F13 (dbehind (H'.S.take q)) r.call hF13 (behind_dok _) HST'.out).mono ?_
                      rintro e w13 ⟨rfl, hq13⟩
                      rw [HAN.out]
                      have H13 := Lib.hid (hm13 _ _ hq13)
                      clear hF13 hm13 hq13
                      refine hK.out _ _ H13.out.ext (fun hHeld => ?_)
                      clear hK K
                      try simp only [Act.put, List.setIfInBounds_toArray, List.set_cons_zero, List.set_cons_succ]
                      refine wpAnyH_take (i := 9) (v := ?_) (List.getElem?_toArray.trans rfl) (by kernel_rfl) (by kernel_rfl) (by kernel_rfl) (fun _ _ _ h => h) (Or.inl ⟨by rfl, ?_⟩) (by assumption) ?_
                      rotate_left
                      · intro w' hw'
                        try dsimp only at hw'
                        skip
                        go_simp
                        try with_reducible rfl
                      try simp only [Act.put, List.setIfInBounds_toArray, List.set_cons_zero, List.set_cons_succ]
                      refine wpAnyH_take (i := 10) (v := ?_) (List.getElem?_toArray.trans rfl) (by kernel_rfl) (by kernel_rfl) (by kernel_rfl) (fun _ _ _ h => h) (Or.inl ⟨by rfl, ?_⟩) (by assumption) ?_
                      rotate_left
                      · intro w' hw'
                        try dsimp only at hw'
                        skip
                        go_simp
                        try with_reducible rfl
                      try simp only [Act.put, List.setIfInBounds_toArray, List.set_cons_zero, List.set_cons_succ]
                      refine wpAnyH_done (by kernel_rfl) ?_ _
                      clear hHeld
                      have X13 := Lib.hid (HX.out.trans H13.out.ext)
                      clear H12 H13
                      go_wp2
                      go_roundw
                      case rel => exact ⟨q + 1, b2, by go_num, rfl, by omega, HB2.out, X13.out⟩
                      case measure => simp [intOf]; omega
            · obtain rfl : j = 3 := by omega
              go_wp2
              go_roundw
              case rel => exact ⟨k + 1, by go_num, by omega, by rw [HNX.out, HFX.out]; exact HN.out.left.left.left.step HX.out⟩
              case measure => simp [intOf]; omega
        · obtain rfl | rfl | rfl : q = 0 ∨ q = 1 ∨ q = 2 := by omega
          · have HQ := Lib.hid hz
            have hbw := hz.blk
            obtain ⟨F1, hF1, _⟩ := hz.one
            obtain ⟨F2, hF2, _⟩ := ser_on hF1
            obtain ⟨gc, Fc, hFc, hcall⟩ := world_cl hF2 0 (by omega)
            have HFC := Lib.hid hFc
            have HCA := Lib.hid hcall
            have hdn := HFI.out.done 0 (by omega)
            clear hz hF1 hF2 hFc hcall
            go_wp2_with fail
            refine HCA.out.mono ?_
            rintro e w' ⟨rfl, rfl⟩
            go_wp2_with fail
            refine HCA.out.mono ?_
            rintro e w' ⟨rfl, rfl⟩
            go_wp2_with fail
            refine (client_done' _ Fc gc _ HFC.out (by omega)).mono ?_
            rintro e w5 ⟨A5, c5, rfl, ho5, hx5, _⟩
            have hb5 := hx5.blk hbw id
            have hc5 := cell_of hb5 0
            have hf5 := frozen_of hb5 0
            have H5 := Lib.hid (HQ.out.step hx5)
            clear ho5 hx5 hbw
            have hb6 := setCell_heap hb5 0 (.int .i64 ((hAt l k).G 0).done.length)
            have H6 := Lib.hid (H5.out.turn (w' := w5.setCell ⟨bw, 0, none⟩ (.int .i64 ((hAt l k).G 0).done.length)) ((Touch.refl (fun k => k = bw) w5).setCell (a := ⟨bw, 0, none⟩) (.inl rfl) _) hb6)
            clear hb6
            go_wp2
            go_roundw
            case rel => exact ⟨1, by go_num, by omega, H6.out⟩
            case measure => simp [intOf]
          · have HQ := Lib.hid hz
            have hbw := hz.blk
            obtain ⟨F1, hF1, _⟩ := hz.one
            obtain ⟨F2, hF2, _⟩ := ser_on hF1
            obtain ⟨gc, Fc, hFc, hcall⟩ := world_cl hF2 1 (by omega)
            have HFC := Lib.hid hFc
            have HCA := Lib.hid hcall
            have hdn := HFI.out.done 1 (by omega)
            clear hz hF1 hF2 hFc hcall
            go_wp2_with fail
            refine HCA.out.mono ?_
            rintro e w' ⟨rfl, rfl⟩
            go_wp2_with fail
            refine HCA.out.mono ?_
            rintro e w' ⟨rfl, rfl⟩
            go_wp2_with fail
            refine (client_done' _ Fc gc _ HFC.out (by omega)).mono ?_
            rintro e w5 ⟨A5, c5, rfl, ho5, hx5, _⟩
            have hb5 := hx5.blk hbw id
            have hc5 := cell_of hb5 1
            have hf5 := frozen_of hb5 1
            have H5 := Lib.hid (HQ.out.step hx5)
            clear ho5 hx5 hbw
            have hb6 := setCell_heap hb5 1 (.int .i64 ((hAt l k).G 1).done.length)
            have H6 := Lib.hid (H5.out.turn (w' := w5.setCell ⟨bw, 1, none⟩ (.int .i64 ((hAt l k).G 1).done.length)) ((Touch.refl (fun k => k = bw) w5).setCell (a := ⟨bw, 1, none⟩) (.inl rfl) _) hb6)
            clear hb6
            go_wp2
            go_roundw
            case rel => exact ⟨2, by go_num, by omega, H6.out⟩
            case measure => simp [intOf]
          · have HQ := Lib.hid hz
            have hbw := hz.blk
            obtain ⟨F1, hF1, _⟩ := hz.one
            obtain ⟨F2, hF2, _⟩ := ser_on hF1
            obtain ⟨gc, Fc, hFc, hcall⟩ := world_cl hF2 2 (by omega)
            have HFC := Lib.hid hFc
            have HCA := Lib.hid hcall
            have hdn := HFI.out.done 2 (by omega)
            clear hz hF1 hF2 hFc hcall
            go_wp2_with fail
            refine HCA.out.mono ?_
            rintro e w' ⟨rfl, rfl⟩
            go_wp2_with fail
            refine HCA.out.mono ?_
            rintro e w' ⟨rfl, rfl⟩
            go_wp2_with fail
            refine (client_done' _ Fc gc _ HFC.out (by omega)).mono ?_
            rintro e w5 ⟨A5, c5, rfl, ho5, hx5, _⟩
            have hb5 := hx5.blk hbw id
            have hc5 := cell_of hb5 2
            have hf5 := frozen_of hb5 2
            have H5 := Lib.hid (HQ.out.step hx5)
            clear ho5 hx5 hbw
            have hb6 := setCell_heap hb5 2 (.int .i64 ((hAt l k).G 2).done.length)
            have H6 := Lib.hid (H5.out.turn (w' := w5.setCell ⟨bw, 2, none⟩ (.int .i64 ((hAt l k).G 2).done.length)) ((Touch.refl (fun k => k = bw) w5).setCell (a := ⟨bw, 2, none⟩) (.inl rfl) _) hb6)
            clear hb6
            go_wp2
            go_roundw
            case rel => exact ⟨3, by go_num, by omega, H6.out⟩
            case measure => simp [intOf]
    · obtain rfl : k = l.length := by omega
      have hok : HouseOk (hAt l l.length) (frUpto l l.length) := frUpto_ok l l.length (Nat.le_refl _)
      have HOK := Lib.hid hok
      have hw := HZ.out.left
      generalize hAt l l.length = H at *
      clear hok hlt hk HZ
      obtain ⟨F5, hF5, _⟩ := hw.one
      obtain ⟨gs, Fs, hcs⟩ := world_store2 hF5
      have HCS := Lib.hid hcs
      have HW := Lib.hid hw
      have hcs0 := (hcs wr (Touch.refl _ _)).1
      clear hF5 hcs hw
      go_wp2_with fail
      refine (store_logs wr gs Fs _ (HCS.out wr (Touch.refl _ _)).2 HOK.out.log).mono ?_
      rintro e w5 ⟨A5, c5, rfl, ho5, hx5, _⟩
      have HO5 := Lib.hid ho5
      have X5 := Lib.hid hx5
      have HALL := Lib.hid (log_all HOK.out.log)
      have hlen := HOK.out.log.len
      have HLL := Lib.hid (show H.S.length * 8 ≤ (logBytes H.S).length from log_len HOK.out.log.each)
      clear ho5 hx5 hcs0
      go_wp2_with fail
      refine (ref_recordsOf w5 A5 _ c5 (logBytes H.S) HO5.out.bytesIn (by omega)).mono ?_
      rintro e w6 ⟨A6, c6, rfl, ho6, hx6, hf6⟩
      rw [HALL.out] at ho6 hf6 ⊢
      have H6 := Lib.hid ((HW.out.step X5.out).newList hx6 ho6 hf6)
      have hSl : H.S.length ≤ 250 := by have := HLL.out; omega
      clear ho6 hx6 hf6 HO5 HALL HLL hlen HCS HW
      go_wp2_with fail
      have H7 := Lib.hid (drawer_begin H6.out)
      clear H6
      generalize (w6.alloc (.cells #[] 97)).alloc (.cells #[.slice (some ⟨w6.heap.size, 0, none⟩) 0 0] 57) = w7 at H7 ⊢
      generalize (⟨w6.heap.size, 0, none⟩ : Addr) = adE at H7 ⊢
      generalize w6.heap.size + 1 = gd at H7 ⊢
      go_loopw [20] (fun i wz => ∃ q : Nat, i = .int .i64 q ∧ q ≤ H.S.length ∧ Has (SerE gw gd) W wz ((H, (.slice A6 H.S.length c6, H.S)), dbehind (H.S.take q))) (fun i _ => H.S.length - (intOf i).toNat)
      case atStart => exact ⟨0, rfl, Nat.zero_le _, H7.out⟩
      case round =>
        clear H7
        obtain ⟨q, rfl, hq, hz⟩ := hrel
        have HZ := Lib.hid hz
        clear hz
        by_cases hlt : q < H.S.length
        · obtain ⟨r, hr⟩ : ∃ r, H.S[q]? = some r := ⟨H.S[q], by simp [hlt]⟩
          obtain ⟨al, rfl, hrec⟩ := rec_reads HZ.out.left.right.owns.reads hr
          have hhs := hrec wr.drew (Touch.drew (Touch.refl _ wr))
          have HR1 := Lib.hid hr
          have HRO := Lib.hid (recok_str (HOK.out.log.each r (List.mem_of_getElem? hr)))
          have HSE := Lib.hid (show (ddo (dbehind (H.S.take q)) r.call).1 = r.answer from (fdo_ddo (behind_srt (H.S.take q)) r.call).1.symm.trans (HOK.out.log.serial q r hr).symm)
          have HDT := Lib.hid (dbehind_take hr)
          clear hr hrec
          have HHS := Lib.hid hhs
          clear hhs
          go_wp2_with fail
          refine wp_region_held_drew (S := fun w' => RecSeen w' (al.add (q * 8)) r) (by kernel_rfl) HHS.out (fun hHeld => ?_)
          refine wpAnyH_take (i := 0) (v := ?_) (List.getElem?_toArray.trans rfl) (by kernel_rfl) (by kernel_rfl) (by kernel_rfl) (fun _ _ _ h => h) (Or.inl ⟨by rfl, ?_⟩) (by assumption) ?_
          rotate_left
          · intro w' hw'
            try dsimp only at hw'
            skip
            go_simp
            try with_reducible rfl
          try simp only [Act.put, List.setIfInBounds_toArray, List.set_cons_zero, List.set_cons_succ]
          refine wpAnyH_take (i := 1) (v := ?_) (List.getElem?_toArray.trans rfl) (by kernel_rfl) (by kernel_rfl) (by kernel_rfl) (fun _ _ _ h => h) (Or.inl ⟨by rfl, ?_⟩) (by assumption) ?_
          rotate_left
          · intro w' hw'
            try dsimp only at hw'
            skip
            go_simp
            try with_reducible rfl
          try simp only [Act.put, List.setIfInBounds_toArray, List.set_cons_zero, List.set_cons_succ]
          refine wpAnyH_take (i := 2) (v := ?_) (List.getElem?_toArray.trans rfl) (by kernel_rfl) (by kernel_rfl) (by kernel_rfl) (fun _ _ _ h => h) (Or.inl ⟨by rfl, ?_⟩) (by assumption) ?_
          rotate_left
          · intro w' hw'
            try dsimp only at hw'
            skip
            go_simp
            try with_reducible rfl
          try simp only [Act.put, List.setIfInBounds_toArray, List.set_cons_zero, List.set_cons_succ]
          refine wpAnyH_take (i := 7) (v := ?_) (List.getElem?_toArray.trans rfl) (by kernel_rfl) (by kernel_rfl) (by kernel_rfl) (fun _ _ _ h => h) (Or.inl ⟨by rfl, ?_⟩) (by assumption) ?_
          rotate_left
          · intro w' hw'
            try dsimp only at hw'
            skip
            go_simp
            try with_reducible rfl
          try simp only [Act.put, List.setIfInBounds_toArray, List.set_cons_zero, List.set_cons_succ]
          refine wpAnyH_take (i := 8) (v := ?_) (List.getElem?_toArray.trans rfl) (by kernel_rfl) (by kernel_rfl) (by kernel_rfl) (fun _ _ _ h => h) (Or.inl ⟨by rfl, ?_⟩) (by assumption) ?_
          rotate_left
          · intro w' hw'
            try dsimp only at hw'
            skip
            go_simp
            try with_reducible rfl
          try simp only [Act.put, List.setIfInBounds_toArray, List.set_cons_zero, List.set_cons_succ]
          refine wpAnyH_take (i := 3) (v := ?_) (List.getElem?_toArray.trans rfl) (by kernel_rfl) (by kernel_rfl) (by kernel_rfl) (fun _ _ _ h => h) (Or.inl ⟨by rfl, ?_⟩) (by assumption) ?_
          rotate_left
          · intro w' hw'
            try dsimp only at hw'
            skip
            go_simp
            try with_reducible rfl
          try simp only [Act.put, List.setIfInBounds_toArray, List.set_cons_zero, List.set_cons_succ]
          refine wpAnyH_take (i := 9) (v := ?_) (List.getElem?_toArray.trans rfl) (by kernel_rfl) (by kernel_rfl) (by kernel_rfl) (fun _ _ _ h => h) (Or.inl ⟨by rfl, ?_⟩) (by assumption) ?_
          rotate_left
          · intro w' hw'
            try dsimp only at hw'
            skip
            go_simp
            try with_reducible rfl
          try simp only [Act.put, List.setIfInBounds_toArray, List.set_cons_zero, List.set_cons_succ]
          refine wpAnyH_take (i := 4) (v := ?_) (List.getElem?_toArray.trans rfl) (by kernel_rfl) (by kernel_rfl) (by kernel_rfl) (fun _ _ _ h => h) (Or.inl ⟨by rfl, ?_⟩) (by assumption) ?_
          rotate_left
          · intro w' hw'
            try dsimp only at hw'
            skip
            go_simp
            try with_reducible rfl
          try simp only [Act.put, List.setIfInBounds_toArray, List.set_cons_zero, List.set_cons_succ]
          refine wpAnyH_take (i := 10) (v := ?_) (List.getElem?_toArray.trans rfl) (by kernel_rfl) (by kernel_rfl) (by kernel_rfl) (fun _ _ _ h => h) (Or.inl ⟨by rfl, ?_⟩) (by assumption) ?_
          rotate_left
          · intro w' hw'
            try dsimp only at hw'
            skip
            go_simp
            try with_reducible rfl
          try simp only [Act.put, List.setIfInBounds_toArray, List.set_cons_zero, List.set_cons_succ]
          refine wpAnyH_take (i := 5) (v := ?_) (List.getElem?_toArray.trans rfl) (by kernel_rfl) (by kernel_rfl) (by kernel_rfl) (fun _ _ _ h => h) (Or.inl ⟨by rfl, ?_⟩) (by assumption) ?_
          rotate_left
          · intro w' hw'
            try dsimp only at hw'
            have hh1 := hw'.call
            go_simp
            try with_reducible rfl
          try simp only [Act.put, List.setIfInBounds_toArray, List.set_cons_zero, List.set_cons_succ]
          refine wpAnyH_take (i := 11) (v := ?_) (List.getElem?_toArray.trans rfl) (by kernel_rfl) (by kernel_rfl) (by kernel_rfl) (fun _ _ _ h => h) (Or.inl ⟨by rfl, ?_⟩) (by assumption) ?_
          rotate_left
          · intro w' hw'
            try dsimp only at hw'
            have hh1 := hw'.answer
            go_simp
            try with_reducible rfl
          try simp only [Act.put, List.setIfInBounds_toArray, List.set_cons_zero, List.set_cons_succ]
          refine wpAnyH_ready (rs := [6]) (by kernel_rfl) (by simp) ?_
          refine AllReadyH.cons (List.getElem?_toArray.trans rfl) (fun K hK => ?_) AllReadyH.nil
          go_simp
          go_at_call 21
          obtain ⟨F4, hF4, hm4⟩ := (HZ.out.step (Touch.drew (Touch.refl _ wr))).snd
          refine (drawer_do _ gd F4 (dbehind (H.S.take q)) r.call hF4 (behind_dok _) HRO.out).mono ?_
          rintro e w8 ⟨rfl, hq8⟩
          rw [HSE.out]
          rw [← HDT.out] at hq8
          have H8 := Lib.hid (hm4 _ _ hq8)
          obtain ⟨al', e, hrec'⟩ := rec_reads H8.out.left.right.owns.reads HR1.out
          cases e
          have hhs8 := hrec' w8 (Touch.refl _ _)
          clear hF4 hm4 hq8 hrec'
          refine hK.out _ _ hhs8 (fun hHeld => ?_)
          clear hK K
          try simp only [Act.put, List.setIfInBounds_toArray, List.set_cons_zero, List.set_cons_succ]
          clear hhs8
          refine wpAnyH_take (i := 12) (v := ?_) (List.getElem?_toArray.trans rfl) (by kernel_rfl) (by kernel_rfl) (by kernel_rfl) (fun _ _ _ h => h) (Or.inl ⟨by rfl, ?_⟩) (by assumption) ?_
          rotate_left
          · intro w' hw'
            try dsimp only at hw'
            skip
            go_simp
            try with_reducible rfl
          try simp only [Act.put, List.setIfInBounds_toArray, List.set_cons_zero, List.set_cons_succ]
          refine wpAnyH_done (by kernel_rfl) ?_ _
          clear hHeld
          go_wp2
          go_roundw
          case rel => exact ⟨q + 1, by go_num, by omega, H8.out⟩
          case measure => simp [intOf]; omega
        · obtain rfl : q = H.S.length := by omega
          have hz := HZ.out
          rw [List.take_length] at hz
          have hww := hz.left.left
          obtain ⟨F5, hF5, _⟩ := hww.one
          obtain ⟨gs, Fs, hcs⟩ := world_store2 hF5
          obtain ⟨gf, u, v, hA, hh⟩ := store_parts (hcs wr (Touch.refl _ _)).2
          obtain ⟨Fd, ⟨vd, _, hhd⟩, _⟩ := hz.snd
          obtain ⟨Ad, cd, rfl, _⟩ := hhd.own.form
          have HCS := Lib.hid hcs
          have HA := Lib.hid hA
          have HH := Lib.hid (show Holds wr gf 100 102 v (fbehind H.S) from hh)
          have HHD := Lib.hid hhd
          have HEX := Lib.hid hz.ext
          have hfb6 := (fbehind_ok H.S).len
          clear hz hww hF5 hcs hA hh hhd HZ hlt hq
          go_wp2_with fail
          refine wp_region_held_drew (S := fun w' => Ext wr w') (by kernel_rfl) (Touch.drew (Touch.refl _ wr)) (fun hHeld => ?_)
          refine wpAnyH_take (i := 0) (v := ?_) (List.getElem?_toArray.trans rfl) (by kernel_rfl) (by kernel_rfl) (by kernel_rfl) (fun _ _ _ h => h) (Or.inl ⟨by rfl, ?_⟩) (by assumption) ?_
          rotate_left
          · intro w' hw'
            try dsimp only at hw'
            skip
            go_simp
            try with_reducible rfl
          try simp only [Act.put, List.setIfInBounds_toArray, List.set_cons_zero, List.set_cons_succ]
          refine wpAnyH_take (i := 1) (v := ?_) (List.getElem?_toArray.trans rfl) (by kernel_rfl) (by kernel_rfl) (by kernel_rfl) (fun _ _ _ h => h) (Or.inl ⟨by rfl, ?_⟩) (by assumption) ?_
          rotate_left
          · intro w' hw'
            try dsimp only at hw'
            skip
            go_simp
            try with_reducible rfl
          try simp only [Act.put, List.setIfInBounds_toArray, List.set_cons_zero, List.set_cons_succ]
          refine wpAnyH_take (i := 2) (v := ?_) (List.getElem?_toArray.trans rfl) (by kernel_rfl) (by kernel_rfl) (by kernel_rfl) (fun _ _ _ h => h) (Or.inl ⟨by rfl, ?_⟩) (by assumption) ?_
          rotate_left
          · intro w' hw'
            try dsimp only at hw'
            skip
            go_simp
            try with_reducible rfl
          try simp only [Act.put, List.setIfInBounds_toArray, List.set_cons_zero, List.set_cons_succ]
          refine wpAnyH_take (i := 3) (v := ?_) (List.getElem?_toArray.trans rfl) (by kernel_rfl) (by kernel_rfl) (by kernel_rfl) (fun _ _ _ h => h) (Or.inl ⟨by rfl, ?_⟩) (by assumption) ?_
          rotate_left
          · intro w' hw'
            try dsimp only at hw'
            have hh1 := (HCS.out w' hw').1
            go_simp
            try with_reducible rfl
          try simp only [Act.put, List.setIfInBounds_toArray, List.set_cons_zero, List.set_cons_succ]
          refine wpAnyH_take (i := 4) (v := ?_) (List.getElem?_toArray.trans rfl) (by kernel_rfl) (by kernel_rfl) (by kernel_rfl) (fun _ _ _ h => h) (Or.inl ⟨by rfl, ?_⟩) (by assumption) ?_
          rotate_left
          · intro w' hw'
            try dsimp only at hw'
            skip
            go_simp
            try with_reducible rfl
          try simp only [Act.put, List.setIfInBounds_toArray, List.set_cons_zero, List.set_cons_succ]
          refine wpAnyH_take (i := 5) (v := ?_) (List.getElem?_toArray.trans rfl) (by kernel_rfl) (by kernel_rfl) (by kernel_rfl) (fun _ _ _ h => h) (Or.inl ⟨by rfl, ?_⟩) (by assumption) ?_
          rotate_left
          · intro w' hw'
            try dsimp only at hw'
            skip
            go_simp
            try with_reducible rfl
          try simp only [Act.put, List.setIfInBounds_toArray, List.set_cons_zero, List.set_cons_succ]
          refine wpAnyH_take (i := 6) (v := ?_) (List.getElem?_toArray.trans rfl) (by kernel_rfl) (by kernel_rfl) (by kernel_rfl) (fun _ _ _ h => h) (Or.inl ⟨by rfl, ?_⟩) (by assumption) ?_
          rotate_left
          · intro w' hw'
            try dsimp only at hw'
            have hh1 := (cell_of (hw'.blk HA.out.cell id) 0).trans (StoreD.get0 _ _ _)
            go_simp
            try with_reducible rfl
          try simp only [Act.put, List.setIfInBounds_toArray, List.set_cons_zero, List.set_cons_succ]
          refine wpAnyH_take (i := 8) (v := ?_) (List.getElem?_toArray.trans rfl) (by kernel_rfl) (by kernel_rfl) (by kernel_rfl) (fun _ _ _ h => h) (Or.inl ⟨by rfl, ?_⟩) (by assumption) ?_
          rotate_left
          · intro w' hw'
            try dsimp only at hw'
            skip
            go_simp
            try with_reducible rfl
          try simp only [Act.put, List.setIfInBounds_toArray, List.set_cons_zero, List.set_cons_succ]
          refine wpAnyH_take (i := 9) (v := ?_) (List.getElem?_toArray.trans rfl) (by kernel_rfl) (by kernel_rfl) (by kernel_rfl) (fun _ _ _ h => h) (Or.inl ⟨by rfl, ?_⟩) (by assumption) ?_
          rotate_left
          · intro w' hw'
            try dsimp only at hw'
            skip
            go_simp
            try with_reducible rfl
          try simp only [Act.put, List.setIfInBounds_toArray, List.set_cons_zero, List.set_cons_succ]
          refine wpAnyH_take (i := 10) (v := ?_) (List.getElem?_toArray.trans rfl) (by kernel_rfl) (by kernel_rfl) (by kernel_rfl) (fun _ _ _ h => h) (Or.inl ⟨by rfl, ?_⟩) (by assumption) ?_
          rotate_left
          · intro w' hw'
            try dsimp only at hw'
            have hh1 := cell_of (HHD.out.ext hw').cell 0
            go_simp
            try with_reducible rfl
          try simp only [Act.put, List.setIfInBounds_toArray, List.set_cons_zero, List.set_cons_succ]
          refine wpAnyH_ready (rs := [7]) (by kernel_rfl) (by simp) ?_
          refine AllReadyH.cons (List.getElem?_toArray.trans rfl) (fun K hK => ?_) AllReadyH.nil
          go_simp
          go_at_call 23
          have hdrw : Ext wr wr.drew := Touch.drew (Touch.refl _ wr)
          refine (files_names _ gf v (fbehind H.S) (HH.out.ext hdrw) (by omega)).mono ?_
          rintro e w8 ⟨A8, c8, rfl, ho8, hx8, _⟩
          have HO8 := Lib.hid ho8
          have HX8 := Lib.hid (hdrw.trans hx8)
          clear ho8 hx8 hdrw
          refine hK.out _ _ HX8.out (fun hHeld => ?_)
          clear hK K
          try simp only [Act.put, List.setIfInBounds_toArray, List.set_cons_zero, List.set_cons_succ]
          refine wpAnyH_ready (rs := [11]) (by kernel_rfl) (by simp) ?_
          refine AllReadyH.cons (List.getElem?_toArray.trans rfl) (fun K hK => ?_) AllReadyH.nil
          go_simp
          go_at_call 24
          refine (drawer_names_of _ H.S _ (HHD.out.ext HX8.out).own rfl).mono ?_
          rintro e w9 ⟨A9, c9, rfl, ho9, hx9, _⟩
          have HO9 := Lib.hid ho9
          have HO89 := Lib.hid (HO8.out.ext hx9)
          have HX9 := Lib.hid (HX8.out.trans hx9)
          clear ho9 hx9
          refine hK.out _ _ HX9.out (fun hHeld => ?_)
          clear hK K
          try simp only [Act.put, List.setIfInBounds_toArray, List.set_cons_zero, List.set_cons_succ]
          refine wpAnyH_ready (rs := [12]) (by kernel_rfl) (by simp) ?_
          refine AllReadyH.cons (List.getElem?_toArray.trans rfl) (fun K hK => ?_) AllReadyH.nil
          go_simp
          go_at_call 22
          refine (texts_yes2 _ _ _ _ _ _ _ _ ((fbehind H.S).map (·.name)) HO89.out.reads HO9.out.reads (by simp) (by simp) (by first | omega | (simp; omega))).mono ?_
          rintro e w10 ⟨rfl, hx10⟩
          have HX10 := Lib.hid (HX9.out.trans hx10)
          clear hx10
          refine hK.out _ _ HX10.out (fun hHeld => ?_)
          clear hK K
          try simp only [Act.put, List.setIfInBounds_toArray, List.set_cons_zero, List.set_cons_succ]
          refine wpAnyH_take (i := 13) (v := ?_) (List.getElem?_toArray.trans rfl) (by kernel_rfl) (by kernel_rfl) (by kernel_rfl) (fun _ _ _ h => h) (Or.inl ⟨by rfl, ?_⟩) (by assumption) ?_
          rotate_left
          · intro w' hw'
            try dsimp only at hw'
            skip
            go_simp
            try with_reducible rfl
          try simp only [Act.put, List.setIfInBounds_toArray, List.set_cons_zero, List.set_cons_succ]
          refine wpAnyH_done (by kernel_rfl) ?_ _
          clear hHeld
          go_wp2
          go_ret
          exact ⟨rfl, HEX.out.trans HX10.out⟩
end Go.Proofs.Ytalfbhhldfffkac
