/- StoryParts: the walk of the law. -/
import Derived.Test.YtalfbhhldfffkacStoryBegun
import Derived.Test.YtalfbhhldfffkacGDrawer
import Derived.Test.YtalfbhhldfffkacGStore
namespace Go.Proofs.Ytalfbhhldfffkac
open Go.RowKit

theorem BytesIn.later {W w : World} {A : Option Addr} {n c : Nat} {l : List UInt8} (h : BytesIn W.heap.size W A n c l) (hx : Ext W w) : BytesIn w.heap.size w A n c l := ⟨h.len, h.cap, h.max, h.reads.ext hx, Nat.le_refl _⟩
def listC : Call := ⟨6, noText, noText, noText⟩
theorem listC_str : StrCall listC := ⟨by decide, by decide, by decide⟩
theorem textAt_part {L : List Record} {n k : Nat} (hn : n ≤ L.length) (hk : k ≤ n) : textAt (storyTexts (L.take n)) k = textAt (storyTexts L) k := by
  have h1 : (L.take n).length = n := by rw [List.length_take]; omega
  unfold textAt
  rw [if_neg (by omega), if_neg (by omega), Int.toNat_natCast, storyTexts_at L (by omega), storyTexts_at (L.take n) (by omega), List.take_take, Nat.min_eq_left hk]
def PartRel (w5 : World) (L : List Record) (n : Nat) (v i : Value) (wr : World) : Prop :=
  ∃ (k : Nat) (A1 : Option Addr) (c1 : Nat), v = .slice A1 (logBytes (L.take k)).length c1 ∧ k ≤ n ∧ i = .int .i64 k ∧ Has (repNone.and (repOwn 5)) w5 wr ((), (.slice A1 (logBytes (L.take k)).length c1, logBytes (L.take k)))
set_option maxHeartbeats 4000000 in
set_option maxRecDepth 100000 in
theorem storyParts (W : World) (A : Option Addr) (c : Nat) (l : List UInt8) (n : Int) (h : BytesIn W.heap.size W A l.length c l) :
    Calls Try.prog 10 #[.slice A l.length c, .int .i64 n] W fun e w' => e = .returned (.bool true) ∧ Ext W w' := by
  have HB := Lib.hid h
  clear h
  go_enter Try.func10, Try.ntmps10
  go_wp2_with fail
  refine (story_begun W).mono ?_
  rintro e w1 ⟨rfl, hx1⟩
  have X1 := Lib.hid hx1
  clear hx1
  by_cases hbig : (3000 : Int) < l.length
  · go_wp2
    go_ret
    exact ⟨rfl, X1.out⟩
  · have HB1 := Lib.hid (show BytesIn w1.heap.size w1 A l.length c l from HB.out.later X1.out)
    go_wp2_with fail
    refine (story_of w1 A l.length c l HB1.out (by omega)).mono ?_
    rintro e w2 ⟨g, rfl, hx2, hst2, _⟩
    have X2 := Lib.hid (X1.out.trans hx2)
    have HG := Lib.hid hst2
    have HB2 := Lib.hid (show BytesIn w2.heap.size w2 A l.length c l from HB.out.later X2.out)
    clear hx2 hst2
    go_wp2_with fail
    refine (ref_recordsOf w2 A l.length c l HB2.out (by omega)).mono ?_
    rintro e w3 ⟨A3, c3, rfl, ho3, hx3, _⟩
    have HOK := Lib.hid (recAll_is l).ok
    have hLl : (recAll l).length * 8 ≤ 3000 := by
      have h1 := log_len HOK.out
      have h2 := (recAll_pre l).1
      omega
    have hLb : (logBytes (recAll l)).length ≤ 3000 := by
      have h2 := (recAll_pre l).1
      omega
    have X3 := Lib.hid (X2.out.trans hx3)
    have HO3 := Lib.hid ho3
    have HG3 := Lib.hid (HG.out.ext hx3)
    clear ho3 hx3 HG
    generalize recAll l = L at *
    have hpos : 0 < L.length + 1 := by omega
    have hlt := rnd_lt n (L.length + 1) hpos
    have hwr := rnd_wrap n (L.length + 1) hpos (by omega)
    rw [show ((L.length + 1 : Nat) : Int) = (L.length : Int) + 1 by omega] at hwr
    generalize rnd n (L.length + 1) = k0 at *
    have hk0 : k0 ≤ L.length := by omega
    have hb1 : (0 : Int) < (L.length : Int) + 1 := by omega
    have hb2 : (L.length : Int) + 1 ≤ 1000 := by omega
    clear hlt
    go_wp2_with fail
    rw [hwr]
    clear hwr hb1
    go_loopw [8, 9] (fun v i wr => PartRel w3 L k0 v i wr) (fun _ i _ => k0 - (intOf i).toNat)
    case atStart => exact ⟨0, none, 0, rfl, Nat.zero_le _, rfl, (Has.none w3).newList (Touch.refl _ w3) (Owns.nil _ _) (fun k hk => by simp [Value.ownBlock] at hk)⟩
    case round =>
      obtain ⟨k, A1, c1, rfl, hk, rfl, hz⟩ := hrel
      have HZ := Lib.hid hz
      have hmle : (logBytes (L.take k)).length ≤ 3000 := by
        have := logBytes_take_le L k
        omega
      clear hz
      by_cases hlt : k < k0
      · obtain ⟨r, hr⟩ : ∃ r, L[k]? = some r := ⟨L[k]'(by omega), by simp [show k < L.length by omega]⟩
        obtain ⟨ad, rfl, hrec⟩ := rec_reads HO3.out.reads hr
        have hlv := (hrec wr HZ.out.ext).whole
        have HLT := Lib.hid (logBytes_take hr)
        have HRO := Lib.hid (HOK.out r (List.mem_of_getElem? hr))
        have hrb := (recBytes_bounds HRO.out).2
        clear hr hrec
        generalize logBytes (L.take k) = M at *
        go_wp2_with (first
          | (go_at_call 39
             refine (ref_bytesOf _ r HRO.out).mono ?_
             rintro e w5 ⟨A5, c5, rfl, ho5, hx5, _⟩
             have H5 := Lib.hid (HZ.out.step hx5)
             have HO5 := Lib.hid ho5
             clear ho5 hx5)
          | (at_builtin; refine wpList_append_own' (by rfl) (.tmp 47) (.tmp 52) 37 (by rfl) elemByte Try.underlying37 (v := .slice A1 M.length c1) (l := M) (by rfl) H5.out.right.owns (recBytes r) (by rfl) (M.length + (recBytes r).length) (by rfl) (by rfl) HO5.out.reads (by omega) ?_
             intro A6 c6 w6 hown6 hgrow6 hat6
             have H6 := Lib.hid (H5.out.append (Touch.refl _ w5) hown6 hgrow6 hat6)
             clear hown6 hgrow6 hat6))
        go_roundw
        case rel => exact ⟨k + 1, A6, c6, by rw [HLT.out, List.length_append], by omega, by go_num, by rw [HLT.out, List.length_append]; exact H6.out⟩
        case measure => simp [intOf]; omega
      · obtain rfl : k = k0 := by omega
        have X4 := Lib.hid (show Ext w3 wr from HZ.out.ext)
        have HB4 := Lib.hid (show BytesIn wr.heap.size wr A1 (logBytes (L.take k)).length c1 (logBytes (L.take k)) from HZ.out.right.owns.bytesIn)
        have HTK := Lib.hid (show ∀ r ∈ L.take k, RecOk r from fun r hr => HOK.out r (List.mem_of_mem_take hr))
        have hlk : (logBytes (L.take k)).length ≤ 10000 := by omega
        clear HZ
        go_wp2_with fail
        refine (story_of wr A1 _ c1 _ HB4.out hlk).mono ?_
        rintro e w5 ⟨g2, rfl, hx5, hst5, _⟩
        rw [recAll_log HTK.out] at hst5
        have HG2 := Lib.hid hst5
        have X5 := Lib.hid (X4.out.trans hx5)
        have HG5 := Lib.hid (HG3.out.ext X5.out)
        have hlenk : (L.take k).length = k := by rw [List.length_take]; omega
        have HLK := Lib.hid hlenk
        clear hx5 hst5 hlk
        go_wp2_with fail
        refine (story_len w5 g2 _ _ HG2.out).mono ?_
        rw [hlenk]
        rintro e w' ⟨rfl, rfl⟩
        clear hlenk
        go_wp2_with fail
        refine (story_len w5 g _ _ HG5.out).mono ?_
        rintro e w' ⟨rfl, rfl⟩
        go_wp2_with fail
        go_loopw [11] (fun i wz => ∃ q : Nat, i = .int .i64 q ∧ q ≤ k + 1 ∧ Ext w5 wz) (fun i _ => k + 1 - (intOf i).toNat)
        case atStart => exact ⟨0, rfl, by omega, Touch.refl _ _⟩
        case round =>
          obtain ⟨q, rfl, hq, hx⟩ := hrel
          have HX := Lib.hid hx
          clear hx
          by_cases hqk : q ≤ k
          · have hqk' : (q : Int) ≤ k := by omega
            have HD1 := Lib.hid (show decide (0 ≤ (q : Int) ∧ (q : Int) ≤ L.length) = true by simp; omega)
            have HD2 := Lib.hid (show decide (0 ≤ (q : Int) ∧ (q : Int) ≤ (L.take k).length) = true by rw [HLK.out]; simp; omega)
            have HTX := Lib.hid (textAt_part (L := L) (n := k) (k := q) (by omega) hqk)
            go_wp2_with fail
            refine (story_text wr g _ _ q (HG5.out.ext HX.out) (length_storyTexts _)).mono ?_
            rw [show STextPost wr L (storyTexts L) q = fun e w' => e = .returned (.tuple #[.string (textAt (storyTexts L) q), .bool true]) ∧ wr = w' from by unfold STextPost; rw [HD1.out]]
            rintro e w' ⟨rfl, rfl⟩
            go_wp2_with fail
            refine (story_text wr g2 _ _ q (HG2.out.ext HX.out) (length_storyTexts _)).mono ?_
            rw [show STextPost wr (L.take k) (storyTexts (L.take k)) q = fun e w' => e = .returned (.tuple #[.string (textAt (storyTexts L) q), .bool true]) ∧ wr = w' from by unfold STextPost; rw [HD2.out, HTX.out]]
            rintro e w' ⟨rfl, rfl⟩
            generalize textAt (storyTexts L) q = T0
            have hself : (T0.toList == T0.toList) = true := by simp
            go_wp2
            go_roundw
            case rel => exact ⟨q + 1, by go_num, by omega, HX.out⟩
            case measure => simp [intOf]; omega
          · obtain rfl : q = k + 1 := by omega
            have HD1 := Lib.hid (show decide (0 ≤ (k : Int) ∧ (k : Int) ≤ L.length) = true by simp; omega)
            have HD2 := Lib.hid (show decide (0 ≤ (k : Int) + 1 ∧ (k : Int) + 1 ≤ (L.take k).length) = false by rw [HLK.out]; simp; omega)
            have HWO := Lib.hid (show wouldOf L k listC = (fdo (fbehind (L.take k)) listC).1 by unfold wouldOf; rw [if_pos (by omega), Int.toNat_natCast])
            have HDO := Lib.hid (show (ddo (dbehind (L.take k)) listC).1 = (fdo (fbehind (L.take k)) listC).1 from (fdo_ddo (behind_srt (L.take k)) listC).1.symm)
            go_wp2_with fail
            refine (story_would wr g _ _ k listC (HG5.out.ext HX.out) HOK.out listC_str (by omega)).mono ?_
            rw [show WouldPost wr L k listC = fun e w' => e = .returned (.tuple #[.agg (fdo (fbehind (L.take k)) listC).1.cells, .bool true]) ∧ Ext wr w' from by unfold WouldPost; rw [HWO.out, HD1.out]]
            rintro e w8 ⟨rfl, hx8⟩
            generalize hans : (fdo (fbehind (L.take k)) listC).1 = an at *
            have hx9 := hx8.alloc (.cells an.cells 46)
            have X9 := Lib.hid (HX.out.trans hx9)
            have hb9 : (w8.alloc (.cells an.cells 46)).heap[w8.heap.size]? = some (.cells an.cells 46 (0, 0)) := heap_alloc_new _ _
            clear hx8 hx9 hans
            go_wp2_with fail
            generalize w8.alloc (.cells an.cells 46) = w9 at X9 hb9 ⊢
            generalize w8.heap.size = ba at hb9 ⊢
            refine (story_text w9 g2 _ _ ((k : Int) + 1) (HG2.out.ext X9.out) (length_storyTexts _)).mono ?_
            rw [show STextPost w9 (L.take k) (storyTexts (L.take k)) ((k : Int) + 1) = fun e w' => e = .returned (.tuple #[.string (textAt (storyTexts (L.take k)) ((k : Int) + 1)), .bool false]) ∧ w9 = w' from by unfold STextPost; rw [HD2.out]]
            rintro e w' ⟨rfl, rfl⟩
            have HO9 := Lib.hid (HO3.out.ext (X5.out.trans X9.out))
            have hself : decide (an = an) = true := by simp
            have hkc : (k : Int) ≤ c3 := by
              obtain ⟨_, _, e, hcap, _⟩ := HO9.out.form
              cases e
              omega
            have hdrw : Ext w9 w9.drew := Touch.drew (Touch.refl _ w9)
            go_wp2_with fail
            refine wp_region_held_drew (S := fun w' => Ext w9 w') (by kernel_rfl) hdrw (fun hHeld => ?_)
            refine wpAnyH_take (i := 0) (v := ?_) (List.getElem?_toArray.trans rfl) (by kernel_rfl) (by kernel_rfl) (by kernel_rfl) (fun _ _ _ h => h) (Or.inl ⟨by rfl, ?_⟩) (by assumption) ?_
            rotate_left
            · intro w' hw'
              try dsimp only at hw'
              skip
              go_simp
              try with_reducible rfl
            try simp only [Act.put, List.setIfInBounds_toArray, List.set_cons_zero, List.set_cons_succ]
            refine wpAnyH_take (i := 1) (v := ?_) (List.getElem?_toArray.trans rfl) (by kernel_rfl) (by kernel_rfl) (by kernel_rfl) (fun _ _ _ h => h) (Or.inl ⟨by rfl, ?_⟩) (by assumption) ?_
            rotate_left
            · intro w' hw'
              try dsimp only at hw'
              skip
              go_simp
              try with_reducible rfl
            try simp only [Act.put, List.setIfInBounds_toArray, List.set_cons_zero, List.set_cons_succ]
            refine wpAnyH_take (i := 2) (v := ?_) (List.getElem?_toArray.trans rfl) (by kernel_rfl) (by kernel_rfl) (by kernel_rfl) (fun _ _ _ h => h) (Or.inl ⟨by rfl, ?_⟩) (by assumption) ?_
            rotate_left
            · intro w' hw'
              try dsimp only at hw'
              skip
              go_simp
              try with_reducible rfl
            try simp only [Act.put, List.setIfInBounds_toArray, List.set_cons_zero, List.set_cons_succ]
            refine wpAnyH_take (i := 3) (v := ?_) (List.getElem?_toArray.trans rfl) (by kernel_rfl) (by kernel_rfl) (by kernel_rfl) (fun _ _ _ h => h) (Or.inl ⟨by rfl, ?_⟩) (by assumption) ?_
            rotate_left
            · intro w' hw'
              try dsimp only at hw'
              skip
              go_simp
              try with_reducible rfl
            try simp only [Act.put, List.setIfInBounds_toArray, List.set_cons_zero, List.set_cons_succ]
            refine wpAnyH_take (i := 4) (v := ?_) (List.getElem?_toArray.trans rfl) (by kernel_rfl) (by kernel_rfl) (by kernel_rfl) (fun _ _ _ h => h) (Or.inl ⟨by rfl, ?_⟩) (by assumption) ?_
            rotate_left
            · intro w' hw'
              try dsimp only at hw'
              skip
              go_simp
              try with_reducible rfl
            try simp only [Act.put, List.setIfInBounds_toArray, List.set_cons_zero, List.set_cons_succ]
            refine wpAnyH_take (i := 5) (v := ?_) (List.getElem?_toArray.trans rfl) (by kernel_rfl) (by kernel_rfl) (by kernel_rfl) (fun _ _ _ h => h) (Or.inl ⟨by rfl, ?_⟩) (by assumption) ?_
            rotate_left
            · intro w' hw'
              try dsimp only at hw'
              skip
              go_simp
              try with_reducible rfl
            try simp only [Act.put, List.setIfInBounds_toArray, List.set_cons_zero, List.set_cons_succ]
            refine wpAnyH_take (i := 6) (v := ?_) (List.getElem?_toArray.trans rfl) (by kernel_rfl) (by kernel_rfl) (by kernel_rfl) (fun _ _ _ h => h) (Or.inl ⟨by rfl, ?_⟩) (by assumption) ?_
            rotate_left
            · intro w' hw'
              try dsimp only at hw'
              have hh1 := (hw').blk hb9 id
              go_simp
              try with_reducible rfl
            try simp only [Act.put, List.setIfInBounds_toArray, List.set_cons_zero, List.set_cons_succ]
            refine wpAnyH_take (i := 7) (v := ?_) (List.getElem?_toArray.trans rfl) (by kernel_rfl) (by kernel_rfl) (by kernel_rfl) (fun _ _ _ h => h) (Or.inl ⟨by rfl, ?_⟩) (by assumption) ?_
            rotate_left
            · intro w' hw'
              try dsimp only at hw'
              skip
              go_simp
              try with_reducible rfl
            try simp only [Act.put, List.setIfInBounds_toArray, List.set_cons_zero, List.set_cons_succ]
            refine wpAnyH_take (i := 8) (v := ?_) (List.getElem?_toArray.trans rfl) (by kernel_rfl) (by kernel_rfl) (by kernel_rfl) (fun _ _ _ h => h) (Or.inl ⟨by rfl, ?_⟩) (by assumption) ?_
            rotate_left
            · intro w' hw'
              try dsimp only at hw'
              skip
              go_simp
              try with_reducible rfl
            try simp only [Act.put, List.setIfInBounds_toArray, List.set_cons_zero, List.set_cons_succ]
            refine wpAnyH_take (i := 11) (v := ?_) (List.getElem?_toArray.trans rfl) (by kernel_rfl) (by kernel_rfl) (by kernel_rfl) (fun _ _ _ h => h) (Or.inl ⟨by rfl, ?_⟩) (by assumption) ?_
            rotate_left
            · intro w' hw'
              try dsimp only at hw'
              skip
              go_simp
              try with_reducible rfl
            try simp only [Act.put, List.setIfInBounds_toArray, List.set_cons_zero, List.set_cons_succ]
            refine wpAnyH_take (i := 9) (v := ?_) (List.getElem?_toArray.trans rfl) (by kernel_rfl) (by kernel_rfl) (by kernel_rfl) (fun _ _ _ h => h) (Or.inl ⟨by rfl, ?_⟩) (by assumption) ?_
            rotate_left
            · intro w' hw'
              try dsimp only at hw'
              skip
              go_simp
              try with_reducible rfl
            try simp only [Act.put, List.setIfInBounds_toArray, List.set_cons_zero, List.set_cons_succ]
            refine wpAnyH_ready (rs := [10]) (by kernel_rfl) (by simp) ?_
            refine AllReadyH.cons (List.getElem?_toArray.trans rfl) (fun K hK => ?_) AllReadyH.nil
            go_simp
            go_at_call 20
            refine (ref_behind _ w9.drew.heap.size A3 k c3 (L.take k) ((HO9.out.reads.take k).ext hdrw) (Nat.le_refl _) HLK.out.symm (fun r hr => recok_str (HOK.out r (List.mem_of_mem_take hr))) (by rw [HLK.out]; omega)).mono ?_
            rintro e w10 ⟨gd, rfl, hd10⟩
            have H10 := Lib.hid (hd10.since hdrw)
            clear hd10
            refine hK.out _ _ H10.out.ext (fun hHeld => ?_)
            clear hK K
            try simp only [Act.put, List.setIfInBounds_toArray, List.set_cons_zero, List.set_cons_succ]
            refine wpAnyH_ready (rs := [12]) (by kernel_rfl) (by simp) ?_
            refine AllReadyH.cons (List.getElem?_toArray.trans rfl) (fun K hK => ?_) AllReadyH.nil
            go_simp
            go_at_call 21
            obtain ⟨F11, hF11, hm11⟩ := H10.out.one
            refine (drawer_do _ gd F11 (dbehind (L.take k)) listC hF11 (behind_dok _) listC_str).mono ?_
            rintro e w11 ⟨rfl, hq11⟩
            rw [HDO.out]
            have H11 := Lib.hid (hm11 _ _ hq11)
            clear hF11 hm11 hq11
            refine hK.out _ _ H11.out.ext (fun hHeld => ?_)
            clear hK K
            try simp only [Act.put, List.setIfInBounds_toArray, List.set_cons_zero, List.set_cons_succ]
            refine wpAnyH_take (i := 13) (v := ?_) (List.getElem?_toArray.trans rfl) (by kernel_rfl) (by kernel_rfl) (by kernel_rfl) (fun _ _ _ h => h) (Or.inl ⟨by rfl, ?_⟩) (by assumption) ?_
            rotate_left
            · intro w' hw'
              try dsimp only at hw'
              skip
              go_simp
              try with_reducible rfl
            try simp only [Act.put, List.setIfInBounds_toArray, List.set_cons_zero, List.set_cons_succ]
            refine wpAnyH_take (i := 14) (v := ?_) (List.getElem?_toArray.trans rfl) (by kernel_rfl) (by kernel_rfl) (by kernel_rfl) (fun _ _ _ h => h) (Or.inl ⟨by rfl, ?_⟩) (by assumption) ?_
            rotate_left
            · intro w' hw'
              try dsimp only at hw'
              skip
              go_simp
              try with_reducible rfl
            try simp only [Act.put, List.setIfInBounds_toArray, List.set_cons_zero, List.set_cons_succ]
            refine wpAnyH_take (i := 15) (v := ?_) (List.getElem?_toArray.trans rfl) (by kernel_rfl) (by kernel_rfl) (by kernel_rfl) (fun _ _ _ h => h) (Or.inl ⟨by rfl, ?_⟩) (by assumption) ?_
            rotate_left
            · intro w' hw'
              try dsimp only at hw'
              skip
              go_simp
              try with_reducible rfl
            try simp only [Act.put, List.setIfInBounds_toArray, List.set_cons_zero, List.set_cons_succ]
            refine wpAnyH_done (by kernel_rfl) ?_ _
            clear hHeld
            go_wp2
            go_ret
            exact ⟨rfl, X3.out.trans (X5.out.trans (X9.out.trans H11.out.ext))⟩
end Go.Proofs.Ytalfbhhldfffkac
