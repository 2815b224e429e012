/- WorldDoes: the walk of the law. -/
import Derived.Test.YtalfbhhldfffkabWorldDoesC
namespace Go.Proofs.Ytalfbhhldfffkab
open Go.RowKit

abbrev DZ (gw gh aw ah : Nat) : Rep (((House × House) × Array Value) × Array Value) := ((((repWorld gw).and (repHouse gh)).and (repBlock aw 77)).and (repBlock ah 79))
abbrev dz (gw gh : Nat) (h h' : House) : ((House × House) × Array Value) × Array Value := (((h, h'), #[.pointer (some ⟨gw, 0, none⟩)]), #[.pointer (some ⟨gh, 0, none⟩)])
section
variable {gw gh aw ah : Nat} {W w : World} {h h' : House}
theorem dz_w (H : Has (DZ gw gh aw ah) W w (dz gw gh h h')) : ∃ F, (repWorld gw).on w F h ∧ ∀ h1 w', Moved (repWorld gw) w F h1 w' → Has (DZ gw gh aw ah) W w' (dz gw gh h1 h') := by
  obtain ⟨F1, h1, m1⟩ := H.fst
  obtain ⟨F2, h2, m2⟩ := Rep.fst h1
  obtain ⟨F3, h3, m3⟩ := Rep.fst h2
  exact ⟨F3, h3, fun _ _ m => m1 _ _ (m2 _ _ (m3 _ _ m))⟩
theorem dz_h (H : Has (DZ gw gh aw ah) W w (dz gw gh h h')) : ∃ F, (repHouse gh).on w F h' ∧ ∀ h1 w', Moved (repHouse gh) w F h1 w' → Has (DZ gw gh aw ah) W w' (dz gw gh h h1) := by
  obtain ⟨F1, h1, m1⟩ := H.fst
  obtain ⟨F2, h2, m2⟩ := Rep.fst h1
  obtain ⟨F3, h3, m3⟩ := Rep.snd h2
  exact ⟨F3, h3, fun _ _ m => m1 _ _ (m2 _ _ (m3 _ _ m))⟩
def DzS (gw gh aw ah : Nat) (w : World) : Prop := w.heap[aw]? = some (.cells #[.pointer (some ⟨gw, 0, none⟩)] 77 (0, 0)) ∧ w.heap[ah]? = some (.cells #[.pointer (some ⟨gh, 0, none⟩)] 79 (0, 0))
theorem dz_s (H : Has (DZ gw gh aw ah) W w (dz gw gh h h')) : DzS gw gh aw ah w := ⟨H.left.blk, H.blk⟩
theorem dz_same (H : Has (DZ gw gh aw ah) W w (dz gw gh h h)) (hok : ∃ fr, HouseOk h fr) :
    Calls Try.prog 40 #[.pointer (some ⟨aw, 0, none⟩), .pointer (some ⟨ah, 0, none⟩)] w fun e w' => e = .returned (.bool true) ∧ Ext w w' := by
  obtain ⟨fr, hok⟩ := hok
  obtain ⟨F, hF, _⟩ := dz_w H
  obtain ⟨G, hG, _⟩ := dz_h H
  exact same_calls w gw gh aw ah F G h fr hF hG hok (dz_s H).1 (dz_s H).2
end
def WDoesRel (W : World) (gw gh aw ah : Nat) (l : List Step) (i : Value) (wr : World) : Prop :=
  ∃ k : Nat, i = .int .i64 k ∧ k ≤ l.length ∧ Has (DZ gw gh aw ah) W wr (dz gw gh (hAt l k) (hAt l k))
set_option maxHeartbeats 8000000 in
set_option maxRecDepth 100000 in
theorem worldDoes (W : World) (A : Option Addr) (c : Nat) (l : List Step) (hr : Reads W W.heap.size A l) (hs : ∀ x ∈ l, StrWStep x) (hl : l.length ≤ 140737488351232) :
    Calls Try.prog 10 #[.slice A l.length c] W fun e w' => e = .returned (.bool true) ∧ Ext W w' := by
  have HR := Lib.hid hr
  have HS := Lib.hid hs
  clear hr hs
  go_enter Try.func10, Try.ntmps10
  go_wp2_with fail
  refine (world_begun W).mono ?_
  rintro e w1 ⟨rfl, hx1⟩
  have X1 := Lib.hid hx1
  clear hx1
  go_wp2_with fail
  refine (law_greatSteps w1 w1.heap.size A c l (HR.out.ext X1.out) (Nat.le_refl _) HS.out hl).mono ?_
  rintro e w2 ⟨b2, rfl, hx2⟩
  have X2 := Lib.hid (X1.out.trans hx2)
  clear hx2
  cases b2
  rotate_left
  · go_wp2
    go_ret
    exact ⟨rfl, X2.out⟩
  go_wp2_with fail
  refine (world_new w2).mono ?_
  rintro e w3 ⟨gw, rfl, hn3⟩
  have H0 := Lib.hid (hn3.since X2.out)
  clear hn3
  go_wp2_with fail
  refine (house_new w3).mono ?_
  rintro e w4 ⟨gh, rfl, hn4⟩
  have H1 := Lib.hid (show Has (DZ gw gh w4.heap.size (w4.heap.size + 1)) W ((w4.alloc (.cells #[.pointer (some ⟨gw, 0, none⟩)] 77)).alloc (.cells #[.pointer (some ⟨gh, 0, none⟩)] 79)) (dz gw gh hNew hNew) from by
    have h := ((H0.out.both hn4).box #[.pointer (some ⟨gw, 0, none⟩)] 77).box #[.pointer (some ⟨gh, 0, none⟩)] 79
    have e : (w4.alloc (.cells #[.pointer (some ⟨gw, 0, none⟩)] 77)).heap.size = w4.heap.size + 1 := Array.size_push _
    rw [e] at h
    exact h)
  clear hn4 H0
  go_wp2_with fail
  generalize (w4.alloc (.cells #[.pointer (some ⟨gw, 0, none⟩)] 77)).alloc (.cells #[.pointer (some ⟨gh, 0, none⟩)] 79) = w5 at H1 ⊢
  generalize w4.heap.size + 1 = ah at H1 ⊢
  generalize w4.heap.size = aw at H1 ⊢
  go_loopw [6] (fun i wr => WDoesRel W gw gh aw ah l i wr) (fun i _ => l.length - (intOf i).toNat)
  case atStart => exact ⟨0, rfl, Nat.zero_le _, H1.out⟩
  case round =>
    clear H1
    obtain ⟨k, rfl, hk, hz⟩ := hrel
    have HZ := Lib.hid hz
    clear hz
    by_cases hlt : k < l.length
    · skip
      obtain ⟨x, hx⟩ : ∃ x, l[k]? = some x := ⟨l[k], by simp [hlt]⟩
      obtain ⟨ad, rfl, hadb, hat⟩ := HR.out _ x hx
      have HLV := Lib.hid (show ∀ w', Ext W w' → LV Try.prog 100 (ad.add (k * 7)) w' = .ok (.agg x.cells) w' from fun w' hw' => LV_Step ((hat.of_same (w' := w') (by rw [show (ad.add (k * Lies.size Step)).block = ad.block by unfold Addr.add; split <;> rfl]; exact hw'.block _ hadb id))))
      have HXX := Lib.hid hx
      have HOK := Lib.hid (hAt_ok l k)
      have HFI := Lib.hid (hAt_fits l k)
      have HST := Lib.hid (HS.out x (List.mem_of_getElem? hx))
      clear hx hat
      go_wp2_with fail
      refine wp_region_held_drew (S := fun w' => DzS gw gh aw ah w' ∧ LV Try.prog 100 (ad.add (k * 7)) w' = .ok (.agg x.cells) w') (by kernel_rfl) ⟨dz_s (HZ.out.step (Touch.drew (Touch.refl _ wr))), HLV.out _ (HZ.out.ext.trans (Touch.drew (Touch.refl _ wr)))⟩ (fun hHeld => ?_)
      refine wpAnyH_take (i := 0) (v := ?_) (gT rfl) (by kernel_rfl) (by kernel_rfl) (by kernel_rfl) (fun _ _ _ h => h) (Or.inl ⟨by rfl, ?_⟩) (by assumption) ?_
      rotate_left
      · intro w' hw'
        try dsimp only at hw'
        have hca := cell_of hw'.1.1 0
        go_simp
        try with_reducible rfl
      try simp only [Act.put, aS, a0, a1]
      refine wpAnyH_take (i := 1) (v := ?_) (gT rfl) (by kernel_rfl) (by kernel_rfl) (by kernel_rfl) (fun _ _ _ h => h) (Or.inl ⟨by rfl, ?_⟩) (by assumption) ?_
      rotate_left
      · intro w' hw'
        try dsimp only at hw'
        go_simp
        try with_reducible rfl
      try simp only [Act.put, aS, a0, a1]
      refine wpAnyH_take (i := 2) (v := ?_) (gT rfl) (by kernel_rfl) (by kernel_rfl) (by kernel_rfl) (fun _ _ _ h => h) (Or.inl ⟨by rfl, ?_⟩) (by assumption) ?_
      rotate_left
      · intro w' hw'
        try dsimp only at hw'
        go_simp
        try with_reducible rfl
      try simp only [Act.put, aS, a0, a1]
      refine wpAnyH_take (i := 6) (v := ?_) (gT rfl) (by kernel_rfl) (by kernel_rfl) (by kernel_rfl) (fun _ _ _ h => h) (Or.inl ⟨by rfl, ?_⟩) (by assumption) ?_
      rotate_left
      · intro w' hw'
        try dsimp only at hw'
        have hca := cell_of hw'.1.2 0
        go_simp
        try with_reducible rfl
      try simp only [Act.put, aS, a0, a1]
      refine wpAnyH_take (i := 7) (v := ?_) (gT rfl) (by kernel_rfl) (by kernel_rfl) (by kernel_rfl) (fun _ _ _ h => h) (Or.inl ⟨by rfl, ?_⟩) (by assumption) ?_
      rotate_left
      · intro w' hw'
        try dsimp only at hw'
        go_simp
        try with_reducible rfl
      try simp only [Act.put, aS, a0, a1]
      refine wpAnyH_take (i := 8) (v := ?_) (gT rfl) (by kernel_rfl) (by kernel_rfl) (by kernel_rfl) (fun _ _ _ h => h) (Or.inl ⟨by rfl, ?_⟩) (by assumption) ?_
      rotate_left
      · intro w' hw'
        try dsimp only at hw'
        go_simp
        try with_reducible rfl
      try simp only [Act.put, aS, a0, a1]
      refine wpAnyH_take (i := 3) (v := ?_) (gT rfl) (by kernel_rfl) (by kernel_rfl) (by kernel_rfl) (fun _ _ _ h => h) (Or.inl ⟨by rfl, ?_⟩) (by assumption) ?_
      rotate_left
      · intro w' hw'
        try dsimp only at hw'
        go_simp
        try with_reducible rfl
      try simp only [Act.put, aS, a0, a1]
      refine wpAnyH_take (i := 9) (v := ?_) (gT rfl) (by kernel_rfl) (by kernel_rfl) (by kernel_rfl) (fun _ _ _ h => h) (Or.inl ⟨by rfl, ?_⟩) (by assumption) ?_
      rotate_left
      · intro w' hw'
        try dsimp only at hw'
        go_simp
        try with_reducible rfl
      try simp only [Act.put, aS, a0, a1]
      refine wpAnyH_take (i := 4) (v := ?_) (gT rfl) (by kernel_rfl) (by kernel_rfl) (by kernel_rfl) (fun _ _ _ h => h) (Or.inl ⟨by rfl, ?_⟩) (by assumption) ?_
      rotate_left
      · intro w' hw'
        try dsimp only at hw'
        have hlv := hw'.2
        go_simp
        try with_reducible rfl
      try simp only [Act.put, aS, a0, a1]
      refine wpAnyH_take (i := 10) (v := ?_) (gT rfl) (by kernel_rfl) (by kernel_rfl) (by kernel_rfl) (fun _ _ _ h => h) (Or.inl ⟨by rfl, ?_⟩) (by assumption) ?_
      rotate_left
      · intro w' hw'
        try dsimp only at hw'
        have hlv := hw'.2
        go_simp
        try with_reducible rfl
      try simp only [Act.put, aS, a0, a1]
      refine wpAnyH_ready (rs := [5]) (by kernel_rfl) (by simp) ?_
      refine AllReadyH.cons (gT rfl) (fun K hK => ?_) AllReadyH.nil
      go_simp
      go_at_call 47
      obtain ⟨F5, hF5, hm5⟩ := dz_w (HZ.out.step (Touch.drew (Touch.refl _ wr)))
      refine (world_step wr.drew gw F5 (hAt l k) x hF5 HFI.out HST.out).mono ?_
      rintro e w6 ⟨rfl, hq5⟩
      have h6 := hm5 _ _ hq5
      have H6 := Lib.hid h6
      clear hF5 hm5 hq5
      refine hK.out _ _ ⟨dz_s h6, HLV.out _ h6.ext⟩ (fun hHeld => ?_)
      clear h6
      clear hK K
      try simp only [Act.put, aS, a0, a1]
      refine wpAnyH_ready (rs := [11]) (by kernel_rfl) (by simp) ?_
      refine AllReadyH.cons (gT rfl) (fun K hK => ?_) AllReadyH.nil
      go_simp
      go_at_call 48
      obtain ⟨F7, hF7, hm7⟩ := dz_h H6.out
      refine (house_step w6 gh F7 (hAt l k) x hF7 HFI.out HST.out).mono ?_
      rintro e w7 ⟨rfl, hq7⟩
      have h7 := hm7 _ _ hq7
      rw [← hAt_next HXX.out] at h7
      have H7 := Lib.hid h7
      clear hF7 hm7 hq7
      refine hK.out _ _ ⟨dz_s h7, HLV.out _ h7.ext⟩ (fun hHeld => ?_)
      clear h7
      clear hK K
      try simp only [Act.put, aS, a0, a1]
      generalize (hStep (hAt l k) x).1 = n1
      have hnn : (n1 != n1) = false := by simp
      refine wpAnyH_take (i := 12) (v := ?_) (gT rfl) (by kernel_rfl) (by kernel_rfl) (by kernel_rfl) (fun _ _ _ h => h) (Or.inl ⟨by rfl, ?_⟩) (by assumption) ?_
      rotate_left
      · intro w' hw'
        try dsimp only at hw'
        go_simp
        try with_reducible rfl
      try simp only [Act.put, aS, a0, a1]
      refine wpAnyH_take (i := 13) (v := ?_) (gT rfl) (by kernel_rfl) (by kernel_rfl) (by kernel_rfl) (fun _ _ _ h => h) (Or.inl ⟨by rfl, ?_⟩) (by assumption) ?_
      rotate_left
      · intro w' hw'
        try dsimp only at hw'
        go_simp
        try with_reducible rfl
      try simp only [Act.put, aS, a0, a1]
      refine wpAnyH_take (i := 14) (v := ?_) (gT rfl) (by kernel_rfl) (by kernel_rfl) (by kernel_rfl) (fun _ _ _ h => h) (Or.inl ⟨by rfl, ?_⟩) (by assumption) ?_
      rotate_left
      · intro w' hw'
        try dsimp only at hw'
        go_simp
        try with_reducible rfl
      try simp only [Act.put, aS, a0, a1]
      refine wpAnyH_take (i := 15) (v := ?_) (gT rfl) (by kernel_rfl) (by kernel_rfl) (by kernel_rfl) (fun _ _ _ h => h) (Or.inl ⟨by rfl, ?_⟩) (by assumption) ?_
      rotate_left
      · intro w' hw'
        try dsimp only at hw'
        go_simp
        try with_reducible rfl
      try simp only [Act.put, aS, a0, a1]
      have HOK7 := Lib.hid (hAt_ok l (k + 1))
      cases hb : (((k : Int).tmod 4) == 0) with
      | true =>
        refine wpAnyH_take (i := 16) (v := ?_) (gT rfl) (by kernel_rfl) (by kernel_rfl) (by kernel_rfl) (fun _ _ _ h => h) (Or.inl ⟨by rfl, ?_⟩) (by assumption) ?_
        rotate_left
        · intro w' hw'
          try dsimp only at hw'
          go_simp
          try with_reducible rfl
        try simp only [Act.put, aS, a0, a1]
        refine wpAnyH_take (i := 17) (v := ?_) (gT rfl) (by kernel_rfl) (by kernel_rfl) (by kernel_rfl) (fun _ _ _ h => h) (Or.inl ⟨by rfl, ?_⟩) (by assumption) ?_
        rotate_left
        · intro w' hw'
          try dsimp only at hw'
          go_simp
          try with_reducible rfl
        try simp only [Act.put, aS, a0, a1]
        refine wpAnyH_take (i := 18) (v := ?_) (gT rfl) (by kernel_rfl) (by kernel_rfl) (by kernel_rfl) (fun _ _ _ h => h) (Or.inl ⟨by rfl, ?_⟩) (by assumption) ?_
        rotate_left
        · intro w' hw'
          try dsimp only at hw'
          go_simp
          try with_reducible rfl
        try simp only [Act.put, aS, a0, a1]
        refine wpAnyH_ready (rs := [19]) (by kernel_rfl) (by simp) ?_
        refine AllReadyH.cons (gT rfl) (fun K hK => ?_) AllReadyH.nil
        go_simp
        go_at_call 40
        refine (dz_same H7.out HOK7.out).mono ?_
        rintro e w8 ⟨rfl, hx8⟩
        have h8 := H7.out.step hx8
        have H8 := Lib.hid h8
        refine hK.out _ _ ⟨dz_s h8, HLV.out _ h8.ext⟩ (fun hHeld => ?_)
        clear h8
        clear hK K
        try simp only [Act.put, aS, a0, a1]
        refine wpAnyH_take (i := 20) (v := ?_) (gT rfl) (by kernel_rfl) (by kernel_rfl) (by kernel_rfl) (fun _ _ _ h => h) (Or.inl ⟨by rfl, ?_⟩) (by assumption) ?_
        rotate_left
        · intro w' hw'
          try dsimp only at hw'
          go_simp
          try with_reducible rfl
        try simp only [Act.put, aS, a0, a1]
        refine wpAnyH_take (i := 21) (v := ?_) (gT rfl) (by kernel_rfl) (by kernel_rfl) (by kernel_rfl) (fun _ _ _ h => h) (Or.inl ⟨by rfl, ?_⟩) (by assumption) ?_
        rotate_left
        · intro w' hw'
          try dsimp only at hw'
          go_simp
          try with_reducible rfl
        try simp only [Act.put, aS, a0, a1]
        refine wpAnyH_take (i := 22) (v := ?_) (gT rfl) (by kernel_rfl) (by kernel_rfl) (by kernel_rfl) (fun _ _ _ h => h) (Or.inl ⟨by rfl, ?_⟩) (by assumption) ?_
        rotate_left
        · intro w' hw'
          try dsimp only at hw'
          go_simp
          try with_reducible rfl
        try simp only [Act.put, aS, a0, a1]
        refine wpAnyH_done (by kernel_rfl) ?_ _
        clear hHeld
        go_wp2
        go_roundw
        case rel => exact ⟨k + 1, by go_num, by omega, H8.out⟩
        case measure => simp [intOf]; omega
      | false =>
        refine wpAnyH_take (i := 16) (v := ?_) (gT rfl) (by kernel_rfl) (by kernel_rfl) (by kernel_rfl) (fun _ _ _ h => h) (Or.inl ⟨by rfl, ?_⟩) (by assumption) ?_
        rotate_left
        · intro w' hw'
          try dsimp only at hw'
          go_simp
          try with_reducible rfl
        try simp only [Act.put, aS, a0, a1]
        refine wpAnyH_take (i := 17) (v := ?_) (gT rfl) (by kernel_rfl) (by kernel_rfl) (by kernel_rfl) (fun _ _ _ h => h) (Or.inl ⟨by rfl, ?_⟩) (by assumption) ?_
        rotate_left
        · intro w' hw'
          try dsimp only at hw'
          go_simp
          try with_reducible rfl
        try simp only [Act.put, aS, a0, a1]
        refine wpAnyH_take (i := 18) (v := undef) (gT rfl) (by kernel_rfl) (by kernel_rfl) (by kernel_rfl) (fun _ _ _ h => h) (Or.inr ⟨by rfl, rfl⟩) (by assumption) ?_
        try simp only [Act.put, aS, a0, a1]
        refine wpAnyH_take (i := 19) (v := undef) (gT rfl) (by kernel_rfl) (by kernel_rfl) (by kernel_rfl) (fun _ _ _ h => h) (Or.inr ⟨by rfl, rfl⟩) (by assumption) ?_
        try simp only [Act.put, aS, a0, a1]
        refine wpAnyH_take (i := 20) (v := undef) (gT rfl) (by kernel_rfl) (by kernel_rfl) (by kernel_rfl) (fun _ _ _ h => h) (Or.inr ⟨by rfl, rfl⟩) (by assumption) ?_
        try simp only [Act.put, aS, a0, a1]
        refine wpAnyH_take (i := 21) (v := ?_) (gT rfl) (by kernel_rfl) (by kernel_rfl) (by kernel_rfl) (fun _ _ _ h => h) (Or.inl ⟨by rfl, ?_⟩) (by assumption) ?_
        rotate_left
        · intro w' hw'
          try dsimp only at hw'
          go_simp
          try with_reducible rfl
        try simp only [Act.put, aS, a0, a1]
        refine wpAnyH_take (i := 22) (v := ?_) (gT rfl) (by kernel_rfl) (by kernel_rfl) (by kernel_rfl) (fun _ _ _ h => h) (Or.inl ⟨by rfl, ?_⟩) (by assumption) ?_
        rotate_left
        · intro w' hw'
          try dsimp only at hw'
          go_simp
          try with_reducible rfl
        try simp only [Act.put, aS, a0, a1]
        refine wpAnyH_done (by kernel_rfl) ?_ _
        clear hHeld
        go_wp2
        go_roundw
        case rel => exact ⟨k + 1, by go_num, by omega, H7.out⟩
        case measure => simp [intOf]; omega
    · obtain rfl : k = l.length := by omega
      obtain ⟨fr, hok⟩ := hAt_ok l l.length
      have HOK := Lib.hid hok
      have HOKC := Lib.hid (show ∃ fr, HouseOk (hCalm (hAt l l.length)).2 fr from ⟨_, hCalm_ok hok⟩)
      clear hok
      go_wp2_with fail
      refine wp_region_held_drew (S := fun w' => DzS gw gh aw ah w') (by kernel_rfl) (dz_s (HZ.out.step (Touch.drew (Touch.refl _ wr)))) (fun hHeld => ?_)
      refine wpAnyH_take (i := 0) (v := ?_) (gT rfl) (by kernel_rfl) (by kernel_rfl) (by kernel_rfl) (fun _ _ _ h => h) (Or.inl ⟨by rfl, ?_⟩) (by assumption) ?_
      rotate_left
      · intro w' hw'
        try dsimp only at hw'
        go_simp
        try with_reducible rfl
      try simp only [Act.put, aS, a0, a1]
      refine wpAnyH_ready (rs := [1]) (by kernel_rfl) (by simp) ?_
      refine AllReadyH.cons (gT rfl) (fun K hK => ?_) AllReadyH.nil
      go_simp
      go_at_call 40
      refine (dz_same (HZ.out.step (Touch.drew (Touch.refl _ wr))) ⟨fr, HOK.out⟩).mono ?_
      rintro e w5 ⟨rfl, hx5⟩
      have h5 := (HZ.out.step (Touch.drew (Touch.refl _ wr))).step hx5
      have H5 := Lib.hid h5
      refine hK.out _ _ (dz_s h5) (fun hHeld => ?_)
      clear h5 hx5
      clear hK K
      try simp only [Act.put, aS, a0, a1]
      refine wpAnyH_take (i := 2) (v := ?_) (gT rfl) (by kernel_rfl) (by kernel_rfl) (by kernel_rfl) (fun _ _ _ h => h) (Or.inl ⟨by rfl, ?_⟩) (by assumption) ?_
      rotate_left
      · intro w' hw'
        try dsimp only at hw'
        go_simp
        try with_reducible rfl
      try simp only [Act.put, aS, a0, a1]
      refine wpAnyH_take (i := 3) (v := ?_) (gT rfl) (by kernel_rfl) (by kernel_rfl) (by kernel_rfl) (fun _ _ _ h => h) (Or.inl ⟨by rfl, ?_⟩) (by assumption) ?_
      rotate_left
      · intro w' hw'
        try dsimp only at hw'
        have hca := cell_of hw'.1 0
        go_simp
        try with_reducible rfl
      try simp only [Act.put, aS, a0, a1]
      refine wpAnyH_take (i := 5) (v := ?_) (gT rfl) (by kernel_rfl) (by kernel_rfl) (by kernel_rfl) (fun _ _ _ h => h) (Or.inl ⟨by rfl, ?_⟩) (by assumption) ?_
      rotate_left
      · intro w' hw'
        try dsimp only at hw'
        have hca := cell_of hw'.2 0
        go_simp
        try with_reducible rfl
      try simp only [Act.put, aS, a0, a1]
      refine wpAnyH_ready (rs := [4]) (by kernel_rfl) (by simp) ?_
      refine AllReadyH.cons (gT rfl) (fun K hK => ?_) AllReadyH.nil
      go_simp
      go_at_call 49
      obtain ⟨F6, hF6, hm6⟩ := dz_w H5.out
      refine (world_calm w5 gw F6 (hAt l l.length) fr hF6 HOK.out).mono ?_
      rintro e w6 ⟨rfl, hq6⟩
      have h6 := hm6 _ _ hq6
      have H6 := Lib.hid h6
      clear hF6 hm6 hq6
      refine hK.out _ _ (dz_s h6) (fun hHeld => ?_)
      clear h6
      clear hK K
      try simp only [Act.put, aS, a0, a1]
      refine wpAnyH_ready (rs := [6]) (by kernel_rfl) (by simp) ?_
      refine AllReadyH.cons (gT rfl) (fun K hK => ?_) AllReadyH.nil
      go_simp
      go_at_call 50
      obtain ⟨F7, hF7, hm7⟩ := dz_h H6.out
      refine (house_calm w6 gh F7 (hAt l l.length) fr hF7 HOK.out).mono ?_
      rintro e w7 ⟨rfl, hq7⟩
      have h7 := hm7 _ _ hq7
      have H7 := Lib.hid h7
      clear hF7 hm7 hq7
      refine hK.out _ _ (dz_s h7) (fun hHeld => ?_)
      clear h7
      clear hK K
      try simp only [Act.put, aS, a0, a1]
      generalize (hCalm (hAt l l.length)).1 = n1
      have hnn : ((n1 : Int) == (n1 : Int)) = true := by simp
      refine wpAnyH_take (i := 7) (v := ?_) (gT rfl) (by kernel_rfl) (by kernel_rfl) (by kernel_rfl) (fun _ _ _ h => h) (Or.inl ⟨by rfl, ?_⟩) (by assumption) ?_
      rotate_left
      · intro w' hw'
        try dsimp only at hw'
        go_simp
        try with_reducible rfl
      try simp only [Act.put, aS, a0, a1]
      refine wpAnyH_take (i := 8) (v := ?_) (gT rfl) (by kernel_rfl) (by kernel_rfl) (by kernel_rfl) (fun _ _ _ h => h) (Or.inl ⟨by rfl, ?_⟩) (by assumption) ?_
      rotate_left
      · intro w' hw'
        try dsimp only at hw'
        go_simp
        try with_reducible rfl
      try simp only [Act.put, aS, a0, a1]
      refine wpAnyH_take (i := 9) (v := ?_) (gT rfl) (by kernel_rfl) (by kernel_rfl) (by kernel_rfl) (fun _ _ _ h => h) (Or.inl ⟨by rfl, ?_⟩) (by assumption) ?_
      rotate_left
      · intro w' hw'
        try dsimp only at hw'
        go_simp
        try with_reducible rfl
      try simp only [Act.put, aS, a0, a1]
      refine wpAnyH_take (i := 10) (v := ?_) (gT rfl) (by kernel_rfl) (by kernel_rfl) (by kernel_rfl) (fun _ _ _ h => h) (Or.inl ⟨by rfl, ?_⟩) (by assumption) ?_
      rotate_left
      · intro w' hw'
        try dsimp only at hw'
        go_simp
        try with_reducible rfl
      try simp only [Act.put, aS, a0, a1]
      refine wpAnyH_ready (rs := [11]) (by kernel_rfl) (by simp) ?_
      refine AllReadyH.cons (gT rfl) (fun K hK => ?_) AllReadyH.nil
      go_simp
      go_at_call 40
      refine (dz_same H7.out HOKC.out).mono ?_
      rintro e w8 ⟨rfl, hx8⟩
      have h8 := H7.out.step hx8
      have H8 := Lib.hid h8
      refine hK.out _ _ (dz_s h8) (fun hHeld => ?_)
      clear h8
      clear hK K
      try simp only [Act.put, aS, a0, a1]
      refine wpAnyH_take (i := 12) (v := ?_) (gT rfl) (by kernel_rfl) (by kernel_rfl) (by kernel_rfl) (fun _ _ _ h => h) (Or.inl ⟨by rfl, ?_⟩) (by assumption) ?_
      rotate_left
      · intro w' hw'
        try dsimp only at hw'
        go_simp
        try with_reducible rfl
      try simp only [Act.put, aS, a0, a1]
      refine wpAnyH_take (i := 13) (v := ?_) (gT rfl) (by kernel_rfl) (by kernel_rfl) (by kernel_rfl) (fun _ _ _ h => h) (Or.inl ⟨by rfl, ?_⟩) (by assumption) ?_
      rotate_left
      · intro w' hw'
        try dsimp only at hw'
        go_simp
        try with_reducible rfl
      try simp only [Act.put, aS, a0, a1]
      refine wpAnyH_done (by kernel_rfl) ?_ _
      clear hHeld
      go_wp2
      go_ret
      exact ⟨rfl, H8.out.ext⟩
end Go.Proofs.Ytalfbhhldfffkab
