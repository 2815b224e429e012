/- WorldForgets: the walk of the law. -/
import Derived.Test.YtalfbhhldfffkacGWorldLaw
namespace Go.Proofs.Ytalfbhhldfffkac
open Go.RowKit

abbrev TwoW (gw gv : Nat) : Rep (House × House) := (repWorld gw).and (repWorld gv)
def ForRel (W : World) (gw gv : Nat) (l : List Step) (i : Value) (wr : World) : Prop :=
  ∃ k : Nat, i = .int .i64 k ∧ k ≤ l.length ∧ Has (TwoW gw gv) W wr (hAt l k, hAt l k)
set_option maxHeartbeats 4000000 in
set_option maxRecDepth 100000 in
theorem worldForgets (W : World) (A : Option Addr) (c : Nat) (l : List Step) (hr : Reads W W.heap.size A l) (hs : ∀ x ∈ l, StrWStep x) (hl : l.length ≤ 140737488351232) :
    Calls Try.prog 7 #[.slice A l.length c] W fun e w' => e = .returned (.bool true) ∧ Ext W w' := by
  have HR := Lib.hid hr
  have HS := Lib.hid hs
  clear hr hs
  go_enter Try.func7, Try.ntmps7
  go_wp2_with fail
  refine (world_begun W).mono ?_
  rintro e w1 ⟨rfl, hx1⟩
  have X1 := Lib.hid hx1
  clear hx1
  go_wp2_with fail
  refine (law_greatSteps w1 w1.heap.size A c l (HR.out.ext X1.out) (Nat.le_refl _) HS.out hl).mono ?_
  rintro e w2 ⟨b2, rfl, hx2⟩
  have X2 := Lib.hid (X1.out.trans hx2)
  clear hx2
  cases b2
  rotate_left
  · go_wp2
    go_ret
    exact ⟨rfl, X2.out⟩
  go_wp2_with fail
  refine (world_new w2).mono ?_
  rintro e w3 ⟨gw, rfl, hn3⟩
  have H0 := Lib.hid (hn3.since X2.out)
  clear hn3
  go_wp2_with fail
  refine (world_new w3).mono ?_
  rintro e w4 ⟨gv, rfl, hn4⟩
  have H4 := Lib.hid (H0.out.both hn4)
  clear hn4 H0
  go_wp2_with fail
  go_loopw [5] (fun i wr => ForRel W gw gv l i wr) (fun i _ => l.length - (intOf i).toNat)
  case atStart => exact ⟨0, rfl, Nat.zero_le _, H4.out⟩
  case round =>
    clear H4
    obtain ⟨k, rfl, hk, hz⟩ := hrel
    have HZ := Lib.hid hz
    clear hz
    by_cases hlt : k < l.length
    · skip
      obtain ⟨x, hx⟩ : ∃ x, l[k]? = some x := ⟨l[k], by simp [hlt]⟩
      obtain ⟨ad, rfl, hadb, hat⟩ := HR.out _ x hx
      have hadk : (ad.add (k * Lies.size Step)).block = ad.block := by unfold Addr.add; split <;> rfl
      have HLV := Lib.hid (show ∀ w', Ext W w' → LV Try.prog 32 (ad.add (k * 7)) w' = .ok (.agg x.cells) w' ∧ w'.cell? (ad.add (k * 7)) = some (.int .i64 x.kind) from
        fun w' hw' => ⟨LV_Step ((hat.of_same (w' := w') (by rw [hadk]; exact hw'.block _ hadb id))), (hat.of_same (w' := w') (by rw [hadk]; exact hw'.block _ hadb id)) 0 _ rfl⟩)
      have HXX := Lib.hid hx
      have HOK := Lib.hid (hAt_ok l k)
      have HFI := Lib.hid (hAt_fits l k)
      have HST := Lib.hid (HS.out x (List.mem_of_getElem? hx))
      clear hx hat hadk
      have hlv := (HLV.out wr HZ.out.ext).1
      go_wp2_with fail
      obtain ⟨F5, hF5, hm5⟩ := HZ.out.fst
      refine (world_step wr gw F5 _ x hF5 HFI.out HST.out).mono ?_
      rintro e w5 ⟨rfl, hq5⟩
      have h5 := hm5 _ _ hq5
      have H5 := Lib.hid h5
      have hck := (HLV.out w5 h5.ext).2
      clear hF5 hm5 hq5 h5 hlv
      by_cases h6 : x.kind = 6
      · have h6' : (x.kind == 6) = true := by simp [h6]
        have hE : hAt l (k + 1) = hAt l k := by rw [hAt_next HXX.out, hStep_6 h6]
        have HN := Lib.hid hE
        have HN2 := Lib.hid (show (hStep (hAt l k) x).2 = hAt l k by rw [hStep_6 h6])
        clear hE h6
        go_wp2
        go_roundw
        case rel => exact ⟨k + 1, by go_num, by omega, by have := H5.out; rw [HN2.out] at this; rw [HN.out]; exact this⟩
        case measure => simp [intOf]; omega
      · have h6' : (x.kind == 6) = false := by simp [h6]
        have HN := Lib.hid (hAt_next HXX.out)
        clear h6
        go_wp2_with fail
        have HFI6 := Lib.hid (show Fits (hStep (hAt l k) x).2 from HN.out ▸ hAt_fits l (k + 1))
        obtain ⟨code, hcode⟩ : ∃ code, (hStep (hAt l k) x).1 = code := ⟨_, rfl⟩
        have hcc : (code != code) = false := by simp
        rw [hcode]
        have HCO := Lib.hid hcode
        clear hcode hck
        generalize hH1 : (hStep (hAt l k) x).2 = H1 at *
        have HH1 := Lib.hid hH1
        clear hH1
        refine wp_region_held_drew (S := fun w' => Ext W w') (by kernel_rfl) (H5.out.ext.trans (Touch.drew (Touch.refl _ w5))) (fun hHeld => ?_)
        refine wpAnyH_take (i := 0) (v := ?_) (List.getElem?_toArray.trans rfl) (by kernel_rfl) (by kernel_rfl) (by kernel_rfl) (fun _ _ _ h => h) (Or.inl ⟨by rfl, ?_⟩) (by assumption) ?_
        rotate_left
        · intro w' hw'
          try dsimp only at hw'
          skip
          go_simp
          try with_reducible rfl
        try simp only [Act.put, List.setIfInBounds_toArray, List.set_cons_zero, List.set_cons_succ]
        refine wpAnyH_take (i := 1) (v := ?_) (List.getElem?_toArray.trans rfl) (by kernel_rfl) (by kernel_rfl) (by kernel_rfl) (fun _ _ _ h => h) (Or.inl ⟨by rfl, ?_⟩) (by assumption) ?_
        rotate_left
        · intro w' hw'
          try dsimp only at hw'
          skip
          go_simp
          try with_reducible rfl
        try simp only [Act.put, List.setIfInBounds_toArray, List.set_cons_zero, List.set_cons_succ]
        refine wpAnyH_take (i := 2) (v := ?_) (List.getElem?_toArray.trans rfl) (by kernel_rfl) (by kernel_rfl) (by kernel_rfl) (fun _ _ _ h => h) (Or.inl ⟨by rfl, ?_⟩) (by assumption) ?_
        rotate_left
        · intro w' hw'
          try dsimp only at hw'
          skip
          go_simp
          try with_reducible rfl
        try simp only [Act.put, List.setIfInBounds_toArray, List.set_cons_zero, List.set_cons_succ]
        refine wpAnyH_take (i := 6) (v := ?_) (List.getElem?_toArray.trans rfl) (by kernel_rfl) (by kernel_rfl) (by kernel_rfl) (fun _ _ _ h => h) (Or.inl ⟨by rfl, ?_⟩) (by assumption) ?_
        rotate_left
        · intro w' hw'
          try dsimp only at hw'
          skip
          go_simp
          try with_reducible rfl
        try simp only [Act.put, List.setIfInBounds_toArray, List.set_cons_zero, List.set_cons_succ]
        refine wpAnyH_take (i := 3) (v := ?_) (List.getElem?_toArray.trans rfl) (by kernel_rfl) (by kernel_rfl) (by kernel_rfl) (fun _ _ _ h => h) (Or.inl ⟨by rfl, ?_⟩) (by assumption) ?_
        rotate_left
        · intro w' hw'
          try dsimp only at hw'
          skip
          go_simp
          try with_reducible rfl
        try simp only [Act.put, List.setIfInBounds_toArray, List.set_cons_zero, List.set_cons_succ]
        refine wpAnyH_take (i := 4) (v := ?_) (List.getElem?_toArray.trans rfl) (by kernel_rfl) (by kernel_rfl) (by kernel_rfl) (fun _ _ _ h => h) (Or.inl ⟨by rfl, ?_⟩) (by assumption) ?_
        rotate_left
        · intro w' hw'
          try dsimp only at hw'
          have hlv := (HLV.out w' hw').1
          go_simp
          try with_reducible rfl
        try simp only [Act.put, List.setIfInBounds_toArray, List.set_cons_zero, List.set_cons_succ]
        refine wpAnyH_ready (rs := [5]) (by kernel_rfl) (by simp) ?_
        refine AllReadyH.cons (List.getElem?_toArray.trans rfl) (fun K hK => ?_) AllReadyH.nil
        go_simp
        go_at_call 14
        obtain ⟨F7, hF7, hm7⟩ := (H5.out.step (Touch.drew (Touch.refl _ w5))).snd
        refine (world_step _ gv F7 _ x hF7 HFI.out HST.out).mono ?_
        rintro e w7 ⟨rfl, hq7⟩
        rw [HH1.out] at hq7
        rw [HCO.out]
        have H7 := Lib.hid (hm7 _ _ hq7)
        have hx7 := H7.out.ext
        obtain ⟨Fa, hFa, _⟩ := H7.out.fst
        obtain ⟨Fb, hFb, _⟩ := H7.out.snd
        obtain ⟨ga, Fsa, hsa⟩ := world_store2 hFa
        obtain ⟨gb, Fsb, hsb⟩ := world_store2 hFb
        have HSA := Lib.hid hsa
        have HSB := Lib.hid hsb
        have HFA := Lib.hid hFa
        have HFB := Lib.hid hFb
        clear hF7 hm7 hq7 hFa hFb hsa hsb
        refine hK.out _ _ hx7 (fun _ => ?_)
        clear hK K
        try simp only [Act.put, List.setIfInBounds_toArray, List.set_cons_zero, List.set_cons_succ]
        refine wpAnyH_more (S' := fun w' => Ext w7 w') (fun w' h => hx7.trans h) _ _ _ _ ?_
        clear hx7 hHeld
        have hHeld : Ext w7 w7 := Touch.refl _ _
        refine wpAnyH_take (i := 7) (v := ?_) (List.getElem?_toArray.trans rfl) (by kernel_rfl) (by kernel_rfl) (by kernel_rfl) (fun _ _ _ h => h) (Or.inl ⟨by rfl, ?_⟩) (by assumption) ?_
        rotate_left
        · intro w' hw'
          try dsimp only at hw'
          skip
          go_simp
          try with_reducible rfl
        try simp only [Act.put, List.setIfInBounds_toArray, List.set_cons_zero, List.set_cons_succ]
        refine wpAnyH_take (i := 8) (v := ?_) (List.getElem?_toArray.trans rfl) (by kernel_rfl) (by kernel_rfl) (by kernel_rfl) (fun _ _ _ h => h) (Or.inl ⟨by rfl, ?_⟩) (by assumption) ?_
        rotate_left
        · intro w' hw'
          try dsimp only at hw'
          skip
          go_simp
          try with_reducible rfl
        try simp only [Act.put, List.setIfInBounds_toArray, List.set_cons_zero, List.set_cons_succ]
        refine wpAnyH_take (i := 9) (v := ?_) (List.getElem?_toArray.trans rfl) (by kernel_rfl) (by kernel_rfl) (by kernel_rfl) (fun _ _ _ h => h) (Or.inl ⟨by rfl, ?_⟩) (by assumption) ?_
        rotate_left
        · intro w' hw'
          try dsimp only at hw'
          skip
          go_simp
          try with_reducible rfl
        try simp only [Act.put, List.setIfInBounds_toArray, List.set_cons_zero, List.set_cons_succ]
        refine wpAnyH_take (i := 15) (v := ?_) (List.getElem?_toArray.trans rfl) (by kernel_rfl) (by kernel_rfl) (by kernel_rfl) (fun _ _ _ h => h) (Or.inl ⟨by rfl, ?_⟩) (by assumption) ?_
        rotate_left
        · intro w' hw'
          try dsimp only at hw'
          skip
          go_simp
          try with_reducible rfl
        try simp only [Act.put, List.setIfInBounds_toArray, List.set_cons_zero, List.set_cons_succ]
        refine wpAnyH_take (i := 10) (v := ?_) (List.getElem?_toArray.trans rfl) (by kernel_rfl) (by kernel_rfl) (by kernel_rfl) (fun _ _ _ h => h) (Or.inl ⟨by rfl, ?_⟩) (by assumption) ?_
        rotate_left
        · intro w' hw'
          try dsimp only at hw'
          skip
          go_simp
          try with_reducible rfl
        try simp only [Act.put, List.setIfInBounds_toArray, List.set_cons_zero, List.set_cons_succ]
        refine wpAnyH_take (i := 16) (v := ?_) (List.getElem?_toArray.trans rfl) (by kernel_rfl) (by kernel_rfl) (by kernel_rfl) (fun _ _ _ h => h) (Or.inl ⟨by rfl, ?_⟩) (by assumption) ?_
        rotate_left
        · intro w' hw'
          try dsimp only at hw'
          skip
          go_simp
          try with_reducible rfl
        try simp only [Act.put, List.setIfInBounds_toArray, List.set_cons_zero, List.set_cons_succ]
        refine wpAnyH_take (i := 11) (v := ?_) (List.getElem?_toArray.trans rfl) (by kernel_rfl) (by kernel_rfl) (by kernel_rfl) (fun _ _ _ h => h) (Or.inl ⟨by rfl, ?_⟩) (by assumption) ?_
        rotate_left
        · intro w' hw'
          try dsimp only at hw'
          skip
          go_simp
          try with_reducible rfl
        try simp only [Act.put, List.setIfInBounds_toArray, List.set_cons_zero, List.set_cons_succ]
        refine wpAnyH_take (i := 17) (v := ?_) (List.getElem?_toArray.trans rfl) (by kernel_rfl) (by kernel_rfl) (by kernel_rfl) (fun _ _ _ h => h) (Or.inl ⟨by rfl, ?_⟩) (by assumption) ?_
        rotate_left
        · intro w' hw'
          try dsimp only at hw'
          skip
          go_simp
          try with_reducible rfl
        try simp only [Act.put, List.setIfInBounds_toArray, List.set_cons_zero, List.set_cons_succ]
        refine wpAnyH_take (i := 12) (v := ?_) (List.getElem?_toArray.trans rfl) (by kernel_rfl) (by kernel_rfl) (by kernel_rfl) (fun _ _ _ h => h) (Or.inl ⟨by rfl, ?_⟩) (by assumption) ?_
        rotate_left
        · intro w' hw'
          try dsimp only at hw'
          have hcs := (HSA.out w' hw').1
          go_simp
          try with_reducible rfl
        try simp only [Act.put, List.setIfInBounds_toArray, List.set_cons_zero, List.set_cons_succ]
        refine wpAnyH_take (i := 18) (v := ?_) (List.getElem?_toArray.trans rfl) (by kernel_rfl) (by kernel_rfl) (by kernel_rfl) (fun _ _ _ h => h) (Or.inl ⟨by rfl, ?_⟩) (by assumption) ?_
        rotate_left
        · intro w' hw'
          try dsimp only at hw'
          have hcs := (HSB.out w' hw').1
          go_simp
          try with_reducible rfl
        try simp only [Act.put, List.setIfInBounds_toArray, List.set_cons_zero, List.set_cons_succ]
        refine wpAnyH_ready (rs := [13]) (by kernel_rfl) (by simp) ?_
        refine AllReadyH.cons (List.getElem?_toArray.trans rfl) (fun K hK => ?_) AllReadyH.nil
        go_simp
        go_at_call 16
        refine (store_logs w7 ga Fsa _ (HSA.out w7 (Touch.refl _ _)).2 HFI6.out.log).mono ?_
        rintro e w8 ⟨A8, c8, rfl, ho8, hx8, _⟩
        have HO8 := Lib.hid ho8
        have X8 := Lib.hid hx8
        clear ho8
        refine hK.out _ _ hx8 (fun _ => ?_)
        clear hK K
        try simp only [Act.put, List.setIfInBounds_toArray, List.set_cons_zero, List.set_cons_succ]
        refine wpAnyH_more (S' := fun w' => Ext w8 w') (fun w' h => hx8.trans h) _ _ _ _ ?_
        clear hx8 hHeld
        have hHeld : Ext w8 w8 := Touch.refl _ _
        refine wpAnyH_take (i := 14) (v := ?_) (List.getElem?_toArray.trans rfl) (by kernel_rfl) (by kernel_rfl) (by kernel_rfl) (fun _ _ _ h => h) (Or.inl ⟨by rfl, ?_⟩) (by assumption) ?_
        rotate_left
        · intro w' hw'
          try dsimp only at hw'
          have hcv := conv_log (HO8.out.ext hw')
          go_simp
          try with_reducible rfl
        try simp only [Act.put, List.setIfInBounds_toArray, List.set_cons_zero, List.set_cons_succ]
        refine wpAnyH_ready (rs := [19]) (by kernel_rfl) (by simp) ?_
        refine AllReadyH.cons (List.getElem?_toArray.trans rfl) (fun K hK => ?_) AllReadyH.nil
        go_simp
        go_at_call 16
        refine (store_logs w8 gb Fsb _ (HSB.out w8 X8.out).2 HFI6.out.log).mono ?_
        rintro e w9 ⟨A9, c9, rfl, ho9, hx9, _⟩
        have HO9 := Lib.hid ho9
        have X9 := Lib.hid (X8.out.trans hx9)
        clear ho9
        refine hK.out _ _ hx9 (fun _ => ?_)
        clear hK K
        try simp only [Act.put, List.setIfInBounds_toArray, List.set_cons_zero, List.set_cons_succ]
        refine wpAnyH_more (S' := fun w' => Ext w9 w') (fun w' h => hx9.trans h) _ _ _ _ ?_
        clear hx9 hHeld
        have hHeld : Ext w9 w9 := Touch.refl _ _
        have hself : ((mkStr (logBytes H1.S)).toList == (mkStr (logBytes H1.S)).toList) = true := by simp
        refine wpAnyH_take (i := 20) (v := ?_) (List.getElem?_toArray.trans rfl) (by kernel_rfl) (by kernel_rfl) (by kernel_rfl) (fun _ _ _ h => h) (Or.inl ⟨by rfl, ?_⟩) (by assumption) ?_
        rotate_left
        · intro w' hw'
          try dsimp only at hw'
          have hcv := conv_log (HO9.out.ext hw')
          go_simp
          try with_reducible rfl
        try simp only [Act.put, List.setIfInBounds_toArray, List.set_cons_zero, List.set_cons_succ]
        refine wpAnyH_take (i := 21) (v := ?_) (List.getElem?_toArray.trans rfl) (by kernel_rfl) (by kernel_rfl) (by kernel_rfl) (fun _ _ _ h => h) (Or.inl ⟨by rfl, ?_⟩) (by assumption) ?_
        rotate_left
        · intro w' hw'
          try dsimp only at hw'
          skip
          go_simp
          try with_reducible rfl
        try simp only [Act.put, List.setIfInBounds_toArray, List.set_cons_zero, List.set_cons_succ]
        refine wpAnyH_take (i := 22) (v := ?_) (List.getElem?_toArray.trans rfl) (by kernel_rfl) (by kernel_rfl) (by kernel_rfl) (fun _ _ _ h => h) (Or.inl ⟨by rfl, ?_⟩) (by assumption) ?_
        rotate_left
        · intro w' hw'
          try dsimp only at hw'
          skip
          go_simp
          try with_reducible rfl
        try simp only [Act.put, List.setIfInBounds_toArray, List.set_cons_zero, List.set_cons_succ]
        refine wpAnyH_take (i := 23) (v := ?_) (List.getElem?_toArray.trans rfl) (by kernel_rfl) (by kernel_rfl) (by kernel_rfl) (fun _ _ _ h => h) (Or.inl ⟨by rfl, ?_⟩) (by assumption) ?_
        rotate_left
        · intro w' hw'
          try dsimp only at hw'
          skip
          go_simp
          try with_reducible rfl
        try simp only [Act.put, List.setIfInBounds_toArray, List.set_cons_zero, List.set_cons_succ]
        refine wpAnyH_take (i := 24) (v := ?_) (List.getElem?_toArray.trans rfl) (by kernel_rfl) (by kernel_rfl) (by kernel_rfl) (fun _ _ _ h => h) (Or.inl ⟨by rfl, ?_⟩) (by assumption) ?_
        rotate_left
        · intro w' hw'
          try dsimp only at hw'
          skip
          go_simp
          try with_reducible rfl
        try simp only [Act.put, List.setIfInBounds_toArray, List.set_cons_zero, List.set_cons_succ]
        refine wpAnyH_take (i := 26) (v := ?_) (List.getElem?_toArray.trans rfl) (by kernel_rfl) (by kernel_rfl) (by kernel_rfl) (fun _ _ _ h => h) (Or.inl ⟨by rfl, ?_⟩) (by assumption) ?_
        rotate_left
        · intro w' hw'
          try dsimp only at hw'
          skip
          go_simp
          try with_reducible rfl
        try simp only [Act.put, List.setIfInBounds_toArray, List.set_cons_zero, List.set_cons_succ]
        refine wpAnyH_ready (rs := [25]) (by kernel_rfl) (by simp) ?_
        refine AllReadyH.cons (List.getElem?_toArray.trans rfl) (fun K hK => ?_) AllReadyH.nil
        go_simp
        go_at_call 27
        refine (world_packets w9 gw Fa H1 (Rep.ext HFA.out X9.out) HFI6.out.bag).mono ?_
        rintro e w10 ⟨A10, c10, rfl, ho10, hx10, _⟩
        have HO10 := Lib.hid ho10
        have X10 := Lib.hid (X9.out.trans hx10)
        clear ho10
        refine hK.out _ _ hx10 (fun _ => ?_)
        clear hK K
        try simp only [Act.put, List.setIfInBounds_toArray, List.set_cons_zero, List.set_cons_succ]
        refine wpAnyH_more (S' := fun w' => Ext w10 w') (fun w' h => hx10.trans h) _ _ _ _ ?_
        clear hx10 hHeld
        have hHeld : Ext w10 w10 := Touch.refl _ _
        refine wpAnyH_ready (rs := [27]) (by kernel_rfl) (by simp) ?_
        refine AllReadyH.cons (List.getElem?_toArray.trans rfl) (fun K hK => ?_) AllReadyH.nil
        go_simp
        go_at_call 27
        refine (world_packets w10 gv Fb H1 (Rep.ext HFB.out X10.out) HFI6.out.bag).mono ?_
        rintro e w11 ⟨A11, c11, rfl, ho11, hx11, _⟩
        have HO11 := Lib.hid ho11
        have HO10' := Lib.hid (HO10.out.ext hx11)
        have X11 := Lib.hid (X10.out.trans hx11)
        clear ho11
        refine hK.out _ _ hx11 (fun _ => ?_)
        clear hK K
        try simp only [Act.put, List.setIfInBounds_toArray, List.set_cons_zero, List.set_cons_succ]
        refine wpAnyH_more (S' := fun w' => Ext w11 w') (fun w' h => hx11.trans h) _ _ _ _ ?_
        clear hx11 hHeld
        have hHeld : Ext w11 w11 := Touch.refl _ _
        refine wpAnyH_ready (rs := [28]) (by kernel_rfl) (by simp) ?_
        refine AllReadyH.cons (List.getElem?_toArray.trans rfl) (fun K hK => ?_) AllReadyH.nil
        go_simp
        go_at_call 28
        have hb40 := HFI6.out.bag
        refine (samePackets w11 w11.heap.size _ _ H1.bag H1.bag _ _ HO10'.out.reads HO11.out.reads (by omega) (by omega)).mono ?_
        rintro e w12 ⟨rfl, n12, rfl⟩
        have hx12 : Ext w11 (w11.drewN n12) := (Touch.refl _ w11).drewN n12
        have X12 := Lib.hid (X11.out.trans hx12)
        refine hK.out _ _ hx12 (fun _ => ?_)
        clear hx12
        clear hK K
        try dsimp only
        refine wpAnyH_take (i := 29) (v := ?_) (List.getElem?_toArray.trans rfl) (by kernel_rfl) (by kernel_rfl) (by kernel_rfl) (fun _ _ _ h => h) (Or.inl ⟨by rfl, ?_⟩) (by assumption) ?_
        rotate_left
        · intro w' hw'
          try dsimp only at hw'
          skip
          go_simp
          try with_reducible rfl
        try simp only [Act.put, List.setIfInBounds_toArray, List.set_cons_zero, List.set_cons_succ]
        refine wpAnyH_take (i := 30) (v := ?_) (List.getElem?_toArray.trans rfl) (by kernel_rfl) (by kernel_rfl) (by kernel_rfl) (fun _ _ _ h => h) (Or.inl ⟨by rfl, ?_⟩) (by assumption) ?_
        rotate_left
        · intro w' hw'
          try dsimp only at hw'
          skip
          go_simp
          try with_reducible rfl
        try simp only [Act.put, List.setIfInBounds_toArray, List.set_cons_zero, List.set_cons_succ]
        refine wpAnyH_done (by kernel_rfl) ?_ _
        clear hHeld hself hcc
        go_wp2
        go_roundw
        case rel => exact ⟨k + 1, by go_num, by omega, by rw [HN.out]; exact H7.out.step X12.out⟩
        case measure => simp [intOf]; omega
    · obtain rfl : k = l.length := by omega
      have HFI := Lib.hid (hAt_fits l l.length)
      generalize hAt l l.length = H at *
      clear hlt hk
      go_wp2_with fail
      go_loopw [7] (fun i wr => ∃ q : Nat, i = .int .i64 q ∧ q ≤ 3 ∧ Has (TwoW gw gv) W wr (H, H)) (fun i _ => 3 - (intOf i).toNat)
      case atStart => exact ⟨0, rfl, by omega, HZ.out⟩
      case round =>
        clear HZ
        obtain ⟨q, rfl, hq, hz⟩ := hrel
        have HZ := Lib.hid hz
        clear hz
        by_cases hq3 : q < 3
        · have hq3' : (q : Int) < 3 := by omega
          obtain ⟨Fa, hFa, _⟩ := HZ.out.fst
          obtain ⟨Fb, hFb, _⟩ := HZ.out.snd
          obtain ⟨ga, Fca, hca, hga⟩ := world_cl hFa q hq3
          obtain ⟨gb, Fcb, hcb, hgb⟩ := world_cl hFb q hq3
          have HGA := Lib.hid hga
          have HGB := Lib.hid hgb
          have HCA := Lib.hid hca
          have HCB := Lib.hid hcb
          have hdn := HFI.out.done q hq3
          clear hFa hFb hca hcb hga hgb
          go_wp2_with fail
          refine HGA.out.mono ?_
          rintro e w' ⟨rfl, rfl⟩
          go_wp2_with fail
          refine HGB.out.mono ?_
          rintro e w' ⟨rfl, rfl⟩
          go_wp2_with fail
          refine (client_done' wr Fca ga _ HCA.out (by omega)).mono ?_
          rintro e w5 ⟨A5, c5, rfl, ho5, hx5, _⟩
          have HO5 := Lib.hid ho5
          have X5 := Lib.hid hx5
          clear ho5 hx5
          go_wp2_with fail
          refine (client_done' w5 Fcb gb _ (Rep.ext HCB.out X5.out) (by omega)).mono ?_
          rintro e w6 ⟨A6, c6, rfl, ho6, hx6, _⟩
          have HO6 := Lib.hid ho6
          have HO5' := Lib.hid (HO5.out.ext hx6)
          have X6 := Lib.hid (X5.out.trans hx6)
          clear ho6 hx6
          go_wp2_with fail
          refine (sameRecords w6 w6.heap.size _ _ _ _ _ _ HO5'.out.reads HO6.out.reads (by omega) (by omega)).mono ?_
          rintro e w7 ⟨rfl, n7, rfl⟩
          go_wp2
          go_roundw
          case rel => exact ⟨q + 1, by go_num, by omega, HZ.out.step (X6.out.trans ((Touch.refl _ w6).drewN n7))⟩
          case measure => simp [intOf]; omega
        · obtain rfl : q = 3 := by omega
          go_wp2
          go_ret
          exact ⟨rfl, HZ.out.ext⟩
end Go.Proofs.Ytalfbhhldfffkac
