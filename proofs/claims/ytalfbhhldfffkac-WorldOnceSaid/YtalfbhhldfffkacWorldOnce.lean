/- WorldOnce: the walk of the law. -/
import Derived.Test.YtalfbhhldfffkacGWorldLaw
import Derived.Test.YtalfbhhldfffkacGPlain
import Derived.Test.YtalfbhhldfffkacRecRead
import Derived.Test.YtalfbhhldfffkacGCheck
namespace Go.Proofs.Ytalfbhhldfffkac
open Go.RowKit

abbrev OC : Rep (Value × List Call) := repOwn 30
abbrev AskR (gw ba : Nat) : Rep ((((House × (Value × List Call)) × (Value × List Call)) × (Value × List Call)) × Array Value) := ((((repWorld gw).and OC).and OC).and OC).and (repBlock ba 28)
section
variable {gw ba : Nat} {W w wx w' : World} {F : Nat → Prop} {h : House} {o0 o1 o2 : Value × List Call} {cs : Array Value} {v v' : Value} {a a' : List Call} {Y : Type} {B : Rep Y} {y : Y}
theorem ask_on (hh : (AskR gw ba).on w F ((((h, o0), o1), o2), cs)) : ∃ F', (repWorld gw).on w F' h ∧ ∀ h' w', Moved (repWorld gw) w F' h' w' → Moved (AskR gw ba) w F ((((h', o0), o1), o2), cs) w' := by
  obtain ⟨F1, h1, m1⟩ := Rep.fst hh
  obtain ⟨F2, h2, m2⟩ := Rep.fst h1
  obtain ⟨F3, h3, m3⟩ := Rep.fst h2
  obtain ⟨F4, h4, m4⟩ := Rep.fst h3
  exact ⟨F4, h4, fun _ _ m => m1 _ _ (m2 _ _ (m3 _ _ (m4 _ _ m)))⟩
theorem push0 (H : Has ((AskR gw ba).and B) W w (((((h, (v, a)), o1), o2), cs), y)) (hx : Ext w wx) (hown : Owns w' 30 v' a') (hgrow : wx.grownBy w' v.ownBlock) (hat : v'.ownBlock = v.ownBlock ∨ v'.ownBlock = some wx.heap.size) :
    Has ((AskR gw ba).and B) W w' (((((h, (v', a')), o1), o2), cs), y) := by
  have h1 := H.map fun _ => Rep.cg fun _ => Rep.cg fun _ => Rep.cg fun _ => Rep.ex
  have h2 := h1.map fun _ => Rep.cg fun _ => Rep.cg fun _ => Rep.ex
  have h3 := h2.map fun _ => Rep.cg fun _ => Rep.ex
  have h4 := h3.map fun _ => Rep.ex
  have h5 := h4.append hx hown hgrow hat
  have h6 := h5.map fun _ => Rep.ex
  have h7 := h6.map fun _ => Rep.cg fun _ => Rep.ex
  have h8 := h7.map fun _ => Rep.cg fun _ => Rep.cg fun _ => Rep.ex
  exact h8.map fun _ => Rep.cg fun _ => Rep.cg fun _ => Rep.cg fun _ => Rep.ex
theorem push1 (H : Has ((AskR gw ba).and B) W w (((((h, o0), (v, a)), o2), cs), y)) (hx : Ext w wx) (hown : Owns w' 30 v' a') (hgrow : wx.grownBy w' v.ownBlock) (hat : v'.ownBlock = v.ownBlock ∨ v'.ownBlock = some wx.heap.size) :
    Has ((AskR gw ba).and B) W w' (((((h, o0), (v', a')), o2), cs), y) := by
  have h2 := H.map fun _ => Rep.cg fun _ => Rep.cg fun _ => Rep.ex
  have h3 := h2.map fun _ => Rep.cg fun _ => Rep.ex
  have h4 := h3.map fun _ => Rep.ex
  have h5 := h4.append hx hown hgrow hat
  have h6 := h5.map fun _ => Rep.ex
  have h7 := h6.map fun _ => Rep.cg fun _ => Rep.ex
  exact h7.map fun _ => Rep.cg fun _ => Rep.cg fun _ => Rep.ex
theorem push2 (H : Has ((AskR gw ba).and B) W w (((((h, o0), o1), (v, a)), cs), y)) (hx : Ext w wx) (hown : Owns w' 30 v' a') (hgrow : wx.grownBy w' v.ownBlock) (hat : v'.ownBlock = v.ownBlock ∨ v'.ownBlock = some wx.heap.size) :
    Has ((AskR gw ba).and B) W w' (((((h, o0), o1), (v', a')), cs), y) := by
  have h3 := H.map fun _ => Rep.cg fun _ => Rep.ex
  have h4 := h3.map fun _ => Rep.ex
  have h5 := h4.append hx hown hgrow hat
  have h6 := h5.map fun _ => Rep.ex
  exact h6.map fun _ => Rep.cg fun _ => Rep.ex
theorem ask_own0 (H : Has ((AskR gw ba).and B) W w (((((h, (v, a)), o1), o2), cs), y)) : Owns w 30 v a := H.left.left.left.left.right.owns
theorem ask_own1 (H : Has ((AskR gw ba).and B) W w (((((h, o0), (v, a)), o2), cs), y)) : Owns w 30 v a := H.left.left.left.right.owns
theorem ask_own2 (H : Has ((AskR gw ba).and B) W w (((((h, o0), o1), (v, a)), cs), y)) : Owns w 30 v a := H.left.left.right.owns
end
def AskAt (W w : World) (gw ba : Nat) (h : House) (a0 a1 a2 : List Call) : Prop := ∃ v0 v1 v2, Has (AskR gw ba) W w ((((h, (v0, a0)), (v1, a1)), (v2, a2)), #[v0, v1, v2])
def AskRel (W : World) (gw ba : Nat) (l : List Step) (i : Value) (wr : World) : Prop :=
  ∃ k : Nat, i = .int .i64 k ∧ k ≤ l.length ∧ AskAt W wr gw ba (hAt l k) (asked ((hAt l k).G 0)) (asked ((hAt l k).G 1)) (asked ((hAt l k).G 2))
/-- what was asked, once it stands -/
structure AskSaid (w : World) (ba : Nat) (h : House) : Prop where
  at_ : ∀ j : Nat, j < 3 → ∃ (A : Option Addr) (c : Nat), (∀ w', Ext w w' → w'.cell? ⟨ba, j, none⟩ = some (.slice A (asked (h.G j)).length c)) ∧ Reads w w.heap.size A (asked (h.G j))
theorem AskAt.said {W w : World} {gw ba : Nat} {h : House} (H : AskAt W w gw ba h (asked (h.G 0)) (asked (h.G 1)) (asked (h.G 2))) : AskSaid w ba h ∧ Has (repWorld gw) W w h := by
  obtain ⟨v0, v1, v2, H⟩ := H
  have hb := H.blk
  obtain ⟨A0, c0, rfl, _⟩ := (show Owns w 30 v0 _ from H.left.left.left.right.owns).form
  obtain ⟨A1, c1, rfl, _⟩ := (show Owns w 30 v1 _ from H.left.left.right.owns).form
  obtain ⟨A2, c2, rfl, _⟩ := (show Owns w 30 v2 _ from H.left.right.owns).form
  refine ⟨⟨fun j hj => ?_⟩, H.left.left.left.left⟩
  match j, hj with
  | 0, _ => exact ⟨A0, c0, fun w' hx => (cell_of (hx.blk hb id) 0).trans rfl, H.left.left.left.right.owns.reads⟩
  | 1, _ => exact ⟨A1, c1, fun w' hx => (cell_of (hx.blk hb id) 1).trans rfl, H.left.left.right.owns.reads⟩
  | 2, _ => exact ⟨A2, c2, fun w' hx => (cell_of (hx.blk hb id) 2).trans rfl, H.left.right.owns.reads⟩
set_option maxHeartbeats 4000000 in
set_option maxRecDepth 100000 in
theorem worldOnce (W : World) (A : Option Addr) (c : Nat) (l : List Step) (hr : Reads W W.heap.size A l) (hs : ∀ x ∈ l, StrWStep x) (hl : l.length ≤ 140737488351232) :
    Calls Try.prog 3 #[.slice A l.length c] W fun e w' => e = .returned (.bool true) ∧ Ext W w' := by
  have HR := Lib.hid hr
  have HS := Lib.hid hs
  clear hr hs
  go_enter Try.func3, Try.ntmps3
  go_wp2_with fail
  refine (world_begun W).mono ?_
  rintro e w1 ⟨rfl, hx1⟩
  have X1 := Lib.hid hx1
  clear hx1
  go_wp2_with fail
  refine (law_greatSteps w1 w1.heap.size A c l (HR.out.ext X1.out) (Nat.le_refl _) HS.out hl).mono ?_
  rintro e w2 ⟨b2, rfl, hx2⟩
  have X2 := Lib.hid (X1.out.trans hx2)
  clear hx2
  cases b2
  rotate_left
  · go_wp2
    go_ret
    exact ⟨rfl, X2.out⟩
  go_wp2_with fail
  refine (world_new w2).mono ?_
  rintro e w3 ⟨gw, rfl, hn3⟩
  have H0 := Lib.hid (hn3.since X2.out)
  clear hn3
  have H4 := Lib.hid ((((H0.out.newList (v := .slice none 0 0) (l := ([] : List Call)) (E := 30) (Touch.refl _ w3) (Owns.nil _ _) (fun k hk => by simp [Value.ownBlock] at hk)).newList (v := .slice none 0 0) (l := ([] : List Call)) (E := 30) (Touch.refl _ w3) (Owns.nil _ _) (fun k hk => by simp [Value.ownBlock] at hk)).newList (v := .slice none 0 0) (l := ([] : List Call)) (E := 30) (Touch.refl _ w3) (Owns.nil _ _) (fun k hk => by simp [Value.ownBlock] at hk)).box #[.slice none 0 0, .slice none 0 0, .slice none 0 0] 28)
  clear H0
  go_wp2_with fail
  change Code.wp Try.prog _ _ _ (w3.alloc (.cells #[.slice none 0 0, .slice none 0 0, .slice none 0 0] 28))
  generalize w3.alloc (.cells #[.slice none 0 0, .slice none 0 0, .slice none 0 0] 28) = w4 at H4 ⊢
  generalize w3.heap.size = ba at H4 ⊢
  go_loopw [5] (fun i wr => AskRel W gw ba l i wr) (fun i _ => l.length - (intOf i).toNat)
  case atStart => exact ⟨0, rfl, Nat.zero_le _, _, _, _, H4.out⟩
  case round =>
    clear H4
    obtain ⟨k, rfl, hk, v0, v1, v2, hz⟩ := hrel
    have HZ := Lib.hid hz
    clear hz
    by_cases hlt : k < l.length
    · skip
      obtain ⟨x, hx⟩ : ∃ x, l[k]? = some x := ⟨l[k], by simp [hlt]⟩
      obtain ⟨ad, rfl, hadb, hat⟩ := HR.out _ x hx
      have hLV : LV Try.prog 32 (ad.add (k * 7)) wr = .ok (.agg x.cells) wr := LV_Step ((hat.of_same (w' := wr) (by rw [show (ad.add (k * Lies.size Step)).block = ad.block by unfold Addr.add; split <;> rfl]; exact HZ.out.ext.block _ hadb id)))
      have HXX := Lib.hid hx
      have HOK := Lib.hid (hAt_ok l k)
      have HFI := Lib.hid (hAt_fits l k)
      have HST := Lib.hid (HS.out x (List.mem_of_getElem? hx))
      clear hx hat
      go_wp2_with fail
      have H1 := Lib.hid (HZ.out.box x.cells 32)
      have hb1 := H1.out.blk
      clear HZ hLV
      generalize wr.alloc (.cells x.cells 32) = w4 at H1 hb1 ⊢
      generalize wr.heap.size = bx at H1 hb1 ⊢
      obtain ⟨F1, hF1, hm1⟩ := H1.out.fst
      obtain ⟨F2, hF2, hm2⟩ := ask_on hF1
      go_wp2_with fail
      refine (world_step w4 gw F2 _ x hF2 HFI.out HST.out).mono ?_
      rintro e w5 ⟨rfl, hq5⟩
      have h5 := hm1 _ _ (hm2 _ _ hq5)
      have HNX := Lib.hid (hAt_next HXX.out)
      have hb5 := h5.blk
      have hck := (cell_of hb5 0).trans (Step.get0 x)
      have hcn := (cell_of hb5 1).trans (Step.get1 x)
      have HOKG := Lib.hid (show ∀ i : Nat, i < 3 → GuestOk (i : Int) ((hAt l k).G i) by obtain ⟨fr, h⟩ := HOK.out; exact h.guest)
      clear hF1 hm1 hF2 hm2 hq5 hb1 H1
      by_cases hy : x.kind = 1 ∧ (hStep (hAt l k) x).1 = 0
      · have HAY := Lib.hid (hStep_asked_yes hy.1 hy.2)
        have hn3 := HAY.out.1
        have hk1 : (x.kind == 1) = true := by simp [hy.1]
        have hn0 : ¬ x.n < 0 := by omega
        have hn2 : ¬ 3 ≤ x.n := by omega
        rw [hy.2]
        rw [← HNX.out] at h5
        have H5 := Lib.hid h5
        clear h5 hy
        go_wp2_with fail
        clear hck hcn hk1 hn0 hn2 hb5
        obtain hj | hj | hj : x.n = 0 ∨ x.n = 1 ∨ x.n = 2 := by omega
        · obtain ⟨hn, ha, hoth⟩ := HAY.out
          have hxj : x.n = 0 := hj
          rw [show x.n.toNat = 0 by omega] at ha hoth
          obtain ⟨A0, c0, hv, hcap, hcm, _⟩ := (ask_own0 H5.out).form
          subst hv
          have hb5 := H5.out.blk
          have ha5 := H5.out.left.blk
          have hlen := asked_le (HOKG.out 0 (by omega))
          have HOA := Lib.hid (show asked ((hAt l k).G 0) ++ [x.call] = asked ((hAt l (k + 1)).G 0) by rw [hAt_next HXX.out, ha])
          have HO1 := Lib.hid (show asked ((hAt l k).G 1) = asked ((hAt l (k + 1)).G 1) by rw [hAt_next HXX.out, hoth _ (by omega)])
          have HO2 := Lib.hid (show asked ((hAt l k).G 2) = asked ((hAt l (k + 1)).G 2) by rw [hAt_next HXX.out, hoth _ (by omega)])
          have hcn := (cell_of hb5 1).trans (Step.get1 x)
          rw [hxj] at hcn
          have HXJ := Lib.hid hxj
          clear hn ha hoth hcm hxj
          generalize asked ((hAt l k).G 0) = al at *
          have hka := (cell_of ha5 0).trans (show (#[.slice A0 al.length c0, v1, v2] : Array Value)[0]? = some (.slice A0 al.length c0) from rfl)
          go_wp2_with fail
          refine wp_region_held_drew (S := fun w' => w'.heap[bx]? = some (.cells x.cells 32 (0, 0)) ∧ w'.cell? ⟨bx, 1, none⟩ = some (.int .i64 0)) (by kernel_rfl) ⟨hb5, hcn⟩ (fun hHeld => ?_)
          refine wpAnyH_take (i := 0) (v := ?_) (List.getElem?_toArray.trans rfl) (by kernel_rfl) (by kernel_rfl) (by kernel_rfl) (fun _ _ _ h => h) (Or.inl ⟨by rfl, ?_⟩) (by assumption) ?_
          rotate_left
          · intro w' hw'
            try dsimp only at hw'
            skip
            go_simp
            try with_reducible rfl
          try simp only [Act.put, List.setIfInBounds_toArray, List.set_cons_zero, List.set_cons_succ]
          refine wpAnyH_take (i := 2) (v := ?_) (List.getElem?_toArray.trans rfl) (by kernel_rfl) (by kernel_rfl) (by kernel_rfl) (fun _ _ _ h => h) (Or.inl ⟨by rfl, ?_⟩) (by assumption) ?_
          rotate_left
          · intro w' hw'
            try dsimp only at hw'
            skip
            go_simp
            try with_reducible rfl
          try simp only [Act.put, List.setIfInBounds_toArray, List.set_cons_zero, List.set_cons_succ]
          refine wpAnyH_take (i := 6) (v := ?_) (List.getElem?_toArray.trans rfl) (by kernel_rfl) (by kernel_rfl) (by kernel_rfl) (fun _ _ _ h => h) (Or.inl ⟨by rfl, ?_⟩) (by assumption) ?_
          rotate_left
          · intro w' hw'
            try dsimp only at hw'
            skip
            go_simp
            try with_reducible rfl
          try simp only [Act.put, List.setIfInBounds_toArray, List.set_cons_zero, List.set_cons_succ]
          refine wpAnyH_take (i := 1) (v := ?_) (List.getElem?_toArray.trans rfl) (by kernel_rfl) (by kernel_rfl) (by kernel_rfl) (fun _ _ _ h => h) (Or.inl ⟨by rfl, ?_⟩) (by assumption) ?_
          rotate_left
          · intro w' hw'
            try dsimp only at hw'
            obtain ⟨hh1, hh2⟩ := hw'
            go_simp
            try with_reducible rfl
          try simp only [Act.put, List.setIfInBounds_toArray, List.set_cons_zero, List.set_cons_succ]
          refine wpAnyH_take (i := 3) (v := ?_) (List.getElem?_toArray.trans rfl) (by kernel_rfl) (by kernel_rfl) (by kernel_rfl) (fun _ _ _ h => h) (Or.inl ⟨by rfl, ?_⟩) (by assumption) ?_
          rotate_left
          · intro w' hw'
            try dsimp only at hw'
            obtain ⟨hh1, hh2⟩ := hw'
            go_simp
            try with_reducible rfl
          try simp only [Act.put, List.setIfInBounds_toArray, List.set_cons_zero, List.set_cons_succ]
          refine wpAnyH_take (i := 7) (v := ?_) (List.getElem?_toArray.trans rfl) (by kernel_rfl) (by kernel_rfl) (by kernel_rfl) (fun _ _ _ h => h) (Or.inl ⟨by rfl, ?_⟩) (by assumption) ?_
          rotate_left
          · intro w' hw'
            try dsimp only at hw'
            obtain ⟨hh1, hh2⟩ := hw'
            go_simp
            try with_reducible rfl
          try simp only [Act.put, List.setIfInBounds_toArray, List.set_cons_zero, List.set_cons_succ]
          refine wpAnyH_take (i := 4) (v := ?_) (List.getElem?_toArray.trans rfl) (by kernel_rfl) (by kernel_rfl) (by kernel_rfl) (fun _ _ _ h => h) (Or.inl ⟨by rfl, ?_⟩) (by assumption) ?_
          rotate_left
          · intro w' hw'
            try dsimp only at hw'
            skip
            go_simp
            try with_reducible rfl
          try simp only [Act.put, List.setIfInBounds_toArray, List.set_cons_zero, List.set_cons_succ]
          have X7 : Ext w5 (w5.drew.alloc (.cells x.call.cells 30)) := (Touch.drew (Touch.refl _ w5)).alloc _
          have hb7 := X7.blk hb5 id
          have hcn7 := (cell_of hb7 1).trans (Step.get1 x)
          rw [HXJ.out] at hcn7
          have hka7 : (w5.alloc (.cells x.call.cells 30)).cell? ⟨ba, 0, none⟩ = some (.slice A0 al.length c0) := (cell_of (X7.blk ha5 id) 0).trans (show (#[.slice A0 al.length c0, v1, v2] : Array Value)[0]? = some (.slice A0 al.length c0) from rfl)
          refine wpAnyH_ready (rs := [5, 8]) (by kernel_rfl) (by simp) ?_
          refine AllReadyH.cons (List.getElem?_toArray.trans rfl) (fun K hK => ?_) (AllReadyH.cons (List.getElem?_toArray.trans rfl) (fun K hK => ?_) AllReadyH.nil)
          · skip
            go_simp
            refine hK.out _ _ hHeld (fun hHeld => ?_)
            clear hK K
            try simp only [Act.put, List.setIfInBounds_toArray, List.set_cons_zero, List.set_cons_succ]
            refine wpAnyH_ready (rs := [8]) (by kernel_rfl) (by simp) ?_
            refine AllReadyH.cons (List.getElem?_toArray.trans rfl) (fun K hK => ?_) AllReadyH.nil
            go_simp
            refine hK.out _ _ ⟨hb7, hcn7⟩ (fun hHeld => ?_)
            clear hK K
            try simp only [Act.put, List.setIfInBounds_toArray, List.set_cons_zero, List.set_cons_succ]
            refine wpAnyH_ready (rs := [9]) (by kernel_rfl) (by simp) ?_
            refine AllReadyH.cons (List.getElem?_toArray.trans rfl) (fun K hK => ?_) AllReadyH.nil
            refine step_append_own (by rfl) (.tmp 56) (.tmp 59) 27 (by rfl) elemCall Try.underlying27 (v := .slice A0 al.length c0) (l := al) (by rfl) ((ask_own0 H5.out).ext X7) [x.call] (by rfl) (al.length + 1) (by rfl) (by rfl)
              (reads_block (x := x.call) (t := 30) (fr := (0, 0)) (heap_alloc_new _ _) (w5.drew.heap.size + 1) (by show w5.heap.size < w5.heap.size + 1; omega)) (by simp; omega) ?_
            intro A8 c8 w8 hown8 hgrow8 hat8
            have h8 := push0 H5.out X7 hown8 hgrow8 hat8
            have H8 := Lib.hid h8
            have hb8 := h8.blk
            have hcn8 := (cell_of hb8 1).trans (Step.get1 x)
            rw [HXJ.out] at hcn8
            have ha8 := h8.left.blk
            clear hown8 hgrow8 hat8 h8 hHeld X7 hb7 hcn7 hka7
            refine hK.out _ _ ⟨hb8, hcn8⟩ (fun hHeld => ?_)
            clear hK K
            try simp only [Act.put, List.setIfInBounds_toArray, List.set_cons_zero, List.set_cons_succ]
            refine wpAnyH_take (i := 10) (v := ?_) (List.getElem?_toArray.trans rfl) (by kernel_rfl) (by kernel_rfl) (by kernel_rfl) (fun _ _ _ h => h) (Or.inl ⟨by rfl, ?_⟩) (by assumption) ?_
            rotate_left
            · intro w' hw'
              try dsimp only at hw'
              skip
              go_simp
              try with_reducible rfl
            try simp only [Act.put, List.setIfInBounds_toArray, List.set_cons_zero, List.set_cons_succ]
            have hc8 := cell_of ha8 0
            have hf8 := frozen_of ha8 0
            have ha9 := setCell_heap ha8 0 (.slice A8 (al.length + 1) c8)
            have H9 := Lib.hid ((H8.out.exch'.turn (w' := w8.setCell ⟨ba, 0, none⟩ (.slice A8 (al.length + 1) c8)) ((Touch.refl (fun k => k = ba) w8).setCell (a := ⟨ba, 0, none⟩) (.inl rfl) _) ha9).exch')
            have hb9 := H9.out.blk
            have hcn9 := (cell_of hb9 1).trans (Step.get1 x)
            rw [HXJ.out] at hcn9
            refine wpAnyH_ready (rs := [11]) (by kernel_rfl) (by simp) ?_
            refine AllReadyH.cons (List.getElem?_toArray.trans rfl) (fun K hK => ?_) AllReadyH.nil
            go_simp
            refine hK.out _ _ ⟨hb9, hcn9⟩ (fun hHeld => ?_)
            clear hK K
            try simp only [Act.put, List.setIfInBounds_toArray, List.set_cons_zero, List.set_cons_succ]
            refine wpAnyH_done (by kernel_rfl) ?_ _
            clear hb8 hcn8 ha8 hc8 hf8 ha9 hb9 hcn9 hHeld
            generalize w8.setCell ⟨ba, 0, none⟩ (.slice A8 (al.length + 1) c8) = w9 at H9 ⊢
            go_wp2
            go_roundw
            case rel =>
              have h10 := H9.out.left
              rw [show al ++ [x.call] = asked ((hAt l (k + 1)).G 0) from HOA.out, HO1.out, HO2.out] at h10
              exact ⟨k + 1, by go_num, by omega, _, _, _, h10⟩
            case measure => simp [intOf]; omega
          · skip
            go_simp
            refine hK.out _ _ ⟨hb7, hcn7⟩ (fun hHeld => ?_)
            clear hK K
            try simp only [Act.put, List.setIfInBounds_toArray, List.set_cons_zero, List.set_cons_succ]
            refine wpAnyH_ready (rs := [5]) (by kernel_rfl) (by simp) ?_
            refine AllReadyH.cons (List.getElem?_toArray.trans rfl) (fun K hK => ?_) AllReadyH.nil
            go_simp
            refine hK.out _ _ ⟨hb7, hcn7⟩ (fun hHeld => ?_)
            clear hK K
            try simp only [Act.put, List.setIfInBounds_toArray, List.set_cons_zero, List.set_cons_succ]
            refine wpAnyH_ready (rs := [9]) (by kernel_rfl) (by simp) ?_
            refine AllReadyH.cons (List.getElem?_toArray.trans rfl) (fun K hK => ?_) AllReadyH.nil
            refine step_append_own (by rfl) (.tmp 56) (.tmp 59) 27 (by rfl) elemCall Try.underlying27 (v := .slice A0 al.length c0) (l := al) (by rfl) ((ask_own0 H5.out).ext X7) [x.call] (by rfl) (al.length + 1) (by rfl) (by rfl)
              (reads_block (x := x.call) (t := 30) (fr := (0, 0)) (heap_alloc_new _ _) (w5.drew.heap.size + 1) (by show w5.heap.size < w5.heap.size + 1; omega)) (by simp; omega) ?_
            intro A8 c8 w8 hown8 hgrow8 hat8
            have h8 := push0 H5.out X7 hown8 hgrow8 hat8
            have H8 := Lib.hid h8
            have hb8 := h8.blk
            have hcn8 := (cell_of hb8 1).trans (Step.get1 x)
            rw [HXJ.out] at hcn8
            have ha8 := h8.left.blk
            clear hown8 hgrow8 hat8 h8 hHeld X7 hb7 hcn7 hka7
            refine hK.out _ _ ⟨hb8, hcn8⟩ (fun hHeld => ?_)
            clear hK K
            try simp only [Act.put, List.setIfInBounds_toArray, List.set_cons_zero, List.set_cons_succ]
            refine wpAnyH_take (i := 10) (v := ?_) (List.getElem?_toArray.trans rfl) (by kernel_rfl) (by kernel_rfl) (by kernel_rfl) (fun _ _ _ h => h) (Or.inl ⟨by rfl, ?_⟩) (by assumption) ?_
            rotate_left
            · intro w' hw'
              try dsimp only at hw'
              skip
              go_simp
              try with_reducible rfl
            try simp only [Act.put, List.setIfInBounds_toArray, List.set_cons_zero, List.set_cons_succ]
            have hc8 := cell_of ha8 0
            have hf8 := frozen_of ha8 0
            have ha9 := setCell_heap ha8 0 (.slice A8 (al.length + 1) c8)
            have H9 := Lib.hid ((H8.out.exch'.turn (w' := w8.setCell ⟨ba, 0, none⟩ (.slice A8 (al.length + 1) c8)) ((Touch.refl (fun k => k = ba) w8).setCell (a := ⟨ba, 0, none⟩) (.inl rfl) _) ha9).exch')
            have hb9 := H9.out.blk
            have hcn9 := (cell_of hb9 1).trans (Step.get1 x)
            rw [HXJ.out] at hcn9
            refine wpAnyH_ready (rs := [11]) (by kernel_rfl) (by simp) ?_
            refine AllReadyH.cons (List.getElem?_toArray.trans rfl) (fun K hK => ?_) AllReadyH.nil
            go_simp
            refine hK.out _ _ ⟨hb9, hcn9⟩ (fun hHeld => ?_)
            clear hK K
            try simp only [Act.put, List.setIfInBounds_toArray, List.set_cons_zero, List.set_cons_succ]
            refine wpAnyH_done (by kernel_rfl) ?_ _
            clear hb8 hcn8 ha8 hc8 hf8 ha9 hb9 hcn9 hHeld
            generalize w8.setCell ⟨ba, 0, none⟩ (.slice A8 (al.length + 1) c8) = w9 at H9 ⊢
            go_wp2
            go_roundw
            case rel =>
              have h10 := H9.out.left
              rw [show al ++ [x.call] = asked ((hAt l (k + 1)).G 0) from HOA.out, HO1.out, HO2.out] at h10
              exact ⟨k + 1, by go_num, by omega, _, _, _, h10⟩
            case measure => simp [intOf]; omega
        · obtain ⟨hn, ha, hoth⟩ := HAY.out
          have hxj : x.n = 1 := hj
          rw [show x.n.toNat = 1 by omega] at ha hoth
          obtain ⟨A0, c0, hv, hcap, hcm, _⟩ := (ask_own1 H5.out).form
          subst hv
          have hb5 := H5.out.blk
          have ha5 := H5.out.left.blk
          have hlen := asked_le (HOKG.out 1 (by omega))
          have HOA := Lib.hid (show asked ((hAt l k).G 1) ++ [x.call] = asked ((hAt l (k + 1)).G 1) by rw [hAt_next HXX.out, ha])
          have HO1 := Lib.hid (show asked ((hAt l k).G 0) = asked ((hAt l (k + 1)).G 0) by rw [hAt_next HXX.out, hoth _ (by omega)])
          have HO2 := Lib.hid (show asked ((hAt l k).G 2) = asked ((hAt l (k + 1)).G 2) by rw [hAt_next HXX.out, hoth _ (by omega)])
          have hcn := (cell_of hb5 1).trans (Step.get1 x)
          rw [hxj] at hcn
          have HXJ := Lib.hid hxj
          clear hn ha hoth hcm hxj
          generalize asked ((hAt l k).G 1) = al at *
          have hka := (cell_of ha5 1).trans (show (#[v0, .slice A0 al.length c0, v2] : Array Value)[1]? = some (.slice A0 al.length c0) from rfl)
          go_wp2_with fail
          refine wp_region_held_drew (S := fun w' => w'.heap[bx]? = some (.cells x.cells 32 (0, 0)) ∧ w'.cell? ⟨bx, 1, none⟩ = some (.int .i64 1)) (by kernel_rfl) ⟨hb5, hcn⟩ (fun hHeld => ?_)
          refine wpAnyH_take (i := 0) (v := ?_) (List.getElem?_toArray.trans rfl) (by kernel_rfl) (by kernel_rfl) (by kernel_rfl) (fun _ _ _ h => h) (Or.inl ⟨by rfl, ?_⟩) (by assumption) ?_
          rotate_left
          · intro w' hw'
            try dsimp only at hw'
            skip
            go_simp
            try with_reducible rfl
          try simp only [Act.put, List.setIfInBounds_toArray, List.set_cons_zero, List.set_cons_succ]
          refine wpAnyH_take (i := 2) (v := ?_) (List.getElem?_toArray.trans rfl) (by kernel_rfl) (by kernel_rfl) (by kernel_rfl) (fun _ _ _ h => h) (Or.inl ⟨by rfl, ?_⟩) (by assumption) ?_
          rotate_left
          · intro w' hw'
            try dsimp only at hw'
            skip
            go_simp
            try with_reducible rfl
          try simp only [Act.put, List.setIfInBounds_toArray, List.set_cons_zero, List.set_cons_succ]
          refine wpAnyH_take (i := 6) (v := ?_) (List.getElem?_toArray.trans rfl) (by kernel_rfl) (by kernel_rfl) (by kernel_rfl) (fun _ _ _ h => h) (Or.inl ⟨by rfl, ?_⟩) (by assumption) ?_
          rotate_left
          · intro w' hw'
            try dsimp only at hw'
            skip
            go_simp
            try with_reducible rfl
          try simp only [Act.put, List.setIfInBounds_toArray, List.set_cons_zero, List.set_cons_succ]
          refine wpAnyH_take (i := 1) (v := ?_) (List.getElem?_toArray.trans rfl) (by kernel_rfl) (by kernel_rfl) (by kernel_rfl) (fun _ _ _ h => h) (Or.inl ⟨by rfl, ?_⟩) (by assumption) ?_
          rotate_left
          · intro w' hw'
            try dsimp only at hw'
            obtain ⟨hh1, hh2⟩ := hw'
            go_simp
            try with_reducible rfl
          try simp only [Act.put, List.setIfInBounds_toArray, List.set_cons_zero, List.set_cons_succ]
          refine wpAnyH_take (i := 3) (v := ?_) (List.getElem?_toArray.trans rfl) (by kernel_rfl) (by kernel_rfl) (by kernel_rfl) (fun _ _ _ h => h) (Or.inl ⟨by rfl, ?_⟩) (by assumption) ?_
          rotate_left
          · intro w' hw'
            try dsimp only at hw'
            obtain ⟨hh1, hh2⟩ := hw'
            go_simp
            try with_reducible rfl
          try simp only [Act.put, List.setIfInBounds_toArray, List.set_cons_zero, List.set_cons_succ]
          refine wpAnyH_take (i := 7) (v := ?_) (List.getElem?_toArray.trans rfl) (by kernel_rfl) (by kernel_rfl) (by kernel_rfl) (fun _ _ _ h => h) (Or.inl ⟨by rfl, ?_⟩) (by assumption) ?_
          rotate_left
          · intro w' hw'
            try dsimp only at hw'
            obtain ⟨hh1, hh2⟩ := hw'
            go_simp
            try with_reducible rfl
          try simp only [Act.put, List.setIfInBounds_toArray, List.set_cons_zero, List.set_cons_succ]
          refine wpAnyH_take (i := 4) (v := ?_) (List.getElem?_toArray.trans rfl) (by kernel_rfl) (by kernel_rfl) (by kernel_rfl) (fun _ _ _ h => h) (Or.inl ⟨by rfl, ?_⟩) (by assumption) ?_
          rotate_left
          · intro w' hw'
            try dsimp only at hw'
            skip
            go_simp
            try with_reducible rfl
          try simp only [Act.put, List.setIfInBounds_toArray, List.set_cons_zero, List.set_cons_succ]
          have X7 : Ext w5 (w5.drew.alloc (.cells x.call.cells 30)) := (Touch.drew (Touch.refl _ w5)).alloc _
          have hb7 := X7.blk hb5 id
          have hcn7 := (cell_of hb7 1).trans (Step.get1 x)
          rw [HXJ.out] at hcn7
          have hka7 : (w5.alloc (.cells x.call.cells 30)).cell? ⟨ba, 1, none⟩ = some (.slice A0 al.length c0) := (cell_of (X7.blk ha5 id) 1).trans (show (#[v0, .slice A0 al.length c0, v2] : Array Value)[1]? = some (.slice A0 al.length c0) from rfl)
          refine wpAnyH_ready (rs := [5, 8]) (by kernel_rfl) (by simp) ?_
          refine AllReadyH.cons (List.getElem?_toArray.trans rfl) (fun K hK => ?_) (AllReadyH.cons (List.getElem?_toArray.trans rfl) (fun K hK => ?_) AllReadyH.nil)
          · skip
            go_simp
            refine hK.out _ _ hHeld (fun hHeld => ?_)
            clear hK K
            try simp only [Act.put, List.setIfInBounds_toArray, List.set_cons_zero, List.set_cons_succ]
            refine wpAnyH_ready (rs := [8]) (by kernel_rfl) (by simp) ?_
            refine AllReadyH.cons (List.getElem?_toArray.trans rfl) (fun K hK => ?_) AllReadyH.nil
            go_simp
            refine hK.out _ _ ⟨hb7, hcn7⟩ (fun hHeld => ?_)
            clear hK K
            try simp only [Act.put, List.setIfInBounds_toArray, List.set_cons_zero, List.set_cons_succ]
            refine wpAnyH_ready (rs := [9]) (by kernel_rfl) (by simp) ?_
            refine AllReadyH.cons (List.getElem?_toArray.trans rfl) (fun K hK => ?_) AllReadyH.nil
            refine step_append_own (by rfl) (.tmp 56) (.tmp 59) 27 (by rfl) elemCall Try.underlying27 (v := .slice A0 al.length c0) (l := al) (by rfl) ((ask_own1 H5.out).ext X7) [x.call] (by rfl) (al.length + 1) (by rfl) (by rfl)
              (reads_block (x := x.call) (t := 30) (fr := (0, 0)) (heap_alloc_new _ _) (w5.drew.heap.size + 1) (by show w5.heap.size < w5.heap.size + 1; omega)) (by simp; omega) ?_
            intro A8 c8 w8 hown8 hgrow8 hat8
            have h8 := push1 H5.out X7 hown8 hgrow8 hat8
            have H8 := Lib.hid h8
            have hb8 := h8.blk
            have hcn8 := (cell_of hb8 1).trans (Step.get1 x)
            rw [HXJ.out] at hcn8
            have ha8 := h8.left.blk
            clear hown8 hgrow8 hat8 h8 hHeld X7 hb7 hcn7 hka7
            refine hK.out _ _ ⟨hb8, hcn8⟩ (fun hHeld => ?_)
            clear hK K
            try simp only [Act.put, List.setIfInBounds_toArray, List.set_cons_zero, List.set_cons_succ]
            refine wpAnyH_take (i := 10) (v := ?_) (List.getElem?_toArray.trans rfl) (by kernel_rfl) (by kernel_rfl) (by kernel_rfl) (fun _ _ _ h => h) (Or.inl ⟨by rfl, ?_⟩) (by assumption) ?_
            rotate_left
            · intro w' hw'
              try dsimp only at hw'
              skip
              go_simp
              try with_reducible rfl
            try simp only [Act.put, List.setIfInBounds_toArray, List.set_cons_zero, List.set_cons_succ]
            have hc8 := cell_of ha8 1
            have hf8 := frozen_of ha8 1
            have ha9 := setCell_heap ha8 1 (.slice A8 (al.length + 1) c8)
            have H9 := Lib.hid ((H8.out.exch'.turn (w' := w8.setCell ⟨ba, 1, none⟩ (.slice A8 (al.length + 1) c8)) ((Touch.refl (fun k => k = ba) w8).setCell (a := ⟨ba, 1, none⟩) (.inl rfl) _) ha9).exch')
            have hb9 := H9.out.blk
            have hcn9 := (cell_of hb9 1).trans (Step.get1 x)
            rw [HXJ.out] at hcn9
            refine wpAnyH_ready (rs := [11]) (by kernel_rfl) (by simp) ?_
            refine AllReadyH.cons (List.getElem?_toArray.trans rfl) (fun K hK => ?_) AllReadyH.nil
            go_simp
            refine hK.out _ _ ⟨hb9, hcn9⟩ (fun hHeld => ?_)
            clear hK K
            try simp only [Act.put, List.setIfInBounds_toArray, List.set_cons_zero, List.set_cons_succ]
            refine wpAnyH_done (by kernel_rfl) ?_ _
            clear hb8 hcn8 ha8 hc8 hf8 ha9 hb9 hcn9 hHeld
            generalize w8.setCell ⟨ba, 1, none⟩ (.slice A8 (al.length + 1) c8) = w9 at H9 ⊢
            go_wp2
            go_roundw
            case rel =>
              have h10 := H9.out.left
              rw [show al ++ [x.call] = asked ((hAt l (k + 1)).G 1) from HOA.out, HO1.out, HO2.out] at h10
              exact ⟨k + 1, by go_num, by omega, _, _, _, h10⟩
            case measure => simp [intOf]; omega
          · skip
            go_simp
            refine hK.out _ _ ⟨hb7, hcn7⟩ (fun hHeld => ?_)
            clear hK K
            try simp only [Act.put, List.setIfInBounds_toArray, List.set_cons_zero, List.set_cons_succ]
            refine wpAnyH_ready (rs := [5]) (by kernel_rfl) (by simp) ?_
            refine AllReadyH.cons (List.getElem?_toArray.trans rfl) (fun K hK => ?_) AllReadyH.nil
            go_simp
            refine hK.out _ _ ⟨hb7, hcn7⟩ (fun hHeld => ?_)
            clear hK K
            try simp only [Act.put, List.setIfInBounds_toArray, List.set_cons_zero, List.set_cons_succ]
            refine wpAnyH_ready (rs := [9]) (by kernel_rfl) (by simp) ?_
            refine AllReadyH.cons (List.getElem?_toArray.trans rfl) (fun K hK => ?_) AllReadyH.nil
            refine step_append_own (by rfl) (.tmp 56) (.tmp 59) 27 (by rfl) elemCall Try.underlying27 (v := .slice A0 al.length c0) (l := al) (by rfl) ((ask_own1 H5.out).ext X7) [x.call] (by rfl) (al.length + 1) (by rfl) (by rfl)
              (reads_block (x := x.call) (t := 30) (fr := (0, 0)) (heap_alloc_new _ _) (w5.drew.heap.size + 1) (by show w5.heap.size < w5.heap.size + 1; omega)) (by simp; omega) ?_
            intro A8 c8 w8 hown8 hgrow8 hat8
            have h8 := push1 H5.out X7 hown8 hgrow8 hat8
            have H8 := Lib.hid h8
            have hb8 := h8.blk
            have hcn8 := (cell_of hb8 1).trans (Step.get1 x)
            rw [HXJ.out] at hcn8
            have ha8 := h8.left.blk
            clear hown8 hgrow8 hat8 h8 hHeld X7 hb7 hcn7 hka7
            refine hK.out _ _ ⟨hb8, hcn8⟩ (fun hHeld => ?_)
            clear hK K
            try simp only [Act.put, List.setIfInBounds_toArray, List.set_cons_zero, List.set_cons_succ]
            refine wpAnyH_take (i := 10) (v := ?_) (List.getElem?_toArray.trans rfl) (by kernel_rfl) (by kernel_rfl) (by kernel_rfl) (fun _ _ _ h => h) (Or.inl ⟨by rfl, ?_⟩) (by assumption) ?_
            rotate_left
            · intro w' hw'
              try dsimp only at hw'
              skip
              go_simp
              try with_reducible rfl
            try simp only [Act.put, List.setIfInBounds_toArray, List.set_cons_zero, List.set_cons_succ]
            have hc8 := cell_of ha8 1
            have hf8 := frozen_of ha8 1
            have ha9 := setCell_heap ha8 1 (.slice A8 (al.length + 1) c8)
            have H9 := Lib.hid ((H8.out.exch'.turn (w' := w8.setCell ⟨ba, 1, none⟩ (.slice A8 (al.length + 1) c8)) ((Touch.refl (fun k => k = ba) w8).setCell (a := ⟨ba, 1, none⟩) (.inl rfl) _) ha9).exch')
            have hb9 := H9.out.blk
            have hcn9 := (cell_of hb9 1).trans (Step.get1 x)
            rw [HXJ.out] at hcn9
            refine wpAnyH_ready (rs := [11]) (by kernel_rfl) (by simp) ?_
            refine AllReadyH.cons (List.getElem?_toArray.trans rfl) (fun K hK => ?_) AllReadyH.nil
            go_simp
            refine hK.out _ _ ⟨hb9, hcn9⟩ (fun hHeld => ?_)
            clear hK K
            try simp only [Act.put, List.setIfInBounds_toArray, List.set_cons_zero, List.set_cons_succ]
            refine wpAnyH_done (by kernel_rfl) ?_ _
            clear hb8 hcn8 ha8 hc8 hf8 ha9 hb9 hcn9 hHeld
            generalize w8.setCell ⟨ba, 1, none⟩ (.slice A8 (al.length + 1) c8) = w9 at H9 ⊢
            go_wp2
            go_roundw
            case rel =>
              have h10 := H9.out.left
              rw [show al ++ [x.call] = asked ((hAt l (k + 1)).G 1) from HOA.out, HO1.out, HO2.out] at h10
              exact ⟨k + 1, by go_num, by omega, _, _, _, h10⟩
            case measure => simp [intOf]; omega
        · obtain ⟨hn, ha, hoth⟩ := HAY.out
          have hxj : x.n = 2 := hj
          rw [show x.n.toNat = 2 by omega] at ha hoth
          obtain ⟨A0, c0, hv, hcap, hcm, _⟩ := (ask_own2 H5.out).form
          subst hv
          have hb5 := H5.out.blk
          have ha5 := H5.out.left.blk
          have hlen := asked_le (HOKG.out 2 (by omega))
          have HOA := Lib.hid (show asked ((hAt l k).G 2) ++ [x.call] = asked ((hAt l (k + 1)).G 2) by rw [hAt_next HXX.out, ha])
          have HO1 := Lib.hid (show asked ((hAt l k).G 0) = asked ((hAt l (k + 1)).G 0) by rw [hAt_next HXX.out, hoth _ (by omega)])
          have HO2 := Lib.hid (show asked ((hAt l k).G 1) = asked ((hAt l (k + 1)).G 1) by rw [hAt_next HXX.out, hoth _ (by omega)])
          have hcn := (cell_of hb5 1).trans (Step.get1 x)
          rw [hxj] at hcn
          have HXJ := Lib.hid hxj
          clear hn ha hoth hcm hxj
          generalize asked ((hAt l k).G 2) = al at *
          have hka := (cell_of ha5 2).trans (show (#[v0, v1, .slice A0 al.length c0] : Array Value)[2]? = some (.slice A0 al.length c0) from rfl)
          go_wp2_with fail
          refine wp_region_held_drew (S := fun w' => w'.heap[bx]? = some (.cells x.cells 32 (0, 0)) ∧ w'.cell? ⟨bx, 1, none⟩ = some (.int .i64 2)) (by kernel_rfl) ⟨hb5, hcn⟩ (fun hHeld => ?_)
          refine wpAnyH_take (i := 0) (v := ?_) (List.getElem?_toArray.trans rfl) (by kernel_rfl) (by kernel_rfl) (by kernel_rfl) (fun _ _ _ h => h) (Or.inl ⟨by rfl, ?_⟩) (by assumption) ?_
          rotate_left
          · intro w' hw'
            try dsimp only at hw'
            skip
            go_simp
            try with_reducible rfl
          try simp only [Act.put, List.setIfInBounds_toArray, List.set_cons_zero, List.set_cons_succ]
          refine wpAnyH_take (i := 2) (v := ?_) (List.getElem?_toArray.trans rfl) (by kernel_rfl) (by kernel_rfl) (by kernel_rfl) (fun _ _ _ h => h) (Or.inl ⟨by rfl, ?_⟩) (by assumption) ?_
          rotate_left
          · intro w' hw'
            try dsimp only at hw'
            skip
            go_simp
            try with_reducible rfl
          try simp only [Act.put, List.setIfInBounds_toArray, List.set_cons_zero, List.set_cons_succ]
          refine wpAnyH_take (i := 6) (v := ?_) (List.getElem?_toArray.trans rfl) (by kernel_rfl) (by kernel_rfl) (by kernel_rfl) (fun _ _ _ h => h) (Or.inl ⟨by rfl, ?_⟩) (by assumption) ?_
          rotate_left
          · intro w' hw'
            try dsimp only at hw'
            skip
            go_simp
            try with_reducible rfl
          try simp only [Act.put, List.setIfInBounds_toArray, List.set_cons_zero, List.set_cons_succ]
          refine wpAnyH_take (i := 1) (v := ?_) (List.getElem?_toArray.trans rfl) (by kernel_rfl) (by kernel_rfl) (by kernel_rfl) (fun _ _ _ h => h) (Or.inl ⟨by rfl, ?_⟩) (by assumption) ?_
          rotate_left
          · intro w' hw'
            try dsimp only at hw'
            obtain ⟨hh1, hh2⟩ := hw'
            go_simp
            try with_reducible rfl
          try simp only [Act.put, List.setIfInBounds_toArray, List.set_cons_zero, List.set_cons_succ]
          refine wpAnyH_take (i := 3) (v := ?_) (List.getElem?_toArray.trans rfl) (by kernel_rfl) (by kernel_rfl) (by kernel_rfl) (fun _ _ _ h => h) (Or.inl ⟨by rfl, ?_⟩) (by assumption) ?_
          rotate_left
          · intro w' hw'
            try dsimp only at hw'
            obtain ⟨hh1, hh2⟩ := hw'
            go_simp
            try with_reducible rfl
          try simp only [Act.put, List.setIfInBounds_toArray, List.set_cons_zero, List.set_cons_succ]
          refine wpAnyH_take (i := 7) (v := ?_) (List.getElem?_toArray.trans rfl) (by kernel_rfl) (by kernel_rfl) (by kernel_rfl) (fun _ _ _ h => h) (Or.inl ⟨by rfl, ?_⟩) (by assumption) ?_
          rotate_left
          · intro w' hw'
            try dsimp only at hw'
            obtain ⟨hh1, hh2⟩ := hw'
            go_simp
            try with_reducible rfl
          try simp only [Act.put, List.setIfInBounds_toArray, List.set_cons_zero, List.set_cons_succ]
          refine wpAnyH_take (i := 4) (v := ?_) (List.getElem?_toArray.trans rfl) (by kernel_rfl) (by kernel_rfl) (by kernel_rfl) (fun _ _ _ h => h) (Or.inl ⟨by rfl, ?_⟩) (by assumption) ?_
          rotate_left
          · intro w' hw'
            try dsimp only at hw'
            skip
            go_simp
            try with_reducible rfl
          try simp only [Act.put, List.setIfInBounds_toArray, List.set_cons_zero, List.set_cons_succ]
          have X7 : Ext w5 (w5.drew.alloc (.cells x.call.cells 30)) := (Touch.drew (Touch.refl _ w5)).alloc _
          have hb7 := X7.blk hb5 id
          have hcn7 := (cell_of hb7 1).trans (Step.get1 x)
          rw [HXJ.out] at hcn7
          have hka7 : (w5.alloc (.cells x.call.cells 30)).cell? ⟨ba, 2, none⟩ = some (.slice A0 al.length c0) := (cell_of (X7.blk ha5 id) 2).trans (show (#[v0, v1, .slice A0 al.length c0] : Array Value)[2]? = some (.slice A0 al.length c0) from rfl)
          refine wpAnyH_ready (rs := [5, 8]) (by kernel_rfl) (by simp) ?_
          refine AllReadyH.cons (List.getElem?_toArray.trans rfl) (fun K hK => ?_) (AllReadyH.cons (List.getElem?_toArray.trans rfl) (fun K hK => ?_) AllReadyH.nil)
          · skip
            go_simp
            refine hK.out _ _ hHeld (fun hHeld => ?_)
            clear hK K
            try simp only [Act.put, List.setIfInBounds_toArray, List.set_cons_zero, List.set_cons_succ]
            refine wpAnyH_ready (rs := [8]) (by kernel_rfl) (by simp) ?_
            refine AllReadyH.cons (List.getElem?_toArray.trans rfl) (fun K hK => ?_) AllReadyH.nil
            go_simp
            refine hK.out _ _ ⟨hb7, hcn7⟩ (fun hHeld => ?_)
            clear hK K
            try simp only [Act.put, List.setIfInBounds_toArray, List.set_cons_zero, List.set_cons_succ]
            refine wpAnyH_ready (rs := [9]) (by kernel_rfl) (by simp) ?_
            refine AllReadyH.cons (List.getElem?_toArray.trans rfl) (fun K hK => ?_) AllReadyH.nil
            refine step_append_own (by rfl) (.tmp 56) (.tmp 59) 27 (by rfl) elemCall Try.underlying27 (v := .slice A0 al.length c0) (l := al) (by rfl) ((ask_own2 H5.out).ext X7) [x.call] (by rfl) (al.length + 1) (by rfl) (by rfl)
              (reads_block (x := x.call) (t := 30) (fr := (0, 0)) (heap_alloc_new _ _) (w5.drew.heap.size + 1) (by show w5.heap.size < w5.heap.size + 1; omega)) (by simp; omega) ?_
            intro A8 c8 w8 hown8 hgrow8 hat8
            have h8 := push2 H5.out X7 hown8 hgrow8 hat8
            have H8 := Lib.hid h8
            have hb8 := h8.blk
            have hcn8 := (cell_of hb8 1).trans (Step.get1 x)
            rw [HXJ.out] at hcn8
            have ha8 := h8.left.blk
            clear hown8 hgrow8 hat8 h8 hHeld X7 hb7 hcn7 hka7
            refine hK.out _ _ ⟨hb8, hcn8⟩ (fun hHeld => ?_)
            clear hK K
            try simp only [Act.put, List.setIfInBounds_toArray, List.set_cons_zero, List.set_cons_succ]
            refine wpAnyH_take (i := 10) (v := ?_) (List.getElem?_toArray.trans rfl) (by kernel_rfl) (by kernel_rfl) (by kernel_rfl) (fun _ _ _ h => h) (Or.inl ⟨by rfl, ?_⟩) (by assumption) ?_
            rotate_left
            · intro w' hw'
              try dsimp only at hw'
              skip
              go_simp
              try with_reducible rfl
            try simp only [Act.put, List.setIfInBounds_toArray, List.set_cons_zero, List.set_cons_succ]
            have hc8 := cell_of ha8 2
            have hf8 := frozen_of ha8 2
            have ha9 := setCell_heap ha8 2 (.slice A8 (al.length + 1) c8)
            have H9 := Lib.hid ((H8.out.exch'.turn (w' := w8.setCell ⟨ba, 2, none⟩ (.slice A8 (al.length + 1) c8)) ((Touch.refl (fun k => k = ba) w8).setCell (a := ⟨ba, 2, none⟩) (.inl rfl) _) ha9).exch')
            have hb9 := H9.out.blk
            have hcn9 := (cell_of hb9 1).trans (Step.get1 x)
            rw [HXJ.out] at hcn9
            refine wpAnyH_ready (rs := [11]) (by kernel_rfl) (by simp) ?_
            refine AllReadyH.cons (List.getElem?_toArray.trans rfl) (fun K hK => ?_) AllReadyH.nil
            go_simp
            refine hK.out _ _ ⟨hb9, hcn9⟩ (fun hHeld => ?_)
            clear hK K
            try simp only [Act.put, List.setIfInBounds_toArray, List.set_cons_zero, List.set_cons_succ]
            refine wpAnyH_done (by kernel_rfl) ?_ _
            clear hb8 hcn8 ha8 hc8 hf8 ha9 hb9 hcn9 hHeld
            generalize w8.setCell ⟨ba, 2, none⟩ (.slice A8 (al.length + 1) c8) = w9 at H9 ⊢
            go_wp2
            go_roundw
            case rel =>
              have h10 := H9.out.left
              rw [show al ++ [x.call] = asked ((hAt l (k + 1)).G 2) from HOA.out, HO1.out, HO2.out] at h10
              exact ⟨k + 1, by go_num, by omega, _, _, _, h10⟩
            case measure => simp [intOf]; omega
          · skip
            go_simp
            refine hK.out _ _ ⟨hb7, hcn7⟩ (fun hHeld => ?_)
            clear hK K
            try simp only [Act.put, List.setIfInBounds_toArray, List.set_cons_zero, List.set_cons_succ]
            refine wpAnyH_ready (rs := [5]) (by kernel_rfl) (by simp) ?_
            refine AllReadyH.cons (List.getElem?_toArray.trans rfl) (fun K hK => ?_) AllReadyH.nil
            go_simp
            refine hK.out _ _ ⟨hb7, hcn7⟩ (fun hHeld => ?_)
            clear hK K
            try simp only [Act.put, List.setIfInBounds_toArray, List.set_cons_zero, List.set_cons_succ]
            refine wpAnyH_ready (rs := [9]) (by kernel_rfl) (by simp) ?_
            refine AllReadyH.cons (List.getElem?_toArray.trans rfl) (fun K hK => ?_) AllReadyH.nil
            refine step_append_own (by rfl) (.tmp 56) (.tmp 59) 27 (by rfl) elemCall Try.underlying27 (v := .slice A0 al.length c0) (l := al) (by rfl) ((ask_own2 H5.out).ext X7) [x.call] (by rfl) (al.length + 1) (by rfl) (by rfl)
              (reads_block (x := x.call) (t := 30) (fr := (0, 0)) (heap_alloc_new _ _) (w5.drew.heap.size + 1) (by show w5.heap.size < w5.heap.size + 1; omega)) (by simp; omega) ?_
            intro A8 c8 w8 hown8 hgrow8 hat8
            have h8 := push2 H5.out X7 hown8 hgrow8 hat8
            have H8 := Lib.hid h8
            have hb8 := h8.blk
            have hcn8 := (cell_of hb8 1).trans (Step.get1 x)
            rw [HXJ.out] at hcn8
            have ha8 := h8.left.blk
            clear hown8 hgrow8 hat8 h8 hHeld X7 hb7 hcn7 hka7
            refine hK.out _ _ ⟨hb8, hcn8⟩ (fun hHeld => ?_)
            clear hK K
            try simp only [Act.put, List.setIfInBounds_toArray, List.set_cons_zero, List.set_cons_succ]
            refine wpAnyH_take (i := 10) (v := ?_) (List.getElem?_toArray.trans rfl) (by kernel_rfl) (by kernel_rfl) (by kernel_rfl) (fun _ _ _ h => h) (Or.inl ⟨by rfl, ?_⟩) (by assumption) ?_
            rotate_left
            · intro w' hw'
              try dsimp only at hw'
              skip
              go_simp
              try with_reducible rfl
            try simp only [Act.put, List.setIfInBounds_toArray, List.set_cons_zero, List.set_cons_succ]
            have hc8 := cell_of ha8 2
            have hf8 := frozen_of ha8 2
            have ha9 := setCell_heap ha8 2 (.slice A8 (al.length + 1) c8)
            have H9 := Lib.hid ((H8.out.exch'.turn (w' := w8.setCell ⟨ba, 2, none⟩ (.slice A8 (al.length + 1) c8)) ((Touch.refl (fun k => k = ba) w8).setCell (a := ⟨ba, 2, none⟩) (.inl rfl) _) ha9).exch')
            have hb9 := H9.out.blk
            have hcn9 := (cell_of hb9 1).trans (Step.get1 x)
            rw [HXJ.out] at hcn9
            refine wpAnyH_ready (rs := [11]) (by kernel_rfl) (by simp) ?_
            refine AllReadyH.cons (List.getElem?_toArray.trans rfl) (fun K hK => ?_) AllReadyH.nil
            go_simp
            refine hK.out _ _ ⟨hb9, hcn9⟩ (fun hHeld => ?_)
            clear hK K
            try simp only [Act.put, List.setIfInBounds_toArray, List.set_cons_zero, List.set_cons_succ]
            refine wpAnyH_done (by kernel_rfl) ?_ _
            clear hb8 hcn8 ha8 hc8 hf8 ha9 hb9 hcn9 hHeld
            generalize w8.setCell ⟨ba, 2, none⟩ (.slice A8 (al.length + 1) c8) = w9 at H9 ⊢
            go_wp2
            go_roundw
            case rel =>
              have h10 := H9.out.left
              rw [show al ++ [x.call] = asked ((hAt l (k + 1)).G 2) from HOA.out, HO1.out, HO2.out] at h10
              exact ⟨k + 1, by go_num, by omega, _, _, _, h10⟩
            case measure => simp [intOf]; omega
      · have HAN := Lib.hid (hStep_asked_no hy)
        have HA' := Lib.hid (show AskAt W w5 gw ba (hAt l (k + 1)) (asked ((hAt l (k + 1)).G 0)) (asked ((hAt l (k + 1)).G 1)) (asked ((hAt l (k + 1)).G 2)) from ⟨v0, v1, v2, by
          rw [HNX.out, HAN.out 0, HAN.out 1, HAN.out 2]; exact h5.left⟩)
        clear h5 hb5 hcn HAN
        by_cases hc0 : (hStep (hAt l k) x).1 = 0
        · have hk1 : (x.kind == 1) = false := by simp; exact fun e => hy ⟨e, hc0⟩
          rw [hc0]
          clear hc0 hy
          go_wp2
          go_roundw
          case rel => exact ⟨k + 1, by go_num, by omega, HA'.out⟩
          case measure => simp [intOf]; omega
        · have hk0 : ((hStep (hAt l k) x).1 == 0) = false := by simp [hc0]
          generalize (hStep (hAt l k) x).1 = code at *
          clear hc0 hy
          go_wp2
          go_roundw
          case rel => exact ⟨k + 1, by go_num, by omega, HA'.out⟩
          case measure => simp [intOf]; omega
    · obtain rfl : k = l.length := by omega
      obtain ⟨fr, hok⟩ := hAt_ok l l.length
      obtain ⟨hsaid, hw⟩ := AskAt.said ⟨v0, v1, v2, HZ.out⟩
      have HOK := Lib.hid hok
      have HSAID := Lib.hid hsaid
      generalize hAt l l.length = H at *
      clear hok hsaid hlt hk HZ
      obtain ⟨F5, hF5, _⟩ := hw.one
      obtain ⟨gs, Fs, hcs⟩ := world_store2 hF5
      have HCS := Lib.hid hcs
      have HW := Lib.hid hw
      have hcs0 := (hcs wr (Touch.refl _ _)).1
      clear hF5 hcs hw
      go_wp2_with fail
      refine (store_logs wr gs Fs _ (HCS.out wr (Touch.refl _ _)).2 HOK.out.log).mono ?_
      rintro e w5 ⟨A5, c5, rfl, ho5, hx5, _⟩
      have HO5 := Lib.hid ho5
      have X5 := Lib.hid hx5
      have HALL := Lib.hid (log_all HOK.out.log)
      have hlen := HOK.out.log.len
      clear ho5 hx5 hcs0
      go_wp2_with fail
      refine (ref_recordsOf w5 A5 _ c5 (logBytes H.S) HO5.out.bytesIn (by omega)).mono ?_
      rintro e w6 ⟨A6, c6, rfl, ho6, hx6, _⟩
      rw [HALL.out] at ho6 ⊢
      have HO6 := Lib.hid ho6
      have X6 := Lib.hid (X5.out.trans hx6)
      have hcs0 := (HCS.out w6 X6.out).1
      clear ho6 hx6 HO5
      go_wp2_with fail
      refine (store_logs w6 gs Fs _ (HCS.out w6 X6.out).2 HOK.out.log).mono ?_
      rintro e w7 ⟨A7, c7, rfl, ho7, hx7, _⟩
      have HO7 := Lib.hid (HO6.out.ext hx7)
      have X7 := Lib.hid (X6.out.trans hx7)
      have HLL := Lib.hid (show H.S.length * 8 ≤ (logBytes H.S).length from log_len HOK.out.log.each)
      have hSl : H.S.length ≤ 250 := by have := HLL.out; omega
      clear ho7 hx7 hcs0 HO6
      go_wp2_with fail
      go_loopw [9] (fun i wz => ∃ q : Nat, i = .int .i64 q ∧ q ≤ H.S.length ∧ Ext w7 wz) (fun i _ => H.S.length - (intOf i).toNat)
      case atStart => exact ⟨0, rfl, Nat.zero_le _, Touch.refl _ _⟩
      case round =>
        obtain ⟨q, rfl, hq, hx⟩ := hrel
        have HX := Lib.hid hx
        clear hx
        by_cases hlt : q < H.S.length
        · obtain ⟨r, hr⟩ : ∃ r, H.S[q]? = some r := ⟨H.S[q], by simp [hlt]⟩
          obtain ⟨al, rfl, hrec⟩ := rec_reads HO7.out.reads hr
          have HREC := Lib.hid hrec
          have hlv := (hrec wr HX.out).whole
          have HR1 := Lib.hid hr
          have HRO := Lib.hid (HOK.out.log.each r (List.mem_of_getElem? hr))
          have HNTH := Lib.hid (HOK.out.mine r (List.mem_of_getElem? hr))
          clear hrec hr
          go_wp2_with fail
          have hb8 : (wr.alloc (.cells r.cells 48)).heap[wr.heap.size]? = some (.cells r.cells 48 (0, 0)) := heap_alloc_new _ _
          have hx8 : Ext w7 (wr.alloc (.cells r.cells 48)) := HX.out.alloc _
          generalize wr.alloc (.cells r.cells 48) = w8 at hb8 hx8 ⊢
          generalize wr.heap.size = br at hb8 ⊢
          have X8 := Lib.hid hx8
          clear hlv hx8
          obtain ⟨j, hj, hcl⟩ := rec_client HRO.out
          have hnth := HNTH.out
          rw [hcl, Int.toNat_natCast] at hnth
          obtain ⟨hn1, hn2⟩ := hnth
          obtain ⟨m, hm⟩ : ∃ m : Nat, r.no = (m : Int) + 1 := ⟨(r.no - 1).toNat, by omega⟩
          rw [show (r.no - 1).toNat = m by omega] at hn2
          have hml := (List.getElem?_eq_some_iff.1 hn2).1
          obtain ⟨Aj, cj, hcj, hrj⟩ := HSAID.out.at_ j hj
          have hale := asked_le (HOK.out.guest j hj)
          have X78 := Lib.hid (X7.out.trans X8.out)
          obtain ⟨aj, rfl, hcall⟩ := call_reads hrj hn2
          have HF := Lib.hid (show ∀ w', Ext w8 w' → w'.heap[br]? = some (.cells r.cells 48 (0, 0)) ∧ w'.cell? ⟨br, 0, none⟩ = some (.int .i64 j) ∧ w'.cell? ⟨br, 1, none⟩ = some (.int .i64 ((m : Int) + 1)) ∧
              w'.cell? ⟨ba, j, none⟩ = some (.slice (some aj) (asked (H.G j)).length cj) ∧ LV Try.prog 30 (aj.add (m * 4)) w' = .ok (.agg r.call.cells) w' from
            fun w' hx => ⟨hx.blk hb8 id, by rw [← hcl]; exact (cell_of (hx.blk hb8 id) 0).trans (Record.get0 r), by rw [← hm]; exact (cell_of (hx.blk hb8 id) 1).trans (Record.get1 r), hcj _ (X78.out.trans hx), hcall _ (X78.out.trans hx)⟩)
          have hml1 : (m : Int) < (asked (H.G j)).length := by omega
          have hml2 : ¬ ((asked (H.G j)).length : Int) < (m : Int) + 1 := by omega
          have hm2 : (m : Int) < 200 := by omega
          have hj3 : (j : Int) < 3 := by omega
          have hwm : IntKind.i64.wrap (m : Int) = (m : Int) := IntWalk.i64_in _ (by omega)
          have hde : decide (r.call = r.call) = true := by simp
          have HM := Lib.hid hm
          have HCL := Lib.hid hcl
          clear hn1 hn2 hm hml hrj hcj hcall hcl hb8
          generalize (asked (H.G j)).length = la at *
          refine wp_region_held_drew (S := fun w' => Ext w8 w') (by kernel_rfl) (Touch.drew (Touch.refl _ w8)) (fun hHeld => ?_)
          refine wpAnyH_take (i := 0) (v := ?_) (List.getElem?_toArray.trans rfl) (by kernel_rfl) (by kernel_rfl) (by kernel_rfl) (fun _ _ _ h => h) (Or.inl ⟨by rfl, ?_⟩) (by assumption) ?_
          rotate_left
          · intro w' hw'
            try dsimp only at hw'
            skip
            go_simp
            try with_reducible rfl
          try simp only [Act.put, List.setIfInBounds_toArray, List.set_cons_zero, List.set_cons_succ]
          refine wpAnyH_take (i := 2) (v := ?_) (List.getElem?_toArray.trans rfl) (by kernel_rfl) (by kernel_rfl) (by kernel_rfl) (fun _ _ _ h => h) (Or.inl ⟨by rfl, ?_⟩) (by assumption) ?_
          rotate_left
          · intro w' hw'
            try dsimp only at hw'
            skip
            go_simp
            try with_reducible rfl
          try simp only [Act.put, List.setIfInBounds_toArray, List.set_cons_zero, List.set_cons_succ]
          refine wpAnyH_take (i := 1) (v := ?_) (List.getElem?_toArray.trans rfl) (by kernel_rfl) (by kernel_rfl) (by kernel_rfl) (fun _ _ _ h => h) (Or.inl ⟨by rfl, ?_⟩) (by assumption) ?_
          rotate_left
          · intro w' hw'
            try dsimp only at hw'
            obtain ⟨hh1, hh2, hh3, hh4, hh5⟩ := HF.out w' hw'
            go_simp
            try with_reducible rfl
          try simp only [Act.put, List.setIfInBounds_toArray, List.set_cons_zero, List.set_cons_succ]
          refine wpAnyH_take (i := 3) (v := ?_) (List.getElem?_toArray.trans rfl) (by kernel_rfl) (by kernel_rfl) (by kernel_rfl) (fun _ _ _ h => h) (Or.inl ⟨by rfl, ?_⟩) (by assumption) ?_
          rotate_left
          · intro w' hw'
            try dsimp only at hw'
            obtain ⟨hh1, hh2, hh3, hh4, hh5⟩ := HF.out w' hw'
            go_simp
            try with_reducible rfl
          try simp only [Act.put, List.setIfInBounds_toArray, List.set_cons_zero, List.set_cons_succ]
          refine wpAnyH_take (i := 4) (v := ?_) (List.getElem?_toArray.trans rfl) (by kernel_rfl) (by kernel_rfl) (by kernel_rfl) (fun _ _ _ h => h) (Or.inl ⟨by rfl, ?_⟩) (by assumption) ?_
          rotate_left
          · intro w' hw'
            try dsimp only at hw'
            skip
            go_simp
            try with_reducible rfl
          try simp only [Act.put, List.setIfInBounds_toArray, List.set_cons_zero, List.set_cons_succ]
          refine wpAnyH_take (i := 5) (v := ?_) (List.getElem?_toArray.trans rfl) (by kernel_rfl) (by kernel_rfl) (by kernel_rfl) (fun _ _ _ h => h) (Or.inl ⟨by rfl, ?_⟩) (by assumption) ?_
          rotate_left
          · intro w' hw'
            try dsimp only at hw'
            obtain ⟨hh1, hh2, hh3, hh4, hh5⟩ := HF.out w' hw'
            go_simp
            try with_reducible rfl
          try simp only [Act.put, List.setIfInBounds_toArray, List.set_cons_zero, List.set_cons_succ]
          refine wpAnyH_take (i := 6) (v := ?_) (List.getElem?_toArray.trans rfl) (by kernel_rfl) (by kernel_rfl) (by kernel_rfl) (fun _ _ _ h => h) (Or.inl ⟨by rfl, ?_⟩) (by assumption) ?_
          rotate_left
          · intro w' hw'
            try dsimp only at hw'
            skip
            go_simp
            try with_reducible rfl
          try simp only [Act.put, List.setIfInBounds_toArray, List.set_cons_zero, List.set_cons_succ]
          refine wpAnyH_take (i := 7) (v := ?_) (List.getElem?_toArray.trans rfl) (by kernel_rfl) (by kernel_rfl) (by kernel_rfl) (fun _ _ _ h => h) (Or.inl ⟨by rfl, ?_⟩) (by assumption) ?_
          rotate_left
          · intro w' hw'
            try dsimp only at hw'
            skip
            go_simp
            try with_reducible rfl
          try simp only [Act.put, List.setIfInBounds_toArray, List.set_cons_zero, List.set_cons_succ]
          refine wpAnyH_take (i := 8) (v := ?_) (List.getElem?_toArray.trans rfl) (by kernel_rfl) (by kernel_rfl) (by kernel_rfl) (fun _ _ _ h => h) (Or.inl ⟨by rfl, ?_⟩) (by assumption) ?_
          rotate_left
          · intro w' hw'
            try dsimp only at hw'
            skip
            go_simp
            try with_reducible rfl
          try simp only [Act.put, List.setIfInBounds_toArray, List.set_cons_zero, List.set_cons_succ]
          refine wpAnyH_take (i := 9) (v := ?_) (List.getElem?_toArray.trans rfl) (by kernel_rfl) (by kernel_rfl) (by kernel_rfl) (fun _ _ _ h => h) (Or.inl ⟨by rfl, ?_⟩) (by assumption) ?_
          rotate_left
          · intro w' hw'
            try dsimp only at hw'
            skip
            go_simp
            try with_reducible rfl
          try simp only [Act.put, List.setIfInBounds_toArray, List.set_cons_zero, List.set_cons_succ]
          refine wpAnyH_take (i := 13) (v := ?_) (List.getElem?_toArray.trans rfl) (by kernel_rfl) (by kernel_rfl) (by kernel_rfl) (fun _ _ _ h => h) (Or.inl ⟨by rfl, ?_⟩) (by assumption) ?_
          rotate_left
          · intro w' hw'
            try dsimp only at hw'
            skip
            go_simp
            try with_reducible rfl
          try simp only [Act.put, List.setIfInBounds_toArray, List.set_cons_zero, List.set_cons_succ]
          refine wpAnyH_take (i := 18) (v := ?_) (List.getElem?_toArray.trans rfl) (by kernel_rfl) (by kernel_rfl) (by kernel_rfl) (fun _ _ _ h => h) (Or.inl ⟨by rfl, ?_⟩) (by assumption) ?_
          rotate_left
          · intro w' hw'
            try dsimp only at hw'
            skip
            go_simp
            try with_reducible rfl
          try simp only [Act.put, List.setIfInBounds_toArray, List.set_cons_zero, List.set_cons_succ]
          refine wpAnyH_take (i := 10) (v := ?_) (List.getElem?_toArray.trans rfl) (by kernel_rfl) (by kernel_rfl) (by kernel_rfl) (fun _ _ _ h => h) (Or.inl ⟨by rfl, ?_⟩) (by assumption) ?_
          rotate_left
          · intro w' hw'
            try dsimp only at hw'
            obtain ⟨hh1, hh2, hh3, hh4, hh5⟩ := HF.out w' hw'
            go_simp
            try with_reducible rfl
          try simp only [Act.put, List.setIfInBounds_toArray, List.set_cons_zero, List.set_cons_succ]
          refine wpAnyH_take (i := 14) (v := ?_) (List.getElem?_toArray.trans rfl) (by kernel_rfl) (by kernel_rfl) (by kernel_rfl) (fun _ _ _ h => h) (Or.inl ⟨by rfl, ?_⟩) (by assumption) ?_
          rotate_left
          · intro w' hw'
            try dsimp only at hw'
            obtain ⟨hh1, hh2, hh3, hh4, hh5⟩ := HF.out w' hw'
            go_simp
            try with_reducible rfl
          try simp only [Act.put, List.setIfInBounds_toArray, List.set_cons_zero, List.set_cons_succ]
          refine wpAnyH_take (i := 19) (v := ?_) (List.getElem?_toArray.trans rfl) (by kernel_rfl) (by kernel_rfl) (by kernel_rfl) (fun _ _ _ h => h) (Or.inl ⟨by rfl, ?_⟩) (by assumption) ?_
          rotate_left
          · intro w' hw'
            try dsimp only at hw'
            obtain ⟨hh1, hh2, hh3, hh4, hh5⟩ := HF.out w' hw'
            go_simp
            try with_reducible rfl
          try simp only [Act.put, List.setIfInBounds_toArray, List.set_cons_zero, List.set_cons_succ]
          refine wpAnyH_take (i := 11) (v := ?_) (List.getElem?_toArray.trans rfl) (by kernel_rfl) (by kernel_rfl) (by kernel_rfl) (fun _ _ _ h => h) (Or.inl ⟨by rfl, ?_⟩) (by assumption) ?_
          rotate_left
          · intro w' hw'
            try dsimp only at hw'
            skip
            go_simp
            try with_reducible rfl
          try simp only [Act.put, List.setIfInBounds_toArray, List.set_cons_zero, List.set_cons_succ]
          refine wpAnyH_take (i := 15) (v := ?_) (List.getElem?_toArray.trans rfl) (by kernel_rfl) (by kernel_rfl) (by kernel_rfl) (fun _ _ _ h => h) (Or.inl ⟨by rfl, ?_⟩) (by assumption) ?_
          rotate_left
          · intro w' hw'
            try dsimp only at hw'
            skip
            go_simp
            try with_reducible rfl
          try simp only [Act.put, List.setIfInBounds_toArray, List.set_cons_zero, List.set_cons_succ]
          refine wpAnyH_take (i := 12) (v := ?_) (List.getElem?_toArray.trans rfl) (by kernel_rfl) (by kernel_rfl) (by kernel_rfl) (fun _ _ _ h => h) (Or.inl ⟨by rfl, ?_⟩) (by assumption) ?_
          rotate_left
          · intro w' hw'
            try dsimp only at hw'
            obtain ⟨hh1, hh2, hh3, hh4, hh5⟩ := HF.out w' hw'
            go_simp
            try with_reducible rfl
          try simp only [Act.put, List.setIfInBounds_toArray, List.set_cons_zero, List.set_cons_succ]
          refine wpAnyH_take (i := 16) (v := ?_) (List.getElem?_toArray.trans rfl) (by kernel_rfl) (by kernel_rfl) (by kernel_rfl) (fun _ _ _ h => h) (Or.inl ⟨by rfl, ?_⟩) (by assumption) ?_
          rotate_left
          · intro w' hw'
            try dsimp only at hw'
            skip
            go_simp
            try with_reducible rfl
          try simp only [Act.put, List.setIfInBounds_toArray, List.set_cons_zero, List.set_cons_succ]
          refine wpAnyH_take (i := 17) (v := ?_) (List.getElem?_toArray.trans rfl) (by kernel_rfl) (by kernel_rfl) (by kernel_rfl) (fun _ _ _ h => h) (Or.inl ⟨by rfl, ?_⟩) (by assumption) ?_
          rotate_left
          · intro w' hw'
            try dsimp only at hw'
            obtain ⟨hh1, hh2, hh3, hh4, hh5⟩ := HF.out w' hw'
            go_simp
            try with_reducible rfl
          try simp only [Act.put, List.setIfInBounds_toArray, List.set_cons_zero, List.set_cons_succ]
          refine wpAnyH_take (i := 20) (v := ?_) (List.getElem?_toArray.trans rfl) (by kernel_rfl) (by kernel_rfl) (by kernel_rfl) (fun _ _ _ h => h) (Or.inl ⟨by rfl, ?_⟩) (by assumption) ?_
          rotate_left
          · intro w' hw'
            try dsimp only at hw'
            skip
            go_simp
            try with_reducible rfl
          try simp only [Act.put, List.setIfInBounds_toArray, List.set_cons_zero, List.set_cons_succ]
          refine wpAnyH_take (i := 21) (v := ?_) (List.getElem?_toArray.trans rfl) (by kernel_rfl) (by kernel_rfl) (by kernel_rfl) (fun _ _ _ h => h) (Or.inl ⟨by rfl, ?_⟩) (by assumption) ?_
          rotate_left
          · intro w' hw'
            try dsimp only at hw'
            skip
            go_simp
            try with_reducible rfl
          try simp only [Act.put, List.setIfInBounds_toArray, List.set_cons_zero, List.set_cons_succ]
          refine wpAnyH_done (by kernel_rfl) ?_ _
          have X9 := Lib.hid (show Ext w8 w8.drew from Touch.drew (Touch.refl _ w8))
          generalize w8.drew = w9 at *
          go_wp2_with fail
          go_loopw [11] (fun i wz => ∃ p : Nat, i = .int .i64 p ∧ p ≤ q ∧ Ext w8 wz) (fun i _ => q - (intOf i).toNat)
          case atStart => exact ⟨0, rfl, Nat.zero_le _, X9.out⟩
          case round =>
            obtain ⟨p, rfl, hp, hx⟩ := hrel
            have HX9 := Lib.hid hx
            clear hx hHeld
            by_cases hlt2 : p < q
            · obtain ⟨y, hy⟩ : ∃ y, H.S[p]? = some y := ⟨H.S[p], by simp [show p < H.S.length by omega]⟩
              obtain ⟨al', e, hrec⟩ := rec_reads HO7.out.reads hy
              cases e
              have HREC2 := Lib.hid (fun w' (hx : Ext wr w') => hrec w' ((X8.out.trans HX9.out).trans hx))
              have hpl : (p : Int) < H.S.length := by omega
              have hrise : y.client = r.client → y.no < r.no := fun e => List.pairwise_iff_getElem.1 HOK.out.log.rising p q (by omega) hlt hlt2 |> fun h => by
                have e1 : H.S[p] = y := by have := hy; rw [List.getElem?_eq_getElem (by omega)] at this; exact Option.some.inj this
                have e2 : H.S[q] = r := by have := HR1.out; rw [List.getElem?_eq_getElem hlt] at this; exact Option.some.inj this
                rw [e1, e2] at h
                exact h e
              have HF2 := Lib.hid (show ∀ w', Ext wr w' → w'.cell? ⟨br, 0, none⟩ = some (.int .i64 r.client) ∧ w'.cell? ⟨br, 1, none⟩ = some (.int .i64 r.no) ∧ w'.cell? (al.add (p * 8)) = some (.int .i64 y.client) ∧ w'.cell? ⟨(al.add (p * 8)).block, (al.add (p * 8)).off + 1, none⟩ = some (.int .i64 y.no) from
                fun w' hx => ⟨by rw [HCL.out]; exact (HF.out w' (HX9.out.trans hx)).2.1, by rw [HM.out]; exact (HF.out w' (HX9.out.trans hx)).2.2.1, (HREC2.out w' hx).client, (HREC2.out w' hx).no⟩)
              clear hy hrec
              by_cases hcc : y.client = r.client
              · have hce : (y.client == r.client) = true := by simp [hcc]
                have hno := hrise hcc
                have hno' : ¬ r.no ≤ y.no := by omega
                clear hcc hrise hno
                go_wp2_with fail
                refine wp_region_held_drew (S := fun w' => Ext wr w') (by kernel_rfl) (Touch.drew (Touch.refl _ wr)) (fun hHeld => ?_)
                refine wpAnyH_take (i := 0) (v := ?_) (List.getElem?_toArray.trans rfl) (by kernel_rfl) (by kernel_rfl) (by kernel_rfl) (fun _ _ _ h => h) (Or.inl ⟨by rfl, ?_⟩) (by assumption) ?_
                rotate_left
                · intro w' hw'
                  try dsimp only at hw'
                  skip
                  go_simp
                  try with_reducible rfl
                try simp only [Act.put, List.setIfInBounds_toArray, List.set_cons_zero, List.set_cons_succ]
                refine wpAnyH_take (i := 1) (v := ?_) (List.getElem?_toArray.trans rfl) (by kernel_rfl) (by kernel_rfl) (by kernel_rfl) (fun _ _ _ h => h) (Or.inl ⟨by rfl, ?_⟩) (by assumption) ?_
                rotate_left
                · intro w' hw'
                  try dsimp only at hw'
                  skip
                  go_simp
                  try with_reducible rfl
                try simp only [Act.put, List.setIfInBounds_toArray, List.set_cons_zero, List.set_cons_succ]
                refine wpAnyH_take (i := 5) (v := ?_) (List.getElem?_toArray.trans rfl) (by kernel_rfl) (by kernel_rfl) (by kernel_rfl) (fun _ _ _ h => h) (Or.inl ⟨by rfl, ?_⟩) (by assumption) ?_
                rotate_left
                · intro w' hw'
                  try dsimp only at hw'
                  skip
                  go_simp
                  try with_reducible rfl
                try simp only [Act.put, List.setIfInBounds_toArray, List.set_cons_zero, List.set_cons_succ]
                refine wpAnyH_take (i := 2) (v := ?_) (List.getElem?_toArray.trans rfl) (by kernel_rfl) (by kernel_rfl) (by kernel_rfl) (fun _ _ _ h => h) (Or.inl ⟨by rfl, ?_⟩) (by assumption) ?_
                rotate_left
                · intro w' hw'
                  try dsimp only at hw'
                  skip
                  go_simp
                  try with_reducible rfl
                try simp only [Act.put, List.setIfInBounds_toArray, List.set_cons_zero, List.set_cons_succ]
                refine wpAnyH_take (i := 6) (v := ?_) (List.getElem?_toArray.trans rfl) (by kernel_rfl) (by kernel_rfl) (by kernel_rfl) (fun _ _ _ h => h) (Or.inl ⟨by rfl, ?_⟩) (by assumption) ?_
                rotate_left
                · intro w' hw'
                  try dsimp only at hw'
                  obtain ⟨hh1, hh2, hh3, hh4⟩ := HF2.out w' hw'
                  go_simp
                  try with_reducible rfl
                try simp only [Act.put, List.setIfInBounds_toArray, List.set_cons_zero, List.set_cons_succ]
                refine wpAnyH_take (i := 3) (v := ?_) (List.getElem?_toArray.trans rfl) (by kernel_rfl) (by kernel_rfl) (by kernel_rfl) (fun _ _ _ h => h) (Or.inl ⟨by rfl, ?_⟩) (by assumption) ?_
                rotate_left
                · intro w' hw'
                  try dsimp only at hw'
                  skip
                  go_simp
                  try with_reducible rfl
                try simp only [Act.put, List.setIfInBounds_toArray, List.set_cons_zero, List.set_cons_succ]
                refine wpAnyH_take (i := 4) (v := ?_) (List.getElem?_toArray.trans rfl) (by kernel_rfl) (by kernel_rfl) (by kernel_rfl) (fun _ _ _ h => h) (Or.inl ⟨by rfl, ?_⟩) (by assumption) ?_
                rotate_left
                · intro w' hw'
                  try dsimp only at hw'
                  obtain ⟨hh1, hh2, hh3, hh4⟩ := HF2.out w' hw'
                  go_simp
                  try with_reducible rfl
                try simp only [Act.put, List.setIfInBounds_toArray, List.set_cons_zero, List.set_cons_succ]
                refine wpAnyH_take (i := 7) (v := ?_) (List.getElem?_toArray.trans rfl) (by kernel_rfl) (by kernel_rfl) (by kernel_rfl) (fun _ _ _ h => h) (Or.inl ⟨by rfl, ?_⟩) (by assumption) ?_
                rotate_left
                · intro w' hw'
                  try dsimp only at hw'
                  skip
                  go_simp
                  try with_reducible rfl
                try simp only [Act.put, List.setIfInBounds_toArray, List.set_cons_zero, List.set_cons_succ]
                refine wpAnyH_take (i := 8) (v := ?_) (List.getElem?_toArray.trans rfl) (by kernel_rfl) (by kernel_rfl) (by kernel_rfl) (fun _ _ _ h => h) (Or.inl ⟨by rfl, ?_⟩) (by assumption) ?_
                rotate_left
                · intro w' hw'
                  try dsimp only at hw'
                  skip
                  go_simp
                  try with_reducible rfl
                try simp only [Act.put, List.setIfInBounds_toArray, List.set_cons_zero, List.set_cons_succ]
                refine wpAnyH_take (i := 9) (v := ?_) (List.getElem?_toArray.trans rfl) (by kernel_rfl) (by kernel_rfl) (by kernel_rfl) (fun _ _ _ h => h) (Or.inl ⟨by rfl, ?_⟩) (by assumption) ?_
                rotate_left
                · intro w' hw'
                  try dsimp only at hw'
                  skip
                  go_simp
                  try with_reducible rfl
                try simp only [Act.put, List.setIfInBounds_toArray, List.set_cons_zero, List.set_cons_succ]
                refine wpAnyH_take (i := 10) (v := ?_) (List.getElem?_toArray.trans rfl) (by kernel_rfl) (by kernel_rfl) (by kernel_rfl) (fun _ _ _ h => h) (Or.inl ⟨by rfl, ?_⟩) (by assumption) ?_
                rotate_left
                · intro w' hw'
                  try dsimp only at hw'
                  skip
                  go_simp
                  try with_reducible rfl
                try simp only [Act.put, List.setIfInBounds_toArray, List.set_cons_zero, List.set_cons_succ]
                refine wpAnyH_take (i := 14) (v := ?_) (List.getElem?_toArray.trans rfl) (by kernel_rfl) (by kernel_rfl) (by kernel_rfl) (fun _ _ _ h => h) (Or.inl ⟨by rfl, ?_⟩) (by assumption) ?_
                rotate_left
                · intro w' hw'
                  try dsimp only at hw'
                  skip
                  go_simp
                  try with_reducible rfl
                try simp only [Act.put, List.setIfInBounds_toArray, List.set_cons_zero, List.set_cons_succ]
                refine wpAnyH_take (i := 11) (v := ?_) (List.getElem?_toArray.trans rfl) (by kernel_rfl) (by kernel_rfl) (by kernel_rfl) (fun _ _ _ h => h) (Or.inl ⟨by rfl, ?_⟩) (by assumption) ?_
                rotate_left
                · intro w' hw'
                  try dsimp only at hw'
                  skip
                  go_simp
                  try with_reducible rfl
                try simp only [Act.put, List.setIfInBounds_toArray, List.set_cons_zero, List.set_cons_succ]
                refine wpAnyH_take (i := 15) (v := ?_) (List.getElem?_toArray.trans rfl) (by kernel_rfl) (by kernel_rfl) (by kernel_rfl) (fun _ _ _ h => h) (Or.inl ⟨by rfl, ?_⟩) (by assumption) ?_
                rotate_left
                · intro w' hw'
                  try dsimp only at hw'
                  obtain ⟨hh1, hh2, hh3, hh4⟩ := HF2.out w' hw'
                  go_simp
                  try with_reducible rfl
                try simp only [Act.put, List.setIfInBounds_toArray, List.set_cons_zero, List.set_cons_succ]
                refine wpAnyH_take (i := 12) (v := ?_) (List.getElem?_toArray.trans rfl) (by kernel_rfl) (by kernel_rfl) (by kernel_rfl) (fun _ _ _ h => h) (Or.inl ⟨by rfl, ?_⟩) (by assumption) ?_
                rotate_left
                · intro w' hw'
                  try dsimp only at hw'
                  skip
                  go_simp
                  try with_reducible rfl
                try simp only [Act.put, List.setIfInBounds_toArray, List.set_cons_zero, List.set_cons_succ]
                refine wpAnyH_take (i := 13) (v := ?_) (List.getElem?_toArray.trans rfl) (by kernel_rfl) (by kernel_rfl) (by kernel_rfl) (fun _ _ _ h => h) (Or.inl ⟨by rfl, ?_⟩) (by assumption) ?_
                rotate_left
                · intro w' hw'
                  try dsimp only at hw'
                  obtain ⟨hh1, hh2, hh3, hh4⟩ := HF2.out w' hw'
                  go_simp
                  try with_reducible rfl
                try simp only [Act.put, List.setIfInBounds_toArray, List.set_cons_zero, List.set_cons_succ]
                refine wpAnyH_take (i := 16) (v := ?_) (List.getElem?_toArray.trans rfl) (by kernel_rfl) (by kernel_rfl) (by kernel_rfl) (fun _ _ _ h => h) (Or.inl ⟨by rfl, ?_⟩) (by assumption) ?_
                rotate_left
                · intro w' hw'
                  try dsimp only at hw'
                  skip
                  go_simp
                  try with_reducible rfl
                try simp only [Act.put, List.setIfInBounds_toArray, List.set_cons_zero, List.set_cons_succ]
                refine wpAnyH_take (i := 17) (v := ?_) (List.getElem?_toArray.trans rfl) (by kernel_rfl) (by kernel_rfl) (by kernel_rfl) (fun _ _ _ h => h) (Or.inl ⟨by rfl, ?_⟩) (by assumption) ?_
                rotate_left
                · intro w' hw'
                  try dsimp only at hw'
                  skip
                  go_simp
                  try with_reducible rfl
                try simp only [Act.put, List.setIfInBounds_toArray, List.set_cons_zero, List.set_cons_succ]
                refine wpAnyH_done (by kernel_rfl) ?_ _
                clear hHeld
                go_wp2
                go_roundw
                case rel => exact ⟨p + 1, by go_num, by omega, HX9.out.trans (Touch.drew (Touch.refl _ wr))⟩
                case measure => simp [intOf]; omega
              · have hce : (y.client == r.client) = false := by simp [hcc]
                clear hcc hrise
                go_wp2_with fail
                refine wp_region_held_drew (S := fun w' => Ext wr w') (by kernel_rfl) (Touch.drew (Touch.refl _ wr)) (fun hHeld => ?_)
                refine wpAnyH_take (i := 0) (v := ?_) (List.getElem?_toArray.trans rfl) (by kernel_rfl) (by kernel_rfl) (by kernel_rfl) (fun _ _ _ h => h) (Or.inl ⟨by rfl, ?_⟩) (by assumption) ?_
                rotate_left
                · intro w' hw'
                  try dsimp only at hw'
                  skip
                  go_simp
                  try with_reducible rfl
                try simp only [Act.put, List.setIfInBounds_toArray, List.set_cons_zero, List.set_cons_succ]
                refine wpAnyH_take (i := 1) (v := ?_) (List.getElem?_toArray.trans rfl) (by kernel_rfl) (by kernel_rfl) (by kernel_rfl) (fun _ _ _ h => h) (Or.inl ⟨by rfl, ?_⟩) (by assumption) ?_
                rotate_left
                · intro w' hw'
                  try dsimp only at hw'
                  skip
                  go_simp
                  try with_reducible rfl
                try simp only [Act.put, List.setIfInBounds_toArray, List.set_cons_zero, List.set_cons_succ]
                refine wpAnyH_take (i := 5) (v := ?_) (List.getElem?_toArray.trans rfl) (by kernel_rfl) (by kernel_rfl) (by kernel_rfl) (fun _ _ _ h => h) (Or.inl ⟨by rfl, ?_⟩) (by assumption) ?_
                rotate_left
                · intro w' hw'
                  try dsimp only at hw'
                  skip
                  go_simp
                  try with_reducible rfl
                try simp only [Act.put, List.setIfInBounds_toArray, List.set_cons_zero, List.set_cons_succ]
                refine wpAnyH_take (i := 2) (v := ?_) (List.getElem?_toArray.trans rfl) (by kernel_rfl) (by kernel_rfl) (by kernel_rfl) (fun _ _ _ h => h) (Or.inl ⟨by rfl, ?_⟩) (by assumption) ?_
                rotate_left
                · intro w' hw'
                  try dsimp only at hw'
                  skip
                  go_simp
                  try with_reducible rfl
                try simp only [Act.put, List.setIfInBounds_toArray, List.set_cons_zero, List.set_cons_succ]
                refine wpAnyH_take (i := 6) (v := ?_) (List.getElem?_toArray.trans rfl) (by kernel_rfl) (by kernel_rfl) (by kernel_rfl) (fun _ _ _ h => h) (Or.inl ⟨by rfl, ?_⟩) (by assumption) ?_
                rotate_left
                · intro w' hw'
                  try dsimp only at hw'
                  obtain ⟨hh1, hh2, hh3, hh4⟩ := HF2.out w' hw'
                  go_simp
                  try with_reducible rfl
                try simp only [Act.put, List.setIfInBounds_toArray, List.set_cons_zero, List.set_cons_succ]
                refine wpAnyH_take (i := 3) (v := ?_) (List.getElem?_toArray.trans rfl) (by kernel_rfl) (by kernel_rfl) (by kernel_rfl) (fun _ _ _ h => h) (Or.inl ⟨by rfl, ?_⟩) (by assumption) ?_
                rotate_left
                · intro w' hw'
                  try dsimp only at hw'
                  skip
                  go_simp
                  try with_reducible rfl
                try simp only [Act.put, List.setIfInBounds_toArray, List.set_cons_zero, List.set_cons_succ]
                refine wpAnyH_take (i := 4) (v := ?_) (List.getElem?_toArray.trans rfl) (by kernel_rfl) (by kernel_rfl) (by kernel_rfl) (fun _ _ _ h => h) (Or.inl ⟨by rfl, ?_⟩) (by assumption) ?_
                rotate_left
                · intro w' hw'
                  try dsimp only at hw'
                  obtain ⟨hh1, hh2, hh3, hh4⟩ := HF2.out w' hw'
                  go_simp
                  try with_reducible rfl
                try simp only [Act.put, List.setIfInBounds_toArray, List.set_cons_zero, List.set_cons_succ]
                refine wpAnyH_take (i := 7) (v := ?_) (List.getElem?_toArray.trans rfl) (by kernel_rfl) (by kernel_rfl) (by kernel_rfl) (fun _ _ _ h => h) (Or.inl ⟨by rfl, ?_⟩) (by assumption) ?_
                rotate_left
                · intro w' hw'
                  try dsimp only at hw'
                  skip
                  go_simp
                  try with_reducible rfl
                try simp only [Act.put, List.setIfInBounds_toArray, List.set_cons_zero, List.set_cons_succ]
                refine wpAnyH_take (i := 8) (v := ?_) (List.getElem?_toArray.trans rfl) (by kernel_rfl) (by kernel_rfl) (by kernel_rfl) (fun _ _ _ h => h) (Or.inl ⟨by rfl, ?_⟩) (by assumption) ?_
                rotate_left
                · intro w' hw'
                  try dsimp only at hw'
                  skip
                  go_simp
                  try with_reducible rfl
                try simp only [Act.put, List.setIfInBounds_toArray, List.set_cons_zero, List.set_cons_succ]
                refine wpAnyH_take (i := 9) (v := undef) (List.getElem?_toArray.trans rfl) (by kernel_rfl) (by kernel_rfl) (by kernel_rfl) (fun _ _ _ h => h) (Or.inr ⟨by rfl, rfl⟩) (by assumption) ?_
                try simp only [Act.put, List.setIfInBounds_toArray, List.set_cons_zero, List.set_cons_succ]
                refine wpAnyH_take (i := 10) (v := undef) (List.getElem?_toArray.trans rfl) (by kernel_rfl) (by kernel_rfl) (by kernel_rfl) (fun _ _ _ h => h) (Or.inr ⟨by rfl, rfl⟩) (by assumption) ?_
                try simp only [Act.put, List.setIfInBounds_toArray, List.set_cons_zero, List.set_cons_succ]
                refine wpAnyH_take (i := 14) (v := undef) (List.getElem?_toArray.trans rfl) (by kernel_rfl) (by kernel_rfl) (by kernel_rfl) (fun _ _ _ h => h) (Or.inr ⟨by rfl, rfl⟩) (by assumption) ?_
                try simp only [Act.put, List.setIfInBounds_toArray, List.set_cons_zero, List.set_cons_succ]
                refine wpAnyH_take (i := 11) (v := undef) (List.getElem?_toArray.trans rfl) (by kernel_rfl) (by kernel_rfl) (by kernel_rfl) (fun _ _ _ h => h) (Or.inr ⟨by rfl, rfl⟩) (by assumption) ?_
                try simp only [Act.put, List.setIfInBounds_toArray, List.set_cons_zero, List.set_cons_succ]
                refine wpAnyH_take (i := 15) (v := undef) (List.getElem?_toArray.trans rfl) (by kernel_rfl) (by kernel_rfl) (by kernel_rfl) (fun _ _ _ h => h) (Or.inr ⟨by rfl, rfl⟩) (by assumption) ?_
                try simp only [Act.put, List.setIfInBounds_toArray, List.set_cons_zero, List.set_cons_succ]
                refine wpAnyH_take (i := 12) (v := undef) (List.getElem?_toArray.trans rfl) (by kernel_rfl) (by kernel_rfl) (by kernel_rfl) (fun _ _ _ h => h) (Or.inr ⟨by rfl, rfl⟩) (by assumption) ?_
                try simp only [Act.put, List.setIfInBounds_toArray, List.set_cons_zero, List.set_cons_succ]
                refine wpAnyH_take (i := 13) (v := undef) (List.getElem?_toArray.trans rfl) (by kernel_rfl) (by kernel_rfl) (by kernel_rfl) (fun _ _ _ h => h) (Or.inr ⟨by rfl, rfl⟩) (by assumption) ?_
                try simp only [Act.put, List.setIfInBounds_toArray, List.set_cons_zero, List.set_cons_succ]
                refine wpAnyH_take (i := 16) (v := undef) (List.getElem?_toArray.trans rfl) (by kernel_rfl) (by kernel_rfl) (by kernel_rfl) (fun _ _ _ h => h) (Or.inr ⟨by rfl, rfl⟩) (by assumption) ?_
                try simp only [Act.put, List.setIfInBounds_toArray, List.set_cons_zero, List.set_cons_succ]
                refine wpAnyH_take (i := 17) (v := ?_) (List.getElem?_toArray.trans rfl) (by kernel_rfl) (by kernel_rfl) (by kernel_rfl) (fun _ _ _ h => h) (Or.inl ⟨by rfl, ?_⟩) (by assumption) ?_
                rotate_left
                · intro w' hw'
                  try dsimp only at hw'
                  skip
                  go_simp
                  try with_reducible rfl
                try simp only [Act.put, List.setIfInBounds_toArray, List.set_cons_zero, List.set_cons_succ]
                refine wpAnyH_done (by kernel_rfl) ?_ _
                clear hHeld
                go_wp2
                go_roundw
                case rel => exact ⟨p + 1, by go_num, by omega, HX9.out.trans (Touch.drew (Touch.refl _ wr))⟩
                case measure => simp [intOf]; omega
            · obtain rfl : p = q := by omega
              go_wp2
              go_roundw
              case rel => exact ⟨p + 1, by go_num, by omega, X8.out.trans HX9.out⟩
              case measure => simp [intOf]; omega
        · obtain rfl : q = H.S.length := by omega
          have X8 := Lib.hid (X7.out.trans HX.out)
          have HO8 := Lib.hid (HO7.out.ext HX.out)
          clear HX HO7 hlt hq
          go_wp2_with fail
          go_loopw [12] (fun i wz => ∃ n : Nat, i = .int .i64 n ∧ n ≤ 3 ∧ Ext wr wz) (fun i _ => 3 - (intOf i).toNat)
          case atStart => exact ⟨0, rfl, by omega, Touch.refl _ _⟩
          case round =>
            obtain ⟨n, rfl, hn, hx⟩ := hrel
            have HX := Lib.hid hx
            clear hx
            by_cases hn3 : n < 3
            · have hn3' : (n : Int) < 3 := by omega
              have h9 := HW.out.step (X8.out.trans HX.out)
              obtain ⟨Fa, hFa, _⟩ := h9.one
              obtain ⟨ga, Fca, hca, hga⟩ := world_cl hFa n hn3
              have HGA := Lib.hid hga
              have HCA := Lib.hid hca
              have hdn := gOk_done (HOK.out.guest n hn3)
              clear hFa hca hga h9
              go_wp2_with fail
              refine HGA.out.mono ?_
              rintro e w' ⟨rfl, rfl⟩
              go_wp2_with fail
              refine (client_done' wr Fca ga _ HCA.out (by omega)).mono ?_
              rintro e w9 ⟨A9, c9, rfl, ho9, hx9, _⟩
              have HO9 := Lib.hid ho9
              have X9 := Lib.hid (HX.out.trans hx9)
              have HO8' := Lib.hid (HO8.out.ext X9.out)
              clear ho9 hx9 HX
              generalize hD : (H.G n).done = D at *
              have HDD := Lib.hid hD
              clear hD
              go_wp2_with fail
              go_loopw [15] (fun i wz => ∃ d : Nat, i = .int .i64 d ∧ d ≤ D.length ∧ Ext w9 wz) (fun i _ => D.length - (intOf i).toNat)
              case atStart => exact ⟨0, rfl, Nat.zero_le _, Touch.refl _ _⟩
              case round =>
                obtain ⟨d, rfl, hd, hx⟩ := hrel
                have HX := Lib.hid hx
                clear hx
                by_cases hd3 : d < D.length
                · obtain ⟨y, hy⟩ : ∃ y, D[d]? = some y := ⟨D[d], by simp [hd3]⟩
                  obtain ⟨ay, rfl, hrec⟩ := rec_reads HO9.out.reads hy
                  have HRY := Lib.hid hrec
                  have HON := Lib.hid (world_once HOK.out hn3 (d := y) (by rw [HDD.out]; exact List.mem_of_getElem? hy))
                  clear hy hrec
                  go_wp2_with fail
                  go_loopw [16, 17] (fun t i wz => ∃ p : Nat, i = .int .i64 p ∧ p ≤ H.S.length ∧ t = .int .i64 (timesUpto H.S n y.no p) ∧ Ext w9 wz) (fun _ i _ => H.S.length - (intOf i).toNat)
                  case atStart => exact ⟨0, rfl, Nat.zero_le _, rfl, HX.out⟩
                  case round =>
                    obtain ⟨p, rfl, hp, rfl, hx⟩ := hrel
                    have HX9 := Lib.hid hx
                    have htle := timesUpto_le H.S n y.no p
                    have HRY2 := Lib.hid (fun w' (hx : Ext wr w') => HRY.out w' (HX9.out.trans hx))
                    have hx0 : Ext wr wr := Touch.refl _ _
                    clear hx HX
                    by_cases hp3 : p < H.S.length
                    · obtain ⟨z, hz⟩ : ∃ z, H.S[p]? = some z := ⟨H.S[p], by simp [hp3]⟩
                      obtain ⟨az, rfl, hrec⟩ := rec_reads HO8'.out.reads hz
                      have HRZ := Lib.hid (fun w' (hx : Ext wr w') => hrec w' (HX9.out.trans hx))
                      have HNX := Lib.hid (timesUpto_next (c := (n : Int)) (n := y.no) hz)
                      have HIN := Lib.hid (List.mem_of_getElem? hz)
                      clear hz hrec hx0
                      by_cases hz1 : z.client = (n : Int)
                      · have hz1' : (z.client == (n : Int)) = true := by simp [hz1]
                        by_cases hz2 : z.no = y.no
                        · have hz2' : (z.no == y.no) = true := by simp [hz2]
                          have HN1 := Lib.hid (show timesUpto H.S n y.no (p + 1) = timesUpto H.S n y.no p + 1 by rw [HNX.out, if_pos ⟨hz1, hz2⟩])
                          have hzy : z = y := by
                            have hin : z ∈ H.S.filter (fun r => decide (r.client = (n : Int)) && decide (r.no = y.no)) := List.mem_filter.2 ⟨HIN.out, by simp [hz1, hz2]⟩
                            by_cases hch : Changing y.call
                            · rw [HON.out.1 hch] at hin
                              simpa using hin
                            · rw [HON.out.2 hch] at hin
                              cases hin
                          have hde : decide (z = y) = true := by simp [hzy]
                          generalize timesUpto H.S n y.no p = tm at *
                          clear hz1 hz2 hzy
                          go_wp2_with fail
                          refine wp_region_held_drew (S := fun w' => Ext wr w') (by kernel_rfl) (Touch.drew (Touch.refl _ wr)) (fun hHeld => ?_)
                          refine wpAnyH_take (i := 0) (v := ?_) (List.getElem?_toArray.trans rfl) (by kernel_rfl) (by kernel_rfl) (by kernel_rfl) (fun _ _ _ h => h) (Or.inl ⟨by rfl, ?_⟩) (by assumption) ?_
                          rotate_left
                          · intro w' hw'
                            try dsimp only at hw'
                            skip
                            go_simp
                            try with_reducible rfl
                          try simp only [Act.put, List.setIfInBounds_toArray, List.set_cons_zero, List.set_cons_succ]
                          refine wpAnyH_take (i := 1) (v := ?_) (List.getElem?_toArray.trans rfl) (by kernel_rfl) (by kernel_rfl) (by kernel_rfl) (fun _ _ _ h => h) (Or.inl ⟨by rfl, ?_⟩) (by assumption) ?_
                          rotate_left
                          · intro w' hw'
                            try dsimp only at hw'
                            skip
                            go_simp
                            try with_reducible rfl
                          try simp only [Act.put, List.setIfInBounds_toArray, List.set_cons_zero, List.set_cons_succ]
                          refine wpAnyH_take (i := 5) (v := ?_) (List.getElem?_toArray.trans rfl) (by kernel_rfl) (by kernel_rfl) (by kernel_rfl) (fun _ _ _ h => h) (Or.inl ⟨by rfl, ?_⟩) (by assumption) ?_
                          rotate_left
                          · intro w' hw'
                            try dsimp only at hw'
                            skip
                            go_simp
                            try with_reducible rfl
                          try simp only [Act.put, List.setIfInBounds_toArray, List.set_cons_zero, List.set_cons_succ]
                          refine wpAnyH_take (i := 2) (v := ?_) (List.getElem?_toArray.trans rfl) (by kernel_rfl) (by kernel_rfl) (by kernel_rfl) (fun _ _ _ h => h) (Or.inl ⟨by rfl, ?_⟩) (by assumption) ?_
                          rotate_left
                          · intro w' hw'
                            try dsimp only at hw'
                            skip
                            go_simp
                            try with_reducible rfl
                          try simp only [Act.put, List.setIfInBounds_toArray, List.set_cons_zero, List.set_cons_succ]
                          refine wpAnyH_take (i := 3) (v := ?_) (List.getElem?_toArray.trans rfl) (by kernel_rfl) (by kernel_rfl) (by kernel_rfl) (fun _ _ _ h => h) (Or.inl ⟨by rfl, ?_⟩) (by assumption) ?_
                          rotate_left
                          · intro w' hw'
                            try dsimp only at hw'
                            skip
                            go_simp
                            try with_reducible rfl
                          try simp only [Act.put, List.setIfInBounds_toArray, List.set_cons_zero, List.set_cons_succ]
                          refine wpAnyH_take (i := 4) (v := ?_) (List.getElem?_toArray.trans rfl) (by kernel_rfl) (by kernel_rfl) (by kernel_rfl) (fun _ _ _ h => h) (Or.inl ⟨by rfl, ?_⟩) (by assumption) ?_
                          rotate_left
                          · intro w' hw'
                            try dsimp only at hw'
                            have hh1 := (HRZ.out w' hw').client
                            go_simp
                            try with_reducible rfl
                          try simp only [Act.put, List.setIfInBounds_toArray, List.set_cons_zero, List.set_cons_succ]
                          refine wpAnyH_take (i := 6) (v := ?_) (List.getElem?_toArray.trans rfl) (by kernel_rfl) (by kernel_rfl) (by kernel_rfl) (fun _ _ _ h => h) (Or.inl ⟨by rfl, ?_⟩) (by assumption) ?_
                          rotate_left
                          · intro w' hw'
                            try dsimp only at hw'
                            skip
                            go_simp
                            try with_reducible rfl
                          try simp only [Act.put, List.setIfInBounds_toArray, List.set_cons_zero, List.set_cons_succ]
                          refine wpAnyH_take (i := 7) (v := ?_) (List.getElem?_toArray.trans rfl) (by kernel_rfl) (by kernel_rfl) (by kernel_rfl) (fun _ _ _ h => h) (Or.inl ⟨by rfl, ?_⟩) (by assumption) ?_
                          rotate_left
                          · intro w' hw'
                            try dsimp only at hw'
                            skip
                            go_simp
                            try with_reducible rfl
                          try simp only [Act.put, List.setIfInBounds_toArray, List.set_cons_zero, List.set_cons_succ]
                          refine wpAnyH_take (i := 8) (v := ?_) (List.getElem?_toArray.trans rfl) (by kernel_rfl) (by kernel_rfl) (by kernel_rfl) (fun _ _ _ h => h) (Or.inl ⟨by rfl, ?_⟩) (by assumption) ?_
                          rotate_left
                          · intro w' hw'
                            try dsimp only at hw'
                            skip
                            go_simp
                            try with_reducible rfl
                          try simp only [Act.put, List.setIfInBounds_toArray, List.set_cons_zero, List.set_cons_succ]
                          refine wpAnyH_take (i := 9) (v := ?_) (List.getElem?_toArray.trans rfl) (by kernel_rfl) (by kernel_rfl) (by kernel_rfl) (fun _ _ _ h => h) (Or.inl ⟨by rfl, ?_⟩) (by assumption) ?_
                          rotate_left
                          · intro w' hw'
                            try dsimp only at hw'
                            skip
                            go_simp
                            try with_reducible rfl
                          try simp only [Act.put, List.setIfInBounds_toArray, List.set_cons_zero, List.set_cons_succ]
                          refine wpAnyH_take (i := 13) (v := ?_) (List.getElem?_toArray.trans rfl) (by kernel_rfl) (by kernel_rfl) (by kernel_rfl) (fun _ _ _ h => h) (Or.inl ⟨by rfl, ?_⟩) (by assumption) ?_
                          rotate_left
                          · intro w' hw'
                            try dsimp only at hw'
                            skip
                            go_simp
                            try with_reducible rfl
                          try simp only [Act.put, List.setIfInBounds_toArray, List.set_cons_zero, List.set_cons_succ]
                          refine wpAnyH_take (i := 14) (v := ?_) (List.getElem?_toArray.trans rfl) (by kernel_rfl) (by kernel_rfl) (by kernel_rfl) (fun _ _ _ h => h) (Or.inl ⟨by rfl, ?_⟩) (by assumption) ?_
                          rotate_left
                          · intro w' hw'
                            try dsimp only at hw'
                            skip
                            go_simp
                            try with_reducible rfl
                          try simp only [Act.put, List.setIfInBounds_toArray, List.set_cons_zero, List.set_cons_succ]
                          refine wpAnyH_take (i := 10) (v := ?_) (List.getElem?_toArray.trans rfl) (by kernel_rfl) (by kernel_rfl) (by kernel_rfl) (fun _ _ _ h => h) (Or.inl ⟨by rfl, ?_⟩) (by assumption) ?_
                          rotate_left
                          · intro w' hw'
                            try dsimp only at hw'
                            skip
                            go_simp
                            try with_reducible rfl
                          try simp only [Act.put, List.setIfInBounds_toArray, List.set_cons_zero, List.set_cons_succ]
                          refine wpAnyH_take (i := 15) (v := ?_) (List.getElem?_toArray.trans rfl) (by kernel_rfl) (by kernel_rfl) (by kernel_rfl) (fun _ _ _ h => h) (Or.inl ⟨by rfl, ?_⟩) (by assumption) ?_
                          rotate_left
                          · intro w' hw'
                            try dsimp only at hw'
                            skip
                            go_simp
                            try with_reducible rfl
                          try simp only [Act.put, List.setIfInBounds_toArray, List.set_cons_zero, List.set_cons_succ]
                          refine wpAnyH_take (i := 11) (v := ?_) (List.getElem?_toArray.trans rfl) (by kernel_rfl) (by kernel_rfl) (by kernel_rfl) (fun _ _ _ h => h) (Or.inl ⟨by rfl, ?_⟩) (by assumption) ?_
                          rotate_left
                          · intro w' hw'
                            try dsimp only at hw'
                            skip
                            go_simp
                            try with_reducible rfl
                          try simp only [Act.put, List.setIfInBounds_toArray, List.set_cons_zero, List.set_cons_succ]
                          refine wpAnyH_take (i := 16) (v := ?_) (List.getElem?_toArray.trans rfl) (by kernel_rfl) (by kernel_rfl) (by kernel_rfl) (fun _ _ _ h => h) (Or.inl ⟨by rfl, ?_⟩) (by assumption) ?_
                          rotate_left
                          · intro w' hw'
                            try dsimp only at hw'
                            skip
                            go_simp
                            try with_reducible rfl
                          try simp only [Act.put, List.setIfInBounds_toArray, List.set_cons_zero, List.set_cons_succ]
                          refine wpAnyH_take (i := 12) (v := ?_) (List.getElem?_toArray.trans rfl) (by kernel_rfl) (by kernel_rfl) (by kernel_rfl) (fun _ _ _ h => h) (Or.inl ⟨by rfl, ?_⟩) (by assumption) ?_
                          rotate_left
                          · intro w' hw'
                            try dsimp only at hw'
                            have hh1 := (HRZ.out w' hw').no
                            go_simp
                            try with_reducible rfl
                          try simp only [Act.put, List.setIfInBounds_toArray, List.set_cons_zero, List.set_cons_succ]
                          refine wpAnyH_take (i := 17) (v := ?_) (List.getElem?_toArray.trans rfl) (by kernel_rfl) (by kernel_rfl) (by kernel_rfl) (fun _ _ _ h => h) (Or.inl ⟨by rfl, ?_⟩) (by assumption) ?_
                          rotate_left
                          · intro w' hw'
                            try dsimp only at hw'
                            have hh1 := (HRY2.out w' hw').no
                            go_simp
                            try with_reducible rfl
                          try simp only [Act.put, List.setIfInBounds_toArray, List.set_cons_zero, List.set_cons_succ]
                          refine wpAnyH_take (i := 18) (v := ?_) (List.getElem?_toArray.trans rfl) (by kernel_rfl) (by kernel_rfl) (by kernel_rfl) (fun _ _ _ h => h) (Or.inl ⟨by rfl, ?_⟩) (by assumption) ?_
                          rotate_left
                          · intro w' hw'
                            try dsimp only at hw'
                            skip
                            go_simp
                            try with_reducible rfl
                          try simp only [Act.put, List.setIfInBounds_toArray, List.set_cons_zero, List.set_cons_succ]
                          refine wpAnyH_take (i := 19) (v := ?_) (List.getElem?_toArray.trans rfl) (by kernel_rfl) (by kernel_rfl) (by kernel_rfl) (fun _ _ _ h => h) (Or.inl ⟨by rfl, ?_⟩) (by assumption) ?_
                          rotate_left
                          · intro w' hw'
                            try dsimp only at hw'
                            skip
                            go_simp
                            try with_reducible rfl
                          try simp only [Act.put, List.setIfInBounds_toArray, List.set_cons_zero, List.set_cons_succ]
                          refine wpAnyH_done (by kernel_rfl) ?_ _
                          clear hHeld
                          go_wp2_with fail
                          have X10 : Ext wr wr.drew := Touch.drew (Touch.refl _ wr)
                          refine wp_region_held_drew (S := fun w' => Ext wr w') (by kernel_rfl) (Touch.drew X10) (fun hHeld => ?_)
                          refine wpAnyH_take (i := 0) (v := ?_) (List.getElem?_toArray.trans rfl) (by kernel_rfl) (by kernel_rfl) (by kernel_rfl) (fun _ _ _ h => h) (Or.inl ⟨by rfl, ?_⟩) (by assumption) ?_
                          rotate_left
                          · intro w' hw'
                            try dsimp only at hw'
                            skip
                            go_simp
                            try with_reducible rfl
                          try simp only [Act.put, List.setIfInBounds_toArray, List.set_cons_zero, List.set_cons_succ]
                          refine wpAnyH_take (i := 1) (v := ?_) (List.getElem?_toArray.trans rfl) (by kernel_rfl) (by kernel_rfl) (by kernel_rfl) (fun _ _ _ h => h) (Or.inl ⟨by rfl, ?_⟩) (by assumption) ?_
                          rotate_left
                          · intro w' hw'
                            try dsimp only at hw'
                            skip
                            go_simp
                            try with_reducible rfl
                          try simp only [Act.put, List.setIfInBounds_toArray, List.set_cons_zero, List.set_cons_succ]
                          refine wpAnyH_take (i := 4) (v := ?_) (List.getElem?_toArray.trans rfl) (by kernel_rfl) (by kernel_rfl) (by kernel_rfl) (fun _ _ _ h => h) (Or.inl ⟨by rfl, ?_⟩) (by assumption) ?_
                          rotate_left
                          · intro w' hw'
                            try dsimp only at hw'
                            skip
                            go_simp
                            try with_reducible rfl
                          try simp only [Act.put, List.setIfInBounds_toArray, List.set_cons_zero, List.set_cons_succ]
                          refine wpAnyH_take (i := 5) (v := ?_) (List.getElem?_toArray.trans rfl) (by kernel_rfl) (by kernel_rfl) (by kernel_rfl) (fun _ _ _ h => h) (Or.inl ⟨by rfl, ?_⟩) (by assumption) ?_
                          rotate_left
                          · intro w' hw'
                            try dsimp only at hw'
                            skip
                            go_simp
                            try with_reducible rfl
                          try simp only [Act.put, List.setIfInBounds_toArray, List.set_cons_zero, List.set_cons_succ]
                          refine wpAnyH_take (i := 2) (v := ?_) (List.getElem?_toArray.trans rfl) (by kernel_rfl) (by kernel_rfl) (by kernel_rfl) (fun _ _ _ h => h) (Or.inl ⟨by rfl, ?_⟩) (by assumption) ?_
                          rotate_left
                          · intro w' hw'
                            try dsimp only at hw'
                            skip
                            go_simp
                            try with_reducible rfl
                          try simp only [Act.put, List.setIfInBounds_toArray, List.set_cons_zero, List.set_cons_succ]
                          refine wpAnyH_take (i := 6) (v := ?_) (List.getElem?_toArray.trans rfl) (by kernel_rfl) (by kernel_rfl) (by kernel_rfl) (fun _ _ _ h => h) (Or.inl ⟨by rfl, ?_⟩) (by assumption) ?_
                          rotate_left
                          · intro w' hw'
                            try dsimp only at hw'
                            skip
                            go_simp
                            try with_reducible rfl
                          try simp only [Act.put, List.setIfInBounds_toArray, List.set_cons_zero, List.set_cons_succ]
                          refine wpAnyH_take (i := 3) (v := ?_) (List.getElem?_toArray.trans rfl) (by kernel_rfl) (by kernel_rfl) (by kernel_rfl) (fun _ _ _ h => h) (Or.inl ⟨by rfl, ?_⟩) (by assumption) ?_
                          rotate_left
                          · intro w' hw'
                            try dsimp only at hw'
                            have hh1 := (HRZ.out w' hw').whole
                            go_simp
                            try with_reducible rfl
                          try simp only [Act.put, List.setIfInBounds_toArray, List.set_cons_zero, List.set_cons_succ]
                          refine wpAnyH_take (i := 7) (v := ?_) (List.getElem?_toArray.trans rfl) (by kernel_rfl) (by kernel_rfl) (by kernel_rfl) (fun _ _ _ h => h) (Or.inl ⟨by rfl, ?_⟩) (by assumption) ?_
                          rotate_left
                          · intro w' hw'
                            try dsimp only at hw'
                            have hh1 := (HRY2.out w' hw').whole
                            go_simp
                            try with_reducible rfl
                          try simp only [Act.put, List.setIfInBounds_toArray, List.set_cons_zero, List.set_cons_succ]
                          refine wpAnyH_take (i := 8) (v := ?_) (List.getElem?_toArray.trans rfl) (by kernel_rfl) (by kernel_rfl) (by kernel_rfl) (fun _ _ _ h => h) (Or.inl ⟨by rfl, ?_⟩) (by assumption) ?_
                          rotate_left
                          · intro w' hw'
                            try dsimp only at hw'
                            skip
                            go_simp
                            try with_reducible rfl
                          try simp only [Act.put, List.setIfInBounds_toArray, List.set_cons_zero, List.set_cons_succ]
                          refine wpAnyH_done (by kernel_rfl) ?_ _
                          clear hHeld
                          go_wp2
                          go_roundw
                          case rel => exact ⟨p + 1, by go_num, by omega, by rw [HN1.out]; go_num, HX9.out.trans (Touch.drew X10)⟩
                          case measure => simp [intOf]; omega
                        · have hz2' : (z.no == y.no) = false := by simp [hz2]
                          have HN1 := Lib.hid (show timesUpto H.S n y.no (p + 1) = timesUpto H.S n y.no p by rw [HNX.out, if_neg (fun h => hz2 h.2)]; rfl)
                          generalize timesUpto H.S n y.no p = tm at *
                          clear hz1 hz2
                          go_wp2_with fail
                          refine wp_region_held_drew (S := fun w' => Ext wr w') (by kernel_rfl) (Touch.drew (Touch.refl _ wr)) (fun hHeld => ?_)
                          refine wpAnyH_take (i := 0) (v := ?_) (List.getElem?_toArray.trans rfl) (by kernel_rfl) (by kernel_rfl) (by kernel_rfl) (fun _ _ _ h => h) (Or.inl ⟨by rfl, ?_⟩) (by assumption) ?_
                          rotate_left
                          · intro w' hw'
                            try dsimp only at hw'
                            skip
                            go_simp
                            try with_reducible rfl
                          try simp only [Act.put, List.setIfInBounds_toArray, List.set_cons_zero, List.set_cons_succ]
                          refine wpAnyH_take (i := 1) (v := ?_) (List.getElem?_toArray.trans rfl) (by kernel_rfl) (by kernel_rfl) (by kernel_rfl) (fun _ _ _ h => h) (Or.inl ⟨by rfl, ?_⟩) (by assumption) ?_
                          rotate_left
                          · intro w' hw'
                            try dsimp only at hw'
                            skip
                            go_simp
                            try with_reducible rfl
                          try simp only [Act.put, List.setIfInBounds_toArray, List.set_cons_zero, List.set_cons_succ]
                          refine wpAnyH_take (i := 5) (v := ?_) (List.getElem?_toArray.trans rfl) (by kernel_rfl) (by kernel_rfl) (by kernel_rfl) (fun _ _ _ h => h) (Or.inl ⟨by rfl, ?_⟩) (by assumption) ?_
                          rotate_left
                          · intro w' hw'
                            try dsimp only at hw'
                            skip
                            go_simp
                            try with_reducible rfl
                          try simp only [Act.put, List.setIfInBounds_toArray, List.set_cons_zero, List.set_cons_succ]
                          refine wpAnyH_take (i := 2) (v := ?_) (List.getElem?_toArray.trans rfl) (by kernel_rfl) (by kernel_rfl) (by kernel_rfl) (fun _ _ _ h => h) (Or.inl ⟨by rfl, ?_⟩) (by assumption) ?_
                          rotate_left
                          · intro w' hw'
                            try dsimp only at hw'
                            skip
                            go_simp
                            try with_reducible rfl
                          try simp only [Act.put, List.setIfInBounds_toArray, List.set_cons_zero, List.set_cons_succ]
                          refine wpAnyH_take (i := 3) (v := ?_) (List.getElem?_toArray.trans rfl) (by kernel_rfl) (by kernel_rfl) (by kernel_rfl) (fun _ _ _ h => h) (Or.inl ⟨by rfl, ?_⟩) (by assumption) ?_
                          rotate_left
                          · intro w' hw'
                            try dsimp only at hw'
                            skip
                            go_simp
                            try with_reducible rfl
                          try simp only [Act.put, List.setIfInBounds_toArray, List.set_cons_zero, List.set_cons_succ]
                          refine wpAnyH_take (i := 4) (v := ?_) (List.getElem?_toArray.trans rfl) (by kernel_rfl) (by kernel_rfl) (by kernel_rfl) (fun _ _ _ h => h) (Or.inl ⟨by rfl, ?_⟩) (by assumption) ?_
                          rotate_left
                          · intro w' hw'
                            try dsimp only at hw'
                            have hh1 := (HRZ.out w' hw').client
                            go_simp
                            try with_reducible rfl
                          try simp only [Act.put, List.setIfInBounds_toArray, List.set_cons_zero, List.set_cons_succ]
                          refine wpAnyH_take (i := 6) (v := ?_) (List.getElem?_toArray.trans rfl) (by kernel_rfl) (by kernel_rfl) (by kernel_rfl) (fun _ _ _ h => h) (Or.inl ⟨by rfl, ?_⟩) (by assumption) ?_
                          rotate_left
                          · intro w' hw'
                            try dsimp only at hw'
                            skip
                            go_simp
                            try with_reducible rfl
                          try simp only [Act.put, List.setIfInBounds_toArray, List.set_cons_zero, List.set_cons_succ]
                          refine wpAnyH_take (i := 7) (v := ?_) (List.getElem?_toArray.trans rfl) (by kernel_rfl) (by kernel_rfl) (by kernel_rfl) (fun _ _ _ h => h) (Or.inl ⟨by rfl, ?_⟩) (by assumption) ?_
                          rotate_left
                          · intro w' hw'
                            try dsimp only at hw'
                            skip
                            go_simp
                            try with_reducible rfl
                          try simp only [Act.put, List.setIfInBounds_toArray, List.set_cons_zero, List.set_cons_succ]
                          refine wpAnyH_take (i := 8) (v := ?_) (List.getElem?_toArray.trans rfl) (by kernel_rfl) (by kernel_rfl) (by kernel_rfl) (fun _ _ _ h => h) (Or.inl ⟨by rfl, ?_⟩) (by assumption) ?_
                          rotate_left
                          · intro w' hw'
                            try dsimp only at hw'
                            skip
                            go_simp
                            try with_reducible rfl
                          try simp only [Act.put, List.setIfInBounds_toArray, List.set_cons_zero, List.set_cons_succ]
                          refine wpAnyH_take (i := 9) (v := ?_) (List.getElem?_toArray.trans rfl) (by kernel_rfl) (by kernel_rfl) (by kernel_rfl) (fun _ _ _ h => h) (Or.inl ⟨by rfl, ?_⟩) (by assumption) ?_
                          rotate_left
                          · intro w' hw'
                            try dsimp only at hw'
                            skip
                            go_simp
                            try with_reducible rfl
                          try simp only [Act.put, List.setIfInBounds_toArray, List.set_cons_zero, List.set_cons_succ]
                          refine wpAnyH_take (i := 13) (v := ?_) (List.getElem?_toArray.trans rfl) (by kernel_rfl) (by kernel_rfl) (by kernel_rfl) (fun _ _ _ h => h) (Or.inl ⟨by rfl, ?_⟩) (by assumption) ?_
                          rotate_left
                          · intro w' hw'
                            try dsimp only at hw'
                            skip
                            go_simp
                            try with_reducible rfl
                          try simp only [Act.put, List.setIfInBounds_toArray, List.set_cons_zero, List.set_cons_succ]
                          refine wpAnyH_take (i := 14) (v := ?_) (List.getElem?_toArray.trans rfl) (by kernel_rfl) (by kernel_rfl) (by kernel_rfl) (fun _ _ _ h => h) (Or.inl ⟨by rfl, ?_⟩) (by assumption) ?_
                          rotate_left
                          · intro w' hw'
                            try dsimp only at hw'
                            skip
                            go_simp
                            try with_reducible rfl
                          try simp only [Act.put, List.setIfInBounds_toArray, List.set_cons_zero, List.set_cons_succ]
                          refine wpAnyH_take (i := 10) (v := ?_) (List.getElem?_toArray.trans rfl) (by kernel_rfl) (by kernel_rfl) (by kernel_rfl) (fun _ _ _ h => h) (Or.inl ⟨by rfl, ?_⟩) (by assumption) ?_
                          rotate_left
                          · intro w' hw'
                            try dsimp only at hw'
                            skip
                            go_simp
                            try with_reducible rfl
                          try simp only [Act.put, List.setIfInBounds_toArray, List.set_cons_zero, List.set_cons_succ]
                          refine wpAnyH_take (i := 15) (v := ?_) (List.getElem?_toArray.trans rfl) (by kernel_rfl) (by kernel_rfl) (by kernel_rfl) (fun _ _ _ h => h) (Or.inl ⟨by rfl, ?_⟩) (by assumption) ?_
                          rotate_left
                          · intro w' hw'
                            try dsimp only at hw'
                            skip
                            go_simp
                            try with_reducible rfl
                          try simp only [Act.put, List.setIfInBounds_toArray, List.set_cons_zero, List.set_cons_succ]
                          refine wpAnyH_take (i := 11) (v := ?_) (List.getElem?_toArray.trans rfl) (by kernel_rfl) (by kernel_rfl) (by kernel_rfl) (fun _ _ _ h => h) (Or.inl ⟨by rfl, ?_⟩) (by assumption) ?_
                          rotate_left
                          · intro w' hw'
                            try dsimp only at hw'
                            skip
                            go_simp
                            try with_reducible rfl
                          try simp only [Act.put, List.setIfInBounds_toArray, List.set_cons_zero, List.set_cons_succ]
                          refine wpAnyH_take (i := 16) (v := ?_) (List.getElem?_toArray.trans rfl) (by kernel_rfl) (by kernel_rfl) (by kernel_rfl) (fun _ _ _ h => h) (Or.inl ⟨by rfl, ?_⟩) (by assumption) ?_
                          rotate_left
                          · intro w' hw'
                            try dsimp only at hw'
                            skip
                            go_simp
                            try with_reducible rfl
                          try simp only [Act.put, List.setIfInBounds_toArray, List.set_cons_zero, List.set_cons_succ]
                          refine wpAnyH_take (i := 12) (v := ?_) (List.getElem?_toArray.trans rfl) (by kernel_rfl) (by kernel_rfl) (by kernel_rfl) (fun _ _ _ h => h) (Or.inl ⟨by rfl, ?_⟩) (by assumption) ?_
                          rotate_left
                          · intro w' hw'
                            try dsimp only at hw'
                            have hh1 := (HRZ.out w' hw').no
                            go_simp
                            try with_reducible rfl
                          try simp only [Act.put, List.setIfInBounds_toArray, List.set_cons_zero, List.set_cons_succ]
                          refine wpAnyH_take (i := 17) (v := ?_) (List.getElem?_toArray.trans rfl) (by kernel_rfl) (by kernel_rfl) (by kernel_rfl) (fun _ _ _ h => h) (Or.inl ⟨by rfl, ?_⟩) (by assumption) ?_
                          rotate_left
                          · intro w' hw'
                            try dsimp only at hw'
                            have hh1 := (HRY2.out w' hw').no
                            go_simp
                            try with_reducible rfl
                          try simp only [Act.put, List.setIfInBounds_toArray, List.set_cons_zero, List.set_cons_succ]
                          refine wpAnyH_take (i := 18) (v := ?_) (List.getElem?_toArray.trans rfl) (by kernel_rfl) (by kernel_rfl) (by kernel_rfl) (fun _ _ _ h => h) (Or.inl ⟨by rfl, ?_⟩) (by assumption) ?_
                          rotate_left
                          · intro w' hw'
                            try dsimp only at hw'
                            skip
                            go_simp
                            try with_reducible rfl
                          try simp only [Act.put, List.setIfInBounds_toArray, List.set_cons_zero, List.set_cons_succ]
                          refine wpAnyH_take (i := 19) (v := ?_) (List.getElem?_toArray.trans rfl) (by kernel_rfl) (by kernel_rfl) (by kernel_rfl) (fun _ _ _ h => h) (Or.inl ⟨by rfl, ?_⟩) (by assumption) ?_
                          rotate_left
                          · intro w' hw'
                            try dsimp only at hw'
                            skip
                            go_simp
                            try with_reducible rfl
                          try simp only [Act.put, List.setIfInBounds_toArray, List.set_cons_zero, List.set_cons_succ]
                          refine wpAnyH_done (by kernel_rfl) ?_ _
                          clear hHeld
                          go_wp2
                          go_roundw
                          case rel => exact ⟨p + 1, by go_num, by omega, by rw [HN1.out], HX9.out.trans (Touch.drew (Touch.refl _ wr))⟩
                          case measure => simp [intOf]; omega
                      · have hz1' : (z.client == (n : Int)) = false := by simp [hz1]
                        have HN1 := Lib.hid (show timesUpto H.S n y.no (p + 1) = timesUpto H.S n y.no p by rw [HNX.out, if_neg (fun h => hz1 h.1)]; rfl)
                        generalize timesUpto H.S n y.no p = tm at *
                        clear hz1
                        go_wp2_with fail
                        refine wp_region_held_drew (S := fun w' => Ext wr w') (by kernel_rfl) (Touch.drew (Touch.refl _ wr)) (fun hHeld => ?_)
                        refine wpAnyH_take (i := 0) (v := ?_) (List.getElem?_toArray.trans rfl) (by kernel_rfl) (by kernel_rfl) (by kernel_rfl) (fun _ _ _ h => h) (Or.inl ⟨by rfl, ?_⟩) (by assumption) ?_
                        rotate_left
                        · intro w' hw'
                          try dsimp only at hw'
                          skip
                          go_simp
                          try with_reducible rfl
                        try simp only [Act.put, List.setIfInBounds_toArray, List.set_cons_zero, List.set_cons_succ]
                        refine wpAnyH_take (i := 1) (v := ?_) (List.getElem?_toArray.trans rfl) (by kernel_rfl) (by kernel_rfl) (by kernel_rfl) (fun _ _ _ h => h) (Or.inl ⟨by rfl, ?_⟩) (by assumption) ?_
                        rotate_left
                        · intro w' hw'
                          try dsimp only at hw'
                          skip
                          go_simp
                          try with_reducible rfl
                        try simp only [Act.put, List.setIfInBounds_toArray, List.set_cons_zero, List.set_cons_succ]
                        refine wpAnyH_take (i := 5) (v := ?_) (List.getElem?_toArray.trans rfl) (by kernel_rfl) (by kernel_rfl) (by kernel_rfl) (fun _ _ _ h => h) (Or.inl ⟨by rfl, ?_⟩) (by assumption) ?_
                        rotate_left
                        · intro w' hw'
                          try dsimp only at hw'
                          skip
                          go_simp
                          try with_reducible rfl
                        try simp only [Act.put, List.setIfInBounds_toArray, List.set_cons_zero, List.set_cons_succ]
                        refine wpAnyH_take (i := 2) (v := ?_) (List.getElem?_toArray.trans rfl) (by kernel_rfl) (by kernel_rfl) (by kernel_rfl) (fun _ _ _ h => h) (Or.inl ⟨by rfl, ?_⟩) (by assumption) ?_
                        rotate_left
                        · intro w' hw'
                          try dsimp only at hw'
                          skip
                          go_simp
                          try with_reducible rfl
                        try simp only [Act.put, List.setIfInBounds_toArray, List.set_cons_zero, List.set_cons_succ]
                        refine wpAnyH_take (i := 3) (v := ?_) (List.getElem?_toArray.trans rfl) (by kernel_rfl) (by kernel_rfl) (by kernel_rfl) (fun _ _ _ h => h) (Or.inl ⟨by rfl, ?_⟩) (by assumption) ?_
                        rotate_left
                        · intro w' hw'
                          try dsimp only at hw'
                          skip
                          go_simp
                          try with_reducible rfl
                        try simp only [Act.put, List.setIfInBounds_toArray, List.set_cons_zero, List.set_cons_succ]
                        refine wpAnyH_take (i := 4) (v := ?_) (List.getElem?_toArray.trans rfl) (by kernel_rfl) (by kernel_rfl) (by kernel_rfl) (fun _ _ _ h => h) (Or.inl ⟨by rfl, ?_⟩) (by assumption) ?_
                        rotate_left
                        · intro w' hw'
                          try dsimp only at hw'
                          have hh1 := (HRZ.out w' hw').client
                          go_simp
                          try with_reducible rfl
                        try simp only [Act.put, List.setIfInBounds_toArray, List.set_cons_zero, List.set_cons_succ]
                        refine wpAnyH_take (i := 6) (v := ?_) (List.getElem?_toArray.trans rfl) (by kernel_rfl) (by kernel_rfl) (by kernel_rfl) (fun _ _ _ h => h) (Or.inl ⟨by rfl, ?_⟩) (by assumption) ?_
                        rotate_left
                        · intro w' hw'
                          try dsimp only at hw'
                          skip
                          go_simp
                          try with_reducible rfl
                        try simp only [Act.put, List.setIfInBounds_toArray, List.set_cons_zero, List.set_cons_succ]
                        refine wpAnyH_take (i := 7) (v := ?_) (List.getElem?_toArray.trans rfl) (by kernel_rfl) (by kernel_rfl) (by kernel_rfl) (fun _ _ _ h => h) (Or.inl ⟨by rfl, ?_⟩) (by assumption) ?_
                        rotate_left
                        · intro w' hw'
                          try dsimp only at hw'
                          skip
                          go_simp
                          try with_reducible rfl
                        try simp only [Act.put, List.setIfInBounds_toArray, List.set_cons_zero, List.set_cons_succ]
                        refine wpAnyH_take (i := 8) (v := undef) (List.getElem?_toArray.trans rfl) (by kernel_rfl) (by kernel_rfl) (by kernel_rfl) (fun _ _ _ h => h) (Or.inr ⟨by rfl, rfl⟩) (by assumption) ?_
                        try simp only [Act.put, List.setIfInBounds_toArray, List.set_cons_zero, List.set_cons_succ]
                        refine wpAnyH_take (i := 9) (v := undef) (List.getElem?_toArray.trans rfl) (by kernel_rfl) (by kernel_rfl) (by kernel_rfl) (fun _ _ _ h => h) (Or.inr ⟨by rfl, rfl⟩) (by assumption) ?_
                        try simp only [Act.put, List.setIfInBounds_toArray, List.set_cons_zero, List.set_cons_succ]
                        refine wpAnyH_take (i := 13) (v := undef) (List.getElem?_toArray.trans rfl) (by kernel_rfl) (by kernel_rfl) (by kernel_rfl) (fun _ _ _ h => h) (Or.inr ⟨by rfl, rfl⟩) (by assumption) ?_
                        try simp only [Act.put, List.setIfInBounds_toArray, List.set_cons_zero, List.set_cons_succ]
                        refine wpAnyH_take (i := 14) (v := undef) (List.getElem?_toArray.trans rfl) (by kernel_rfl) (by kernel_rfl) (by kernel_rfl) (fun _ _ _ h => h) (Or.inr ⟨by rfl, rfl⟩) (by assumption) ?_
                        try simp only [Act.put, List.setIfInBounds_toArray, List.set_cons_zero, List.set_cons_succ]
                        refine wpAnyH_take (i := 10) (v := undef) (List.getElem?_toArray.trans rfl) (by kernel_rfl) (by kernel_rfl) (by kernel_rfl) (fun _ _ _ h => h) (Or.inr ⟨by rfl, rfl⟩) (by assumption) ?_
                        try simp only [Act.put, List.setIfInBounds_toArray, List.set_cons_zero, List.set_cons_succ]
                        refine wpAnyH_take (i := 15) (v := undef) (List.getElem?_toArray.trans rfl) (by kernel_rfl) (by kernel_rfl) (by kernel_rfl) (fun _ _ _ h => h) (Or.inr ⟨by rfl, rfl⟩) (by assumption) ?_
                        try simp only [Act.put, List.setIfInBounds_toArray, List.set_cons_zero, List.set_cons_succ]
                        refine wpAnyH_take (i := 11) (v := undef) (List.getElem?_toArray.trans rfl) (by kernel_rfl) (by kernel_rfl) (by kernel_rfl) (fun _ _ _ h => h) (Or.inr ⟨by rfl, rfl⟩) (by assumption) ?_
                        try simp only [Act.put, List.setIfInBounds_toArray, List.set_cons_zero, List.set_cons_succ]
                        refine wpAnyH_take (i := 16) (v := undef) (List.getElem?_toArray.trans rfl) (by kernel_rfl) (by kernel_rfl) (by kernel_rfl) (fun _ _ _ h => h) (Or.inr ⟨by rfl, rfl⟩) (by assumption) ?_
                        try simp only [Act.put, List.setIfInBounds_toArray, List.set_cons_zero, List.set_cons_succ]
                        refine wpAnyH_take (i := 12) (v := undef) (List.getElem?_toArray.trans rfl) (by kernel_rfl) (by kernel_rfl) (by kernel_rfl) (fun _ _ _ h => h) (Or.inr ⟨by rfl, rfl⟩) (by assumption) ?_
                        try simp only [Act.put, List.setIfInBounds_toArray, List.set_cons_zero, List.set_cons_succ]
                        refine wpAnyH_take (i := 17) (v := undef) (List.getElem?_toArray.trans rfl) (by kernel_rfl) (by kernel_rfl) (by kernel_rfl) (fun _ _ _ h => h) (Or.inr ⟨by rfl, rfl⟩) (by assumption) ?_
                        try simp only [Act.put, List.setIfInBounds_toArray, List.set_cons_zero, List.set_cons_succ]
                        refine wpAnyH_take (i := 18) (v := undef) (List.getElem?_toArray.trans rfl) (by kernel_rfl) (by kernel_rfl) (by kernel_rfl) (fun _ _ _ h => h) (Or.inr ⟨by rfl, rfl⟩) (by assumption) ?_
                        try simp only [Act.put, List.setIfInBounds_toArray, List.set_cons_zero, List.set_cons_succ]
                        refine wpAnyH_take (i := 19) (v := ?_) (List.getElem?_toArray.trans rfl) (by kernel_rfl) (by kernel_rfl) (by kernel_rfl) (fun _ _ _ h => h) (Or.inl ⟨by rfl, ?_⟩) (by assumption) ?_
                        rotate_left
                        · intro w' hw'
                          try dsimp only at hw'
                          skip
                          go_simp
                          try with_reducible rfl
                        try simp only [Act.put, List.setIfInBounds_toArray, List.set_cons_zero, List.set_cons_succ]
                        refine wpAnyH_done (by kernel_rfl) ?_ _
                        clear hHeld
                        go_wp2
                        go_roundw
                        case rel => exact ⟨p + 1, by go_num, by omega, by rw [HN1.out], HX9.out.trans (Touch.drew (Touch.refl _ wr))⟩
                        case measure => simp [intOf]; omega
                    · obtain rfl : p = H.S.length := by omega
                      have hky := (HRY2.out wr hx0).kind
                      have hall := timesUpto_all H.S n y.no
                      by_cases hch : Changing y.call
                      · rw [HON.out.1 hch] at hall
                        rw [show timesUpto H.S n y.no H.S.length = 1 from hall]
                        have HCH := Lib.hid (show decide (1 ≤ y.call.kind ∧ y.call.kind ≤ 4) = true from decide_eq_true hch)
                        clear hall hch htle
                        go_wp2_with fail
                        refine (files_changes wr y.call.kind true HCH.out).mono ?_
                        rintro e w' ⟨rfl, rfl⟩
                        go_wp2
                        go_roundw
                        case rel => exact ⟨d + 1, by go_num, by omega, HX9.out⟩
                        case measure => simp [intOf]; omega
                      · rw [HON.out.2 hch] at hall
                        rw [show timesUpto H.S n y.no H.S.length = 0 from hall]
                        have HCH := Lib.hid (show decide (1 ≤ y.call.kind ∧ y.call.kind ≤ 4) = false from decide_eq_false hch)
                        clear hall hch htle
                        go_wp2_with fail
                        refine (files_changes wr y.call.kind false HCH.out).mono ?_
                        rintro e w' ⟨rfl, rfl⟩
                        go_wp2
                        go_roundw
                        case rel => exact ⟨d + 1, by go_num, by omega, HX9.out⟩
                        case measure => simp [intOf]; omega
                · obtain rfl : d = D.length := by omega
                  go_wp2
                  go_roundw
                  case rel => exact ⟨n + 1, by go_num, by omega, X9.out.trans HX.out⟩
                  case measure => simp [intOf]; omega
            · obtain rfl : n = 3 := by omega
              go_wp2
              go_ret
              exact ⟨rfl, HW.out.ext.trans (X8.out.trans HX.out)⟩
end Go.Proofs.Ytalfbhhldfffkac
