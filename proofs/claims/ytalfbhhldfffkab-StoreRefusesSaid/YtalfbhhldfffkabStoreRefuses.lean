/- StoreRefuses: the walk of the law. -/
import Derived.Test.YtalfbhhldfffkabStoreC
namespace Go.Proofs.Ytalfbhhldfffkab
open Go.RowKit

theorem lastNo_snoc (L : List Record) (r : Record) (client : Int) : lastNo (L ++ [r]) client = if r.client = client then r.no else lastNo L client := by
  unfold lastNo
  rw [lastOf_append]
  by_cases h : r.client = client <;> simp [h]
theorem last_mono {L L1 : List Record} {client no : Int} {c : Call} (h : L1 = L ∨ L1 = (chestCall L client no c).2) : lastNo L client ≤ lastNo L1 client ∧ (logBytes L).length ≤ (logBytes L1).length := by
  rcases h with rfl | rfl
  · exact ⟨Int.le_refl _, Nat.le_refl _⟩
  · have hw := chest_way L client no c
    generalize chestCall L client no c = r at hw
    rcases hw with ⟨k, hk, rfl⟩ | ⟨_, _, rfl⟩ | ⟨_, _, x, _, _, _, rfl⟩ | ⟨hc, hk, hl, hs, rfl⟩
    · exact ⟨Int.le_refl _, Nat.le_refl _⟩
    · exact ⟨Int.le_refl _, Nat.le_refl _⟩
    · exact ⟨Int.le_refl _, Nat.le_refl _⟩
    · refine ⟨?_, ?_⟩
      · show _ ≤ lastNo (L ++ [_]) client
        rw [lastNo_snoc, if_pos rfl]
        show lastNo L client ≤ no
        unfold lastNo
        cases hlo : lastOf L client with
        | none => show (0 : Int) ≤ no; have := hc.no.1; omega
        | some x => have := hl x hlo; show x.no ≤ no; omega
      · show _ ≤ (logBytes (L ++ [_])).length
        rw [logBytes_append, List.length_append]
        omega
/-- what Tear, or Call, comes to -/
def refL (L : List Record) (x : StoreStep) : List Record := if x.do_ = 1 then (chestTear L x.client x.no x.call x.keep).2 else (chestCall L x.client x.no x.call).2
theorem refL_ok {L : List Record} (h : LogOk L) (x : StoreStep) : LogOk (refL L x) := by
  unfold refL
  split
  · exact chestTear_ok h _ _ _ _
  · exact chestCall_ok h _ _ _
theorem refL_cases (L : List Record) (x : StoreStep) : refL L x = L ∨ refL L x = (chestCall L x.client x.no x.call).2 := by
  unfold refL
  split
  · unfold chestTear
    by_cases h : (chestCall L x.client x.no x.call).1.2.2 = 0 ∧ 0 < (chestCall L x.client x.no x.call).1.2.1 ∧ x.keep < (chestCall L x.client x.no x.call).1.2.1
    · exact .inl (if_pos h)
    · exact .inr (if_neg h)
  · exact .inr rfl
theorem refL_same {L : List Record} {x : StoreStep} (h : (chestCall L x.client x.no x.call).1.2.2 ≠ 0 ∨ ¬ (1 ≤ x.call.kind ∧ x.call.kind ≤ 4)) : refL L x = L := by
  rcases refL_cases L x with h1 | h1
  · exact h1
  · rw [h1]; exact chest_same h
abbrev OneB (b gs gr : Nat) : Rep ((Unit × Array Value) × (List Record × List Record)) := (SS b).and (Both gs gr)
def OneRel (W : World) (b gs gr : Nat) (cc : Array Value) (l : List StoreStep) (i : Value) (wr : World) : Prop :=
  ∃ k : Nat, i = .int .i64 k ∧ k ≤ l.length ∧ Has (OneB b gs gr) W wr (((), cc), (stepsL [] (l.take k), stepsL [] (l.take k)))
/-- the last numbers, the first k of them -/
def nos (L : List Record) (k : Nat) : Array Value := #[.int .i64 (if 0 < k then lastNo L 0 else 0), .int .i64 (if 1 < k then lastNo L 1 else 0), .int .i64 (if 2 < k then lastNo L 2 else 0)]
theorem nos_set {L : List Record} {k : Nat} (h : k < 3) : (nos L k).setIfInBounds k (.int .i64 (lastNo L k)) = nos L (k + 1) := by
  match k, h with
  | 0, _ => simp [nos]
  | 1, _ => simp [nos]
  | 2, _ => simp [nos]
theorem nos_get {L : List Record} {k : Nat} (h : k < 3) : ∃ v, (nos L k)[k]? = some v := by
  match k, h with
  | 0, _ => exact ⟨_, rfl⟩
  | 1, _ => exact ⟨_, rfl⟩
  | 2, _ => exact ⟨_, rfl⟩
theorem nos_get3 {L : List Record} {k : Nat} (h : k < 3) : (nos L 3)[k]? = some (.int .i64 (lastNo L k)) := by
  match k, h with
  | 0, _ => rfl
  | 1, _ => rfl
  | 2, _ => rfl
abbrev RefR (b gs gr bl : Nat) : Rep ((((Unit × Array Value) × (List Record × List Record)) × (Value × List ByteArray)) × Array Value) := ((OneB b gs gr).and (repOwn 9)).and (repBlock bl 74)
def NosRel (W : World) (b gs gr bl : Nat) (cc : Array Value) (L : List Record) (v : Value) (N : List ByteArray) (i : Value) (wr : World) : Prop :=
  ∃ k : Nat, i = .int .i64 k ∧ k ≤ 3 ∧ Has (RefR b gs gr bl) W wr (((((), cc), (L, L)), (v, N)), nos L k)
def SameRel (W : World) (b gs gr bl : Nat) (cc : Array Value) (L : List Record) (v : Value) (N : List ByteArray) (i : Value) (wr : World) : Prop :=
  ∃ k : Nat, i = .int .i64 k ∧ k ≤ 3 ∧ Has (RefR b gs gr bl) W wr (((((), cc), (L, L)), (v, N)), nos L 3)
set_option maxHeartbeats 8000000 in
set_option maxRecDepth 100000 in
theorem storeRefuses (W : World) (A : Option Addr) (c : Nat) (l : List StoreStep) (x : StoreStep) (hr : Reads W W.heap.size A l) (hs : ∀ x ∈ l, StrStep x) (hl : l.length ≤ 140737488351232) (hx : StrStep x) :
    Calls Try.prog 9 #[.slice A l.length c, .agg x.cells] W fun e w' => e = .returned (.bool true) ∧ Ext W w' := by
  have HR := Lib.hid hr
  have HS := Lib.hid hs
  have HX := Lib.hid hx
  have H0 := Lib.hid ((Has.none W).box x.cells 61)
  clear hr hs hx
  go_enter Try.func9, Try.ntmps9
  go_wp2_with fail
  refine (store_begun _).mono ?_
  rintro e w1 ⟨rfl, hx1⟩
  have H1 := Lib.hid (H0.out.step hx1)
  clear hx1
  go_wp2_with fail
  refine (law_greatStore w1 w1.heap.size A c l (HR.out.ext H1.out.ext) (Nat.le_refl _) HS.out hl).mono ?_
  rintro e w2 ⟨b2, rfl, hx2⟩
  have H2 := Lib.hid (H1.out.step hx2)
  have hbb2 := H2.out.blk
  obtain ⟨hl2, ho2⟩ := Array.getElem?_eq_some_iff.1 hbb2
  clear hx2 H0 H1
  cases b2 with
  | true =>
    go_wp2
    go_ret
    exact ⟨rfl, H2.out.ext⟩
  | false =>
    cases hg : greatB x.call with
    | true =>
      have HG := Lib.hid hg
      clear hg
      go_wp2_with (go_at_call 31; refine (law_greatCall' _ x.call true HG.out HX.out.call).mono ?_; rintro e w3 ⟨rfl, rfl⟩)
      go_ret
      exact ⟨rfl, H2.out.ext.alloc _⟩
    | false =>
      have HG := Lib.hid hg
      clear hg
      go_wp2_with fail
      refine (law_greatCall' _ x.call false HG.out HX.out.call).mono ?_
      rintro e w3 ⟨rfl, rfl⟩
      have H3 := Lib.hid (H2.out.step ((Touch.refl _ w2).alloc (.cells x.call.cells 31)))
      generalize w2.alloc (.cells x.call.cells 31) = w3 at H3 ⊢
      generalize W.heap.size = bx at H3 ⊢
      clear hbb2 hl2 ho2 H2
      go_wp2_with fail
      refine (store_new w3).mono ?_
      rintro e w4 ⟨rfl, hn4, -⟩
      have H6 := Lib.hid (H3.out.both (both_start hn4))
      clear hn4 H3
      generalize w3.heap.size + 1 = gs at H6 ⊢
      go_wp2_with fail
      generalize w4.alloc (.cells #[.slice none 0 0] 58) = w5 at H6 ⊢
      generalize w4.heap.size = gr at H6 ⊢
      go_loopw [7] (fun i wr => OneRel W bx gs gr x.cells l i wr) (fun i _ => l.length - (intOf i).toNat)
      case atStart => exact ⟨0, rfl, Nat.zero_le _, H6.out⟩
      case round =>
        clear H6
        obtain ⟨k, rfl, hk, hz⟩ := hrel
        have HZ := Lib.hid hz
        clear hz
        by_cases hlt : k < l.length
        · obtain ⟨s, hsx⟩ : ∃ s, l[k]? = some s := ⟨l[k], by simp [hlt]⟩
          obtain ⟨ad, rfl, hadb, hat⟩ := HR.out _ s hsx
          have hLV : LV Try.prog 61 (ad.add (k * 8)) wr = .ok (.agg s.cells) wr := LV_StoreStep ((hat.of_same (w' := wr) (by rw [show (ad.add (k * Lies.size StoreStep)).block = ad.block by unfold Addr.add; split <;> rfl]; exact HZ.out.ext.block _ hadb id)))
          have HSX := Lib.hid hsx
          have HOK := Lib.hid (stepsL_ok LogOk.nil (l.take k))
          have HST := Lib.hid (HS.out s (List.mem_of_getElem? hsx))
          clear hsx hat
          go_wp2_with fail
          obtain ⟨F1, hF1, hm1⟩ := HZ.out.snd
          refine (law_storeStep wr gs gr F1 _ s hF1 HOK.out HST.out).mono ?_
          rintro e w8 ⟨rfl, hq8⟩
          have h8 := hm1 _ _ hq8
          rw [← stepsL_take HSX.out] at h8
          have H8 := Lib.hid h8
          clear hF1 hm1 hq8 h8
          go_wp2
          go_roundw
          case rel => exact ⟨k + 1, by go_num, by omega, H8.out⟩
          case measure => simp [intOf]; omega
        · obtain rfl : k = l.length := by omega
          have HOK := Lib.hid (stepsL_ok LogOk.nil (l.take l.length))
          generalize stepsL [] (l.take l.length) = L at HZ HOK
          have hlog := HOK.out.len
          have hfb6 := (fbehind_ok L).len
          obtain ⟨F6, hF6, _⟩ := HZ.out.b2
          obtain ⟨f1, u1, v1, hA1, hh1⟩ := store_parts hF6
          have HA1 := Lib.hid hA1
          have HH1 := Lib.hid hh1
          have HG0 := Lib.hid (show ∀ w', Ext wr w' → w'.cell? ⟨gs, 0, none⟩ = some (.pointer (some ⟨f1, 0, none⟩)) from fun w' hx => (cell_of (hx.blk HA1.out.cell id) 0).trans (StoreD.get0 _ _ _))
          clear hF6 hA1 hh1
          go_wp2_with fail
          generalize wr = w7 at *
          refine wp_region_held_drew (S := fun w' => Ext w7 w') (by kernel_rfl) (Touch.drew (Touch.refl _ w7)) (fun hHeld => ?_)
          refine wpAnyH_take (i := 0) (v := ?_) (List.getElem?_toArray.trans rfl) (by kernel_rfl) (by kernel_rfl) (by kernel_rfl) (fun _ _ _ h => h) (Or.inl ⟨by rfl, ?_⟩) (by assumption) ?_
          rotate_left
          · intro w' hw'
            try dsimp only at hw'
            skip
            go_simp
            try with_reducible rfl
          try simp only [Act.put, List.setIfInBounds_toArray, List.set_cons_zero, List.set_cons_succ]
          refine wpAnyH_take (i := 3) (v := ?_) (List.getElem?_toArray.trans rfl) (by kernel_rfl) (by kernel_rfl) (by kernel_rfl) (fun _ _ _ h => h) (Or.inl ⟨by rfl, ?_⟩) (by assumption) ?_
          rotate_left
          · intro w' hw'
            try dsimp only at hw'
            skip
            go_simp
            try with_reducible rfl
          try simp only [Act.put, List.setIfInBounds_toArray, List.set_cons_zero, List.set_cons_succ]
          refine wpAnyH_take (i := 4) (v := ?_) (List.getElem?_toArray.trans rfl) (by kernel_rfl) (by kernel_rfl) (by kernel_rfl) (fun _ _ _ h => h) (Or.inl ⟨by rfl, ?_⟩) (by assumption) ?_
          rotate_left
          · intro w' hw'
            try dsimp only at hw'
            skip
            go_simp
            try with_reducible rfl
          try simp only [Act.put, List.setIfInBounds_toArray, List.set_cons_zero, List.set_cons_succ]
          refine wpAnyH_take (i := 5) (v := ?_) (List.getElem?_toArray.trans rfl) (by kernel_rfl) (by kernel_rfl) (by kernel_rfl) (fun _ _ _ h => h) (Or.inl ⟨by rfl, ?_⟩) (by assumption) ?_
          rotate_left
          · intro w' hw'
            try dsimp only at hw'
            skip
            go_simp
            try with_reducible rfl
          try simp only [Act.put, List.setIfInBounds_toArray, List.set_cons_zero, List.set_cons_succ]
          refine wpAnyH_take (i := 6) (v := ?_) (List.getElem?_toArray.trans rfl) (by kernel_rfl) (by kernel_rfl) (by kernel_rfl) (fun _ _ _ h => h) (Or.inl ⟨by rfl, ?_⟩) (by assumption) ?_
          rotate_left
          · intro w' hw'
            try dsimp only at hw'
            have hcg := HG0.out w' hw'
            go_simp
            try with_reducible rfl
          try simp only [Act.put, List.setIfInBounds_toArray, List.set_cons_zero, List.set_cons_succ]
          refine wpAnyH_ready (rs := [1]) (by kernel_rfl) (by simp) ?_
          refine AllReadyH.cons (List.getElem?_toArray.trans rfl) (fun K hK => ?_) AllReadyH.nil
          go_simp
          go_at_call 23
          refine (store_log_at _ gs f1 u1 L (HA1.out.ext (Touch.drew (Touch.refl _ w7))) HOK.out).mono ?_
          rintro e w8 ⟨A8, c8, rfl, ho8, hx8', _⟩
          have hx8 : Ext w7 w8 := (Touch.drew (Touch.refl _ w7)).trans hx8'
          have HO8 := Lib.hid (show Owns w8 5 (.slice A8 (logBytes L).length c8) (logBytes L) from ho8)
          have HX8 := Lib.hid hx8
          clear ho8 hx8'
          refine hK.out _ _ hx8 (fun _ => ?_)
          clear hK K
          try simp only [Act.put, List.setIfInBounds_toArray, List.set_cons_zero, List.set_cons_succ]
          refine wpAnyH_more (S' := fun w' => Ext w8 w') (fun w' h => hx8.trans h) _ _ _ _ ?_
          clear hx8 hHeld
          have hHeld : Ext w8 w8 := Touch.refl _ _
          refine wpAnyH_take (i := 2) (v := ?_) (List.getElem?_toArray.trans rfl) (by kernel_rfl) (by kernel_rfl) (by kernel_rfl) (fun _ _ _ h => h) (Or.inl ⟨by rfl, ?_⟩) (by assumption) ?_
          rotate_left
          · intro w' hw'
            try dsimp only at hw'
            have hcv := conv_log (HO8.out.ext hw')
            go_simp
            try with_reducible rfl
          try simp only [Act.put, List.setIfInBounds_toArray, List.set_cons_zero, List.set_cons_succ]
          refine wpAnyH_ready (rs := [7]) (by kernel_rfl) (by simp) ?_
          refine AllReadyH.cons (List.getElem?_toArray.trans rfl) (fun K hK => ?_) AllReadyH.nil
          go_simp
          go_at_call 17
          refine (files_names _ f1 v1 (fbehind L) (HH1.out.ext HX8.out) (by omega)).mono ?_
          rintro e w9 ⟨A9, c9, he9, ho9, hx9, hf9⟩
          rw [List.length_map] at he9 ho9 hf9
          subst he9
          have HO9 := Lib.hid ho9
          have HF9 := Lib.hid hf9
          have HX9 := Lib.hid (HX8.out.trans hx9)
          clear ho9 hf9
          refine hK.out _ _ hx9 (fun _ => ?_)
          clear hK K
          try simp only [Act.put, List.setIfInBounds_toArray, List.set_cons_zero, List.set_cons_succ]
          refine wpAnyH_more (S' := fun w' => Ext w9 w') (fun w' h => hx9.trans h) _ _ _ _ ?_
          clear hx9 hHeld
          have hHeld : Ext w9 w9 := Touch.refl _ _
          refine wpAnyH_take (i := 8) (v := ?_) (List.getElem?_toArray.trans rfl) (by kernel_rfl) (by kernel_rfl) (by kernel_rfl) (fun _ _ _ h => h) (Or.inl ⟨by rfl, ?_⟩) (by assumption) ?_
          rotate_left
          · intro w' hw'
            try dsimp only at hw'
            skip
            go_simp
            try with_reducible rfl
          try simp only [Act.put, List.setIfInBounds_toArray, List.set_cons_zero, List.set_cons_succ]
          refine wpAnyH_take (i := 9) (v := ?_) (List.getElem?_toArray.trans rfl) (by kernel_rfl) (by kernel_rfl) (by kernel_rfl) (fun _ _ _ h => h) (Or.inl ⟨by rfl, ?_⟩) (by assumption) ?_
          rotate_left
          · intro w' hw'
            try dsimp only at hw'
            skip
            go_simp
            try with_reducible rfl
          try simp only [Act.put, List.setIfInBounds_toArray, List.set_cons_zero, List.set_cons_succ]
          refine wpAnyH_done (by kernel_rfl) ?_ _
          have h9 := (HZ.out.newList HX9.out HO9.out (fun k hk => Nat.le_trans HX8.out.size (HF9.out k hk))).box #[.int .i64 0, .int .i64 0, .int .i64 0] 74
          have H9 := Lib.hid h9
          clear h9 HO9 HF9 HX9 HX8 HO8 HG0 HH1 HA1 HZ
          go_wp2_with fail
          generalize w9.alloc (.cells #[.int .i64 0, .int .i64 0, .int .i64 0] 74) = w10 at H9 ⊢
          generalize w9.heap.size = bl at H9 ⊢
          go_loopw [11] (fun i wr => NosRel W bx gs gr bl x.cells L (.slice A9 (fbehind L).length c9) ((fbehind L).map (·.name)) i wr) (fun i _ => 3 - (intOf i).toNat)
          case atStart => exact ⟨0, rfl, Nat.zero_le _, H9.out⟩
          case round =>
            clear H9
            obtain ⟨k, rfl, hk, hz⟩ := hrel
            have HZ := Lib.hid hz
            clear hz
            by_cases hk3 : k < 3
            · have hk3' : (k : Int) < 3 := by omega
              have hba := HZ.out.blk
              obtain ⟨ltb, atb⟩ := Array.getElem?_eq_some_iff.1 hba
              obtain ⟨vb, hvb⟩ := nos_get (L := L) hk3
              have hcb : wr.cell? ⟨bl, k, none⟩ = some vb := (cell_of hba k).trans hvb
              have hfb := frozen_of hba k
              have hbn : (wr.setCell ⟨bl, k, none⟩ (.int .i64 (lastNo L k))).heap[bl]? = some (.cells (nos L (k + 1)) 74 (0, 0)) := by
                rw [← nos_set hk3]
                exact setCell_heap hba k _
              have HN := Lib.hid (HZ.out.turn (w' := wr.setCell ⟨bl, k, none⟩ (.int .i64 (lastNo L k))) ((Touch.refl (fun k => k = bl) wr).setCell (a := ⟨bl, k, none⟩) (.inl rfl) _) hbn)
              obtain ⟨F5, hF5, _⟩ := HZ.out.b0
              have HF5 := Lib.hid hF5
              clear hF5 hbn hvb
              go_wp2_with fail
              refine (store_last_of wr gs F5 L HF5.out HOK.out k).mono ?_
              rintro e w10 ⟨rfl, rfl⟩
              go_wp2
              go_roundw
              case rel => exact ⟨k + 1, by go_num, by omega, HN.out⟩
              case measure => simp [intOf]; omega
            · obtain rfl : k = 3 := by omega
              have hbx10 := HZ.out.left.left.left.blk
              have hc0 := cell_of hbx10 0
              have hc1 := cell_of hbx10 1
              have hc2 := cell_of hbx10 2
              have hc3 := cell_of hbx10 3
              by_cases hd : x.do_ = 1
              · have hd' : (x.do_ == 1) = true := by simp [hd]
                have HRL := Lib.hid (show refL L x = (chestTear L x.client x.no x.call x.keep).2 by unfold refL; rw [if_pos hd])
                clear hd
                go_wp2_with fail
                obtain ⟨F7, hF7, hm7⟩ := HZ.out.b0
                refine (store_Tear wr gs F7 L x.client x.no x.call x.keep hF7 HOK.out HX.out.call HX.out.keep).mono ?_
                rintro e w11 ⟨rfl, hq11⟩
                rw [← HRL.out] at hq11
                have H11 := Lib.hid (hm7 _ _ hq11)
                have hct : (chestTear L x.client x.no x.call x.keep).1 = (chestCall L x.client x.no x.call).1.2.2 := rfl
                clear hF7 hm7 hq11 HRL hbx10 hc0 hc1 hc2 hc3 HZ
                by_cases hz0 : (chestCall L x.client x.no x.call).1.2.2 = 0 ∧ (1 ≤ x.call.kind ∧ x.call.kind ≤ 4)
                · obtain ⟨hcok, _⟩ := chest_last hz0.1 hz0.2
                  have HK := Lib.hid hz0.2
                  have hcd : (chestCall L x.client x.no x.call).1.2.2 = 0 := hz0.1
                  have hci := hcok.client
                  clear hz0 hcok
                  have hbx11 := H11.out.left.left.left.blk
                  have hk4 := cell_of hbx11 4
                  go_wp2_with (first
                    | (go_at_call 32; refine (ref_ischange' _ x.call.kind true (by have := HK.out; simp; omega)).mono ?_; rintro e w12 ⟨rfl, rfl⟩)
                    | fail)
                  clear hbx11 hk4
                  obtain hcl | hcl | hcl : x.client = 0 ∨ x.client = 1 ∨ x.client = 2 := by omega
                  · skip
                    have hca : w11.cell? ⟨bl, 0, none⟩ = some (.int .i64 (lastNo L 0)) := cell_of H11.out.blk 0
                    have HS4 := Lib.hid (show ∀ w', Ext w11 w' → w'.cell? ⟨bx, 1, none⟩ = some (.int .i64 x.client) ∧ w'.cell? ⟨bl, 0, none⟩ = some (.int .i64 (lastNo L 0)) from
                      fun w' hx => ⟨cell_of (hx.blk H11.out.left.left.left.blk id) 1, cell_of (hx.blk H11.out.blk id) 0⟩)
                    obtain ⟨hm1, hm2⟩ := last_mono (refL_cases L x)
                    obtain ⟨L1, hL1⟩ : ∃ L1, refL L x = L1 := ⟨_, rfl⟩
                    obtain ⟨F6, hF6, _⟩ := H11.out.b0
                    rw [hL1] at hF6 hm1 hm2
                    have HOK1 := Lib.hid (refL_ok HOK.out x)
                    rw [hL1] at HOK1
                    obtain ⟨f2, u2, v2, hA2, _⟩ := store_parts hF6
                    have HA2 := Lib.hid hA2
                    rw [hcl] at hm1 HS4
                    have hm3 : ((logBytes L).length : Int) ≤ ((logBytes L1).length : Int) := by omega
                    have hms : ((mkStr (logBytes L)).size : Int) = ((logBytes L).length : Int) := by rw [mkStr_size]
                    have hl1 := HOK1.out.len
                    have HEX := Lib.hid H11.out.ext
                    have hmx : max (0 : Int) (min 0 2) = 0 := by decide
                    have hmi : min (0 : Int) 2 = 0 := by decide
                    have hma : max (0 : Int) 0 = 0 := by decide
                    clear hF6 hA2 hca H11 hL1 hm2
                    go_wp2_with fail
                    refine wp_region_held_drew (S := fun w' => Ext w11 w') (by kernel_rfl) (Touch.drew (Touch.refl _ w11)) (fun hHeld => ?_)
                    refine wpAnyH_take (i := 0) (v := ?_) (List.getElem?_toArray.trans rfl) (by kernel_rfl) (by kernel_rfl) (by kernel_rfl) (fun _ _ _ h => h) (Or.inl ⟨by rfl, ?_⟩) (by assumption) ?_
                    rotate_left
                    · intro w' hw'
                      try dsimp only at hw'
                      skip
                      go_simp
                      try with_reducible rfl
                    try simp only [Act.put, List.setIfInBounds_toArray, List.set_cons_zero, List.set_cons_succ]
                    refine wpAnyH_take (i := 1) (v := ?_) (List.getElem?_toArray.trans rfl) (by kernel_rfl) (by kernel_rfl) (by kernel_rfl) (fun _ _ _ h => h) (Or.inl ⟨by rfl, ?_⟩) (by assumption) ?_
                    rotate_left
                    · intro w' hw'
                      try dsimp only at hw'
                      skip
                      go_simp
                      try with_reducible rfl
                    try simp only [Act.put, List.setIfInBounds_toArray, List.set_cons_zero, List.set_cons_succ]
                    refine wpAnyH_take (i := 2) (v := ?_) (List.getElem?_toArray.trans rfl) (by kernel_rfl) (by kernel_rfl) (by kernel_rfl) (fun _ _ _ h => h) (Or.inl ⟨by rfl, ?_⟩) (by assumption) ?_
                    rotate_left
                    · intro w' hw'
                      try dsimp only at hw'
                      obtain ⟨hh1, hh2⟩ := HS4.out w' hw'
                      go_simp
                      try with_reducible rfl
                    try simp only [Act.put, List.setIfInBounds_toArray, List.set_cons_zero, List.set_cons_succ]
                    refine wpAnyH_take (i := 4) (v := ?_) (List.getElem?_toArray.trans rfl) (by kernel_rfl) (by kernel_rfl) (by kernel_rfl) (fun _ _ _ h => h) (Or.inl ⟨by rfl, ?_⟩) (by assumption) ?_
                    rotate_left
                    · intro w' hw'
                      try dsimp only at hw'
                      skip
                      go_simp
                      try with_reducible rfl
                    try simp only [Act.put, List.setIfInBounds_toArray, List.set_cons_zero, List.set_cons_succ]
                    refine wpAnyH_take (i := 5) (v := ?_) (List.getElem?_toArray.trans rfl) (by kernel_rfl) (by kernel_rfl) (by kernel_rfl) (fun _ _ _ h => h) (Or.inl ⟨by rfl, ?_⟩) (by assumption) ?_
                    rotate_left
                    · intro w' hw'
                      try dsimp only at hw'
                      obtain ⟨hh1, hh2⟩ := HS4.out w' hw'
                      go_simp
                      try with_reducible rfl
                    try simp only [Act.put, List.setIfInBounds_toArray, List.set_cons_zero, List.set_cons_succ]
                    refine wpAnyH_take (i := 6) (v := ?_) (List.getElem?_toArray.trans rfl) (by kernel_rfl) (by kernel_rfl) (by kernel_rfl) (fun _ _ _ h => h) (Or.inl ⟨by rfl, ?_⟩) (by assumption) ?_
                    rotate_left
                    · intro w' hw'
                      try dsimp only at hw'
                      skip
                      go_simp
                      try with_reducible rfl
                    try simp only [Act.put, List.setIfInBounds_toArray, List.set_cons_zero, List.set_cons_succ]
                    refine wpAnyH_take (i := 7) (v := ?_) (List.getElem?_toArray.trans rfl) (by kernel_rfl) (by kernel_rfl) (by kernel_rfl) (fun _ _ _ h => h) (Or.inl ⟨by rfl, ?_⟩) (by assumption) ?_
                    rotate_left
                    · intro w' hw'
                      try dsimp only at hw'
                      skip
                      go_simp
                      try with_reducible rfl
                    try simp only [Act.put, List.setIfInBounds_toArray, List.set_cons_zero, List.set_cons_succ]
                    refine wpAnyH_take (i := 8) (v := ?_) (List.getElem?_toArray.trans rfl) (by kernel_rfl) (by kernel_rfl) (by kernel_rfl) (fun _ _ _ h => h) (Or.inl ⟨by rfl, ?_⟩) (by assumption) ?_
                    rotate_left
                    · intro w' hw'
                      try dsimp only at hw'
                      skip
                      go_simp
                      try with_reducible rfl
                    try simp only [Act.put, List.setIfInBounds_toArray, List.set_cons_zero, List.set_cons_succ]
                    refine wpAnyH_take (i := 9) (v := ?_) (List.getElem?_toArray.trans rfl) (by kernel_rfl) (by kernel_rfl) (by kernel_rfl) (fun _ _ _ h => h) (Or.inl ⟨by rfl, ?_⟩) (by assumption) ?_
                    rotate_left
                    · intro w' hw'
                      try dsimp only at hw'
                      obtain ⟨hh1, hh2⟩ := HS4.out w' hw'
                      go_simp
                      try with_reducible rfl
                    try simp only [Act.put, List.setIfInBounds_toArray, List.set_cons_zero, List.set_cons_succ]
                    refine wpAnyH_ready (rs := [3]) (by kernel_rfl) (by simp) ?_
                    refine AllReadyH.cons (List.getElem?_toArray.trans rfl) (fun K hK => ?_) AllReadyH.nil
                    go_simp
                    go_at_call 30
                    refine (store_last _ gs f2 u2 L1 (HA2.out.ext (Touch.drew (Touch.refl _ w11))) HOK1.out.each 0).mono ?_
                    rintro e w12 ⟨rfl, hw12⟩
                    have hx12 : Ext w11 w12 := (Touch.drew (Touch.refl _ w11)).trans (hw12 ▸ Touch.refl _ _)
                    have HX12 := Lib.hid hx12
                    clear hw12
                    refine hK.out _ _ hx12 (fun _ => ?_)
                    clear hK K
                    try simp only [Act.put, List.setIfInBounds_toArray, List.set_cons_zero, List.set_cons_succ]
                    refine wpAnyH_more (S' := fun w' => Ext w12 w') (fun w' h => hx12.trans h) _ _ _ _ ?_
                    clear hx12 hHeld
                    have hHeld : Ext w12 w12 := Touch.refl _ _
                    refine wpAnyH_take (i := 10) (v := ?_) (List.getElem?_toArray.trans rfl) (by kernel_rfl) (by kernel_rfl) (by kernel_rfl) (fun _ _ _ h => h) (Or.inl ⟨by rfl, ?_⟩) (by assumption) ?_
                    rotate_left
                    · intro w' hw'
                      try dsimp only at hw'
                      skip
                      go_simp
                      try with_reducible rfl
                    try simp only [Act.put, List.setIfInBounds_toArray, List.set_cons_zero, List.set_cons_succ]
                    refine wpAnyH_take (i := 11) (v := ?_) (List.getElem?_toArray.trans rfl) (by kernel_rfl) (by kernel_rfl) (by kernel_rfl) (fun _ _ _ h => h) (Or.inl ⟨by rfl, ?_⟩) (by assumption) ?_
                    rotate_left
                    · intro w' hw'
                      try dsimp only at hw'
                      skip
                      go_simp
                      try with_reducible rfl
                    try simp only [Act.put, List.setIfInBounds_toArray, List.set_cons_zero, List.set_cons_succ]
                    refine wpAnyH_take (i := 12) (v := ?_) (List.getElem?_toArray.trans rfl) (by kernel_rfl) (by kernel_rfl) (by kernel_rfl) (fun _ _ _ h => h) (Or.inl ⟨by rfl, ?_⟩) (by assumption) ?_
                    rotate_left
                    · intro w' hw'
                      try dsimp only at hw'
                      skip
                      go_simp
                      try with_reducible rfl
                    try simp only [Act.put, List.setIfInBounds_toArray, List.set_cons_zero, List.set_cons_succ]
                    refine wpAnyH_take (i := 15) (v := ?_) (List.getElem?_toArray.trans rfl) (by kernel_rfl) (by kernel_rfl) (by kernel_rfl) (fun _ _ _ h => h) (Or.inl ⟨by rfl, ?_⟩) (by assumption) ?_
                    rotate_left
                    · intro w' hw'
                      try dsimp only at hw'
                      skip
                      go_simp
                      try with_reducible rfl
                    try simp only [Act.put, List.setIfInBounds_toArray, List.set_cons_zero, List.set_cons_succ]
                    refine wpAnyH_take (i := 16) (v := ?_) (List.getElem?_toArray.trans rfl) (by kernel_rfl) (by kernel_rfl) (by kernel_rfl) (fun _ _ _ h => h) (Or.inl ⟨by rfl, ?_⟩) (by assumption) ?_
                    rotate_left
                    · intro w' hw'
                      try dsimp only at hw'
                      skip
                      go_simp
                      try with_reducible rfl
                    try simp only [Act.put, List.setIfInBounds_toArray, List.set_cons_zero, List.set_cons_succ]
                    refine wpAnyH_ready (rs := [13]) (by kernel_rfl) (by simp) ?_
                    refine AllReadyH.cons (List.getElem?_toArray.trans rfl) (fun K hK => ?_) AllReadyH.nil
                    go_simp
                    go_at_call 23
                    refine (store_log_at _ gs f2 u2 L1 (HA2.out.ext HX12.out) HOK1.out).mono ?_
                    rintro e w13 ⟨A13, c13, rfl, _, hx13, _⟩
                    have HX13 := Lib.hid (HX12.out.trans hx13)
                    refine hK.out _ _ hx13 (fun _ => ?_)
                    clear hK K
                    try simp only [Act.put, List.setIfInBounds_toArray, List.set_cons_zero, List.set_cons_succ]
                    refine wpAnyH_more (S' := fun w' => Ext w13 w') (fun w' h => hx13.trans h) _ _ _ _ ?_
                    clear hx13 hHeld
                    have hHeld : Ext w13 w13 := Touch.refl _ _
                    refine wpAnyH_take (i := 14) (v := ?_) (List.getElem?_toArray.trans rfl) (by kernel_rfl) (by kernel_rfl) (by kernel_rfl) (fun _ _ _ h => h) (Or.inl ⟨by rfl, ?_⟩) (by assumption) ?_
                    rotate_left
                    · intro w' hw'
                      try dsimp only at hw'
                      skip
                      go_simp
                      try with_reducible rfl
                    try simp only [Act.put, List.setIfInBounds_toArray, List.set_cons_zero, List.set_cons_succ]
                    refine wpAnyH_take (i := 17) (v := ?_) (List.getElem?_toArray.trans rfl) (by kernel_rfl) (by kernel_rfl) (by kernel_rfl) (fun _ _ _ h => h) (Or.inl ⟨by rfl, ?_⟩) (by assumption) ?_
                    rotate_left
                    · intro w' hw'
                      try dsimp only at hw'
                      skip
                      go_simp
                      try with_reducible rfl
                    try simp only [Act.put, List.setIfInBounds_toArray, List.set_cons_zero, List.set_cons_succ]
                    refine wpAnyH_take (i := 18) (v := ?_) (List.getElem?_toArray.trans rfl) (by kernel_rfl) (by kernel_rfl) (by kernel_rfl) (fun _ _ _ h => h) (Or.inl ⟨by rfl, ?_⟩) (by assumption) ?_
                    rotate_left
                    · intro w' hw'
                      try dsimp only at hw'
                      skip
                      go_simp
                      try with_reducible rfl
                    try simp only [Act.put, List.setIfInBounds_toArray, List.set_cons_zero, List.set_cons_succ]
                    refine wpAnyH_take (i := 19) (v := ?_) (List.getElem?_toArray.trans rfl) (by kernel_rfl) (by kernel_rfl) (by kernel_rfl) (fun _ _ _ h => h) (Or.inl ⟨by rfl, ?_⟩) (by assumption) ?_
                    rotate_left
                    · intro w' hw'
                      try dsimp only at hw'
                      skip
                      go_simp
                      try with_reducible rfl
                    try simp only [Act.put, List.setIfInBounds_toArray, List.set_cons_zero, List.set_cons_succ]
                    refine wpAnyH_done (by kernel_rfl) ?_ _
                    go_wp2
                    go_ret
                    exact ⟨by first | rfl | simp, HEX.out.trans HX13.out⟩
                  · skip
                    have hca : w11.cell? ⟨bl, 1, none⟩ = some (.int .i64 (lastNo L 1)) := cell_of H11.out.blk 1
                    have HS4 := Lib.hid (show ∀ w', Ext w11 w' → w'.cell? ⟨bx, 1, none⟩ = some (.int .i64 x.client) ∧ w'.cell? ⟨bl, 1, none⟩ = some (.int .i64 (lastNo L 1)) from
                      fun w' hx => ⟨cell_of (hx.blk H11.out.left.left.left.blk id) 1, cell_of (hx.blk H11.out.blk id) 1⟩)
                    obtain ⟨hm1, hm2⟩ := last_mono (refL_cases L x)
                    obtain ⟨L1, hL1⟩ : ∃ L1, refL L x = L1 := ⟨_, rfl⟩
                    obtain ⟨F6, hF6, _⟩ := H11.out.b0
                    rw [hL1] at hF6 hm1 hm2
                    have HOK1 := Lib.hid (refL_ok HOK.out x)
                    rw [hL1] at HOK1
                    obtain ⟨f2, u2, v2, hA2, _⟩ := store_parts hF6
                    have HA2 := Lib.hid hA2
                    rw [hcl] at hm1 HS4
                    have hm3 : ((logBytes L).length : Int) ≤ ((logBytes L1).length : Int) := by omega
                    have hms : ((mkStr (logBytes L)).size : Int) = ((logBytes L).length : Int) := by rw [mkStr_size]
                    have hl1 := HOK1.out.len
                    have HEX := Lib.hid H11.out.ext
                    have hmx : max (0 : Int) (min 1 2) = 1 := by decide
                    have hmi : min (1 : Int) 2 = 1 := by decide
                    have hma : max (0 : Int) 1 = 1 := by decide
                    clear hF6 hA2 hca H11 hL1 hm2
                    go_wp2_with fail
                    refine wp_region_held_drew (S := fun w' => Ext w11 w') (by kernel_rfl) (Touch.drew (Touch.refl _ w11)) (fun hHeld => ?_)
                    refine wpAnyH_take (i := 0) (v := ?_) (List.getElem?_toArray.trans rfl) (by kernel_rfl) (by kernel_rfl) (by kernel_rfl) (fun _ _ _ h => h) (Or.inl ⟨by rfl, ?_⟩) (by assumption) ?_
                    rotate_left
                    · intro w' hw'
                      try dsimp only at hw'
                      skip
                      go_simp
                      try with_reducible rfl
                    try simp only [Act.put, List.setIfInBounds_toArray, List.set_cons_zero, List.set_cons_succ]
                    refine wpAnyH_take (i := 1) (v := ?_) (List.getElem?_toArray.trans rfl) (by kernel_rfl) (by kernel_rfl) (by kernel_rfl) (fun _ _ _ h => h) (Or.inl ⟨by rfl, ?_⟩) (by assumption) ?_
                    rotate_left
                    · intro w' hw'
                      try dsimp only at hw'
                      skip
                      go_simp
                      try with_reducible rfl
                    try simp only [Act.put, List.setIfInBounds_toArray, List.set_cons_zero, List.set_cons_succ]
                    refine wpAnyH_take (i := 2) (v := ?_) (List.getElem?_toArray.trans rfl) (by kernel_rfl) (by kernel_rfl) (by kernel_rfl) (fun _ _ _ h => h) (Or.inl ⟨by rfl, ?_⟩) (by assumption) ?_
                    rotate_left
                    · intro w' hw'
                      try dsimp only at hw'
                      obtain ⟨hh1, hh2⟩ := HS4.out w' hw'
                      go_simp
                      try with_reducible rfl
                    try simp only [Act.put, List.setIfInBounds_toArray, List.set_cons_zero, List.set_cons_succ]
                    refine wpAnyH_take (i := 4) (v := ?_) (List.getElem?_toArray.trans rfl) (by kernel_rfl) (by kernel_rfl) (by kernel_rfl) (fun _ _ _ h => h) (Or.inl ⟨by rfl, ?_⟩) (by assumption) ?_
                    rotate_left
                    · intro w' hw'
                      try dsimp only at hw'
                      skip
                      go_simp
                      try with_reducible rfl
                    try simp only [Act.put, List.setIfInBounds_toArray, List.set_cons_zero, List.set_cons_succ]
                    refine wpAnyH_take (i := 5) (v := ?_) (List.getElem?_toArray.trans rfl) (by kernel_rfl) (by kernel_rfl) (by kernel_rfl) (fun _ _ _ h => h) (Or.inl ⟨by rfl, ?_⟩) (by assumption) ?_
                    rotate_left
                    · intro w' hw'
                      try dsimp only at hw'
                      obtain ⟨hh1, hh2⟩ := HS4.out w' hw'
                      go_simp
                      try with_reducible rfl
                    try simp only [Act.put, List.setIfInBounds_toArray, List.set_cons_zero, List.set_cons_succ]
                    refine wpAnyH_take (i := 6) (v := ?_) (List.getElem?_toArray.trans rfl) (by kernel_rfl) (by kernel_rfl) (by kernel_rfl) (fun _ _ _ h => h) (Or.inl ⟨by rfl, ?_⟩) (by assumption) ?_
                    rotate_left
                    · intro w' hw'
                      try dsimp only at hw'
                      skip
                      go_simp
                      try with_reducible rfl
                    try simp only [Act.put, List.setIfInBounds_toArray, List.set_cons_zero, List.set_cons_succ]
                    refine wpAnyH_take (i := 7) (v := ?_) (List.getElem?_toArray.trans rfl) (by kernel_rfl) (by kernel_rfl) (by kernel_rfl) (fun _ _ _ h => h) (Or.inl ⟨by rfl, ?_⟩) (by assumption) ?_
                    rotate_left
                    · intro w' hw'
                      try dsimp only at hw'
                      skip
                      go_simp
                      try with_reducible rfl
                    try simp only [Act.put, List.setIfInBounds_toArray, List.set_cons_zero, List.set_cons_succ]
                    refine wpAnyH_take (i := 8) (v := ?_) (List.getElem?_toArray.trans rfl) (by kernel_rfl) (by kernel_rfl) (by kernel_rfl) (fun _ _ _ h => h) (Or.inl ⟨by rfl, ?_⟩) (by assumption) ?_
                    rotate_left
                    · intro w' hw'
                      try dsimp only at hw'
                      skip
                      go_simp
                      try with_reducible rfl
                    try simp only [Act.put, List.setIfInBounds_toArray, List.set_cons_zero, List.set_cons_succ]
                    refine wpAnyH_take (i := 9) (v := ?_) (List.getElem?_toArray.trans rfl) (by kernel_rfl) (by kernel_rfl) (by kernel_rfl) (fun _ _ _ h => h) (Or.inl ⟨by rfl, ?_⟩) (by assumption) ?_
                    rotate_left
                    · intro w' hw'
                      try dsimp only at hw'
                      obtain ⟨hh1, hh2⟩ := HS4.out w' hw'
                      go_simp
                      try with_reducible rfl
                    try simp only [Act.put, List.setIfInBounds_toArray, List.set_cons_zero, List.set_cons_succ]
                    refine wpAnyH_ready (rs := [3]) (by kernel_rfl) (by simp) ?_
                    refine AllReadyH.cons (List.getElem?_toArray.trans rfl) (fun K hK => ?_) AllReadyH.nil
                    go_simp
                    go_at_call 30
                    refine (store_last _ gs f2 u2 L1 (HA2.out.ext (Touch.drew (Touch.refl _ w11))) HOK1.out.each 1).mono ?_
                    rintro e w12 ⟨rfl, hw12⟩
                    have hx12 : Ext w11 w12 := (Touch.drew (Touch.refl _ w11)).trans (hw12 ▸ Touch.refl _ _)
                    have HX12 := Lib.hid hx12
                    clear hw12
                    refine hK.out _ _ hx12 (fun _ => ?_)
                    clear hK K
                    try simp only [Act.put, List.setIfInBounds_toArray, List.set_cons_zero, List.set_cons_succ]
                    refine wpAnyH_more (S' := fun w' => Ext w12 w') (fun w' h => hx12.trans h) _ _ _ _ ?_
                    clear hx12 hHeld
                    have hHeld : Ext w12 w12 := Touch.refl _ _
                    refine wpAnyH_take (i := 10) (v := ?_) (List.getElem?_toArray.trans rfl) (by kernel_rfl) (by kernel_rfl) (by kernel_rfl) (fun _ _ _ h => h) (Or.inl ⟨by rfl, ?_⟩) (by assumption) ?_
                    rotate_left
                    · intro w' hw'
                      try dsimp only at hw'
                      skip
                      go_simp
                      try with_reducible rfl
                    try simp only [Act.put, List.setIfInBounds_toArray, List.set_cons_zero, List.set_cons_succ]
                    refine wpAnyH_take (i := 11) (v := ?_) (List.getElem?_toArray.trans rfl) (by kernel_rfl) (by kernel_rfl) (by kernel_rfl) (fun _ _ _ h => h) (Or.inl ⟨by rfl, ?_⟩) (by assumption) ?_
                    rotate_left
                    · intro w' hw'
                      try dsimp only at hw'
                      skip
                      go_simp
                      try with_reducible rfl
                    try simp only [Act.put, List.setIfInBounds_toArray, List.set_cons_zero, List.set_cons_succ]
                    refine wpAnyH_take (i := 12) (v := ?_) (List.getElem?_toArray.trans rfl) (by kernel_rfl) (by kernel_rfl) (by kernel_rfl) (fun _ _ _ h => h) (Or.inl ⟨by rfl, ?_⟩) (by assumption) ?_
                    rotate_left
                    · intro w' hw'
                      try dsimp only at hw'
                      skip
                      go_simp
                      try with_reducible rfl
                    try simp only [Act.put, List.setIfInBounds_toArray, List.set_cons_zero, List.set_cons_succ]
                    refine wpAnyH_take (i := 15) (v := ?_) (List.getElem?_toArray.trans rfl) (by kernel_rfl) (by kernel_rfl) (by kernel_rfl) (fun _ _ _ h => h) (Or.inl ⟨by rfl, ?_⟩) (by assumption) ?_
                    rotate_left
                    · intro w' hw'
                      try dsimp only at hw'
                      skip
                      go_simp
                      try with_reducible rfl
                    try simp only [Act.put, List.setIfInBounds_toArray, List.set_cons_zero, List.set_cons_succ]
                    refine wpAnyH_take (i := 16) (v := ?_) (List.getElem?_toArray.trans rfl) (by kernel_rfl) (by kernel_rfl) (by kernel_rfl) (fun _ _ _ h => h) (Or.inl ⟨by rfl, ?_⟩) (by assumption) ?_
                    rotate_left
                    · intro w' hw'
                      try dsimp only at hw'
                      skip
                      go_simp
                      try with_reducible rfl
                    try simp only [Act.put, List.setIfInBounds_toArray, List.set_cons_zero, List.set_cons_succ]
                    refine wpAnyH_ready (rs := [13]) (by kernel_rfl) (by simp) ?_
                    refine AllReadyH.cons (List.getElem?_toArray.trans rfl) (fun K hK => ?_) AllReadyH.nil
                    go_simp
                    go_at_call 23
                    refine (store_log_at _ gs f2 u2 L1 (HA2.out.ext HX12.out) HOK1.out).mono ?_
                    rintro e w13 ⟨A13, c13, rfl, _, hx13, _⟩
                    have HX13 := Lib.hid (HX12.out.trans hx13)
                    refine hK.out _ _ hx13 (fun _ => ?_)
                    clear hK K
                    try simp only [Act.put, List.setIfInBounds_toArray, List.set_cons_zero, List.set_cons_succ]
                    refine wpAnyH_more (S' := fun w' => Ext w13 w') (fun w' h => hx13.trans h) _ _ _ _ ?_
                    clear hx13 hHeld
                    have hHeld : Ext w13 w13 := Touch.refl _ _
                    refine wpAnyH_take (i := 14) (v := ?_) (List.getElem?_toArray.trans rfl) (by kernel_rfl) (by kernel_rfl) (by kernel_rfl) (fun _ _ _ h => h) (Or.inl ⟨by rfl, ?_⟩) (by assumption) ?_
                    rotate_left
                    · intro w' hw'
                      try dsimp only at hw'
                      skip
                      go_simp
                      try with_reducible rfl
                    try simp only [Act.put, List.setIfInBounds_toArray, List.set_cons_zero, List.set_cons_succ]
                    refine wpAnyH_take (i := 17) (v := ?_) (List.getElem?_toArray.trans rfl) (by kernel_rfl) (by kernel_rfl) (by kernel_rfl) (fun _ _ _ h => h) (Or.inl ⟨by rfl, ?_⟩) (by assumption) ?_
                    rotate_left
                    · intro w' hw'
                      try dsimp only at hw'
                      skip
                      go_simp
                      try with_reducible rfl
                    try simp only [Act.put, List.setIfInBounds_toArray, List.set_cons_zero, List.set_cons_succ]
                    refine wpAnyH_take (i := 18) (v := ?_) (List.getElem?_toArray.trans rfl) (by kernel_rfl) (by kernel_rfl) (by kernel_rfl) (fun _ _ _ h => h) (Or.inl ⟨by rfl, ?_⟩) (by assumption) ?_
                    rotate_left
                    · intro w' hw'
                      try dsimp only at hw'
                      skip
                      go_simp
                      try with_reducible rfl
                    try simp only [Act.put, List.setIfInBounds_toArray, List.set_cons_zero, List.set_cons_succ]
                    refine wpAnyH_take (i := 19) (v := ?_) (List.getElem?_toArray.trans rfl) (by kernel_rfl) (by kernel_rfl) (by kernel_rfl) (fun _ _ _ h => h) (Or.inl ⟨by rfl, ?_⟩) (by assumption) ?_
                    rotate_left
                    · intro w' hw'
                      try dsimp only at hw'
                      skip
                      go_simp
                      try with_reducible rfl
                    try simp only [Act.put, List.setIfInBounds_toArray, List.set_cons_zero, List.set_cons_succ]
                    refine wpAnyH_done (by kernel_rfl) ?_ _
                    go_wp2
                    go_ret
                    exact ⟨by first | rfl | simp, HEX.out.trans HX13.out⟩
                  · skip
                    have hca : w11.cell? ⟨bl, 2, none⟩ = some (.int .i64 (lastNo L 2)) := cell_of H11.out.blk 2
                    have HS4 := Lib.hid (show ∀ w', Ext w11 w' → w'.cell? ⟨bx, 1, none⟩ = some (.int .i64 x.client) ∧ w'.cell? ⟨bl, 2, none⟩ = some (.int .i64 (lastNo L 2)) from
                      fun w' hx => ⟨cell_of (hx.blk H11.out.left.left.left.blk id) 1, cell_of (hx.blk H11.out.blk id) 2⟩)
                    obtain ⟨hm1, hm2⟩ := last_mono (refL_cases L x)
                    obtain ⟨L1, hL1⟩ : ∃ L1, refL L x = L1 := ⟨_, rfl⟩
                    obtain ⟨F6, hF6, _⟩ := H11.out.b0
                    rw [hL1] at hF6 hm1 hm2
                    have HOK1 := Lib.hid (refL_ok HOK.out x)
                    rw [hL1] at HOK1
                    obtain ⟨f2, u2, v2, hA2, _⟩ := store_parts hF6
                    have HA2 := Lib.hid hA2
                    rw [hcl] at hm1 HS4
                    have hm3 : ((logBytes L).length : Int) ≤ ((logBytes L1).length : Int) := by omega
                    have hms : ((mkStr (logBytes L)).size : Int) = ((logBytes L).length : Int) := by rw [mkStr_size]
                    have hl1 := HOK1.out.len
                    have HEX := Lib.hid H11.out.ext
                    have hmx : max (0 : Int) (min 2 2) = 2 := by decide
                    have hmi : min (2 : Int) 2 = 2 := by decide
                    have hma : max (0 : Int) 2 = 2 := by decide
                    clear hF6 hA2 hca H11 hL1 hm2
                    go_wp2_with fail
                    refine wp_region_held_drew (S := fun w' => Ext w11 w') (by kernel_rfl) (Touch.drew (Touch.refl _ w11)) (fun hHeld => ?_)
                    refine wpAnyH_take (i := 0) (v := ?_) (List.getElem?_toArray.trans rfl) (by kernel_rfl) (by kernel_rfl) (by kernel_rfl) (fun _ _ _ h => h) (Or.inl ⟨by rfl, ?_⟩) (by assumption) ?_
                    rotate_left
                    · intro w' hw'
                      try dsimp only at hw'
                      skip
                      go_simp
                      try with_reducible rfl
                    try simp only [Act.put, List.setIfInBounds_toArray, List.set_cons_zero, List.set_cons_succ]
                    refine wpAnyH_take (i := 1) (v := ?_) (List.getElem?_toArray.trans rfl) (by kernel_rfl) (by kernel_rfl) (by kernel_rfl) (fun _ _ _ h => h) (Or.inl ⟨by rfl, ?_⟩) (by assumption) ?_
                    rotate_left
                    · intro w' hw'
                      try dsimp only at hw'
                      skip
                      go_simp
                      try with_reducible rfl
                    try simp only [Act.put, List.setIfInBounds_toArray, List.set_cons_zero, List.set_cons_succ]
                    refine wpAnyH_take (i := 2) (v := ?_) (List.getElem?_toArray.trans rfl) (by kernel_rfl) (by kernel_rfl) (by kernel_rfl) (fun _ _ _ h => h) (Or.inl ⟨by rfl, ?_⟩) (by assumption) ?_
                    rotate_left
                    · intro w' hw'
                      try dsimp only at hw'
                      obtain ⟨hh1, hh2⟩ := HS4.out w' hw'
                      go_simp
                      try with_reducible rfl
                    try simp only [Act.put, List.setIfInBounds_toArray, List.set_cons_zero, List.set_cons_succ]
                    refine wpAnyH_take (i := 4) (v := ?_) (List.getElem?_toArray.trans rfl) (by kernel_rfl) (by kernel_rfl) (by kernel_rfl) (fun _ _ _ h => h) (Or.inl ⟨by rfl, ?_⟩) (by assumption) ?_
                    rotate_left
                    · intro w' hw'
                      try dsimp only at hw'
                      skip
                      go_simp
                      try with_reducible rfl
                    try simp only [Act.put, List.setIfInBounds_toArray, List.set_cons_zero, List.set_cons_succ]
                    refine wpAnyH_take (i := 5) (v := ?_) (List.getElem?_toArray.trans rfl) (by kernel_rfl) (by kernel_rfl) (by kernel_rfl) (fun _ _ _ h => h) (Or.inl ⟨by rfl, ?_⟩) (by assumption) ?_
                    rotate_left
                    · intro w' hw'
                      try dsimp only at hw'
                      obtain ⟨hh1, hh2⟩ := HS4.out w' hw'
                      go_simp
                      try with_reducible rfl
                    try simp only [Act.put, List.setIfInBounds_toArray, List.set_cons_zero, List.set_cons_succ]
                    refine wpAnyH_take (i := 6) (v := ?_) (List.getElem?_toArray.trans rfl) (by kernel_rfl) (by kernel_rfl) (by kernel_rfl) (fun _ _ _ h => h) (Or.inl ⟨by rfl, ?_⟩) (by assumption) ?_
                    rotate_left
                    · intro w' hw'
                      try dsimp only at hw'
                      skip
                      go_simp
                      try with_reducible rfl
                    try simp only [Act.put, List.setIfInBounds_toArray, List.set_cons_zero, List.set_cons_succ]
                    refine wpAnyH_take (i := 7) (v := ?_) (List.getElem?_toArray.trans rfl) (by kernel_rfl) (by kernel_rfl) (by kernel_rfl) (fun _ _ _ h => h) (Or.inl ⟨by rfl, ?_⟩) (by assumption) ?_
                    rotate_left
                    · intro w' hw'
                      try dsimp only at hw'
                      skip
                      go_simp
                      try with_reducible rfl
                    try simp only [Act.put, List.setIfInBounds_toArray, List.set_cons_zero, List.set_cons_succ]
                    refine wpAnyH_take (i := 8) (v := ?_) (List.getElem?_toArray.trans rfl) (by kernel_rfl) (by kernel_rfl) (by kernel_rfl) (fun _ _ _ h => h) (Or.inl ⟨by rfl, ?_⟩) (by assumption) ?_
                    rotate_left
                    · intro w' hw'
                      try dsimp only at hw'
                      skip
                      go_simp
                      try with_reducible rfl
                    try simp only [Act.put, List.setIfInBounds_toArray, List.set_cons_zero, List.set_cons_succ]
                    refine wpAnyH_take (i := 9) (v := ?_) (List.getElem?_toArray.trans rfl) (by kernel_rfl) (by kernel_rfl) (by kernel_rfl) (fun _ _ _ h => h) (Or.inl ⟨by rfl, ?_⟩) (by assumption) ?_
                    rotate_left
                    · intro w' hw'
                      try dsimp only at hw'
                      obtain ⟨hh1, hh2⟩ := HS4.out w' hw'
                      go_simp
                      try with_reducible rfl
                    try simp only [Act.put, List.setIfInBounds_toArray, List.set_cons_zero, List.set_cons_succ]
                    refine wpAnyH_ready (rs := [3]) (by kernel_rfl) (by simp) ?_
                    refine AllReadyH.cons (List.getElem?_toArray.trans rfl) (fun K hK => ?_) AllReadyH.nil
                    go_simp
                    go_at_call 30
                    refine (store_last _ gs f2 u2 L1 (HA2.out.ext (Touch.drew (Touch.refl _ w11))) HOK1.out.each 2).mono ?_
                    rintro e w12 ⟨rfl, hw12⟩
                    have hx12 : Ext w11 w12 := (Touch.drew (Touch.refl _ w11)).trans (hw12 ▸ Touch.refl _ _)
                    have HX12 := Lib.hid hx12
                    clear hw12
                    refine hK.out _ _ hx12 (fun _ => ?_)
                    clear hK K
                    try simp only [Act.put, List.setIfInBounds_toArray, List.set_cons_zero, List.set_cons_succ]
                    refine wpAnyH_more (S' := fun w' => Ext w12 w') (fun w' h => hx12.trans h) _ _ _ _ ?_
                    clear hx12 hHeld
                    have hHeld : Ext w12 w12 := Touch.refl _ _
                    refine wpAnyH_take (i := 10) (v := ?_) (List.getElem?_toArray.trans rfl) (by kernel_rfl) (by kernel_rfl) (by kernel_rfl) (fun _ _ _ h => h) (Or.inl ⟨by rfl, ?_⟩) (by assumption) ?_
                    rotate_left
                    · intro w' hw'
                      try dsimp only at hw'
                      skip
                      go_simp
                      try with_reducible rfl
                    try simp only [Act.put, List.setIfInBounds_toArray, List.set_cons_zero, List.set_cons_succ]
                    refine wpAnyH_take (i := 11) (v := ?_) (List.getElem?_toArray.trans rfl) (by kernel_rfl) (by kernel_rfl) (by kernel_rfl) (fun _ _ _ h => h) (Or.inl ⟨by rfl, ?_⟩) (by assumption) ?_
                    rotate_left
                    · intro w' hw'
                      try dsimp only at hw'
                      skip
                      go_simp
                      try with_reducible rfl
                    try simp only [Act.put, List.setIfInBounds_toArray, List.set_cons_zero, List.set_cons_succ]
                    refine wpAnyH_take (i := 12) (v := ?_) (List.getElem?_toArray.trans rfl) (by kernel_rfl) (by kernel_rfl) (by kernel_rfl) (fun _ _ _ h => h) (Or.inl ⟨by rfl, ?_⟩) (by assumption) ?_
                    rotate_left
                    · intro w' hw'
                      try dsimp only at hw'
                      skip
                      go_simp
                      try with_reducible rfl
                    try simp only [Act.put, List.setIfInBounds_toArray, List.set_cons_zero, List.set_cons_succ]
                    refine wpAnyH_take (i := 15) (v := ?_) (List.getElem?_toArray.trans rfl) (by kernel_rfl) (by kernel_rfl) (by kernel_rfl) (fun _ _ _ h => h) (Or.inl ⟨by rfl, ?_⟩) (by assumption) ?_
                    rotate_left
                    · intro w' hw'
                      try dsimp only at hw'
                      skip
                      go_simp
                      try with_reducible rfl
                    try simp only [Act.put, List.setIfInBounds_toArray, List.set_cons_zero, List.set_cons_succ]
                    refine wpAnyH_take (i := 16) (v := ?_) (List.getElem?_toArray.trans rfl) (by kernel_rfl) (by kernel_rfl) (by kernel_rfl) (fun _ _ _ h => h) (Or.inl ⟨by rfl, ?_⟩) (by assumption) ?_
                    rotate_left
                    · intro w' hw'
                      try dsimp only at hw'
                      skip
                      go_simp
                      try with_reducible rfl
                    try simp only [Act.put, List.setIfInBounds_toArray, List.set_cons_zero, List.set_cons_succ]
                    refine wpAnyH_ready (rs := [13]) (by kernel_rfl) (by simp) ?_
                    refine AllReadyH.cons (List.getElem?_toArray.trans rfl) (fun K hK => ?_) AllReadyH.nil
                    go_simp
                    go_at_call 23
                    refine (store_log_at _ gs f2 u2 L1 (HA2.out.ext HX12.out) HOK1.out).mono ?_
                    rintro e w13 ⟨A13, c13, rfl, _, hx13, _⟩
                    have HX13 := Lib.hid (HX12.out.trans hx13)
                    refine hK.out _ _ hx13 (fun _ => ?_)
                    clear hK K
                    try simp only [Act.put, List.setIfInBounds_toArray, List.set_cons_zero, List.set_cons_succ]
                    refine wpAnyH_more (S' := fun w' => Ext w13 w') (fun w' h => hx13.trans h) _ _ _ _ ?_
                    clear hx13 hHeld
                    have hHeld : Ext w13 w13 := Touch.refl _ _
                    refine wpAnyH_take (i := 14) (v := ?_) (List.getElem?_toArray.trans rfl) (by kernel_rfl) (by kernel_rfl) (by kernel_rfl) (fun _ _ _ h => h) (Or.inl ⟨by rfl, ?_⟩) (by assumption) ?_
                    rotate_left
                    · intro w' hw'
                      try dsimp only at hw'
                      skip
                      go_simp
                      try with_reducible rfl
                    try simp only [Act.put, List.setIfInBounds_toArray, List.set_cons_zero, List.set_cons_succ]
                    refine wpAnyH_take (i := 17) (v := ?_) (List.getElem?_toArray.trans rfl) (by kernel_rfl) (by kernel_rfl) (by kernel_rfl) (fun _ _ _ h => h) (Or.inl ⟨by rfl, ?_⟩) (by assumption) ?_
                    rotate_left
                    · intro w' hw'
                      try dsimp only at hw'
                      skip
                      go_simp
                      try with_reducible rfl
                    try simp only [Act.put, List.setIfInBounds_toArray, List.set_cons_zero, List.set_cons_succ]
                    refine wpAnyH_take (i := 18) (v := ?_) (List.getElem?_toArray.trans rfl) (by kernel_rfl) (by kernel_rfl) (by kernel_rfl) (fun _ _ _ h => h) (Or.inl ⟨by rfl, ?_⟩) (by assumption) ?_
                    rotate_left
                    · intro w' hw'
                      try dsimp only at hw'
                      skip
                      go_simp
                      try with_reducible rfl
                    try simp only [Act.put, List.setIfInBounds_toArray, List.set_cons_zero, List.set_cons_succ]
                    refine wpAnyH_take (i := 19) (v := ?_) (List.getElem?_toArray.trans rfl) (by kernel_rfl) (by kernel_rfl) (by kernel_rfl) (fun _ _ _ h => h) (Or.inl ⟨by rfl, ?_⟩) (by assumption) ?_
                    rotate_left
                    · intro w' hw'
                      try dsimp only at hw'
                      skip
                      go_simp
                      try with_reducible rfl
                    try simp only [Act.put, List.setIfInBounds_toArray, List.set_cons_zero, List.set_cons_succ]
                    refine wpAnyH_done (by kernel_rfl) ?_ _
                    go_wp2
                    go_ret
                    exact ⟨by first | rfl | simp, HEX.out.trans HX13.out⟩
                · have HSM := Lib.hid (refL_same (L := L) (x := x) (by by_cases h : (chestCall L x.client x.no x.call).1.2.2 = 0; exact .inr (fun h2 => hz0 ⟨h, h2⟩); exact .inl h))
                  have h11 := H11.out
                  rw [HSM.out] at h11
                  have H12 := Lib.hid h11
                  clear h11 H11
                  have hbx11 := H12.out.left.left.left.blk
                  have hk4 := cell_of hbx11 4
                  by_cases hcd : (chestCall L x.client x.no x.call).1.2.2 = 0
                  · have HK := Lib.hid (show ¬ (1 ≤ x.call.kind ∧ x.call.kind ≤ 4) from fun h => hz0 ⟨hcd, h⟩)
                    have hcd' : ((chestCall L x.client x.no x.call).1.2.2 == 0) = true := by simp [hcd]
                    clear hz0
                    go_wp2_with (first
                      | (go_at_call 32; refine (ref_ischange' _ x.call.kind false (by have := HK.out; simp; omega)).mono ?_; rintro e w12 ⟨rfl, rfl⟩)
                      | fail)
                    clear hbx11 hk4
                    go_loopw [13] (fun i wr => SameRel W bx gs gr bl x.cells L (.slice A9 (fbehind L).length c9) ((fbehind L).map (·.name)) i wr) (fun i _ => 3 - (intOf i).toNat)
                    case atStart => exact ⟨0, rfl, Nat.zero_le _, H12.out⟩
                    case round =>
                      clear H12
                      obtain ⟨k, rfl, hk, hz⟩ := hrel
                      have HZ := Lib.hid hz
                      clear hz
                      by_cases hk3 : k < 3
                      · have hk3' : (k : Int) < 3 := by omega
                        have hcb : wr.cell? ⟨bl, k, none⟩ = some (.int .i64 (lastNo L k)) := (cell_of HZ.out.blk k).trans (nos_get3 hk3)
                        obtain ⟨F5, hF5, _⟩ := (HZ.out.step (Touch.drew (Touch.refl _ wr))).b0
                        have HF5 := Lib.hid hF5
                        have hne : (lastNo L k != lastNo L k) = false := by simp
                        clear hF5
                        go_wp2_with fail
                        go_region_held3 (fun w' => w'.cell? ⟨bl, k, none⟩ = some (.int .i64 (lastNo L k))) (exact hcb)
                          (first
                            | (go_at_call 30; refine (store_last_of _ gs F5 L HF5.out HOK.out k).mono ?_; rintro e w10 ⟨rfl, rfl⟩))
                        go_wp2
                        go_roundw
                        case rel => exact ⟨k + 1, by go_num, by omega, HZ.out.step (Touch.drew (Touch.refl _ wr))⟩
                        case measure => simp [intOf]; omega
                      · obtain rfl : k = 3 := by omega
                        go_wp2_with fail
                        obtain ⟨F6, hF6, _⟩ := HZ.out.b0
                        obtain ⟨f2, u2, v2, hA2, hh2⟩ := store_parts hF6
                        have HA2 := Lib.hid hA2
                        have HH2 := Lib.hid hh2
                        clear hF6 hA2 hh2
                        refine (store_log_at wr gs f2 u2 L HA2.out HOK.out).mono ?_
                        rintro e w14 ⟨A14, c14, rfl, ho14, hx14, _⟩
                        have hcv14 := conv_log ho14
                        have hcg14 : w14.cell? ⟨gs, 0, none⟩ = some (.pointer (some ⟨f2, 0, none⟩)) := (cell_of (hx14.blk HA2.out.cell id) 0).trans (StoreD.get0 _ _ _)
                        have hself : ((mkStr (logBytes L)).toList == (mkStr (logBytes L)).toList) = true := by simp
                        have HX14 := Lib.hid hx14
                        clear ho14 hx14
                        go_wp2_with fail
                        refine (files_names w14 f2 v2 (fbehind L) (HH2.out.ext HX14.out) (by omega)).mono ?_
                        rintro e w15 ⟨A15, c15, rfl, ho15, hx15, _⟩
                        have HO15 := Lib.hid ho15
                        have HX15 := Lib.hid (HX14.out.trans hx15)
                        clear ho15 hx15 hcv14 hcg14
                        go_wp2_with fail
                        refine (texts_yes2 _ _ _ _ _ _ _ _ ((fbehind L).map (·.name)) HO15.out.reads (HZ.out.left.right.owns.ext HX15.out).reads (by simp) (by simp) (by first | omega | (simp; omega))).mono ?_
                        rintro e w16 ⟨rfl, hx16⟩
                        have HX16 := Lib.hid (HZ.out.ext.trans (HX15.out.trans hx16))
                        clear hx16
                        go_wp2
                        go_ret
                        exact ⟨by first | rfl | simp, HX16.out⟩
                  · have hcd' : ((chestCall L x.client x.no x.call).1.2.2 == 0) = false := by simp [hcd]
                    clear hz0
                    go_wp2_with fail
                    clear hbx11 hk4
                    go_loopw [13] (fun i wr => SameRel W bx gs gr bl x.cells L (.slice A9 (fbehind L).length c9) ((fbehind L).map (·.name)) i wr) (fun i _ => 3 - (intOf i).toNat)
                    case atStart => exact ⟨0, rfl, Nat.zero_le _, H12.out⟩
                    case round =>
                      clear H12
                      obtain ⟨k, rfl, hk, hz⟩ := hrel
                      have HZ := Lib.hid hz
                      clear hz
                      by_cases hk3 : k < 3
                      · have hk3' : (k : Int) < 3 := by omega
                        have hcb : wr.cell? ⟨bl, k, none⟩ = some (.int .i64 (lastNo L k)) := (cell_of HZ.out.blk k).trans (nos_get3 hk3)
                        obtain ⟨F5, hF5, _⟩ := (HZ.out.step (Touch.drew (Touch.refl _ wr))).b0
                        have HF5 := Lib.hid hF5
                        have hne : (lastNo L k != lastNo L k) = false := by simp
                        clear hF5
                        go_wp2_with fail
                        go_region_held3 (fun w' => w'.cell? ⟨bl, k, none⟩ = some (.int .i64 (lastNo L k))) (exact hcb)
                          (first
                            | (go_at_call 30; refine (store_last_of _ gs F5 L HF5.out HOK.out k).mono ?_; rintro e w10 ⟨rfl, rfl⟩))
                        go_wp2
                        go_roundw
                        case rel => exact ⟨k + 1, by go_num, by omega, HZ.out.step (Touch.drew (Touch.refl _ wr))⟩
                        case measure => simp [intOf]; omega
                      · obtain rfl : k = 3 := by omega
                        go_wp2_with fail
                        obtain ⟨F6, hF6, _⟩ := HZ.out.b0
                        obtain ⟨f2, u2, v2, hA2, hh2⟩ := store_parts hF6
                        have HA2 := Lib.hid hA2
                        have HH2 := Lib.hid hh2
                        clear hF6 hA2 hh2
                        refine (store_log_at wr gs f2 u2 L HA2.out HOK.out).mono ?_
                        rintro e w14 ⟨A14, c14, rfl, ho14, hx14, _⟩
                        have hcv14 := conv_log ho14
                        have hcg14 : w14.cell? ⟨gs, 0, none⟩ = some (.pointer (some ⟨f2, 0, none⟩)) := (cell_of (hx14.blk HA2.out.cell id) 0).trans (StoreD.get0 _ _ _)
                        have hself : ((mkStr (logBytes L)).toList == (mkStr (logBytes L)).toList) = true := by simp
                        have HX14 := Lib.hid hx14
                        clear ho14 hx14
                        go_wp2_with fail
                        refine (files_names w14 f2 v2 (fbehind L) (HH2.out.ext HX14.out) (by omega)).mono ?_
                        rintro e w15 ⟨A15, c15, rfl, ho15, hx15, _⟩
                        have HO15 := Lib.hid ho15
                        have HX15 := Lib.hid (HX14.out.trans hx15)
                        clear ho15 hx15 hcv14 hcg14
                        go_wp2_with fail
                        refine (texts_yes2 _ _ _ _ _ _ _ _ ((fbehind L).map (·.name)) HO15.out.reads (HZ.out.left.right.owns.ext HX15.out).reads (by simp) (by simp) (by first | omega | (simp; omega))).mono ?_
                        rintro e w16 ⟨rfl, hx16⟩
                        have HX16 := Lib.hid (HZ.out.ext.trans (HX15.out.trans hx16))
                        clear hx16
                        go_wp2
                        go_ret
                        exact ⟨by first | rfl | simp, HX16.out⟩
              · have hd' : (x.do_ == 1) = false := by simp [hd]
                have HRL := Lib.hid (show refL L x = (chestCall L x.client x.no x.call).2 by unfold refL; rw [if_neg hd])
                clear hd
                go_wp2_with fail
                obtain ⟨F7, hF7, hm7⟩ := HZ.out.b0
                refine (store_calls wr gs F7 L x.client x.no x.call hF7 HOK.out HX.out.call).mono ?_
                rintro e w11 ⟨rfl, hq11⟩
                rw [← HRL.out] at hq11
                have H11 := Lib.hid (hm7 _ _ hq11)
                clear hF7 hm7 hq11 HRL hbx10 hc0 hc1 hc2 hc3 HZ
                by_cases hz0 : (chestCall L x.client x.no x.call).1.2.2 = 0 ∧ (1 ≤ x.call.kind ∧ x.call.kind ≤ 4)
                · obtain ⟨hcok, _⟩ := chest_last hz0.1 hz0.2
                  have HK := Lib.hid hz0.2
                  have hcd : (chestCall L x.client x.no x.call).1.2.2 = 0 := hz0.1
                  have hci := hcok.client
                  clear hz0 hcok
                  have hbx11 := H11.out.left.left.left.blk
                  have hk4 := cell_of hbx11 4
                  go_wp2_with (first
                    | (go_at_call 32; refine (ref_ischange' _ x.call.kind true (by have := HK.out; simp; omega)).mono ?_; rintro e w12 ⟨rfl, rfl⟩)
                    | fail)
                  clear hbx11 hk4
                  obtain hcl | hcl | hcl : x.client = 0 ∨ x.client = 1 ∨ x.client = 2 := by omega
                  · skip
                    have hca : w11.cell? ⟨bl, 0, none⟩ = some (.int .i64 (lastNo L 0)) := cell_of H11.out.blk 0
                    have HS4 := Lib.hid (show ∀ w', Ext w11 w' → w'.cell? ⟨bx, 1, none⟩ = some (.int .i64 x.client) ∧ w'.cell? ⟨bl, 0, none⟩ = some (.int .i64 (lastNo L 0)) from
                      fun w' hx => ⟨cell_of (hx.blk H11.out.left.left.left.blk id) 1, cell_of (hx.blk H11.out.blk id) 0⟩)
                    obtain ⟨hm1, hm2⟩ := last_mono (refL_cases L x)
                    obtain ⟨L1, hL1⟩ : ∃ L1, refL L x = L1 := ⟨_, rfl⟩
                    obtain ⟨F6, hF6, _⟩ := H11.out.b0
                    rw [hL1] at hF6 hm1 hm2
                    have HOK1 := Lib.hid (refL_ok HOK.out x)
                    rw [hL1] at HOK1
                    obtain ⟨f2, u2, v2, hA2, _⟩ := store_parts hF6
                    have HA2 := Lib.hid hA2
                    rw [hcl] at hm1 HS4
                    have hm3 : ((logBytes L).length : Int) ≤ ((logBytes L1).length : Int) := by omega
                    have hms : ((mkStr (logBytes L)).size : Int) = ((logBytes L).length : Int) := by rw [mkStr_size]
                    have hl1 := HOK1.out.len
                    have HEX := Lib.hid H11.out.ext
                    have hmx : max (0 : Int) (min 0 2) = 0 := by decide
                    have hmi : min (0 : Int) 2 = 0 := by decide
                    have hma : max (0 : Int) 0 = 0 := by decide
                    clear hF6 hA2 hca H11 hL1 hm2
                    go_wp2_with fail
                    refine wp_region_held_drew (S := fun w' => Ext w11 w') (by kernel_rfl) (Touch.drew (Touch.refl _ w11)) (fun hHeld => ?_)
                    refine wpAnyH_take (i := 0) (v := ?_) (List.getElem?_toArray.trans rfl) (by kernel_rfl) (by kernel_rfl) (by kernel_rfl) (fun _ _ _ h => h) (Or.inl ⟨by rfl, ?_⟩) (by assumption) ?_
                    rotate_left
                    · intro w' hw'
                      try dsimp only at hw'
                      skip
                      go_simp
                      try with_reducible rfl
                    try simp only [Act.put, List.setIfInBounds_toArray, List.set_cons_zero, List.set_cons_succ]
                    refine wpAnyH_take (i := 1) (v := ?_) (List.getElem?_toArray.trans rfl) (by kernel_rfl) (by kernel_rfl) (by kernel_rfl) (fun _ _ _ h => h) (Or.inl ⟨by rfl, ?_⟩) (by assumption) ?_
                    rotate_left
                    · intro w' hw'
                      try dsimp only at hw'
                      skip
                      go_simp
                      try with_reducible rfl
                    try simp only [Act.put, List.setIfInBounds_toArray, List.set_cons_zero, List.set_cons_succ]
                    refine wpAnyH_take (i := 2) (v := ?_) (List.getElem?_toArray.trans rfl) (by kernel_rfl) (by kernel_rfl) (by kernel_rfl) (fun _ _ _ h => h) (Or.inl ⟨by rfl, ?_⟩) (by assumption) ?_
                    rotate_left
                    · intro w' hw'
                      try dsimp only at hw'
                      obtain ⟨hh1, hh2⟩ := HS4.out w' hw'
                      go_simp
                      try with_reducible rfl
                    try simp only [Act.put, List.setIfInBounds_toArray, List.set_cons_zero, List.set_cons_succ]
                    refine wpAnyH_take (i := 4) (v := ?_) (List.getElem?_toArray.trans rfl) (by kernel_rfl) (by kernel_rfl) (by kernel_rfl) (fun _ _ _ h => h) (Or.inl ⟨by rfl, ?_⟩) (by assumption) ?_
                    rotate_left
                    · intro w' hw'
                      try dsimp only at hw'
                      skip
                      go_simp
                      try with_reducible rfl
                    try simp only [Act.put, List.setIfInBounds_toArray, List.set_cons_zero, List.set_cons_succ]
                    refine wpAnyH_take (i := 5) (v := ?_) (List.getElem?_toArray.trans rfl) (by kernel_rfl) (by kernel_rfl) (by kernel_rfl) (fun _ _ _ h => h) (Or.inl ⟨by rfl, ?_⟩) (by assumption) ?_
                    rotate_left
                    · intro w' hw'
                      try dsimp only at hw'
                      obtain ⟨hh1, hh2⟩ := HS4.out w' hw'
                      go_simp
                      try with_reducible rfl
                    try simp only [Act.put, List.setIfInBounds_toArray, List.set_cons_zero, List.set_cons_succ]
                    refine wpAnyH_take (i := 6) (v := ?_) (List.getElem?_toArray.trans rfl) (by kernel_rfl) (by kernel_rfl) (by kernel_rfl) (fun _ _ _ h => h) (Or.inl ⟨by rfl, ?_⟩) (by assumption) ?_
                    rotate_left
                    · intro w' hw'
                      try dsimp only at hw'
                      skip
                      go_simp
                      try with_reducible rfl
                    try simp only [Act.put, List.setIfInBounds_toArray, List.set_cons_zero, List.set_cons_succ]
                    refine wpAnyH_take (i := 7) (v := ?_) (List.getElem?_toArray.trans rfl) (by kernel_rfl) (by kernel_rfl) (by kernel_rfl) (fun _ _ _ h => h) (Or.inl ⟨by rfl, ?_⟩) (by assumption) ?_
                    rotate_left
                    · intro w' hw'
                      try dsimp only at hw'
                      skip
                      go_simp
                      try with_reducible rfl
                    try simp only [Act.put, List.setIfInBounds_toArray, List.set_cons_zero, List.set_cons_succ]
                    refine wpAnyH_take (i := 8) (v := ?_) (List.getElem?_toArray.trans rfl) (by kernel_rfl) (by kernel_rfl) (by kernel_rfl) (fun _ _ _ h => h) (Or.inl ⟨by rfl, ?_⟩) (by assumption) ?_
                    rotate_left
                    · intro w' hw'
                      try dsimp only at hw'
                      skip
                      go_simp
                      try with_reducible rfl
                    try simp only [Act.put, List.setIfInBounds_toArray, List.set_cons_zero, List.set_cons_succ]
                    refine wpAnyH_take (i := 9) (v := ?_) (List.getElem?_toArray.trans rfl) (by kernel_rfl) (by kernel_rfl) (by kernel_rfl) (fun _ _ _ h => h) (Or.inl ⟨by rfl, ?_⟩) (by assumption) ?_
                    rotate_left
                    · intro w' hw'
                      try dsimp only at hw'
                      obtain ⟨hh1, hh2⟩ := HS4.out w' hw'
                      go_simp
                      try with_reducible rfl
                    try simp only [Act.put, List.setIfInBounds_toArray, List.set_cons_zero, List.set_cons_succ]
                    refine wpAnyH_ready (rs := [3]) (by kernel_rfl) (by simp) ?_
                    refine AllReadyH.cons (List.getElem?_toArray.trans rfl) (fun K hK => ?_) AllReadyH.nil
                    go_simp
                    go_at_call 30
                    refine (store_last _ gs f2 u2 L1 (HA2.out.ext (Touch.drew (Touch.refl _ w11))) HOK1.out.each 0).mono ?_
                    rintro e w12 ⟨rfl, hw12⟩
                    have hx12 : Ext w11 w12 := (Touch.drew (Touch.refl _ w11)).trans (hw12 ▸ Touch.refl _ _)
                    have HX12 := Lib.hid hx12
                    clear hw12
                    refine hK.out _ _ hx12 (fun _ => ?_)
                    clear hK K
                    try simp only [Act.put, List.setIfInBounds_toArray, List.set_cons_zero, List.set_cons_succ]
                    refine wpAnyH_more (S' := fun w' => Ext w12 w') (fun w' h => hx12.trans h) _ _ _ _ ?_
                    clear hx12 hHeld
                    have hHeld : Ext w12 w12 := Touch.refl _ _
                    refine wpAnyH_take (i := 10) (v := ?_) (List.getElem?_toArray.trans rfl) (by kernel_rfl) (by kernel_rfl) (by kernel_rfl) (fun _ _ _ h => h) (Or.inl ⟨by rfl, ?_⟩) (by assumption) ?_
                    rotate_left
                    · intro w' hw'
                      try dsimp only at hw'
                      skip
                      go_simp
                      try with_reducible rfl
                    try simp only [Act.put, List.setIfInBounds_toArray, List.set_cons_zero, List.set_cons_succ]
                    refine wpAnyH_take (i := 11) (v := ?_) (List.getElem?_toArray.trans rfl) (by kernel_rfl) (by kernel_rfl) (by kernel_rfl) (fun _ _ _ h => h) (Or.inl ⟨by rfl, ?_⟩) (by assumption) ?_
                    rotate_left
                    · intro w' hw'
                      try dsimp only at hw'
                      skip
                      go_simp
                      try with_reducible rfl
                    try simp only [Act.put, List.setIfInBounds_toArray, List.set_cons_zero, List.set_cons_succ]
                    refine wpAnyH_take (i := 12) (v := ?_) (List.getElem?_toArray.trans rfl) (by kernel_rfl) (by kernel_rfl) (by kernel_rfl) (fun _ _ _ h => h) (Or.inl ⟨by rfl, ?_⟩) (by assumption) ?_
                    rotate_left
                    · intro w' hw'
                      try dsimp only at hw'
                      skip
                      go_simp
                      try with_reducible rfl
                    try simp only [Act.put, List.setIfInBounds_toArray, List.set_cons_zero, List.set_cons_succ]
                    refine wpAnyH_take (i := 15) (v := ?_) (List.getElem?_toArray.trans rfl) (by kernel_rfl) (by kernel_rfl) (by kernel_rfl) (fun _ _ _ h => h) (Or.inl ⟨by rfl, ?_⟩) (by assumption) ?_
                    rotate_left
                    · intro w' hw'
                      try dsimp only at hw'
                      skip
                      go_simp
                      try with_reducible rfl
                    try simp only [Act.put, List.setIfInBounds_toArray, List.set_cons_zero, List.set_cons_succ]
                    refine wpAnyH_take (i := 16) (v := ?_) (List.getElem?_toArray.trans rfl) (by kernel_rfl) (by kernel_rfl) (by kernel_rfl) (fun _ _ _ h => h) (Or.inl ⟨by rfl, ?_⟩) (by assumption) ?_
                    rotate_left
                    · intro w' hw'
                      try dsimp only at hw'
                      skip
                      go_simp
                      try with_reducible rfl
                    try simp only [Act.put, List.setIfInBounds_toArray, List.set_cons_zero, List.set_cons_succ]
                    refine wpAnyH_ready (rs := [13]) (by kernel_rfl) (by simp) ?_
                    refine AllReadyH.cons (List.getElem?_toArray.trans rfl) (fun K hK => ?_) AllReadyH.nil
                    go_simp
                    go_at_call 23
                    refine (store_log_at _ gs f2 u2 L1 (HA2.out.ext HX12.out) HOK1.out).mono ?_
                    rintro e w13 ⟨A13, c13, rfl, _, hx13, _⟩
                    have HX13 := Lib.hid (HX12.out.trans hx13)
                    refine hK.out _ _ hx13 (fun _ => ?_)
                    clear hK K
                    try simp only [Act.put, List.setIfInBounds_toArray, List.set_cons_zero, List.set_cons_succ]
                    refine wpAnyH_more (S' := fun w' => Ext w13 w') (fun w' h => hx13.trans h) _ _ _ _ ?_
                    clear hx13 hHeld
                    have hHeld : Ext w13 w13 := Touch.refl _ _
                    refine wpAnyH_take (i := 14) (v := ?_) (List.getElem?_toArray.trans rfl) (by kernel_rfl) (by kernel_rfl) (by kernel_rfl) (fun _ _ _ h => h) (Or.inl ⟨by rfl, ?_⟩) (by assumption) ?_
                    rotate_left
                    · intro w' hw'
                      try dsimp only at hw'
                      skip
                      go_simp
                      try with_reducible rfl
                    try simp only [Act.put, List.setIfInBounds_toArray, List.set_cons_zero, List.set_cons_succ]
                    refine wpAnyH_take (i := 17) (v := ?_) (List.getElem?_toArray.trans rfl) (by kernel_rfl) (by kernel_rfl) (by kernel_rfl) (fun _ _ _ h => h) (Or.inl ⟨by rfl, ?_⟩) (by assumption) ?_
                    rotate_left
                    · intro w' hw'
                      try dsimp only at hw'
                      skip
                      go_simp
                      try with_reducible rfl
                    try simp only [Act.put, List.setIfInBounds_toArray, List.set_cons_zero, List.set_cons_succ]
                    refine wpAnyH_take (i := 18) (v := ?_) (List.getElem?_toArray.trans rfl) (by kernel_rfl) (by kernel_rfl) (by kernel_rfl) (fun _ _ _ h => h) (Or.inl ⟨by rfl, ?_⟩) (by assumption) ?_
                    rotate_left
                    · intro w' hw'
                      try dsimp only at hw'
                      skip
                      go_simp
                      try with_reducible rfl
                    try simp only [Act.put, List.setIfInBounds_toArray, List.set_cons_zero, List.set_cons_succ]
                    refine wpAnyH_take (i := 19) (v := ?_) (List.getElem?_toArray.trans rfl) (by kernel_rfl) (by kernel_rfl) (by kernel_rfl) (fun _ _ _ h => h) (Or.inl ⟨by rfl, ?_⟩) (by assumption) ?_
                    rotate_left
                    · intro w' hw'
                      try dsimp only at hw'
                      skip
                      go_simp
                      try with_reducible rfl
                    try simp only [Act.put, List.setIfInBounds_toArray, List.set_cons_zero, List.set_cons_succ]
                    refine wpAnyH_done (by kernel_rfl) ?_ _
                    go_wp2
                    go_ret
                    exact ⟨by first | rfl | simp, HEX.out.trans HX13.out⟩
                  · skip
                    have hca : w11.cell? ⟨bl, 1, none⟩ = some (.int .i64 (lastNo L 1)) := cell_of H11.out.blk 1
                    have HS4 := Lib.hid (show ∀ w', Ext w11 w' → w'.cell? ⟨bx, 1, none⟩ = some (.int .i64 x.client) ∧ w'.cell? ⟨bl, 1, none⟩ = some (.int .i64 (lastNo L 1)) from
                      fun w' hx => ⟨cell_of (hx.blk H11.out.left.left.left.blk id) 1, cell_of (hx.blk H11.out.blk id) 1⟩)
                    obtain ⟨hm1, hm2⟩ := last_mono (refL_cases L x)
                    obtain ⟨L1, hL1⟩ : ∃ L1, refL L x = L1 := ⟨_, rfl⟩
                    obtain ⟨F6, hF6, _⟩ := H11.out.b0
                    rw [hL1] at hF6 hm1 hm2
                    have HOK1 := Lib.hid (refL_ok HOK.out x)
                    rw [hL1] at HOK1
                    obtain ⟨f2, u2, v2, hA2, _⟩ := store_parts hF6
                    have HA2 := Lib.hid hA2
                    rw [hcl] at hm1 HS4
                    have hm3 : ((logBytes L).length : Int) ≤ ((logBytes L1).length : Int) := by omega
                    have hms : ((mkStr (logBytes L)).size : Int) = ((logBytes L).length : Int) := by rw [mkStr_size]
                    have hl1 := HOK1.out.len
                    have HEX := Lib.hid H11.out.ext
                    have hmx : max (0 : Int) (min 1 2) = 1 := by decide
                    have hmi : min (1 : Int) 2 = 1 := by decide
                    have hma : max (0 : Int) 1 = 1 := by decide
                    clear hF6 hA2 hca H11 hL1 hm2
                    go_wp2_with fail
                    refine wp_region_held_drew (S := fun w' => Ext w11 w') (by kernel_rfl) (Touch.drew (Touch.refl _ w11)) (fun hHeld => ?_)
                    refine wpAnyH_take (i := 0) (v := ?_) (List.getElem?_toArray.trans rfl) (by kernel_rfl) (by kernel_rfl) (by kernel_rfl) (fun _ _ _ h => h) (Or.inl ⟨by rfl, ?_⟩) (by assumption) ?_
                    rotate_left
                    · intro w' hw'
                      try dsimp only at hw'
                      skip
                      go_simp
                      try with_reducible rfl
                    try simp only [Act.put, List.setIfInBounds_toArray, List.set_cons_zero, List.set_cons_succ]
                    refine wpAnyH_take (i := 1) (v := ?_) (List.getElem?_toArray.trans rfl) (by kernel_rfl) (by kernel_rfl) (by kernel_rfl) (fun _ _ _ h => h) (Or.inl ⟨by rfl, ?_⟩) (by assumption) ?_
                    rotate_left
                    · intro w' hw'
                      try dsimp only at hw'
                      skip
                      go_simp
                      try with_reducible rfl
                    try simp only [Act.put, List.setIfInBounds_toArray, List.set_cons_zero, List.set_cons_succ]
                    refine wpAnyH_take (i := 2) (v := ?_) (List.getElem?_toArray.trans rfl) (by kernel_rfl) (by kernel_rfl) (by kernel_rfl) (fun _ _ _ h => h) (Or.inl ⟨by rfl, ?_⟩) (by assumption) ?_
                    rotate_left
                    · intro w' hw'
                      try dsimp only at hw'
                      obtain ⟨hh1, hh2⟩ := HS4.out w' hw'
                      go_simp
                      try with_reducible rfl
                    try simp only [Act.put, List.setIfInBounds_toArray, List.set_cons_zero, List.set_cons_succ]
                    refine wpAnyH_take (i := 4) (v := ?_) (List.getElem?_toArray.trans rfl) (by kernel_rfl) (by kernel_rfl) (by kernel_rfl) (fun _ _ _ h => h) (Or.inl ⟨by rfl, ?_⟩) (by assumption) ?_
                    rotate_left
                    · intro w' hw'
                      try dsimp only at hw'
                      skip
                      go_simp
                      try with_reducible rfl
                    try simp only [Act.put, List.setIfInBounds_toArray, List.set_cons_zero, List.set_cons_succ]
                    refine wpAnyH_take (i := 5) (v := ?_) (List.getElem?_toArray.trans rfl) (by kernel_rfl) (by kernel_rfl) (by kernel_rfl) (fun _ _ _ h => h) (Or.inl ⟨by rfl, ?_⟩) (by assumption) ?_
                    rotate_left
                    · intro w' hw'
                      try dsimp only at hw'
                      obtain ⟨hh1, hh2⟩ := HS4.out w' hw'
                      go_simp
                      try with_reducible rfl
                    try simp only [Act.put, List.setIfInBounds_toArray, List.set_cons_zero, List.set_cons_succ]
                    refine wpAnyH_take (i := 6) (v := ?_) (List.getElem?_toArray.trans rfl) (by kernel_rfl) (by kernel_rfl) (by kernel_rfl) (fun _ _ _ h => h) (Or.inl ⟨by rfl, ?_⟩) (by assumption) ?_
                    rotate_left
                    · intro w' hw'
                      try dsimp only at hw'
                      skip
                      go_simp
                      try with_reducible rfl
                    try simp only [Act.put, List.setIfInBounds_toArray, List.set_cons_zero, List.set_cons_succ]
                    refine wpAnyH_take (i := 7) (v := ?_) (List.getElem?_toArray.trans rfl) (by kernel_rfl) (by kernel_rfl) (by kernel_rfl) (fun _ _ _ h => h) (Or.inl ⟨by rfl, ?_⟩) (by assumption) ?_
                    rotate_left
                    · intro w' hw'
                      try dsimp only at hw'
                      skip
                      go_simp
                      try with_reducible rfl
                    try simp only [Act.put, List.setIfInBounds_toArray, List.set_cons_zero, List.set_cons_succ]
                    refine wpAnyH_take (i := 8) (v := ?_) (List.getElem?_toArray.trans rfl) (by kernel_rfl) (by kernel_rfl) (by kernel_rfl) (fun _ _ _ h => h) (Or.inl ⟨by rfl, ?_⟩) (by assumption) ?_
                    rotate_left
                    · intro w' hw'
                      try dsimp only at hw'
                      skip
                      go_simp
                      try with_reducible rfl
                    try simp only [Act.put, List.setIfInBounds_toArray, List.set_cons_zero, List.set_cons_succ]
                    refine wpAnyH_take (i := 9) (v := ?_) (List.getElem?_toArray.trans rfl) (by kernel_rfl) (by kernel_rfl) (by kernel_rfl) (fun _ _ _ h => h) (Or.inl ⟨by rfl, ?_⟩) (by assumption) ?_
                    rotate_left
                    · intro w' hw'
                      try dsimp only at hw'
                      obtain ⟨hh1, hh2⟩ := HS4.out w' hw'
                      go_simp
                      try with_reducible rfl
                    try simp only [Act.put, List.setIfInBounds_toArray, List.set_cons_zero, List.set_cons_succ]
                    refine wpAnyH_ready (rs := [3]) (by kernel_rfl) (by simp) ?_
                    refine AllReadyH.cons (List.getElem?_toArray.trans rfl) (fun K hK => ?_) AllReadyH.nil
                    go_simp
                    go_at_call 30
                    refine (store_last _ gs f2 u2 L1 (HA2.out.ext (Touch.drew (Touch.refl _ w11))) HOK1.out.each 1).mono ?_
                    rintro e w12 ⟨rfl, hw12⟩
                    have hx12 : Ext w11 w12 := (Touch.drew (Touch.refl _ w11)).trans (hw12 ▸ Touch.refl _ _)
                    have HX12 := Lib.hid hx12
                    clear hw12
                    refine hK.out _ _ hx12 (fun _ => ?_)
                    clear hK K
                    try simp only [Act.put, List.setIfInBounds_toArray, List.set_cons_zero, List.set_cons_succ]
                    refine wpAnyH_more (S' := fun w' => Ext w12 w') (fun w' h => hx12.trans h) _ _ _ _ ?_
                    clear hx12 hHeld
                    have hHeld : Ext w12 w12 := Touch.refl _ _
                    refine wpAnyH_take (i := 10) (v := ?_) (List.getElem?_toArray.trans rfl) (by kernel_rfl) (by kernel_rfl) (by kernel_rfl) (fun _ _ _ h => h) (Or.inl ⟨by rfl, ?_⟩) (by assumption) ?_
                    rotate_left
                    · intro w' hw'
                      try dsimp only at hw'
                      skip
                      go_simp
                      try with_reducible rfl
                    try simp only [Act.put, List.setIfInBounds_toArray, List.set_cons_zero, List.set_cons_succ]
                    refine wpAnyH_take (i := 11) (v := ?_) (List.getElem?_toArray.trans rfl) (by kernel_rfl) (by kernel_rfl) (by kernel_rfl) (fun _ _ _ h => h) (Or.inl ⟨by rfl, ?_⟩) (by assumption) ?_
                    rotate_left
                    · intro w' hw'
                      try dsimp only at hw'
                      skip
                      go_simp
                      try with_reducible rfl
                    try simp only [Act.put, List.setIfInBounds_toArray, List.set_cons_zero, List.set_cons_succ]
                    refine wpAnyH_take (i := 12) (v := ?_) (List.getElem?_toArray.trans rfl) (by kernel_rfl) (by kernel_rfl) (by kernel_rfl) (fun _ _ _ h => h) (Or.inl ⟨by rfl, ?_⟩) (by assumption) ?_
                    rotate_left
                    · intro w' hw'
                      try dsimp only at hw'
                      skip
                      go_simp
                      try with_reducible rfl
                    try simp only [Act.put, List.setIfInBounds_toArray, List.set_cons_zero, List.set_cons_succ]
                    refine wpAnyH_take (i := 15) (v := ?_) (List.getElem?_toArray.trans rfl) (by kernel_rfl) (by kernel_rfl) (by kernel_rfl) (fun _ _ _ h => h) (Or.inl ⟨by rfl, ?_⟩) (by assumption) ?_
                    rotate_left
                    · intro w' hw'
                      try dsimp only at hw'
                      skip
                      go_simp
                      try with_reducible rfl
                    try simp only [Act.put, List.setIfInBounds_toArray, List.set_cons_zero, List.set_cons_succ]
                    refine wpAnyH_take (i := 16) (v := ?_) (List.getElem?_toArray.trans rfl) (by kernel_rfl) (by kernel_rfl) (by kernel_rfl) (fun _ _ _ h => h) (Or.inl ⟨by rfl, ?_⟩) (by assumption) ?_
                    rotate_left
                    · intro w' hw'
                      try dsimp only at hw'
                      skip
                      go_simp
                      try with_reducible rfl
                    try simp only [Act.put, List.setIfInBounds_toArray, List.set_cons_zero, List.set_cons_succ]
                    refine wpAnyH_ready (rs := [13]) (by kernel_rfl) (by simp) ?_
                    refine AllReadyH.cons (List.getElem?_toArray.trans rfl) (fun K hK => ?_) AllReadyH.nil
                    go_simp
                    go_at_call 23
                    refine (store_log_at _ gs f2 u2 L1 (HA2.out.ext HX12.out) HOK1.out).mono ?_
                    rintro e w13 ⟨A13, c13, rfl, _, hx13, _⟩
                    have HX13 := Lib.hid (HX12.out.trans hx13)
                    refine hK.out _ _ hx13 (fun _ => ?_)
                    clear hK K
                    try simp only [Act.put, List.setIfInBounds_toArray, List.set_cons_zero, List.set_cons_succ]
                    refine wpAnyH_more (S' := fun w' => Ext w13 w') (fun w' h => hx13.trans h) _ _ _ _ ?_
                    clear hx13 hHeld
                    have hHeld : Ext w13 w13 := Touch.refl _ _
                    refine wpAnyH_take (i := 14) (v := ?_) (List.getElem?_toArray.trans rfl) (by kernel_rfl) (by kernel_rfl) (by kernel_rfl) (fun _ _ _ h => h) (Or.inl ⟨by rfl, ?_⟩) (by assumption) ?_
                    rotate_left
                    · intro w' hw'
                      try dsimp only at hw'
                      skip
                      go_simp
                      try with_reducible rfl
                    try simp only [Act.put, List.setIfInBounds_toArray, List.set_cons_zero, List.set_cons_succ]
                    refine wpAnyH_take (i := 17) (v := ?_) (List.getElem?_toArray.trans rfl) (by kernel_rfl) (by kernel_rfl) (by kernel_rfl) (fun _ _ _ h => h) (Or.inl ⟨by rfl, ?_⟩) (by assumption) ?_
                    rotate_left
                    · intro w' hw'
                      try dsimp only at hw'
                      skip
                      go_simp
                      try with_reducible rfl
                    try simp only [Act.put, List.setIfInBounds_toArray, List.set_cons_zero, List.set_cons_succ]
                    refine wpAnyH_take (i := 18) (v := ?_) (List.getElem?_toArray.trans rfl) (by kernel_rfl) (by kernel_rfl) (by kernel_rfl) (fun _ _ _ h => h) (Or.inl ⟨by rfl, ?_⟩) (by assumption) ?_
                    rotate_left
                    · intro w' hw'
                      try dsimp only at hw'
                      skip
                      go_simp
                      try with_reducible rfl
                    try simp only [Act.put, List.setIfInBounds_toArray, List.set_cons_zero, List.set_cons_succ]
                    refine wpAnyH_take (i := 19) (v := ?_) (List.getElem?_toArray.trans rfl) (by kernel_rfl) (by kernel_rfl) (by kernel_rfl) (fun _ _ _ h => h) (Or.inl ⟨by rfl, ?_⟩) (by assumption) ?_
                    rotate_left
                    · intro w' hw'
                      try dsimp only at hw'
                      skip
                      go_simp
                      try with_reducible rfl
                    try simp only [Act.put, List.setIfInBounds_toArray, List.set_cons_zero, List.set_cons_succ]
                    refine wpAnyH_done (by kernel_rfl) ?_ _
                    go_wp2
                    go_ret
                    exact ⟨by first | rfl | simp, HEX.out.trans HX13.out⟩
                  · skip
                    have hca : w11.cell? ⟨bl, 2, none⟩ = some (.int .i64 (lastNo L 2)) := cell_of H11.out.blk 2
                    have HS4 := Lib.hid (show ∀ w', Ext w11 w' → w'.cell? ⟨bx, 1, none⟩ = some (.int .i64 x.client) ∧ w'.cell? ⟨bl, 2, none⟩ = some (.int .i64 (lastNo L 2)) from
                      fun w' hx => ⟨cell_of (hx.blk H11.out.left.left.left.blk id) 1, cell_of (hx.blk H11.out.blk id) 2⟩)
                    obtain ⟨hm1, hm2⟩ := last_mono (refL_cases L x)
                    obtain ⟨L1, hL1⟩ : ∃ L1, refL L x = L1 := ⟨_, rfl⟩
                    obtain ⟨F6, hF6, _⟩ := H11.out.b0
                    rw [hL1] at hF6 hm1 hm2
                    have HOK1 := Lib.hid (refL_ok HOK.out x)
                    rw [hL1] at HOK1
                    obtain ⟨f2, u2, v2, hA2, _⟩ := store_parts hF6
                    have HA2 := Lib.hid hA2
                    rw [hcl] at hm1 HS4
                    have hm3 : ((logBytes L).length : Int) ≤ ((logBytes L1).length : Int) := by omega
                    have hms : ((mkStr (logBytes L)).size : Int) = ((logBytes L).length : Int) := by rw [mkStr_size]
                    have hl1 := HOK1.out.len
                    have HEX := Lib.hid H11.out.ext
                    have hmx : max (0 : Int) (min 2 2) = 2 := by decide
                    have hmi : min (2 : Int) 2 = 2 := by decide
                    have hma : max (0 : Int) 2 = 2 := by decide
                    clear hF6 hA2 hca H11 hL1 hm2
                    go_wp2_with fail
                    refine wp_region_held_drew (S := fun w' => Ext w11 w') (by kernel_rfl) (Touch.drew (Touch.refl _ w11)) (fun hHeld => ?_)
                    refine wpAnyH_take (i := 0) (v := ?_) (List.getElem?_toArray.trans rfl) (by kernel_rfl) (by kernel_rfl) (by kernel_rfl) (fun _ _ _ h => h) (Or.inl ⟨by rfl, ?_⟩) (by assumption) ?_
                    rotate_left
                    · intro w' hw'
                      try dsimp only at hw'
                      skip
                      go_simp
                      try with_reducible rfl
                    try simp only [Act.put, List.setIfInBounds_toArray, List.set_cons_zero, List.set_cons_succ]
                    refine wpAnyH_take (i := 1) (v := ?_) (List.getElem?_toArray.trans rfl) (by kernel_rfl) (by kernel_rfl) (by kernel_rfl) (fun _ _ _ h => h) (Or.inl ⟨by rfl, ?_⟩) (by assumption) ?_
                    rotate_left
                    · intro w' hw'
                      try dsimp only at hw'
                      skip
                      go_simp
                      try with_reducible rfl
                    try simp only [Act.put, List.setIfInBounds_toArray, List.set_cons_zero, List.set_cons_succ]
                    refine wpAnyH_take (i := 2) (v := ?_) (List.getElem?_toArray.trans rfl) (by kernel_rfl) (by kernel_rfl) (by kernel_rfl) (fun _ _ _ h => h) (Or.inl ⟨by rfl, ?_⟩) (by assumption) ?_
                    rotate_left
                    · intro w' hw'
                      try dsimp only at hw'
                      obtain ⟨hh1, hh2⟩ := HS4.out w' hw'
                      go_simp
                      try with_reducible rfl
                    try simp only [Act.put, List.setIfInBounds_toArray, List.set_cons_zero, List.set_cons_succ]
                    refine wpAnyH_take (i := 4) (v := ?_) (List.getElem?_toArray.trans rfl) (by kernel_rfl) (by kernel_rfl) (by kernel_rfl) (fun _ _ _ h => h) (Or.inl ⟨by rfl, ?_⟩) (by assumption) ?_
                    rotate_left
                    · intro w' hw'
                      try dsimp only at hw'
                      skip
                      go_simp
                      try with_reducible rfl
                    try simp only [Act.put, List.setIfInBounds_toArray, List.set_cons_zero, List.set_cons_succ]
                    refine wpAnyH_take (i := 5) (v := ?_) (List.getElem?_toArray.trans rfl) (by kernel_rfl) (by kernel_rfl) (by kernel_rfl) (fun _ _ _ h => h) (Or.inl ⟨by rfl, ?_⟩) (by assumption) ?_
                    rotate_left
                    · intro w' hw'
                      try dsimp only at hw'
                      obtain ⟨hh1, hh2⟩ := HS4.out w' hw'
                      go_simp
                      try with_reducible rfl
                    try simp only [Act.put, List.setIfInBounds_toArray, List.set_cons_zero, List.set_cons_succ]
                    refine wpAnyH_take (i := 6) (v := ?_) (List.getElem?_toArray.trans rfl) (by kernel_rfl) (by kernel_rfl) (by kernel_rfl) (fun _ _ _ h => h) (Or.inl ⟨by rfl, ?_⟩) (by assumption) ?_
                    rotate_left
                    · intro w' hw'
                      try dsimp only at hw'
                      skip
                      go_simp
                      try with_reducible rfl
                    try simp only [Act.put, List.setIfInBounds_toArray, List.set_cons_zero, List.set_cons_succ]
                    refine wpAnyH_take (i := 7) (v := ?_) (List.getElem?_toArray.trans rfl) (by kernel_rfl) (by kernel_rfl) (by kernel_rfl) (fun _ _ _ h => h) (Or.inl ⟨by rfl, ?_⟩) (by assumption) ?_
                    rotate_left
                    · intro w' hw'
                      try dsimp only at hw'
                      skip
                      go_simp
                      try with_reducible rfl
                    try simp only [Act.put, List.setIfInBounds_toArray, List.set_cons_zero, List.set_cons_succ]
                    refine wpAnyH_take (i := 8) (v := ?_) (List.getElem?_toArray.trans rfl) (by kernel_rfl) (by kernel_rfl) (by kernel_rfl) (fun _ _ _ h => h) (Or.inl ⟨by rfl, ?_⟩) (by assumption) ?_
                    rotate_left
                    · intro w' hw'
                      try dsimp only at hw'
                      skip
                      go_simp
                      try with_reducible rfl
                    try simp only [Act.put, List.setIfInBounds_toArray, List.set_cons_zero, List.set_cons_succ]
                    refine wpAnyH_take (i := 9) (v := ?_) (List.getElem?_toArray.trans rfl) (by kernel_rfl) (by kernel_rfl) (by kernel_rfl) (fun _ _ _ h => h) (Or.inl ⟨by rfl, ?_⟩) (by assumption) ?_
                    rotate_left
                    · intro w' hw'
                      try dsimp only at hw'
                      obtain ⟨hh1, hh2⟩ := HS4.out w' hw'
                      go_simp
                      try with_reducible rfl
                    try simp only [Act.put, List.setIfInBounds_toArray, List.set_cons_zero, List.set_cons_succ]
                    refine wpAnyH_ready (rs := [3]) (by kernel_rfl) (by simp) ?_
                    refine AllReadyH.cons (List.getElem?_toArray.trans rfl) (fun K hK => ?_) AllReadyH.nil
                    go_simp
                    go_at_call 30
                    refine (store_last _ gs f2 u2 L1 (HA2.out.ext (Touch.drew (Touch.refl _ w11))) HOK1.out.each 2).mono ?_
                    rintro e w12 ⟨rfl, hw12⟩
                    have hx12 : Ext w11 w12 := (Touch.drew (Touch.refl _ w11)).trans (hw12 ▸ Touch.refl _ _)
                    have HX12 := Lib.hid hx12
                    clear hw12
                    refine hK.out _ _ hx12 (fun _ => ?_)
                    clear hK K
                    try simp only [Act.put, List.setIfInBounds_toArray, List.set_cons_zero, List.set_cons_succ]
                    refine wpAnyH_more (S' := fun w' => Ext w12 w') (fun w' h => hx12.trans h) _ _ _ _ ?_
                    clear hx12 hHeld
                    have hHeld : Ext w12 w12 := Touch.refl _ _
                    refine wpAnyH_take (i := 10) (v := ?_) (List.getElem?_toArray.trans rfl) (by kernel_rfl) (by kernel_rfl) (by kernel_rfl) (fun _ _ _ h => h) (Or.inl ⟨by rfl, ?_⟩) (by assumption) ?_
                    rotate_left
                    · intro w' hw'
                      try dsimp only at hw'
                      skip
                      go_simp
                      try with_reducible rfl
                    try simp only [Act.put, List.setIfInBounds_toArray, List.set_cons_zero, List.set_cons_succ]
                    refine wpAnyH_take (i := 11) (v := ?_) (List.getElem?_toArray.trans rfl) (by kernel_rfl) (by kernel_rfl) (by kernel_rfl) (fun _ _ _ h => h) (Or.inl ⟨by rfl, ?_⟩) (by assumption) ?_
                    rotate_left
                    · intro w' hw'
                      try dsimp only at hw'
                      skip
                      go_simp
                      try with_reducible rfl
                    try simp only [Act.put, List.setIfInBounds_toArray, List.set_cons_zero, List.set_cons_succ]
                    refine wpAnyH_take (i := 12) (v := ?_) (List.getElem?_toArray.trans rfl) (by kernel_rfl) (by kernel_rfl) (by kernel_rfl) (fun _ _ _ h => h) (Or.inl ⟨by rfl, ?_⟩) (by assumption) ?_
                    rotate_left
                    · intro w' hw'
                      try dsimp only at hw'
                      skip
                      go_simp
                      try with_reducible rfl
                    try simp only [Act.put, List.setIfInBounds_toArray, List.set_cons_zero, List.set_cons_succ]
                    refine wpAnyH_take (i := 15) (v := ?_) (List.getElem?_toArray.trans rfl) (by kernel_rfl) (by kernel_rfl) (by kernel_rfl) (fun _ _ _ h => h) (Or.inl ⟨by rfl, ?_⟩) (by assumption) ?_
                    rotate_left
                    · intro w' hw'
                      try dsimp only at hw'
                      skip
                      go_simp
                      try with_reducible rfl
                    try simp only [Act.put, List.setIfInBounds_toArray, List.set_cons_zero, List.set_cons_succ]
                    refine wpAnyH_take (i := 16) (v := ?_) (List.getElem?_toArray.trans rfl) (by kernel_rfl) (by kernel_rfl) (by kernel_rfl) (fun _ _ _ h => h) (Or.inl ⟨by rfl, ?_⟩) (by assumption) ?_
                    rotate_left
                    · intro w' hw'
                      try dsimp only at hw'
                      skip
                      go_simp
                      try with_reducible rfl
                    try simp only [Act.put, List.setIfInBounds_toArray, List.set_cons_zero, List.set_cons_succ]
                    refine wpAnyH_ready (rs := [13]) (by kernel_rfl) (by simp) ?_
                    refine AllReadyH.cons (List.getElem?_toArray.trans rfl) (fun K hK => ?_) AllReadyH.nil
                    go_simp
                    go_at_call 23
                    refine (store_log_at _ gs f2 u2 L1 (HA2.out.ext HX12.out) HOK1.out).mono ?_
                    rintro e w13 ⟨A13, c13, rfl, _, hx13, _⟩
                    have HX13 := Lib.hid (HX12.out.trans hx13)
                    refine hK.out _ _ hx13 (fun _ => ?_)
                    clear hK K
                    try simp only [Act.put, List.setIfInBounds_toArray, List.set_cons_zero, List.set_cons_succ]
                    refine wpAnyH_more (S' := fun w' => Ext w13 w') (fun w' h => hx13.trans h) _ _ _ _ ?_
                    clear hx13 hHeld
                    have hHeld : Ext w13 w13 := Touch.refl _ _
                    refine wpAnyH_take (i := 14) (v := ?_) (List.getElem?_toArray.trans rfl) (by kernel_rfl) (by kernel_rfl) (by kernel_rfl) (fun _ _ _ h => h) (Or.inl ⟨by rfl, ?_⟩) (by assumption) ?_
                    rotate_left
                    · intro w' hw'
                      try dsimp only at hw'
                      skip
                      go_simp
                      try with_reducible rfl
                    try simp only [Act.put, List.setIfInBounds_toArray, List.set_cons_zero, List.set_cons_succ]
                    refine wpAnyH_take (i := 17) (v := ?_) (List.getElem?_toArray.trans rfl) (by kernel_rfl) (by kernel_rfl) (by kernel_rfl) (fun _ _ _ h => h) (Or.inl ⟨by rfl, ?_⟩) (by assumption) ?_
                    rotate_left
                    · intro w' hw'
                      try dsimp only at hw'
                      skip
                      go_simp
                      try with_reducible rfl
                    try simp only [Act.put, List.setIfInBounds_toArray, List.set_cons_zero, List.set_cons_succ]
                    refine wpAnyH_take (i := 18) (v := ?_) (List.getElem?_toArray.trans rfl) (by kernel_rfl) (by kernel_rfl) (by kernel_rfl) (fun _ _ _ h => h) (Or.inl ⟨by rfl, ?_⟩) (by assumption) ?_
                    rotate_left
                    · intro w' hw'
                      try dsimp only at hw'
                      skip
                      go_simp
                      try with_reducible rfl
                    try simp only [Act.put, List.setIfInBounds_toArray, List.set_cons_zero, List.set_cons_succ]
                    refine wpAnyH_take (i := 19) (v := ?_) (List.getElem?_toArray.trans rfl) (by kernel_rfl) (by kernel_rfl) (by kernel_rfl) (fun _ _ _ h => h) (Or.inl ⟨by rfl, ?_⟩) (by assumption) ?_
                    rotate_left
                    · intro w' hw'
                      try dsimp only at hw'
                      skip
                      go_simp
                      try with_reducible rfl
                    try simp only [Act.put, List.setIfInBounds_toArray, List.set_cons_zero, List.set_cons_succ]
                    refine wpAnyH_done (by kernel_rfl) ?_ _
                    go_wp2
                    go_ret
                    exact ⟨by first | rfl | simp, HEX.out.trans HX13.out⟩
                · have HSM := Lib.hid (refL_same (L := L) (x := x) (by by_cases h : (chestCall L x.client x.no x.call).1.2.2 = 0; exact .inr (fun h2 => hz0 ⟨h, h2⟩); exact .inl h))
                  have h11 := H11.out
                  rw [HSM.out] at h11
                  have H12 := Lib.hid h11
                  clear h11 H11
                  have hbx11 := H12.out.left.left.left.blk
                  have hk4 := cell_of hbx11 4
                  by_cases hcd : (chestCall L x.client x.no x.call).1.2.2 = 0
                  · have HK := Lib.hid (show ¬ (1 ≤ x.call.kind ∧ x.call.kind ≤ 4) from fun h => hz0 ⟨hcd, h⟩)
                    have hcd' : ((chestCall L x.client x.no x.call).1.2.2 == 0) = true := by simp [hcd]
                    clear hz0
                    go_wp2_with (first
                      | (go_at_call 32; refine (ref_ischange' _ x.call.kind false (by have := HK.out; simp; omega)).mono ?_; rintro e w12 ⟨rfl, rfl⟩)
                      | fail)
                    clear hbx11 hk4
                    go_loopw [13] (fun i wr => SameRel W bx gs gr bl x.cells L (.slice A9 (fbehind L).length c9) ((fbehind L).map (·.name)) i wr) (fun i _ => 3 - (intOf i).toNat)
                    case atStart => exact ⟨0, rfl, Nat.zero_le _, H12.out⟩
                    case round =>
                      clear H12
                      obtain ⟨k, rfl, hk, hz⟩ := hrel
                      have HZ := Lib.hid hz
                      clear hz
                      by_cases hk3 : k < 3
                      · have hk3' : (k : Int) < 3 := by omega
                        have hcb : wr.cell? ⟨bl, k, none⟩ = some (.int .i64 (lastNo L k)) := (cell_of HZ.out.blk k).trans (nos_get3 hk3)
                        obtain ⟨F5, hF5, _⟩ := (HZ.out.step (Touch.drew (Touch.refl _ wr))).b0
                        have HF5 := Lib.hid hF5
                        have hne : (lastNo L k != lastNo L k) = false := by simp
                        clear hF5
                        go_wp2_with fail
                        go_region_held3 (fun w' => w'.cell? ⟨bl, k, none⟩ = some (.int .i64 (lastNo L k))) (exact hcb)
                          (first
                            | (go_at_call 30; refine (store_last_of _ gs F5 L HF5.out HOK.out k).mono ?_; rintro e w10 ⟨rfl, rfl⟩))
                        go_wp2
                        go_roundw
                        case rel => exact ⟨k + 1, by go_num, by omega, HZ.out.step (Touch.drew (Touch.refl _ wr))⟩
                        case measure => simp [intOf]; omega
                      · obtain rfl : k = 3 := by omega
                        go_wp2_with fail
                        obtain ⟨F6, hF6, _⟩ := HZ.out.b0
                        obtain ⟨f2, u2, v2, hA2, hh2⟩ := store_parts hF6
                        have HA2 := Lib.hid hA2
                        have HH2 := Lib.hid hh2
                        clear hF6 hA2 hh2
                        refine (store_log_at wr gs f2 u2 L HA2.out HOK.out).mono ?_
                        rintro e w14 ⟨A14, c14, rfl, ho14, hx14, _⟩
                        have hcv14 := conv_log ho14
                        have hcg14 : w14.cell? ⟨gs, 0, none⟩ = some (.pointer (some ⟨f2, 0, none⟩)) := (cell_of (hx14.blk HA2.out.cell id) 0).trans (StoreD.get0 _ _ _)
                        have hself : ((mkStr (logBytes L)).toList == (mkStr (logBytes L)).toList) = true := by simp
                        have HX14 := Lib.hid hx14
                        clear ho14 hx14
                        go_wp2_with fail
                        refine (files_names w14 f2 v2 (fbehind L) (HH2.out.ext HX14.out) (by omega)).mono ?_
                        rintro e w15 ⟨A15, c15, rfl, ho15, hx15, _⟩
                        have HO15 := Lib.hid ho15
                        have HX15 := Lib.hid (HX14.out.trans hx15)
                        clear ho15 hx15 hcv14 hcg14
                        go_wp2_with fail
                        refine (texts_yes2 _ _ _ _ _ _ _ _ ((fbehind L).map (·.name)) HO15.out.reads (HZ.out.left.right.owns.ext HX15.out).reads (by simp) (by simp) (by first | omega | (simp; omega))).mono ?_
                        rintro e w16 ⟨rfl, hx16⟩
                        have HX16 := Lib.hid (HZ.out.ext.trans (HX15.out.trans hx16))
                        clear hx16
                        go_wp2
                        go_ret
                        exact ⟨by first | rfl | simp, HX16.out⟩
                  · have hcd' : ((chestCall L x.client x.no x.call).1.2.2 == 0) = false := by simp [hcd]
                    clear hz0
                    go_wp2_with fail
                    clear hbx11 hk4
                    go_loopw [13] (fun i wr => SameRel W bx gs gr bl x.cells L (.slice A9 (fbehind L).length c9) ((fbehind L).map (·.name)) i wr) (fun i _ => 3 - (intOf i).toNat)
                    case atStart => exact ⟨0, rfl, Nat.zero_le _, H12.out⟩
                    case round =>
                      clear H12
                      obtain ⟨k, rfl, hk, hz⟩ := hrel
                      have HZ := Lib.hid hz
                      clear hz
                      by_cases hk3 : k < 3
                      · have hk3' : (k : Int) < 3 := by omega
                        have hcb : wr.cell? ⟨bl, k, none⟩ = some (.int .i64 (lastNo L k)) := (cell_of HZ.out.blk k).trans (nos_get3 hk3)
                        obtain ⟨F5, hF5, _⟩ := (HZ.out.step (Touch.drew (Touch.refl _ wr))).b0
                        have HF5 := Lib.hid hF5
                        have hne : (lastNo L k != lastNo L k) = false := by simp
                        clear hF5
                        go_wp2_with fail
                        go_region_held3 (fun w' => w'.cell? ⟨bl, k, none⟩ = some (.int .i64 (lastNo L k))) (exact hcb)
                          (first
                            | (go_at_call 30; refine (store_last_of _ gs F5 L HF5.out HOK.out k).mono ?_; rintro e w10 ⟨rfl, rfl⟩))
                        go_wp2
                        go_roundw
                        case rel => exact ⟨k + 1, by go_num, by omega, HZ.out.step (Touch.drew (Touch.refl _ wr))⟩
                        case measure => simp [intOf]; omega
                      · obtain rfl : k = 3 := by omega
                        go_wp2_with fail
                        obtain ⟨F6, hF6, _⟩ := HZ.out.b0
                        obtain ⟨f2, u2, v2, hA2, hh2⟩ := store_parts hF6
                        have HA2 := Lib.hid hA2
                        have HH2 := Lib.hid hh2
                        clear hF6 hA2 hh2
                        refine (store_log_at wr gs f2 u2 L HA2.out HOK.out).mono ?_
                        rintro e w14 ⟨A14, c14, rfl, ho14, hx14, _⟩
                        have hcv14 := conv_log ho14
                        have hcg14 : w14.cell? ⟨gs, 0, none⟩ = some (.pointer (some ⟨f2, 0, none⟩)) := (cell_of (hx14.blk HA2.out.cell id) 0).trans (StoreD.get0 _ _ _)
                        have hself : ((mkStr (logBytes L)).toList == (mkStr (logBytes L)).toList) = true := by simp
                        have HX14 := Lib.hid hx14
                        clear ho14 hx14
                        go_wp2_with fail
                        refine (files_names w14 f2 v2 (fbehind L) (HH2.out.ext HX14.out) (by omega)).mono ?_
                        rintro e w15 ⟨A15, c15, rfl, ho15, hx15, _⟩
                        have HO15 := Lib.hid ho15
                        have HX15 := Lib.hid (HX14.out.trans hx15)
                        clear ho15 hx15 hcv14 hcg14
                        go_wp2_with fail
                        refine (texts_yes2 _ _ _ _ _ _ _ _ ((fbehind L).map (·.name)) HO15.out.reads (HZ.out.left.right.owns.ext HX15.out).reads (by simp) (by simp) (by first | omega | (simp; omega))).mono ?_
                        rintro e w16 ⟨rfl, hx16⟩
                        have HX16 := Lib.hid (HZ.out.ext.trans (HX15.out.trans hx16))
                        clear hx16
                        go_wp2
                        go_ret
                        exact ⟨by first | rfl | simp, HX16.out⟩
end Go.Proofs.Ytalfbhhldfffkab
