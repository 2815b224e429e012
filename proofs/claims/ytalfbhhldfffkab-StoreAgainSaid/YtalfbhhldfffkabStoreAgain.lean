/- StoreAgain: the walk of the law. -/
import Derived.Test.YtalfbhhldfffkabStoreC
namespace Go.Proofs.Ytalfbhhldfffkab
open Go.RowKit

def DoRel (W : World) (gs gr : Nat) (l : List StoreStep) (i : Value) (wr : World) : Prop :=
  ∃ k : Nat, i = .int .i64 k ∧ k ≤ l.length ∧ Has (repNone.and (Both gs gr)) W wr ((), (stepsL [] (l.take k), stepsL [] (l.take k)))
/-- the texts of the first k files -/
def textsOf (l : List FileD) : List ByteArray := l.map (·.text)
abbrev AgR (gs gr gt : Nat) : Rep ((((Unit × (List Record × List Record)) × List Record) × (Value × List ByteArray)) × (Value × List ByteArray)) := (((repNone.and (Both gs gr)).and (repStore gt)).and (repOwn 9)).and (repOwn 9)
theorem ag_gs {gs gr gt : Nat} {w : World} {F : Nat → Prop} {L M T : List Record} {n x : Value × List ByteArray} (h : (AgR gs gr gt).on w F (((((), (L, M)), T), n), x)) :
    ∃ F', (repStore gs).on w F' L ∧ ∀ L' w', Moved (repStore gs) w F' L' w' → Moved (AgR gs gr gt) w F (((((), (L', M)), T), n), x) w' := by
  obtain ⟨F1, h1, m1⟩ := (Rep.stays h).fstM
  obtain ⟨F2, h2, m2⟩ := (Rep.stays h1).fstM
  obtain ⟨F3, h3, m3⟩ := (Rep.stays h2).fstM
  obtain ⟨F4, h4, m4⟩ := (Rep.stays h3).sndM
  obtain ⟨F5, h5, m5⟩ := Rep.fst h4
  exact ⟨F5, h5, fun L' w' m => m1 _ _ (m2 _ _ (m3 _ _ (m4 _ _ (m5 _ _ m))))⟩
theorem ag_gt {gs gr gt : Nat} {w : World} {F : Nat → Prop} {L M T : List Record} {n x : Value × List ByteArray} (h : (AgR gs gr gt).on w F (((((), (L, M)), T), n), x)) :
    ∃ F', (repStore gt).on w F' T ∧ ∀ T' w', Moved (repStore gt) w F' T' w' → Moved (AgR gs gr gt) w F (((((), (L, M)), T'), n), x) w' := by
  obtain ⟨F1, h1, m1⟩ := (Rep.stays h).fstM
  obtain ⟨F2, h2, m2⟩ := (Rep.stays h1).fstM
  obtain ⟨F3, h3, m3⟩ := (Rep.stays h2).sndM
  exact ⟨F3, h3, fun L' w' m => m1 _ _ (m2 _ _ (m3 _ _ m))⟩
/-- a call of the files that a store holds, which leaves them as they are -/
theorem store_reads (w : World) (gs : Nat) (F : Nat → Prop) (L : List Record) (h : (repStore gs).on w F L) :
    ∃ gf, w.cell? ⟨gs, 0, none⟩ = some (.pointer (some ⟨gf, 0, none⟩)) ∧ ∀ (w0 : World) (k : Nat) (f : FileD), Ext w w0 → (fbehind L)[k]? = some f →
      Calls Try.prog 14 #[.pointer (some ⟨gf, 0, none⟩), .agg (readOf f.name).cells] w0 fun e w' => e = .returned (.agg (Answer.cells ⟨0, f.text⟩)) ∧ Moved (repStore gs) w F L w' ∧ ∃ cs, w'.heap[gs]? = some (.cells cs 52 (0, 0)) ∧ cs[0]? = some (.pointer (some ⟨gf, 0, none⟩)) := by
  obtain ⟨gf, u, hS⟩ := h
  refine ⟨gf, (cell_of (Rep.stays hS).cell 0).trans (StoreD.get0 _ _ _), fun w0 k f hx hf => ?_⟩
  obtain ⟨F2, hF2, hm2⟩ := (Rep.stays hS).p2
  have hst : StrCall (readOf f.name) := ⟨by have := okText_le ((fbehind_ok L).each f (List.mem_of_getElem? hf)).1; show f.name.size ≤ _; omega, (by decide : noText.size ≤ 140737488351232), (by decide : noText.size ≤ 140737488351232)⟩
  refine (files_do' w0 gf F2 (fbehind L) (readOf f.name) (Rep.ext hF2 hx) (fbehind_ok L) hst (fdo_read (fbehind_ok L) hf)).mono ?_
  rintro e w' ⟨he, hq⟩
  have M := hm2 _ _ (Moved.ahead hx hq)
  exact ⟨he, Moved.chest (x := chestD L) (Moved.shut (gf := gf) (u := u) M) rfl, _, M.cell, StoreD.get0 _ _ _⟩
theorem textsOf_take {l : List FileD} {k : Nat} {f : FileD} (h : l[k]? = some f) : textsOf (l.take (k + 1)) = textsOf (l.take k) ++ [f.text] := by
  unfold textsOf
  rw [List.take_add_one, h]
  simp
def TextRel (W : World) (gs gr gt : Nat) (L : List Record) (vN : Value) (N : List ByteArray) (out i : Value) (wr : World) : Prop :=
  ∃ (k : Nat) (A : Option Addr) (c : Nat), i = .int .i64 k ∧ k ≤ N.length ∧ out = .slice A k c ∧ Has (AgR gs gr gt) W wr (((((), (L, L)), L), (vN, N)), (.slice A k c, textsOf ((fbehind L).take k)))
/-- what the law holds in its last loops, as a word of its own -/
structure AgP (W : World) (gs gr gt : Nat) (ab : Addr) (L : List Record) (vN vX : Value) (P : World → Prop) : Prop where
  step : ∀ {w w'}, P w → Ext w w' → P w'
  ext : ∀ {w}, P w → Ext W w
  names : ∀ {w}, P w → Owns w 9 vN ((fbehind L).map (·.name))
  texts : ∀ {w}, P w → Owns w 9 vX (textsOf (fbehind L))
  chest : ∀ {w}, P w → ∃ v, Holds w gr 58 49 v L
  store : ∀ (k : Nat), k < 2 → ∃ gk, (∀ w, P w → w.cell? (ab.add k) = some (.pointer (some ⟨gk, 0, none⟩))) ∧ ∀ w, P w → ∃ F, (repStore gk).on w F L ∧ ∀ w', Moved (repStore gk) w F L w' → P w'
theorem ag_p {W : World} {gs gr gt bu : Nat} {L : List Record} {vN vX : Value} {T : TypeId} : AgP W gs gr gt ⟨bu, 0, none⟩ L vN vX (fun w => Has ((AgR gs gr gt).and (repBlock bu T)) W w ((((((), (L, L)), L), (vN, (fbehind L).map (·.name))), (vX, textsOf (fbehind L))), #[.pointer (some ⟨gs, 0, none⟩), .pointer (some ⟨gt, 0, none⟩)])) where
  step h hx := h.step hx
  ext h := h.ext
  names h := h.left.left.right.owns
  texts h := h.left.right.owns
  chest h := by
    obtain ⟨F, ⟨v, _, hh⟩, _⟩ := h.left.left.left.left.right.right.ex
    exact ⟨v, hh⟩
  store k hk := by
    match k, hk with
    | 0, _ =>
      refine ⟨gs, fun _ h => ?_, fun _ h => ?_⟩
      · exact cell_of h.blk 0
      · obtain ⟨F1, h1, m1⟩ := h.fst
        obtain ⟨F2, h2, m2⟩ := ag_gs h1
        exact ⟨F2, h2, fun w' m => m1 _ _ (m2 _ _ m)⟩
    | 1, _ =>
      refine ⟨gt, fun _ h => ?_, fun _ h => ?_⟩
      · exact cell_of h.blk 1
      · obtain ⟨F1, h1, m1⟩ := h.fst
        obtain ⟨F2, h2, m2⟩ := ag_gt h1
        exact ⟨F2, h2, fun w' m => m1 _ _ (m2 _ _ m)⟩
theorem list_at {w : World} {E : TypeId} {ad : Addr} {n c : Nat} {l : List ByteArray} (h : Owns w E (.slice (some ad) n c) l) {k : Nat} {s : ByteArray} (hs : l[k]? = some s) : w.cell? (ad.add k) = some (.string s) := by
  obtain ⟨ad', e, _, hat⟩ := h.reads k s hs
  cases e
  have := hat 0 (.string s) rfl
  rwa [addr_add_add, show k * Lies.size ByteArray + 0 = k from Nat.mul_one k] at this
theorem Moved.aside {X : Type} {R : Rep X} {w wa w' : World} {F : Nat → Prop} {x : X} {b : Nat} (hx : Ext w wa) (h : Moved R wa F x w') (hb : ¬ F b) (hlt : b < wa.heap.size) (hn : w.heap.size ≤ b) (cs : Array Value) : Moved R w F x (w'.setRow b cs) := by
  obtain ⟨F', h1, h2, h3⟩ := h
  have hnF : ¬ F' b := fun h => by
    rcases h3 b h with h | h
    · exact hb h
    · omega
  have ht : Touch (fun k => k = b) w' (w'.setRow b cs) := (Touch.refl (fun k => k = b) w').setRow (.inl rfl) _
  exact ⟨F', R.touch h1 ht (fun k hk e => hnF (e ▸ hk)), ((hx.mono (S := F) fun _ h => h.elim).then h2 fun k hk => .inl hk).then ht fun k e => .inr (e ▸ hn), fun k hk => (h3 k hk).imp_right (Nat.le_trans hx.size)⟩
set_option maxHeartbeats 8000000 in
set_option maxRecDepth 100000 in
theorem storeAgain (W : World) (A : Option Addr) (c : Nat) (l : List StoreStep) (hr : Reads W W.heap.size A l) (hs : ∀ x ∈ l, StrStep x) (hl : l.length ≤ 140737488351232) :
    Calls Try.prog 7 #[.slice A l.length c] W fun e w' => e = .returned (.bool true) ∧ Ext W w' := by
  have HR := Lib.hid hr
  have HS := Lib.hid hs
  clear hr hs
  go_enter Try.func7, Try.ntmps7
  go_wp2_with fail
  refine (store_begun _).mono ?_
  rintro e w1 ⟨rfl, hx1⟩
  have H1 := Lib.hid ((Has.none W).step hx1)
  clear hx1
  go_wp2_with fail
  refine (law_greatStore w1 w1.heap.size A c l (HR.out.ext H1.out.ext) (Nat.le_refl _) HS.out hl).mono ?_
  rintro e w2 ⟨b2, rfl, hx2⟩
  have H2 := Lib.hid (H1.out.step hx2)
  clear hx2 H1
  cases b2 with
  | true =>
    go_wp2
    go_ret
    exact ⟨rfl, H2.out.ext⟩
  | false =>
    go_wp2_with fail
    refine (store_new w2).mono ?_
    rintro e w4 ⟨rfl, hn4, -⟩
    have H6 := Lib.hid (H2.out.both (both_start hn4))
    clear hn4 H2
    generalize w2.heap.size + 1 = gs at H6 ⊢
    go_wp2_with fail
    generalize w4.alloc (.cells #[.slice none 0 0] 58) = w5 at H6 ⊢
    generalize w4.heap.size = gr at H6 ⊢
    go_loopw [5] (fun i wr => DoRel W gs gr l i wr) (fun i _ => l.length - (intOf i).toNat)
    case atStart => exact ⟨0, rfl, Nat.zero_le _, H6.out⟩
    case round =>
      clear H6
      obtain ⟨k, rfl, hk, hz⟩ := hrel
      have HZ := Lib.hid hz
      clear hz
      by_cases hlt : k < l.length
      · obtain ⟨s, hsx⟩ : ∃ s, l[k]? = some s := ⟨l[k], by simp [hlt]⟩
        obtain ⟨ad, rfl, hadb, hat⟩ := HR.out _ s hsx
        have hLV : LV Try.prog 61 (ad.add (k * 8)) wr = .ok (.agg s.cells) wr := LV_StoreStep ((hat.of_same (w' := wr) (by rw [show (ad.add (k * Lies.size StoreStep)).block = ad.block by unfold Addr.add; split <;> rfl]; exact HZ.out.ext.block _ hadb id)))
        have HSX := Lib.hid hsx
        have HOK := Lib.hid (stepsL_ok LogOk.nil (l.take k))
        have HST := Lib.hid (HS.out s (List.mem_of_getElem? hsx))
        clear hsx hat
        go_wp2_with fail
        obtain ⟨F1, hF1, hm1⟩ := HZ.out.snd
        refine (law_storeStep wr gs gr F1 _ s hF1 HOK.out HST.out).mono ?_
        rintro e w8 ⟨rfl, hq8⟩
        have h8 := hm1 _ _ hq8
        rw [← stepsL_take HSX.out] at h8
        have H8 := Lib.hid h8
        clear hF1 hm1 hq8 h8
        go_wp2
        go_roundw
        case rel => exact ⟨k + 1, by go_num, by omega, H8.out⟩
        case measure => simp [intOf]; omega
      · obtain rfl : k = l.length := by omega
        have HOK := Lib.hid (stepsL_ok LogOk.nil (l.take l.length))
        generalize stepsL [] (l.take l.length) = L at HZ HOK
        have hlog := HOK.out.len
        have hfb6 := (fbehind_ok L).len
        obtain ⟨F6, hF6, _⟩ := HZ.out.b2
        obtain ⟨f1, u1, v1, hA1, hh1⟩ := store_parts hF6
        go_wp2_with fail
        refine (store_log_at wr gs f1 u1 L hA1 HOK.out).mono ?_
        rintro e w7 ⟨A7, c7, rfl, ho7, hx7, _⟩
        have H7 := Lib.hid (HZ.out.step hx7)
        have HO7 := Lib.hid ho7
        have HA1' := Lib.hid (hA1.ext hx7)
        have HH1' := Lib.hid (hh1.ext hx7)
        clear hF6 hA1 hh1 ho7 hx7 HZ
        go_wp2_with fail
        refine (store_open w7 A7 _ c7 (logBytes L) HO7.out.bytesIn (by omega)).mono ?_
        rintro e w8 ⟨gt, rfl, hn8⟩
        rw [log_all HOK.out] at hn8 ⊢
        have hz0 : ((logBytes L).length : Int) - ((logBytes L).length : Int) = 0 := by omega
        have H8 := Lib.hid (H7.out.both hn8.has)
        have HA1 := Lib.hid (HA1'.out.ext hn8.1)
        have HH1 := Lib.hid (HH1'.out.ext hn8.1)
        obtain ⟨F7, hF7, _⟩ := H8.out.snd
        obtain ⟨f2, u2, v2, hA2, hh2⟩ := store_parts hF7
        have HA2 := Lib.hid hA2
        have HG0 := Lib.hid (show ∀ w', Ext w8 w' → w'.cell? ⟨gs, 0, none⟩ = some (.pointer (some ⟨f1, 0, none⟩)) from fun w' hx => (cell_of (hx.blk HA1.out.cell id) 0).trans (StoreD.get0 _ _ _))
        have hself : ((mkStr (logBytes L)).toList == (mkStr (logBytes L)).toList) = true := by simp
        clear hn8 hF7 hA2 hh2 HA1' HH1' H7 HO7
        go_wp2_with fail
        refine wp_region_held_drew (S := fun w' => Ext w8 w') (by kernel_rfl) (Touch.drew (Touch.refl _ w8)) (fun hHeld => ?_)
        refine wpAnyH_take (i := 0) (v := ?_) (List.getElem?_toArray.trans rfl) (by kernel_rfl) (by kernel_rfl) (by kernel_rfl) (fun _ _ _ h => h) (Or.inl ⟨by rfl, ?_⟩) (by assumption) ?_
        rotate_left
        · intro w' hw'
          try dsimp only at hw'
          skip
          go_simp
          try with_reducible rfl
        try simp only [Act.put, List.setIfInBounds_toArray, List.set_cons_zero, List.set_cons_succ]
        refine wpAnyH_take (i := 1) (v := ?_) (List.getElem?_toArray.trans rfl) (by kernel_rfl) (by kernel_rfl) (by kernel_rfl) (fun _ _ _ h => h) (Or.inl ⟨by rfl, ?_⟩) (by assumption) ?_
        rotate_left
        · intro w' hw'
          try dsimp only at hw'
          skip
          go_simp
          try with_reducible rfl
        try simp only [Act.put, List.setIfInBounds_toArray, List.set_cons_zero, List.set_cons_succ]
        refine wpAnyH_take (i := 2) (v := ?_) (List.getElem?_toArray.trans rfl) (by kernel_rfl) (by kernel_rfl) (by kernel_rfl) (fun _ _ _ h => h) (Or.inl ⟨by rfl, ?_⟩) (by assumption) ?_
        rotate_left
        · intro w' hw'
          try dsimp only at hw'
          skip
          go_simp
          try with_reducible rfl
        try simp only [Act.put, List.setIfInBounds_toArray, List.set_cons_zero, List.set_cons_succ]
        refine wpAnyH_take (i := 3) (v := ?_) (List.getElem?_toArray.trans rfl) (by kernel_rfl) (by kernel_rfl) (by kernel_rfl) (fun _ _ _ h => h) (Or.inl ⟨by rfl, ?_⟩) (by assumption) ?_
        rotate_left
        · intro w' hw'
          try dsimp only at hw'
          skip
          go_simp
          try with_reducible rfl
        try simp only [Act.put, List.setIfInBounds_toArray, List.set_cons_zero, List.set_cons_succ]
        refine wpAnyH_take (i := 4) (v := ?_) (List.getElem?_toArray.trans rfl) (by kernel_rfl) (by kernel_rfl) (by kernel_rfl) (fun _ _ _ h => h) (Or.inl ⟨by rfl, ?_⟩) (by assumption) ?_
        rotate_left
        · intro w' hw'
          try dsimp only at hw'
          skip
          go_simp
          try with_reducible rfl
        try simp only [Act.put, List.setIfInBounds_toArray, List.set_cons_zero, List.set_cons_succ]
        refine wpAnyH_take (i := 5) (v := ?_) (List.getElem?_toArray.trans rfl) (by kernel_rfl) (by kernel_rfl) (by kernel_rfl) (fun _ _ _ h => h) (Or.inl ⟨by rfl, ?_⟩) (by assumption) ?_
        rotate_left
        · intro w' hw'
          try dsimp only at hw'
          skip
          go_simp
          try with_reducible rfl
        try simp only [Act.put, List.setIfInBounds_toArray, List.set_cons_zero, List.set_cons_succ]
        refine wpAnyH_take (i := 6) (v := ?_) (List.getElem?_toArray.trans rfl) (by kernel_rfl) (by kernel_rfl) (by kernel_rfl) (fun _ _ _ h => h) (Or.inl ⟨by rfl, ?_⟩) (by assumption) ?_
        rotate_left
        · intro w' hw'
          try dsimp only at hw'
          skip
          go_simp
          try with_reducible rfl
        try simp only [Act.put, List.setIfInBounds_toArray, List.set_cons_zero, List.set_cons_succ]
        refine wpAnyH_take (i := 7) (v := ?_) (List.getElem?_toArray.trans rfl) (by kernel_rfl) (by kernel_rfl) (by kernel_rfl) (fun _ _ _ h => h) (Or.inl ⟨by rfl, ?_⟩) (by assumption) ?_
        rotate_left
        · intro w' hw'
          try dsimp only at hw'
          skip
          go_simp
          try with_reducible rfl
        try simp only [Act.put, List.setIfInBounds_toArray, List.set_cons_zero, List.set_cons_succ]
        refine wpAnyH_take (i := 10) (v := ?_) (List.getElem?_toArray.trans rfl) (by kernel_rfl) (by kernel_rfl) (by kernel_rfl) (fun _ _ _ h => h) (Or.inl ⟨by rfl, ?_⟩) (by assumption) ?_
        rotate_left
        · intro w' hw'
          try dsimp only at hw'
          skip
          go_simp
          try with_reducible rfl
        try simp only [Act.put, List.setIfInBounds_toArray, List.set_cons_zero, List.set_cons_succ]
        refine wpAnyH_ready (rs := [8]) (by kernel_rfl) (by simp) ?_
        refine AllReadyH.cons (List.getElem?_toArray.trans rfl) (fun K hK => ?_) AllReadyH.nil
        go_simp
        go_at_call 23
        refine (store_log_at _ gt f2 u2 L (HA2.out.ext (Touch.drew (Touch.refl _ w8))) HOK.out).mono ?_
        rintro e w9 ⟨A9, c9, rfl, ho9, hx9', _⟩
        have hx9 : Ext w8 w9 := (Touch.drew (Touch.refl _ w8)).trans hx9'
        have HO9 := Lib.hid (show Owns w9 5 (.slice A9 (logBytes L).length c9) (logBytes L) from ho9)
        have HX9 := Lib.hid hx9
        clear ho9 hx9'
        refine hK.out _ _ hx9 (fun _ => ?_)
        clear hK K
        try simp only [Act.put, List.setIfInBounds_toArray, List.set_cons_zero, List.set_cons_succ]
        refine wpAnyH_more (S' := fun w' => Ext w9 w') (fun w' h => hx9.trans h) _ _ _ _ ?_
        clear hx9 hHeld
        have hHeld : Ext w9 w9 := Touch.refl _ _
        refine wpAnyH_take (i := 9) (v := ?_) (List.getElem?_toArray.trans rfl) (by kernel_rfl) (by kernel_rfl) (by kernel_rfl) (fun _ _ _ h => h) (Or.inl ⟨by rfl, ?_⟩) (by assumption) ?_
        rotate_left
        · intro w' hw'
          try dsimp only at hw'
          have hcv := conv_log (HO9.out.ext hw')
          go_simp
          try with_reducible rfl
        try simp only [Act.put, List.setIfInBounds_toArray, List.set_cons_zero, List.set_cons_succ]
        refine wpAnyH_ready (rs := [11]) (by kernel_rfl) (by simp) ?_
        refine AllReadyH.cons (List.getElem?_toArray.trans rfl) (fun K hK => ?_) AllReadyH.nil
        go_simp
        go_at_call 23
        refine (store_log_at _ gs f1 u1 L (HA1.out.ext HX9.out) HOK.out).mono ?_
        rintro e w10 ⟨A10, c10, rfl, ho10, hx10, _⟩
        have HO10 := Lib.hid (show Owns w10 5 (.slice A10 (logBytes L).length c10) (logBytes L) from ho10)
        have HX10 := Lib.hid (HX9.out.trans hx10)
        clear ho10
        refine hK.out _ _ hx10 (fun _ => ?_)
        clear hK K
        try simp only [Act.put, List.setIfInBounds_toArray, List.set_cons_zero, List.set_cons_succ]
        refine wpAnyH_more (S' := fun w' => Ext w10 w') (fun w' h => hx10.trans h) _ _ _ _ ?_
        clear hx10 hHeld
        have hHeld : Ext w10 w10 := Touch.refl _ _
        refine wpAnyH_take (i := 12) (v := ?_) (List.getElem?_toArray.trans rfl) (by kernel_rfl) (by kernel_rfl) (by kernel_rfl) (fun _ _ _ h => h) (Or.inl ⟨by rfl, ?_⟩) (by assumption) ?_
        rotate_left
        · intro w' hw'
          try dsimp only at hw'
          have hcv := conv_log (HO10.out.ext hw')
          go_simp
          try with_reducible rfl
        try simp only [Act.put, List.setIfInBounds_toArray, List.set_cons_zero, List.set_cons_succ]
        refine wpAnyH_take (i := 13) (v := ?_) (List.getElem?_toArray.trans rfl) (by kernel_rfl) (by kernel_rfl) (by kernel_rfl) (fun _ _ _ h => h) (Or.inl ⟨by rfl, ?_⟩) (by assumption) ?_
        rotate_left
        · intro w' hw'
          try dsimp only at hw'
          skip
          go_simp
          try with_reducible rfl
        try simp only [Act.put, List.setIfInBounds_toArray, List.set_cons_zero, List.set_cons_succ]
        refine wpAnyH_take (i := 14) (v := ?_) (List.getElem?_toArray.trans rfl) (by kernel_rfl) (by kernel_rfl) (by kernel_rfl) (fun _ _ _ h => h) (Or.inl ⟨by rfl, ?_⟩) (by assumption) ?_
        rotate_left
        · intro w' hw'
          try dsimp only at hw'
          skip
          go_simp
          try with_reducible rfl
        try simp only [Act.put, List.setIfInBounds_toArray, List.set_cons_zero, List.set_cons_succ]
        refine wpAnyH_done (by kernel_rfl) ?_ _
        go_wp2_with fail
        refine wp_region_held_drew (S := fun w' => Ext w10 w') (by kernel_rfl) (Touch.drew (Touch.refl _ w10)) (fun hHeld => ?_)
        refine wpAnyH_take (i := 0) (v := ?_) (List.getElem?_toArray.trans rfl) (by kernel_rfl) (by kernel_rfl) (by kernel_rfl) (fun _ _ _ h => h) (Or.inl ⟨by rfl, ?_⟩) (by assumption) ?_
        rotate_left
        · intro w' hw'
          try dsimp only at hw'
          skip
          go_simp
          try with_reducible rfl
        try simp only [Act.put, List.setIfInBounds_toArray, List.set_cons_zero, List.set_cons_succ]
        refine wpAnyH_take (i := 1) (v := ?_) (List.getElem?_toArray.trans rfl) (by kernel_rfl) (by kernel_rfl) (by kernel_rfl) (fun _ _ _ h => h) (Or.inl ⟨by rfl, ?_⟩) (by assumption) ?_
        rotate_left
        · intro w' hw'
          try dsimp only at hw'
          skip
          go_simp
          try with_reducible rfl
        try simp only [Act.put, List.setIfInBounds_toArray, List.set_cons_zero, List.set_cons_succ]
        refine wpAnyH_take (i := 2) (v := ?_) (List.getElem?_toArray.trans rfl) (by kernel_rfl) (by kernel_rfl) (by kernel_rfl) (fun _ _ _ h => h) (Or.inl ⟨by rfl, ?_⟩) (by assumption) ?_
        rotate_left
        · intro w' hw'
          try dsimp only at hw'
          skip
          go_simp
          try with_reducible rfl
        try simp only [Act.put, List.setIfInBounds_toArray, List.set_cons_zero, List.set_cons_succ]
        refine wpAnyH_take (i := 3) (v := ?_) (List.getElem?_toArray.trans rfl) (by kernel_rfl) (by kernel_rfl) (by kernel_rfl) (fun _ _ _ h => h) (Or.inl ⟨by rfl, ?_⟩) (by assumption) ?_
        rotate_left
        · intro w' hw'
          try dsimp only at hw'
          have hcg := HG0.out w' (HX10.out.trans hw')
          go_simp
          try with_reducible rfl
        try simp only [Act.put, List.setIfInBounds_toArray, List.set_cons_zero, List.set_cons_succ]
        refine wpAnyH_take (i := 5) (v := ?_) (List.getElem?_toArray.trans rfl) (by kernel_rfl) (by kernel_rfl) (by kernel_rfl) (fun _ _ _ h => h) (Or.inl ⟨by rfl, ?_⟩) (by assumption) ?_
        rotate_left
        · intro w' hw'
          try dsimp only at hw'
          skip
          go_simp
          try with_reducible rfl
        try simp only [Act.put, List.setIfInBounds_toArray, List.set_cons_zero, List.set_cons_succ]
        refine wpAnyH_ready (rs := [4]) (by kernel_rfl) (by simp) ?_
        refine AllReadyH.cons (List.getElem?_toArray.trans rfl) (fun K hK => ?_) AllReadyH.nil
        go_simp
        go_at_call 17
        refine (files_names _ f1 v1 (fbehind L) (HH1.out.ext (HX10.out.trans (Touch.drew (Touch.refl _ w10)))) (by omega)).mono ?_
        rintro e w11 ⟨A11, c11, he11, ho11, hx11', hf11⟩
        rw [List.length_map] at he11 ho11 hf11
        subst he11
        have hx11 : Ext w10 w11 := (Touch.drew (Touch.refl _ w10)).trans hx11'
        have HO11 := Lib.hid ho11
        have HF11 := Lib.hid hf11
        have HX1011 := Lib.hid hx11'
        have HX11 := Lib.hid (HX10.out.trans hx11)
        clear ho11 hf11 hx11'
        refine hK.out _ _ hx11 (fun _ => ?_)
        clear hK K
        try simp only [Act.put, List.setIfInBounds_toArray, List.set_cons_zero, List.set_cons_succ]
        refine wpAnyH_more (S' := fun w' => Ext w11 w') (fun w' h => hx11.trans h) _ _ _ _ ?_
        clear hx11 hHeld
        have hHeld : Ext w11 w11 := Touch.refl _ _
        refine wpAnyH_ready (rs := [6]) (by kernel_rfl) (by simp) ?_
        refine AllReadyH.cons (List.getElem?_toArray.trans rfl) (fun K hK => ?_) AllReadyH.nil
        go_simp
        go_at_call 23
        refine (store_log_at _ gs f1 u1 L (HA1.out.ext HX11.out) HOK.out).mono ?_
        rintro e w12 ⟨A12, c12, rfl, ho12, hx12, _⟩
        have HO12 := Lib.hid (show Owns w12 5 (.slice A12 (logBytes L).length c12) (logBytes L) from ho12)
        have HX12 := Lib.hid hx12
        clear ho12
        refine hK.out _ _ hx12 (fun _ => ?_)
        clear hK K
        try simp only [Act.put, List.setIfInBounds_toArray, List.set_cons_zero, List.set_cons_succ]
        refine wpAnyH_more (S' := fun w' => Ext w12 w') (fun w' h => hx12.trans h) _ _ _ _ ?_
        clear hx12 hHeld
        have hHeld : Ext w12 w12 := Touch.refl _ _
        refine wpAnyH_take (i := 7) (v := ?_) (List.getElem?_toArray.trans rfl) (by kernel_rfl) (by kernel_rfl) (by kernel_rfl) (fun _ _ _ h => h) (Or.inl ⟨by rfl, ?_⟩) (by assumption) ?_
        rotate_left
        · intro w' hw'
          try dsimp only at hw'
          have hcv := conv_log (HO12.out.ext hw')
          go_simp
          try with_reducible rfl
        try simp only [Act.put, List.setIfInBounds_toArray, List.set_cons_zero, List.set_cons_succ]
        refine wpAnyH_take (i := 8) (v := ?_) (List.getElem?_toArray.trans rfl) (by kernel_rfl) (by kernel_rfl) (by kernel_rfl) (fun _ _ _ h => h) (Or.inl ⟨by rfl, ?_⟩) (by assumption) ?_
        rotate_left
        · intro w' hw'
          try dsimp only at hw'
          skip
          go_simp
          try with_reducible rfl
        try simp only [Act.put, List.setIfInBounds_toArray, List.set_cons_zero, List.set_cons_succ]
        refine wpAnyH_take (i := 9) (v := ?_) (List.getElem?_toArray.trans rfl) (by kernel_rfl) (by kernel_rfl) (by kernel_rfl) (fun _ _ _ h => h) (Or.inl ⟨by rfl, ?_⟩) (by assumption) ?_
        rotate_left
        · intro w' hw'
          try dsimp only at hw'
          skip
          go_simp
          try with_reducible rfl
        try simp only [Act.put, List.setIfInBounds_toArray, List.set_cons_zero, List.set_cons_succ]
        refine wpAnyH_done (by kernel_rfl) ?_ _
        have H12 := Lib.hid (((H8.out.step (HX10.out.trans (Touch.drew (Touch.refl _ w10)))).newList HX1011.out HO11.out HF11.out).step HX12.out)
        have H13 := Lib.hid (H12.out.newList (E := 9) (l := ([] : List ByteArray)) (Touch.refl _ _) (Owns.nil _ _) (fun k hk => by simp [Value.ownBlock] at hk))
        clear HX9 HO9 HX10 HO10 HO11 HF11 HX1011 HX11 HX12 HO12 HG0 HA1 HH1 HA2 H8 H12
        go_wp2_with fail
        generalize hlen : (fbehind L).length = n at *
        have HLEN := Lib.hid hlen
        clear hlen
        go_loopw [10, 11] (fun out i wr => TextRel W gs gr gt L (.slice A11 n c11) ((fbehind L).map (·.name)) out i wr) (fun _ i _ => n - (intOf i).toNat)
        case atStart => exact ⟨0, none, 0, rfl, Nat.zero_le _, rfl, H13.out⟩
        case round =>
          clear H13
          obtain ⟨k, A3, c3, rfl, hk, rfl, hz⟩ := hrel
          have HZ := Lib.hid hz
          clear hz
          rw [List.length_map, HLEN.out] at hk
          by_cases hlt : k < n
          · obtain ⟨f, hf⟩ : ∃ f, (fbehind L)[k]? = some f := ⟨(fbehind L)[k]'(by rw [HLEN.out]; exact hlt), by simp [HLEN.out, hlt]⟩
            obtain ⟨ad, rfl, hadb, hat⟩ := HZ.out.left.right.owns.reads k f.name (by simp [hf])
            have hcn : wr.cell? (ad.add k) = some (.string f.name) := by have := hat 0 (.string f.name) rfl; rwa [addr_add_add, show k * Lies.size ByteArray + 0 = k from Nat.mul_one k] at this
            obtain ⟨F1, hF1, hm1⟩ := HZ.out.one
            obtain ⟨F2, hF2, hm2⟩ := ag_gs hF1
            obtain ⟨gf, hcg, hdo⟩ := store_reads wr gs F2 L hF2
            have HF := Lib.hid hf
            have HDO := Lib.hid hdo
            have HM := Lib.hid (show ∀ w', Moved (repStore gs) wr F2 L w' → Has (AgR gs gr gt) W w' (((((), (L, L)), L), (.slice (some ad) n c11, (fbehind L).map (·.name))), (.slice A3 k c3, textsOf ((fbehind L).take k))) from fun w' m => hm1 _ _ (hm2 _ _ m))
            have hlk : (textsOf ((fbehind L).take k)).length = k := by unfold textsOf; rw [List.length_map, List.length_take, HLEN.out]; omega
            have HLK := Lib.hid hlk
            clear hf hat hF1 hm1 hF2 hm2 hdo hlk
            go_wp2_with fail
            go_region_held3 (fun w' => w'.cell? (ad.add k) = some (.string f.name) ∧ w'.cell? ⟨gs, 0, none⟩ = some (.pointer (some ⟨gf, 0, none⟩)))
              (first | exact ⟨hcn6, hcg6⟩ | exact ⟨hcn5a _, hcg5a _⟩ | exact ⟨hcn5, hcg5⟩ | exact ⟨hcn, hcg⟩)
              (first
                | (go_at_call 14
                   refine (HDO.out _ k f (Touch.drew (Touch.refl _ wr)) HF.out).mono ?_
                   rintro e w5 ⟨rfl, hq5, cs5, hbg5, hcs5⟩
                   have H5 := Lib.hid (HM.out _ hq5)
                   have hcg5 : w5.cell? ⟨gs, 0, none⟩ = some (.pointer (some ⟨gf, 0, none⟩)) := (cell_of hbg5 0).trans hcs5
                   obtain ⟨hlt5, hcn5⟩ := names_at H5.out.left (show ((fbehind L).map (·.name))[k]? = some f.name by simp [HF.out])
                   have hcn5a := fun o => (World.cell?_of_block (w := w5) (w' := w5.alloc o) (a := ad.add k) (Below.heap_alloc w5 o _ hlt5)).trans hcn5
                   have hltg : gs < w5.heap.size := (Array.getElem?_eq_some_iff.1 hbg5).1
                   have hcg5a := fun o => (World.cell?_of_block (w := w5) (w' := w5.alloc o) (a := ⟨gs, 0, none⟩) (Below.heap_alloc w5 o _ hltg)).trans hcg5
                   have HBG5 := Lib.hid hbg5
                   have HCS5 := Lib.hid hcs5
                   clear hq5 hbg5 hcs5)
                | (refine step_append_own (by rfl) (.tmp 75) (.tmp 87) 32 (by rfl) elemString Try.underlying32 (v := .slice A3 k c3) (l := textsOf ((fbehind L).take k)) (by rfl) (H5.out.right.owns.ext ((Touch.refl _ w5).alloc _)) [f.text] (by rfl) (k + 1) (by rw [HLK.out]; rfl) (by rfl)
                    (reads_block (x := f.text) (t := 9) (fr := (0, 0)) (heap_alloc_new _ _) (w5.heap.size + 1) (by omega)) (by rw [HLK.out]; simp; omega) ?_
                   intro A6 c6 w6 hown6 hgrow6 hat6
                   have H6 := Lib.hid (H5.out.append ((Touch.refl _ w5).alloc _) hown6 hgrow6 hat6)
                   obtain ⟨hlt6, hcn6⟩ := names_at H6.out.left (show ((fbehind L).map (·.name))[k]? = some f.name by simp [HF.out])
                   have hbg6 := World.grownBy.blk hgrow6 (b := gs) (o := .cells cs5 52 (0, 0)) ((Below.heap_alloc _ _ _ hltg).trans HBG5.out) (H5.out.right.owns.elem HBG5.out (by decide))
                   have hcg6 : w6.cell? ⟨gs, 0, none⟩ = some (.pointer (some ⟨gf, 0, none⟩)) := (cell_of hbg6 0).trans HCS5.out
                   clear hown6 hgrow6 hat6 hbg6))
            go_wp2
            go_roundw
            case rel =>
              have H7 := H6.out
              rw [← textsOf_take HF.out] at H7
              exact ⟨k + 1, A6, c6, by go_num, by rw [List.length_map, HLEN.out]; omega, rfl, H7⟩
            case measure => simp [intOf]; omega
          · obtain rfl : n = k := by omega
            have HLL := HLEN.out
            have hz := HZ.out
            rw [List.take_of_length_le (by omega)] at hz
            have HZ1 := Lib.hid hz
            clear hz HZ HLL
            obtain ⟨F1, hF1, hm1⟩ := HZ1.out.one
            obtain ⟨F2, hF2, hm2⟩ := ag_gs hF1
            go_wp2_with fail
            refine (store_crash wr gs F2 (chestD L) hF2 (by show (logBytes L).length ≤ 10000; omega)).mono ?_
            rintro e w14 ⟨rfl, hq14⟩
            rw [show recAll (chestD L).log = L from log_all HOK.out] at hq14
            have H14 := Lib.hid ((hm1 _ _ (hm2 _ _ (Moved.chest hq14 rfl))).box #[.pointer (some ⟨gs, 0, none⟩), .pointer (some ⟨gt, 0, none⟩)] 41)
            clear hF1 hm1 hF2 hm2 hq14 HZ1
            go_wp2_with fail
            generalize w14.alloc (.cells #[.pointer (some ⟨gs, 0, none⟩), .pointer (some ⟨gt, 0, none⟩)] 41) = w15 at H14 ⊢
            generalize w14.heap.size = bu at H14 ⊢
            obtain ⟨P, hP, hp15⟩ : ∃ P, AgP W gs gr gt ⟨bu, 0, none⟩ L (.slice A11 n c11) (.slice A3 n c3) P ∧ P w15 := ⟨_, ag_p, H14.out⟩
            generalize (⟨bu, 0, none⟩ : Addr) = ab at hP ⊢
            have HP := Lib.hid hP
            have HP15 := Lib.hid hp15
            clear hP hp15 H14
            go_loopw [13] (fun i wr => ∃ k : Nat, i = .int .i64 k ∧ k ≤ 2 ∧ P wr) (fun i _ => 2 - (intOf i).toNat)
            case atStart => exact ⟨0, rfl, Nat.zero_le _, HP15.out⟩
            case round =>
              clear HP15
              obtain ⟨k, rfl, hk2, hp⟩ := hrel
              have HPW := Lib.hid hp
              clear hp
              by_cases hlt2 : k < 2
              · have hlt2' : (k : Int) < 2 := by omega
                obtain ⟨gk, hcu, hgk⟩ := HP.out.store k hlt2
                have HCU := Lib.hid hcu
                have HGK := Lib.hid hgk
                have hc0 := hcu _ HPW.out
                obtain ⟨F3, hF3, _⟩ := hgk _ HPW.out
                obtain ⟨f3, u3, v3, hA3, hh3⟩ := store_parts hF3
                have hcg3 : wr.cell? ⟨gk, 0, none⟩ = some (.pointer (some ⟨f3, 0, none⟩)) := (cell_of hA3.cell 0).trans (StoreD.get0 _ _ _)
                have HA3 := Lib.hid hA3
                have HH3 := Lib.hid hh3
                clear hcu hgk hF3 hA3 hh3
                go_wp2_with fail
                refine (files_names wr f3 v3 (fbehind L) HH3.out (by rw [HLEN.out]; omega)).mono ?_
                rintro e w16 ⟨A16, c16, rfl, ho16, hx16, _⟩
                have HO16 := Lib.hid ho16
                have HX16 := Lib.hid hx16
                have HN16 := Lib.hid (HP.out.names (HP.out.step HPW.out hx16))
                clear ho16 hx16 hc0 hcg3
                go_wp2_with fail
                refine (texts_yes2 _ _ _ _ _ _ _ _ ((fbehind L).map (·.name)) HO16.out.reads HN16.out.reads (by simp) (by simp [HLEN.out]) (by first | omega | (rw [HLEN.out]; omega) | (simp [HLEN.out]; omega))).mono ?_
                rintro e w17 ⟨rfl, hx17⟩
                have HX17 := Lib.hid (HX16.out.trans hx17)
                have hc17 := HCU.out _ (HP.out.step HPW.out HX17.out)
                clear hx17
                go_wp2_with fail
                refine (store_log_at w17 gk f3 u3 L (HA3.out.ext HX17.out) HOK.out).mono ?_
                rintro e w18 ⟨A18, c18, rfl, ho18, hx18, _⟩
                have hcv18 := conv_log ho18
                have HP18 := Lib.hid (HP.out.step HPW.out (HX17.out.trans hx18))
                clear ho18 hx18 hc17 HX17 HX16 HO16 HN16 HA3 HH3 HPW
                go_wp2_with fail
                go_loopw [14] (fun i wr => ∃ j : Nat, i = .int .i64 j ∧ j ≤ n ∧ P wr) (fun i _ => n - (intOf i).toNat)
                case atStart => exact ⟨0, rfl, Nat.zero_le _, HP18.out⟩
                case round =>
                  clear HP18 hcv18
                  obtain ⟨j, rfl, hj, hp⟩ := hrel
                  have HPW := Lib.hid hp
                  clear hp
                  by_cases hltj : j < n
                  · obtain ⟨f, hf⟩ : ∃ f, (fbehind L)[j]? = some f := ⟨(fbehind L)[j]'(by rw [HLEN.out]; exact hltj), by simp [HLEN.out, hltj]⟩
                    have hnj : ((fbehind L).map (·.name))[j]? = some f.name := by simp [hf]
                    have htj : (textsOf (fbehind L))[j]? = some f.text := by unfold textsOf; simp [hf]
                    obtain ⟨adN, rfl, _⟩ := (HP.out.names HPW.out).reads j f.name hnj
                    obtain ⟨adX, rfl, _⟩ := (HP.out.texts HPW.out).reads j f.text htj
                    obtain ⟨F4, hF4, hm4⟩ := HGK.out _ HPW.out
                    obtain ⟨gf, hcg, hdo⟩ := store_reads wr gk F4 L hF4
                    have hs0 := HCU.out _ HPW.out
                    have hs2 := list_at (HP.out.names HPW.out) hnj
                    have hs3 := list_at (HP.out.texts HPW.out) htj
                    have HF := Lib.hid hf
                    have HNJ := Lib.hid hnj
                    have HTJ := Lib.hid htj
                    have HDO := Lib.hid hdo
                    have HM := Lib.hid hm4
                    have hself2 : (f.text.toList == f.text.toList) = true := by simp
                    clear hf hnj htj hF4 hm4 hdo
                    go_wp2_with fail
                    go_region_held3 (fun w' => w'.cell? (ab.add k) = some (.pointer (some ⟨gk, 0, none⟩)) ∧ w'.cell? ⟨gk, 0, none⟩ = some (.pointer (some ⟨gf, 0, none⟩)) ∧ w'.cell? (adN.add j) = some (.string f.name) ∧ w'.cell? (adX.add j) = some (.string f.text))
                      (first | exact hs5 | exact ⟨hs0, hcg, hs2, hs3⟩)
                      (first
                        | (go_at_call 14
                           refine (HDO.out _ j f (Touch.drew (Touch.refl _ wr)) HF.out).mono ?_
                           rintro e w20 ⟨rfl, hq20, cs20, hbg20, hcs20⟩
                           have hp20 := HM.out _ hq20
                           have HP20 := Lib.hid hp20
                           have hs5 := And.intro (HCU.out _ hp20) (And.intro ((cell_of hbg20 0).trans hcs20) (And.intro (list_at (HP.out.names hp20) HNJ.out) (list_at (HP.out.texts hp20) HTJ.out)))
                           clear hq20 hbg20 hcs20 hp20))
                    go_wp2
                    go_roundw
                    case rel => exact ⟨j + 1, by go_num, by omega, HP20.out⟩
                    case measure => simp [intOf]; omega
                  · obtain rfl : n = j := by omega
                    go_wp2_with fail
                    go_loopw [15] (fun i wr => ∃ q : Nat, i = .int .i64 q ∧ q ≤ 3 ∧ P wr) (fun i _ => 3 - (intOf i).toNat)
                    case atStart => exact ⟨0, rfl, Nat.zero_le _, HPW.out⟩
                    case round =>
                      clear HPW
                      obtain ⟨q, rfl, hq, hp⟩ := hrel
                      have HPW := Lib.hid hp
                      clear hp
                      by_cases hltq : q < 3
                      · have hltq' : (q : Int) < 3 := by omega
                        obtain ⟨vr, hvr⟩ := HP.out.chest HPW.out
                        have HVR := Lib.hid hvr
                        clear hvr
                        go_wp2_with fail
                        refine (chest_last_at wr gr vr L q HVR.out (by have := log_len HOK.out.each; omega)).mono ?_
                        rintro e w21 ⟨rfl, hx21⟩
                        have HP21 := Lib.hid (HP.out.step HPW.out (hx21.alloc (.cells (lastRec L q).cells 49)))
                        have HX21 := Lib.hid hx21
                        clear hx21
                        cases hlo : lastOf L q with
                        | none =>
                          have HN := Lib.hid (show lastNo L q = 0 by unfold lastNo; rw [hlo])
                          clear hlo
                          have hs0 := HCU.out _ HP21.out
                          obtain ⟨F5, hF5, _⟩ := HGK.out _ HP21.out
                          have HF5 := Lib.hid hF5
                          clear hF5
                          go_wp2_with fail
                          refine (store_last_of _ gk F5 L HF5.out HOK.out q).mono ?_
                          rintro e w22 ⟨rfl, rfl⟩
                          rw [HN.out]
                          go_wp2
                          go_roundw
                          case rel => exact ⟨q + 1, by go_num, by omega, HP21.out⟩
                          case measure => simp [intOf]; omega
                        | some r =>
                          have HR1 := Lib.hid (show lastRec L q = r by unfold lastRec; rw [hlo])
                          have HN := Lib.hid (show lastNo L q = r.no by unfold lastNo; rw [hlo])
                          have HLO := Lib.hid hlo
                          clear hlo
                          rw [HR1.out] at HP21 ⊢
                          obtain ⟨hrm, hrc⟩ := lastOf_mem HLO.out
                          have HRO := Lib.hid (HOK.out.each r hrm)
                          have hrcok : CallOk q r.no r.call := ⟨by omega, HRO.out.no, HRO.out.call⟩
                          have HAG := Lib.hid (chest_again hrcok HRO.out.kind HLO.out rfl rfl)
                          obtain ⟨F5, hF5, hm5⟩ := HGK.out _ (HP.out.step HPW.out HX21.out)
                          have HF5 := Lib.hid hF5
                          have HM5 := Lib.hid hm5
                          have hb22 : (w21.alloc (.cells r.cells 49)).heap[w21.heap.size]? = some (.cells r.cells 49 (0, 0)) := heap_alloc_new _ _
                          have hx2122 : Ext w21 (w21.alloc (.cells r.cells 49)) := (Touch.refl _ w21).alloc _
                          have HNF := Lib.hid (show ¬ F5 w21.heap.size from fun h => by have := Rep.lt _ hF5 _ h; omega)
                          have HNZ := Lib.hid (show ¬ F5 (w21.heap.size + 1) from fun h => by have := Rep.lt _ hF5 _ h; omega)
                          have hsz : (w21.alloc (.cells r.cells 49)).heap.size = w21.heap.size + 1 := World.size_alloc _ _
                          have hcd : (lastOf L q).isSome = true := by rw [HLO.out]; rfl
                          clear hF5 hm5 hrm hrc hrcok
                          go_wp2_with fail
                          generalize w21.alloc (.cells r.cells 49) = w22 at HP21 hb22 hx2122 hsz ⊢
                          obtain ⟨bq, hbq⟩ : ∃ bq, w21.heap.size = bq := ⟨_, rfl⟩
                          rw [hbq] at hb22 hsz HNF HNZ ⊢
                          have hs0 := HCU.out _ HP21.out
                          have hlq22 := (Array.getElem?_eq_some_iff.1 hb22).1
                          refine wp_region_held_drew (S := fun w' => w'.cell? (ab.add k) = some (.pointer (some ⟨gk, 0, none⟩)) ∧ w'.heap[bq]? = some (.cells r.cells 49 (0, 0)) ∧ w'.cell? ⟨bq, 1, none⟩ = some (.int .i64 r.no)) (by kernel_rfl) ⟨hs0, hb22, cell_of hb22 1⟩ (fun hHeld => ?_)
                          refine wpAnyH_take (i := 0) (v := ?_) (List.getElem?_toArray.trans rfl) (by kernel_rfl) (by kernel_rfl) (by kernel_rfl) (fun _ _ _ h => h) (Or.inl ⟨by rfl, ?_⟩) (by assumption) ?_
                          rotate_left
                          · intro w' hw'
                            try dsimp only at hw'
                            skip
                            go_simp
                            try with_reducible rfl
                          try simp only [Act.put, List.setIfInBounds_toArray, List.set_cons_zero, List.set_cons_succ]
                          refine wpAnyH_take (i := 1) (v := ?_) (List.getElem?_toArray.trans rfl) (by kernel_rfl) (by kernel_rfl) (by kernel_rfl) (fun _ _ _ h => h) (Or.inl ⟨by rfl, ?_⟩) (by assumption) ?_
                          rotate_left
                          · intro w' hw'
                            try dsimp only at hw'
                            skip
                            go_simp
                            try with_reducible rfl
                          try simp only [Act.put, List.setIfInBounds_toArray, List.set_cons_zero, List.set_cons_succ]
                          refine wpAnyH_take (i := 2) (v := ?_) (List.getElem?_toArray.trans rfl) (by kernel_rfl) (by kernel_rfl) (by kernel_rfl) (fun _ _ _ h => h) (Or.inl ⟨by rfl, ?_⟩) (by assumption) ?_
                          rotate_left
                          · intro w' hw'
                            try dsimp only at hw'
                            skip
                            go_simp
                            try with_reducible rfl
                          try simp only [Act.put, List.setIfInBounds_toArray, List.set_cons_zero, List.set_cons_succ]
                          refine wpAnyH_take (i := 3) (v := ?_) (List.getElem?_toArray.trans rfl) (by kernel_rfl) (by kernel_rfl) (by kernel_rfl) (fun _ _ _ h => h) (Or.inl ⟨by rfl, ?_⟩) (by assumption) ?_
                          rotate_left
                          · intro w' hw'
                            try dsimp only at hw'
                            obtain ⟨hh1, hh2, hh3⟩ := hw'
                            go_simp
                            try with_reducible rfl
                          try simp only [Act.put, List.setIfInBounds_toArray, List.set_cons_zero, List.set_cons_succ]
                          refine wpAnyH_take (i := 4) (v := ?_) (List.getElem?_toArray.trans rfl) (by kernel_rfl) (by kernel_rfl) (by kernel_rfl) (fun _ _ _ h => h) (Or.inl ⟨by rfl, ?_⟩) (by assumption) ?_
                          rotate_left
                          · intro w' hw'
                            try dsimp only at hw'
                            skip
                            go_simp
                            try with_reducible rfl
                          try simp only [Act.put, List.setIfInBounds_toArray, List.set_cons_zero, List.set_cons_succ]
                          refine wpAnyH_take (i := 5) (v := ?_) (List.getElem?_toArray.trans rfl) (by kernel_rfl) (by kernel_rfl) (by kernel_rfl) (fun _ _ _ h => h) (Or.inl ⟨by rfl, ?_⟩) (by assumption) ?_
                          rotate_left
                          · intro w' hw'
                            try dsimp only at hw'
                            skip
                            go_simp
                            try with_reducible rfl
                          try simp only [Act.put, List.setIfInBounds_toArray, List.set_cons_zero, List.set_cons_succ]
                          refine wpAnyH_take (i := 6) (v := ?_) (List.getElem?_toArray.trans rfl) (by kernel_rfl) (by kernel_rfl) (by kernel_rfl) (fun _ _ _ h => h) (Or.inl ⟨by rfl, ?_⟩) (by assumption) ?_
                          rotate_left
                          · intro w' hw'
                            try dsimp only at hw'
                            obtain ⟨hh1, hh2, hh3⟩ := hw'
                            go_simp
                            try with_reducible rfl
                          try simp only [Act.put, List.setIfInBounds_toArray, List.set_cons_zero, List.set_cons_succ]
                          refine wpAnyH_take (i := 7) (v := ?_) (List.getElem?_toArray.trans rfl) (by kernel_rfl) (by kernel_rfl) (by kernel_rfl) (fun _ _ _ h => h) (Or.inl ⟨by rfl, ?_⟩) (by assumption) ?_
                          rotate_left
                          · intro w' hw'
                            try dsimp only at hw'
                            skip
                            go_simp
                            try with_reducible rfl
                          try simp only [Act.put, List.setIfInBounds_toArray, List.set_cons_zero, List.set_cons_succ]
                          refine wpAnyH_take (i := 8) (v := ?_) (List.getElem?_toArray.trans rfl) (by kernel_rfl) (by kernel_rfl) (by kernel_rfl) (fun _ _ _ h => h) (Or.inl ⟨by rfl, ?_⟩) (by assumption) ?_
                          rotate_left
                          · intro w' hw'
                            try dsimp only at hw'
                            obtain ⟨hh1, hh2, hh3⟩ := hw'
                            go_simp
                            try with_reducible rfl
                          try simp only [Act.put, List.setIfInBounds_toArray, List.set_cons_zero, List.set_cons_succ]
                          refine wpAnyH_ready (rs := [9, 13]) (by kernel_rfl) (by simp) ?_
                          refine AllReadyH.cons (List.getElem?_toArray.trans rfl) (fun K hK => ?_) (AllReadyH.cons (List.getElem?_toArray.trans rfl) (fun K hK => ?_) AllReadyH.nil)
                          · skip
                            go_simp
                            go_at_call 33
                            have hxc : Ext w21 w22.drew := hx2122.trans (Touch.drew (Touch.refl _ w22))
                            refine (store_calls' w22.drew gk F5 L q r.no r.call _ (Rep.ext HF5.out hxc) HOK.out (recok_str HRO.out) HAG.out).mono ?_
                            rintro e w23 ⟨rfl, hq23⟩
                            have hp23 : P w23 := HM5.out _ (Moved.ahead hxc hq23)
                            obtain ⟨_, _, ht23, _⟩ := hq23
                            have hb23 : w23.heap[bq]? = some (.cells r.cells 49 (0, 0)) := ht23.blk hb22 HNF.out
                            have hlq := (Array.getElem?_eq_some_iff.1 hb23).1
                            refine hK.out _ _ ⟨HCU.out _ hp23, hb23, cell_of hb23 1⟩ (fun hHeld => ?_)
                            clear hK K
                            try simp only [Act.put, List.setIfInBounds_toArray, List.set_cons_zero, List.set_cons_succ]
                            refine wpAnyH_take (i := 10) (v := ?_) (List.getElem?_toArray.trans rfl) (by kernel_rfl) (by kernel_rfl) (by kernel_rfl) (fun _ _ _ h => h) (Or.inl ⟨by rfl, ?_⟩) (by assumption) ?_
                            rotate_left
                            · intro w' hw'
                              try dsimp only at hw'
                              skip
                              go_simp
                              try with_reducible rfl
                            try simp only [Act.put, List.setIfInBounds_toArray, List.set_cons_zero, List.set_cons_succ]
                            refine wpAnyH_take (i := 11) (v := ?_) (List.getElem?_toArray.trans rfl) (by kernel_rfl) (by kernel_rfl) (by kernel_rfl) (fun _ _ _ h => h) (Or.inl ⟨by rfl, ?_⟩) (by assumption) ?_
                            rotate_left
                            · intro w' hw'
                              try dsimp only at hw'
                              skip
                              go_simp
                              try with_reducible rfl
                            try simp only [Act.put, List.setIfInBounds_toArray, List.set_cons_zero, List.set_cons_succ]
                            refine wpAnyH_take (i := 12) (v := ?_) (List.getElem?_toArray.trans rfl) (by kernel_rfl) (by kernel_rfl) (by kernel_rfl) (fun _ _ _ h => h) (Or.inl ⟨by rfl, ?_⟩) (by assumption) ?_
                            rotate_left
                            · intro w' hw'
                              try dsimp only at hw'
                              skip
                              go_simp
                              try with_reducible rfl
                            try simp only [Act.put, List.setIfInBounds_toArray, List.set_cons_zero, List.set_cons_succ]
                            refine wpAnyH_ready (rs := [13]) (by kernel_rfl) (by simp) ?_
                            refine AllReadyH.cons (List.getElem?_toArray.trans rfl) (fun K hK => ?_) AllReadyH.nil
                            go_simp
                            have hp23a : P (w23.alloc (.cells (Answer.cells ⟨0, ⟨#[]⟩⟩) 28)) := HP.out.step hp23 ((Touch.refl _ w23).alloc _)
                            have hb23a : (w23.alloc (.cells (Answer.cells ⟨0, ⟨#[]⟩⟩) 28)).heap[bq]? = some (.cells r.cells 49 (0, 0)) := (Below.heap_alloc _ _ _ hlq).trans hb23
                            refine hK.out _ _ ⟨HCU.out _ hp23a, hb23a, cell_of hb23a 1⟩ (fun hHeld => ?_)
                            clear hK K
                            try simp only [Act.put, List.setIfInBounds_toArray, List.set_cons_zero, List.set_cons_succ]
                            refine wpAnyH_ready (rs := [14]) (by kernel_rfl) (by simp) ?_
                            refine AllReadyH.cons (List.getElem?_toArray.trans rfl) (fun K hK => ?_) AllReadyH.nil
                            go_simp
                            have hp24 : P (w23.alloc (.cells r.answer.cells 28)) := HP.out.step hp23 ((Touch.refl _ w23).alloc _)
                            have hb24 : (w23.alloc (.cells r.answer.cells 28)).heap[bq]? = some (.cells r.cells 49 (0, 0)) := (Below.heap_alloc _ _ _ hlq).trans hb23
                            have hz24 : (w23.alloc (.cells r.answer.cells 28)).heap[w23.heap.size]? = some (.cells r.answer.cells 28 (0, 0)) := heap_alloc_new _ _
                            refine hK.out _ _ ⟨HCU.out _ hp24, hb24, cell_of hb24 1⟩ (fun hHeld => ?_)
                            clear hK K
                            try simp only [Act.put, List.setIfInBounds_toArray, List.set_cons_zero, List.set_cons_succ]
                            refine wpAnyH_take (i := 15) (v := ?_) (List.getElem?_toArray.trans rfl) (by kernel_rfl) (by kernel_rfl) (by kernel_rfl) (fun _ _ _ h => h) (Or.inl ⟨by rfl, ?_⟩) (by assumption) ?_
                            rotate_left
                            · intro w' hw'
                              try dsimp only at hw'
                              skip
                              go_simp
                              try with_reducible rfl
                            try simp only [Act.put, List.setIfInBounds_toArray, List.set_cons_zero, List.set_cons_succ]
                            refine wpAnyH_done (by kernel_rfl) ?_ _
                            clear hHeld hp23a hb23a hb23 hlq
                            generalize w23.alloc (.cells r.answer.cells 28) = w24 at hp24 hb24 hz24 ⊢
                            generalize w23.heap.size = bz at hz24 ⊢
                            have HP24 := Lib.hid hp24
                            clear hp24
                            have hbq24 := hb24
                            have HS4 := Lib.hid (show ∀ w', Ext w24 w' → w'.heap[bz]? = some (.cells r.answer.cells 28 (0, 0)) ∧ w'.heap[bq]? = some (.cells r.cells 49 (0, 0)) ∧ w'.cell? ⟨bq, 1, none⟩ = some (.int .i64 r.no) ∧ w'.cell? (ab.add k) = some (.pointer (some ⟨gk, 0, none⟩)) from
                              fun w' hx => ⟨hx.blk hz24 id, hx.blk hbq24 id, cell_of (hx.blk hbq24 id) 1, HCU.out _ (HP.out.step HP24.out hx)⟩)
                            have hde : decide (r.answer = r.answer) = true := by simp
                            have hne : (r.no != r.no) = false := by simp
                            clear hbq24 hb24 hz24
                            go_wp2_with fail
                            refine wp_region_held_drew (S := fun w' => Ext w24 w') (by kernel_rfl) (Touch.drew (Touch.refl _ w24)) (fun hHeld => ?_)
                            refine wpAnyH_take (i := 0) (v := ?_) (List.getElem?_toArray.trans rfl) (by kernel_rfl) (by kernel_rfl) (by kernel_rfl) (fun _ _ _ h => h) (Or.inl ⟨by rfl, ?_⟩) (by assumption) ?_
                            rotate_left
                            · intro w' hw'
                              try dsimp only at hw'
                              skip
                              go_simp
                              try with_reducible rfl
                            try simp only [Act.put, List.setIfInBounds_toArray, List.set_cons_zero, List.set_cons_succ]
                            refine wpAnyH_take (i := 1) (v := ?_) (List.getElem?_toArray.trans rfl) (by kernel_rfl) (by kernel_rfl) (by kernel_rfl) (fun _ _ _ h => h) (Or.inl ⟨by rfl, ?_⟩) (by assumption) ?_
                            rotate_left
                            · intro w' hw'
                              try dsimp only at hw'
                              skip
                              go_simp
                              try with_reducible rfl
                            try simp only [Act.put, List.setIfInBounds_toArray, List.set_cons_zero, List.set_cons_succ]
                            refine wpAnyH_take (i := 2) (v := ?_) (List.getElem?_toArray.trans rfl) (by kernel_rfl) (by kernel_rfl) (by kernel_rfl) (fun _ _ _ h => h) (Or.inl ⟨by rfl, ?_⟩) (by assumption) ?_
                            rotate_left
                            · intro w' hw'
                              try dsimp only at hw'
                              skip
                              go_simp
                              try with_reducible rfl
                            try simp only [Act.put, List.setIfInBounds_toArray, List.set_cons_zero, List.set_cons_succ]
                            refine wpAnyH_take (i := 3) (v := ?_) (List.getElem?_toArray.trans rfl) (by kernel_rfl) (by kernel_rfl) (by kernel_rfl) (fun _ _ _ h => h) (Or.inl ⟨by rfl, ?_⟩) (by assumption) ?_
                            rotate_left
                            · intro w' hw'
                              try dsimp only at hw'
                              obtain ⟨hh1, hh2, hh3, hh4⟩ := HS4.out w' hw'
                              go_simp
                              try with_reducible rfl
                            try simp only [Act.put, List.setIfInBounds_toArray, List.set_cons_zero, List.set_cons_succ]
                            refine wpAnyH_take (i := 4) (v := ?_) (List.getElem?_toArray.trans rfl) (by kernel_rfl) (by kernel_rfl) (by kernel_rfl) (fun _ _ _ h => h) (Or.inl ⟨by rfl, ?_⟩) (by assumption) ?_
                            rotate_left
                            · intro w' hw'
                              try dsimp only at hw'
                              skip
                              go_simp
                              try with_reducible rfl
                            try simp only [Act.put, List.setIfInBounds_toArray, List.set_cons_zero, List.set_cons_succ]
                            refine wpAnyH_take (i := 5) (v := ?_) (List.getElem?_toArray.trans rfl) (by kernel_rfl) (by kernel_rfl) (by kernel_rfl) (fun _ _ _ h => h) (Or.inl ⟨by rfl, ?_⟩) (by assumption) ?_
                            rotate_left
                            · intro w' hw'
                              try dsimp only at hw'
                              obtain ⟨hh1, hh2, hh3, hh4⟩ := HS4.out w' hw'
                              go_simp
                              try with_reducible rfl
                            try simp only [Act.put, List.setIfInBounds_toArray, List.set_cons_zero, List.set_cons_succ]
                            refine wpAnyH_take (i := 6) (v := ?_) (List.getElem?_toArray.trans rfl) (by kernel_rfl) (by kernel_rfl) (by kernel_rfl) (fun _ _ _ h => h) (Or.inl ⟨by rfl, ?_⟩) (by assumption) ?_
                            rotate_left
                            · intro w' hw'
                              try dsimp only at hw'
                              skip
                              go_simp
                              try with_reducible rfl
                            try simp only [Act.put, List.setIfInBounds_toArray, List.set_cons_zero, List.set_cons_succ]
                            refine wpAnyH_take (i := 7) (v := ?_) (List.getElem?_toArray.trans rfl) (by kernel_rfl) (by kernel_rfl) (by kernel_rfl) (fun _ _ _ h => h) (Or.inl ⟨by rfl, ?_⟩) (by assumption) ?_
                            rotate_left
                            · intro w' hw'
                              try dsimp only at hw'
                              skip
                              go_simp
                              try with_reducible rfl
                            try simp only [Act.put, List.setIfInBounds_toArray, List.set_cons_zero, List.set_cons_succ]
                            refine wpAnyH_take (i := 8) (v := ?_) (List.getElem?_toArray.trans rfl) (by kernel_rfl) (by kernel_rfl) (by kernel_rfl) (fun _ _ _ h => h) (Or.inl ⟨by rfl, ?_⟩) (by assumption) ?_
                            rotate_left
                            · intro w' hw'
                              try dsimp only at hw'
                              skip
                              go_simp
                              try with_reducible rfl
                            try simp only [Act.put, List.setIfInBounds_toArray, List.set_cons_zero, List.set_cons_succ]
                            refine wpAnyH_take (i := 9) (v := ?_) (List.getElem?_toArray.trans rfl) (by kernel_rfl) (by kernel_rfl) (by kernel_rfl) (fun _ _ _ h => h) (Or.inl ⟨by rfl, ?_⟩) (by assumption) ?_
                            rotate_left
                            · intro w' hw'
                              try dsimp only at hw'
                              skip
                              go_simp
                              try with_reducible rfl
                            try simp only [Act.put, List.setIfInBounds_toArray, List.set_cons_zero, List.set_cons_succ]
                            refine wpAnyH_take (i := 10) (v := ?_) (List.getElem?_toArray.trans rfl) (by kernel_rfl) (by kernel_rfl) (by kernel_rfl) (fun _ _ _ h => h) (Or.inl ⟨by rfl, ?_⟩) (by assumption) ?_
                            rotate_left
                            · intro w' hw'
                              try dsimp only at hw'
                              skip
                              go_simp
                              try with_reducible rfl
                            try simp only [Act.put, List.setIfInBounds_toArray, List.set_cons_zero, List.set_cons_succ]
                            refine wpAnyH_take (i := 11) (v := ?_) (List.getElem?_toArray.trans rfl) (by kernel_rfl) (by kernel_rfl) (by kernel_rfl) (fun _ _ _ h => h) (Or.inl ⟨by rfl, ?_⟩) (by assumption) ?_
                            rotate_left
                            · intro w' hw'
                              try dsimp only at hw'
                              skip
                              go_simp
                              try with_reducible rfl
                            try simp only [Act.put, List.setIfInBounds_toArray, List.set_cons_zero, List.set_cons_succ]
                            refine wpAnyH_take (i := 12) (v := ?_) (List.getElem?_toArray.trans rfl) (by kernel_rfl) (by kernel_rfl) (by kernel_rfl) (fun _ _ _ h => h) (Or.inl ⟨by rfl, ?_⟩) (by assumption) ?_
                            rotate_left
                            · intro w' hw'
                              try dsimp only at hw'
                              obtain ⟨hh1, hh2, hh3, hh4⟩ := HS4.out w' hw'
                              go_simp
                              try with_reducible rfl
                            try simp only [Act.put, List.setIfInBounds_toArray, List.set_cons_zero, List.set_cons_succ]
                            refine wpAnyH_take (i := 13) (v := ?_) (List.getElem?_toArray.trans rfl) (by kernel_rfl) (by kernel_rfl) (by kernel_rfl) (fun _ _ _ h => h) (Or.inl ⟨by rfl, ?_⟩) (by assumption) ?_
                            rotate_left
                            · intro w' hw'
                              try dsimp only at hw'
                              skip
                              go_simp
                              try with_reducible rfl
                            try simp only [Act.put, List.setIfInBounds_toArray, List.set_cons_zero, List.set_cons_succ]
                            refine wpAnyH_take (i := 15) (v := ?_) (List.getElem?_toArray.trans rfl) (by kernel_rfl) (by kernel_rfl) (by kernel_rfl) (fun _ _ _ h => h) (Or.inl ⟨by rfl, ?_⟩) (by assumption) ?_
                            rotate_left
                            · intro w' hw'
                              try dsimp only at hw'
                              skip
                              go_simp
                              try with_reducible rfl
                            try simp only [Act.put, List.setIfInBounds_toArray, List.set_cons_zero, List.set_cons_succ]
                            refine wpAnyH_take (i := 16) (v := ?_) (List.getElem?_toArray.trans rfl) (by kernel_rfl) (by kernel_rfl) (by kernel_rfl) (fun _ _ _ h => h) (Or.inl ⟨by rfl, ?_⟩) (by assumption) ?_
                            rotate_left
                            · intro w' hw'
                              try dsimp only at hw'
                              obtain ⟨hh1, hh2, hh3, hh4⟩ := HS4.out w' hw'
                              go_simp
                              try with_reducible rfl
                            try simp only [Act.put, List.setIfInBounds_toArray, List.set_cons_zero, List.set_cons_succ]
                            refine wpAnyH_ready (rs := [14]) (by kernel_rfl) (by simp) ?_
                            refine AllReadyH.cons (List.getElem?_toArray.trans rfl) (fun K hK => ?_) AllReadyH.nil
                            go_simp
                            go_at_call 30
                            obtain ⟨F6, hF6, _⟩ := HGK.out _ (HP.out.step HP24.out (Touch.drew (Touch.refl _ w24)))
                            refine (store_last_of _ gk F6 L hF6 HOK.out q).mono ?_
                            rintro e w25 ⟨rfl, hw25⟩
                            rw [HN.out]
                            have hx25 : Ext w24 w25 := (Touch.drew (Touch.refl _ w24)).trans (hw25 ▸ Touch.refl _ _)
                            have HP25 := Lib.hid (HP.out.step HP24.out hx25)
                            clear hF6 hw25
                            refine hK.out _ _ hx25 (fun _ => ?_)
                            clear hK K
                            try simp only [Act.put, List.setIfInBounds_toArray, List.set_cons_zero, List.set_cons_succ]
                            refine wpAnyH_take (i := 17) (v := ?_) (List.getElem?_toArray.trans rfl) (by kernel_rfl) (by kernel_rfl) (by kernel_rfl) (fun _ _ _ h => h) (Or.inl ⟨by rfl, ?_⟩) (by assumption) ?_
                            rotate_left
                            · intro w' hw'
                              try dsimp only at hw'
                              skip
                              go_simp
                              try with_reducible rfl
                            try simp only [Act.put, List.setIfInBounds_toArray, List.set_cons_zero, List.set_cons_succ]
                            refine wpAnyH_take (i := 18) (v := ?_) (List.getElem?_toArray.trans rfl) (by kernel_rfl) (by kernel_rfl) (by kernel_rfl) (fun _ _ _ h => h) (Or.inl ⟨by rfl, ?_⟩) (by assumption) ?_
                            rotate_left
                            · intro w' hw'
                              try dsimp only at hw'
                              skip
                              go_simp
                              try with_reducible rfl
                            try simp only [Act.put, List.setIfInBounds_toArray, List.set_cons_zero, List.set_cons_succ]
                            refine wpAnyH_done (by kernel_rfl) ?_ _
                            go_wp2
                            go_roundw
                            case rel => exact ⟨q + 1, by go_num, by omega, HP25.out⟩
                            case measure => simp [intOf]; omega
                          · skip
                            go_simp
                            have hpa : P (w22.alloc (.cells (Answer.cells ⟨0, ⟨#[]⟩⟩) 28)).drew := HP.out.step HP21.out (((Touch.refl _ w22).alloc _).drew)
                            have hba : (w22.alloc (.cells (Answer.cells ⟨0, ⟨#[]⟩⟩) 28)).drew.heap[bq]? = some (.cells r.cells 49 (0, 0)) := (Below.heap_alloc _ _ _ hlq22).trans hb22
                            have hza : (w22.alloc (.cells (Answer.cells ⟨0, ⟨#[]⟩⟩) 28)).drew.heap[w22.heap.size]? = some (.cells (Answer.cells ⟨0, ⟨#[]⟩⟩) 28 (0, 0)) := heap_alloc_new _ _
                            have hxa : Ext w21 (w22.alloc (.cells (Answer.cells ⟨0, ⟨#[]⟩⟩) 28)).drew := (hx2122.alloc _).drew
                            refine hK.out _ _ ⟨HCU.out _ hpa, hba, cell_of hba 1⟩ (fun hHeld => ?_)
                            clear hK K
                            try simp only [Act.put, List.setIfInBounds_toArray, List.set_cons_zero, List.set_cons_succ]
                            generalize (w22.alloc (.cells (Answer.cells ⟨0, ⟨#[]⟩⟩) 28)).drew = wa at hpa hba hza hxa ⊢
                            obtain ⟨bz, hbz⟩ : ∃ bz, bq + 1 = bz := ⟨_, rfl⟩
                            have hzn : ¬ F5 bz := by rw [← hbz]; exact HNZ.out
                            have nzq : bq ≠ bz := by omega
                            rw [hsz, hbz] at hza
                            rw [hbz]
                            refine wpAnyH_ready (rs := [9]) (by kernel_rfl) (by simp) ?_
                            refine AllReadyH.cons (List.getElem?_toArray.trans rfl) (fun K hK => ?_) AllReadyH.nil
                            go_simp
                            go_at_call 33
                            have hxc : Ext w21 wa := hxa
                            refine (store_calls' wa gk F5 L q r.no r.call _ (Rep.ext HF5.out hxc) HOK.out (recok_str HRO.out) HAG.out).mono ?_
                            rintro e w23 ⟨rfl, hq23⟩
                            have hp23 : P w23 := HM5.out _ (Moved.ahead hxc hq23)
                            have hp24 : P (w23.setRow bz r.answer.cells) := HM5.out _ (Moved.aside hxa hq23 hzn (Array.getElem?_eq_some_iff.1 hza).1 (by omega) _)
                            obtain ⟨_, _, ht23, _⟩ := hq23
                            have hb23 : w23.heap[bq]? = some (.cells r.cells 49 (0, 0)) := ht23.blk hba HNF.out
                            have hz23 : w23.heap[bz]? = some (.cells (Answer.cells ⟨0, ⟨#[]⟩⟩) 28 (0, 0)) := ht23.blk hza hzn
                            refine hK.out _ _ ⟨HCU.out _ hp23, hb23, cell_of hb23 1⟩ (fun hHeld => ?_)
                            clear hK K
                            try simp only [Act.put, List.setIfInBounds_toArray, List.set_cons_zero, List.set_cons_succ]
                            refine wpAnyH_take (i := 10) (v := ?_) (List.getElem?_toArray.trans rfl) (by kernel_rfl) (by kernel_rfl) (by kernel_rfl) (fun _ _ _ h => h) (Or.inl ⟨by rfl, ?_⟩) (by assumption) ?_
                            rotate_left
                            · intro w' hw'
                              try dsimp only at hw'
                              skip
                              go_simp
                              try with_reducible rfl
                            try simp only [Act.put, List.setIfInBounds_toArray, List.set_cons_zero, List.set_cons_succ]
                            refine wpAnyH_take (i := 11) (v := ?_) (List.getElem?_toArray.trans rfl) (by kernel_rfl) (by kernel_rfl) (by kernel_rfl) (fun _ _ _ h => h) (Or.inl ⟨by rfl, ?_⟩) (by assumption) ?_
                            rotate_left
                            · intro w' hw'
                              try dsimp only at hw'
                              skip
                              go_simp
                              try with_reducible rfl
                            try simp only [Act.put, List.setIfInBounds_toArray, List.set_cons_zero, List.set_cons_succ]
                            refine wpAnyH_take (i := 12) (v := ?_) (List.getElem?_toArray.trans rfl) (by kernel_rfl) (by kernel_rfl) (by kernel_rfl) (fun _ _ _ h => h) (Or.inl ⟨by rfl, ?_⟩) (by assumption) ?_
                            rotate_left
                            · intro w' hw'
                              try dsimp only at hw'
                              skip
                              go_simp
                              try with_reducible rfl
                            try simp only [Act.put, List.setIfInBounds_toArray, List.set_cons_zero, List.set_cons_succ]
                            refine wpAnyH_ready (rs := [14]) (by kernel_rfl) (by simp) ?_
                            refine AllReadyH.cons (List.getElem?_toArray.trans rfl) (fun K hK => ?_) AllReadyH.nil
                            go_simp
                            have hz24 := setRow_heap _ _ _ r.answer.cells _ _ hz23
                            have hb24 : (w23.setRow bz r.answer.cells).heap[bq]? = some (.cells r.cells 49 (0, 0)) := (setRow_other _ _ _ _ nzq).trans hb23
                            refine hK.out _ _ ⟨HCU.out _ hp24, hb24, cell_of hb24 1⟩ (fun hHeld => ?_)
                            clear hK K
                            try simp only [Act.put, List.setIfInBounds_toArray, List.set_cons_zero, List.set_cons_succ]
                            refine wpAnyH_take (i := 15) (v := ?_) (List.getElem?_toArray.trans rfl) (by kernel_rfl) (by kernel_rfl) (by kernel_rfl) (fun _ _ _ h => h) (Or.inl ⟨by rfl, ?_⟩) (by assumption) ?_
                            rotate_left
                            · intro w' hw'
                              try dsimp only at hw'
                              skip
                              go_simp
                              try with_reducible rfl
                            try simp only [Act.put, List.setIfInBounds_toArray, List.set_cons_zero, List.set_cons_succ]
                            refine wpAnyH_done (by kernel_rfl) ?_ _
                            clear hHeld hpa hba hb23 hz23 hza
                            generalize w23.setRow bz r.answer.cells = w24 at hp24 hb24 hz24 ⊢
                            have HP24 := Lib.hid hp24
                            clear hp24
                            have hbq24 := hb24
                            have HS4 := Lib.hid (show ∀ w', Ext w24 w' → w'.heap[bz]? = some (.cells r.answer.cells 28 (0, 0)) ∧ w'.heap[bq]? = some (.cells r.cells 49 (0, 0)) ∧ w'.cell? ⟨bq, 1, none⟩ = some (.int .i64 r.no) ∧ w'.cell? (ab.add k) = some (.pointer (some ⟨gk, 0, none⟩)) from
                              fun w' hx => ⟨hx.blk hz24 id, hx.blk hbq24 id, cell_of (hx.blk hbq24 id) 1, HCU.out _ (HP.out.step HP24.out hx)⟩)
                            have hde : decide (r.answer = r.answer) = true := by simp
                            have hne : (r.no != r.no) = false := by simp
                            clear hbq24 hb24 hz24
                            go_wp2_with fail
                            refine wp_region_held_drew (S := fun w' => Ext w24 w') (by kernel_rfl) (Touch.drew (Touch.refl _ w24)) (fun hHeld => ?_)
                            refine wpAnyH_take (i := 0) (v := ?_) (List.getElem?_toArray.trans rfl) (by kernel_rfl) (by kernel_rfl) (by kernel_rfl) (fun _ _ _ h => h) (Or.inl ⟨by rfl, ?_⟩) (by assumption) ?_
                            rotate_left
                            · intro w' hw'
                              try dsimp only at hw'
                              skip
                              go_simp
                              try with_reducible rfl
                            try simp only [Act.put, List.setIfInBounds_toArray, List.set_cons_zero, List.set_cons_succ]
                            refine wpAnyH_take (i := 1) (v := ?_) (List.getElem?_toArray.trans rfl) (by kernel_rfl) (by kernel_rfl) (by kernel_rfl) (fun _ _ _ h => h) (Or.inl ⟨by rfl, ?_⟩) (by assumption) ?_
                            rotate_left
                            · intro w' hw'
                              try dsimp only at hw'
                              skip
                              go_simp
                              try with_reducible rfl
                            try simp only [Act.put, List.setIfInBounds_toArray, List.set_cons_zero, List.set_cons_succ]
                            refine wpAnyH_take (i := 2) (v := ?_) (List.getElem?_toArray.trans rfl) (by kernel_rfl) (by kernel_rfl) (by kernel_rfl) (fun _ _ _ h => h) (Or.inl ⟨by rfl, ?_⟩) (by assumption) ?_
                            rotate_left
                            · intro w' hw'
                              try dsimp only at hw'
                              skip
                              go_simp
                              try with_reducible rfl
                            try simp only [Act.put, List.setIfInBounds_toArray, List.set_cons_zero, List.set_cons_succ]
                            refine wpAnyH_take (i := 3) (v := ?_) (List.getElem?_toArray.trans rfl) (by kernel_rfl) (by kernel_rfl) (by kernel_rfl) (fun _ _ _ h => h) (Or.inl ⟨by rfl, ?_⟩) (by assumption) ?_
                            rotate_left
                            · intro w' hw'
                              try dsimp only at hw'
                              obtain ⟨hh1, hh2, hh3, hh4⟩ := HS4.out w' hw'
                              go_simp
                              try with_reducible rfl
                            try simp only [Act.put, List.setIfInBounds_toArray, List.set_cons_zero, List.set_cons_succ]
                            refine wpAnyH_take (i := 4) (v := ?_) (List.getElem?_toArray.trans rfl) (by kernel_rfl) (by kernel_rfl) (by kernel_rfl) (fun _ _ _ h => h) (Or.inl ⟨by rfl, ?_⟩) (by assumption) ?_
                            rotate_left
                            · intro w' hw'
                              try dsimp only at hw'
                              skip
                              go_simp
                              try with_reducible rfl
                            try simp only [Act.put, List.setIfInBounds_toArray, List.set_cons_zero, List.set_cons_succ]
                            refine wpAnyH_take (i := 5) (v := ?_) (List.getElem?_toArray.trans rfl) (by kernel_rfl) (by kernel_rfl) (by kernel_rfl) (fun _ _ _ h => h) (Or.inl ⟨by rfl, ?_⟩) (by assumption) ?_
                            rotate_left
                            · intro w' hw'
                              try dsimp only at hw'
                              obtain ⟨hh1, hh2, hh3, hh4⟩ := HS4.out w' hw'
                              go_simp
                              try with_reducible rfl
                            try simp only [Act.put, List.setIfInBounds_toArray, List.set_cons_zero, List.set_cons_succ]
                            refine wpAnyH_take (i := 6) (v := ?_) (List.getElem?_toArray.trans rfl) (by kernel_rfl) (by kernel_rfl) (by kernel_rfl) (fun _ _ _ h => h) (Or.inl ⟨by rfl, ?_⟩) (by assumption) ?_
                            rotate_left
                            · intro w' hw'
                              try dsimp only at hw'
                              skip
                              go_simp
                              try with_reducible rfl
                            try simp only [Act.put, List.setIfInBounds_toArray, List.set_cons_zero, List.set_cons_succ]
                            refine wpAnyH_take (i := 7) (v := ?_) (List.getElem?_toArray.trans rfl) (by kernel_rfl) (by kernel_rfl) (by kernel_rfl) (fun _ _ _ h => h) (Or.inl ⟨by rfl, ?_⟩) (by assumption) ?_
                            rotate_left
                            · intro w' hw'
                              try dsimp only at hw'
                              skip
                              go_simp
                              try with_reducible rfl
                            try simp only [Act.put, List.setIfInBounds_toArray, List.set_cons_zero, List.set_cons_succ]
                            refine wpAnyH_take (i := 8) (v := ?_) (List.getElem?_toArray.trans rfl) (by kernel_rfl) (by kernel_rfl) (by kernel_rfl) (fun _ _ _ h => h) (Or.inl ⟨by rfl, ?_⟩) (by assumption) ?_
                            rotate_left
                            · intro w' hw'
                              try dsimp only at hw'
                              skip
                              go_simp
                              try with_reducible rfl
                            try simp only [Act.put, List.setIfInBounds_toArray, List.set_cons_zero, List.set_cons_succ]
                            refine wpAnyH_take (i := 9) (v := ?_) (List.getElem?_toArray.trans rfl) (by kernel_rfl) (by kernel_rfl) (by kernel_rfl) (fun _ _ _ h => h) (Or.inl ⟨by rfl, ?_⟩) (by assumption) ?_
                            rotate_left
                            · intro w' hw'
                              try dsimp only at hw'
                              skip
                              go_simp
                              try with_reducible rfl
                            try simp only [Act.put, List.setIfInBounds_toArray, List.set_cons_zero, List.set_cons_succ]
                            refine wpAnyH_take (i := 10) (v := ?_) (List.getElem?_toArray.trans rfl) (by kernel_rfl) (by kernel_rfl) (by kernel_rfl) (fun _ _ _ h => h) (Or.inl ⟨by rfl, ?_⟩) (by assumption) ?_
                            rotate_left
                            · intro w' hw'
                              try dsimp only at hw'
                              skip
                              go_simp
                              try with_reducible rfl
                            try simp only [Act.put, List.setIfInBounds_toArray, List.set_cons_zero, List.set_cons_succ]
                            refine wpAnyH_take (i := 11) (v := ?_) (List.getElem?_toArray.trans rfl) (by kernel_rfl) (by kernel_rfl) (by kernel_rfl) (fun _ _ _ h => h) (Or.inl ⟨by rfl, ?_⟩) (by assumption) ?_
                            rotate_left
                            · intro w' hw'
                              try dsimp only at hw'
                              skip
                              go_simp
                              try with_reducible rfl
                            try simp only [Act.put, List.setIfInBounds_toArray, List.set_cons_zero, List.set_cons_succ]
                            refine wpAnyH_take (i := 12) (v := ?_) (List.getElem?_toArray.trans rfl) (by kernel_rfl) (by kernel_rfl) (by kernel_rfl) (fun _ _ _ h => h) (Or.inl ⟨by rfl, ?_⟩) (by assumption) ?_
                            rotate_left
                            · intro w' hw'
                              try dsimp only at hw'
                              obtain ⟨hh1, hh2, hh3, hh4⟩ := HS4.out w' hw'
                              go_simp
                              try with_reducible rfl
                            try simp only [Act.put, List.setIfInBounds_toArray, List.set_cons_zero, List.set_cons_succ]
                            refine wpAnyH_take (i := 13) (v := ?_) (List.getElem?_toArray.trans rfl) (by kernel_rfl) (by kernel_rfl) (by kernel_rfl) (fun _ _ _ h => h) (Or.inl ⟨by rfl, ?_⟩) (by assumption) ?_
                            rotate_left
                            · intro w' hw'
                              try dsimp only at hw'
                              skip
                              go_simp
                              try with_reducible rfl
                            try simp only [Act.put, List.setIfInBounds_toArray, List.set_cons_zero, List.set_cons_succ]
                            refine wpAnyH_take (i := 15) (v := ?_) (List.getElem?_toArray.trans rfl) (by kernel_rfl) (by kernel_rfl) (by kernel_rfl) (fun _ _ _ h => h) (Or.inl ⟨by rfl, ?_⟩) (by assumption) ?_
                            rotate_left
                            · intro w' hw'
                              try dsimp only at hw'
                              skip
                              go_simp
                              try with_reducible rfl
                            try simp only [Act.put, List.setIfInBounds_toArray, List.set_cons_zero, List.set_cons_succ]
                            refine wpAnyH_take (i := 16) (v := ?_) (List.getElem?_toArray.trans rfl) (by kernel_rfl) (by kernel_rfl) (by kernel_rfl) (fun _ _ _ h => h) (Or.inl ⟨by rfl, ?_⟩) (by assumption) ?_
                            rotate_left
                            · intro w' hw'
                              try dsimp only at hw'
                              obtain ⟨hh1, hh2, hh3, hh4⟩ := HS4.out w' hw'
                              go_simp
                              try with_reducible rfl
                            try simp only [Act.put, List.setIfInBounds_toArray, List.set_cons_zero, List.set_cons_succ]
                            refine wpAnyH_ready (rs := [14]) (by kernel_rfl) (by simp) ?_
                            refine AllReadyH.cons (List.getElem?_toArray.trans rfl) (fun K hK => ?_) AllReadyH.nil
                            go_simp
                            go_at_call 30
                            obtain ⟨F6, hF6, _⟩ := HGK.out _ (HP.out.step HP24.out (Touch.drew (Touch.refl _ w24)))
                            refine (store_last_of _ gk F6 L hF6 HOK.out q).mono ?_
                            rintro e w25 ⟨rfl, hw25⟩
                            rw [HN.out]
                            have hx25 : Ext w24 w25 := (Touch.drew (Touch.refl _ w24)).trans (hw25 ▸ Touch.refl _ _)
                            have HP25 := Lib.hid (HP.out.step HP24.out hx25)
                            clear hF6 hw25
                            refine hK.out _ _ hx25 (fun _ => ?_)
                            clear hK K
                            try simp only [Act.put, List.setIfInBounds_toArray, List.set_cons_zero, List.set_cons_succ]
                            refine wpAnyH_take (i := 17) (v := ?_) (List.getElem?_toArray.trans rfl) (by kernel_rfl) (by kernel_rfl) (by kernel_rfl) (fun _ _ _ h => h) (Or.inl ⟨by rfl, ?_⟩) (by assumption) ?_
                            rotate_left
                            · intro w' hw'
                              try dsimp only at hw'
                              skip
                              go_simp
                              try with_reducible rfl
                            try simp only [Act.put, List.setIfInBounds_toArray, List.set_cons_zero, List.set_cons_succ]
                            refine wpAnyH_take (i := 18) (v := ?_) (List.getElem?_toArray.trans rfl) (by kernel_rfl) (by kernel_rfl) (by kernel_rfl) (fun _ _ _ h => h) (Or.inl ⟨by rfl, ?_⟩) (by assumption) ?_
                            rotate_left
                            · intro w' hw'
                              try dsimp only at hw'
                              skip
                              go_simp
                              try with_reducible rfl
                            try simp only [Act.put, List.setIfInBounds_toArray, List.set_cons_zero, List.set_cons_succ]
                            refine wpAnyH_done (by kernel_rfl) ?_ _
                            go_wp2
                            go_roundw
                            case rel => exact ⟨q + 1, by go_num, by omega, HP25.out⟩
                            case measure => simp [intOf]; omega
                      · obtain rfl : q = 3 := by omega
                        go_wp2
                        go_roundw
                        case rel => exact ⟨k + 1, by go_num, by omega, HPW.out⟩
                        case measure => simp [intOf]; omega
              · go_wp2
                go_ret
                exact ⟨by first | rfl | simp, HP.out.ext HPW.out⟩
end Go.Proofs.Ytalfbhhldfffkab
