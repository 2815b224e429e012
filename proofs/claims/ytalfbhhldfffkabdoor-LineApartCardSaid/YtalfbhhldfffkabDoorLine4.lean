/- Line4: line.Call. -/
import Derived.Test.YtalfbhhldfffkabDoorLine3
import Derived.Test.YtalfbhhldfffkabDoorGBasis
namespace Go.Proofs.YtalfbhhldfffkabDoor
open Go.RowKit

theorem wpAnyH_moreL {P : Program} {ops : Array Oper} {Q : Exit → Act → World → Prop} {md : Region.Mode} {S S' : World → Prop} (hS : ∀ w, S' w → S w) :
    ∀ (fuel : Nat) (listed : Array Bool) (a : Act) (w : World), wpAnyH P md ops Q S' fuel listed a w → wpAnyH P md ops Q S fuel listed a w
  | 0, _, _, _, h => h
  | fuel + 1, _, _, _, h => ⟨h.1, fun i hi => wpOp_mono (fun a' w' h' => ⟨hS w' h'.1, wpAnyH_moreL hS fuel _ a' w' h'.2⟩) (h.2 i hi)⟩
theorem cell_text {w : World} {A : Option Addr} {l : List ByteArray} {k : Nat} {x : ByteArray} (h : Reads w w.heap.size A l) (hk : l[k]? = some x) : ∃ ad, A = some ad ∧ ∀ w', Ext w w' → w'.cell? (ad.add k) = some (.string x) := by
  obtain ⟨ad, e, hb, hat⟩ := h k x hk
  refine ⟨ad, e, fun w' hx => ?_⟩
  have hkb : (ad.add (k * Lies.size ByteArray)).block = ad.block := by unfold Addr.add; split <;> rfl
  have h1 : At w' (ad.add (k * Lies.size ByteArray)) x := hat.of_same (w' := w') (by rw [hkb]; exact hx.block _ hb id)
  have h2 := h1 0 _ rfl
  have h3 : ((ad.add (k * Lies.size ByteArray)).add 0) = ad.add k := by
    show ((ad.add (k * 1)).add 0) = _
    unfold Addr.add; split <;> split <;> simp_all
  rw [← h3]; exact h2
theorem own_text {w : World} {E : TypeId} {A : Option Addr} {n c : Nat} {l : List ByteArray} {k : Nat} {x : ByteArray} (h : Owns w E (.slice A n c) l) (hk : l[k]? = some x) : ∃ g, A = some ⟨g, 0, none⟩ ∧ ∀ w', Ext w w' → w'.cell? ⟨g, k, none⟩ = some (.string x) := by
  obtain ⟨ad, rfl, h1⟩ := cell_text h.reads hk
  obtain ⟨g, e⟩ := h.some_form
  cases e
  refine ⟨g, rfl, fun w' hx => ?_⟩
  have h2 := h1 w' hx
  have h3 : (⟨g, 0, none⟩ : Addr).add k = ⟨g, k, none⟩ := by unfold Addr.add; split <;> simp_all
  rwa [h3] at h2
theorem join_len (xs : List ByteArray) : (Lib.join (xs.map (·.data.toList)) [32]).length = (joinSp xs).size := by
  rw [← joinSp_eq]; simp [ByteArray.size]
theorem join2 (p x : ByteArray) : joinSp [p, x] = p ++ ⟨#[32]⟩ ++ x := rfl
theorem join3 (p x y : ByteArray) : joinSp [p, x, y] = p ++ ⟨#[32]⟩ ++ x ++ ⟨#[32]⟩ ++ y := rfl
theorem jline_1 {x : Call} (k : Int) (p : ByteArray) (hk : x.kind = k) (h : k = 1 ∧ p = ⟨#[109, 97, 107, 101]⟩ ∨ k = 2 ∧ p = ⟨#[114, 101, 109, 111, 118, 101]⟩ ∨ k = 5 ∧ p = ⟨#[114, 101, 97, 100]⟩) : joinSp [p, x.name] = mkStr (callLine x) := by
  refine toList_inj ?_
  rw [join2, toList_app, toList_app, mkStr_toList, sp_toList]
  unfold callLine
  rw [hk]
  rcases h with ⟨rfl, rfl⟩ | ⟨rfl, rfl⟩ | ⟨rfl, rfl⟩ <;> (rw [ByteArray.toList_eq ⟨_⟩]; simp [kindWord, wMake, wRemove, wRead])
theorem jline_3 {x : Call} (hk : x.kind = 3) : joinSp [⟨#[114, 101, 110, 97, 109, 101]⟩, x.name, x.to_] = mkStr (callLine x) := by
  refine toList_inj ?_
  rw [join3, toList_app, toList_app, toList_app, toList_app, mkStr_toList, sp_toList]
  unfold callLine
  rw [hk, ByteArray.toList_eq ⟨_⟩]
  simp [kindWord, wRename]
theorem jline_4 {x : Call} (hk : x.kind = 4) : joinSp [⟨#[97, 112, 112, 101, 110, 100]⟩, x.name, x.text] = mkStr (callLine x) := by
  refine toList_inj ?_
  rw [join3, toList_app, toList_app, toList_app, toList_app, mkStr_toList, sp_toList]
  unfold callLine
  rw [hk, ByteArray.toList_eq ⟨_⟩]
  simp [kindWord, wAppend]
theorem line_small {x : Call} (h : callCode x = 0) : (mkStr (callLine x)).size ≤ 140737488355328 := by
  rw [mkStr_size]
  have hform := callCode_form h
  have hn : x.name.toList.length ≤ 5 := by
    rw [size_toList]
    by_cases h6 : x.kind = 6
    · rw [hform.1 h6]; decide
    · exact okText_le' (callCode_name h h6)
  have ht : x.to_.toList.length ≤ 5 := by
    rw [size_toList]
    by_cases h3 : x.kind = 3
    · exact okText_le' (callCode_to h h3)
    · rw [hform.2.1 h3]; decide
  have hx : x.text.toList.length ≤ 8 := by
    rw [size_toList]
    by_cases h4 : x.kind = 4
    · exact okText_le' (callCode_text h h4)
    · rw [hform.2.2 h4]; decide
  have hw : (kindWord x.kind).length ≤ 6 := by
    unfold kindWord
    repeat' split
    all_goals decide
  unfold callLine
  rw [List.length_append, List.length_append]
  have h1 : (if x.kind = 6 then [] else 32 :: x.name.toList).length ≤ 6 := by split <;> simp <;> omega
  have h2 : (if x.kind = 3 then 32 :: x.to_.toList else if x.kind = 4 then 32 :: x.text.toList else []).length ≤ 9 := by
    split
    · simp; omega
    · split <;> simp <;> omega
  omega
set_option maxHeartbeats 2000000 in
set_option maxRecDepth 100000 in
theorem line_call (w : World) (x : Call) (hx : StrCall x) : Calls Tryd.prog 8 #[.agg x.cells] w (CTPost w x) := by
  have HST := Lib.hid hx
  have hb : (w.alloc (.cells x.cells 23)).heap[w.heap.size]? = some (.cells x.cells 23 (0, 0)) := heap_alloc_new _ _
  have HX := Lib.hid (show Ext w (w.alloc (.cells x.cells 23)) from (Touch.refl _ w).alloc _)
  clear hx
  go_enter Tryd.func8, Tryd.ntmps8
  go_upto_region 1 with fail
  generalize w.alloc (.cells x.cells 23) = w1 at HX hb ⊢
  generalize w.heap.size = b at hb ⊢
  obtain ⟨n, hn⟩ : ∃ n, callCode x = n := ⟨_, rfl⟩
  have HN := Lib.hid hn
  clear hn
  go_wp2_with fail
  refine (files_check' w1 x n HN.out HST.out).mono ?_
  rintro e w2 ⟨rfl, hx2⟩
  have hb2 := hx2.blk hb id
  have HX2 := Lib.hid (HX.out.trans hx2)
  clear hx2 hb
  by_cases h0 : n = 0
  · subst h0
    have HCT := Lib.hid (ct_zero HN.out)
    have hkd := callCode_kind HN.out
    have HF := Lib.hid (callCode_form HN.out)
    have hn5 : (x.name.size : Int) ≤ 5 := by
      by_cases h6 : x.kind = 6
      · rw [HF.out.1 h6]; decide
      · have := okText_le' (callCode_name HN.out h6); omega
    have HNE := Lib.hid (show x.kind ≠ 6 → x.name.toList.isEmpty = false from fun h6 => by
      have h1 := okText_pos (callCode_name HN.out h6)
      rw [← size_toList] at h1
      cases hl : x.name.toList with
      | nil => rw [hl] at h1; simp at h1
      | cons a l => rfl)
    obtain hk | hk | hk | hk | hk | hk : x.kind = 1 ∨ x.kind = 2 ∨ x.kind = 3 ∨ x.kind = 4 ∨ x.kind = 5 ∨ x.kind = 6 := by omega
    · skip
      clear hkd
      have h0 := (cell_of hb2 0).trans (Call.get0 x)
      rw [hk] at h0
      have HC := Lib.hid (show ∀ w', Ext w2 w' → w'.cell? ⟨b, 0, none⟩ = some (.int .i64 1) from fun w' hx => by rw [← hk]; exact (cell_of (hx.blk hb2 id) 0).trans (Call.get0 x))
      have HB2 := Lib.hid hb2
      have HK := Lib.hid hk
      clear hb2 hk
      go_wp2_with fail
      refine wp_region_held_drew (S := fun w' => Ext w2 w') (by kernel_rfl) (Touch.drew (Touch.refl _ w2)) (fun hHeld => ?_)
      refine wpAnyH_take (i := 1) (v := ?_) (List.getElem?_toArray.trans rfl) (by kernel_rfl) (by kernel_rfl) (by kernel_rfl) (fun _ _ _ h => h) (Or.inl ⟨by rfl, ?_⟩) (by assumption) ?_
      rotate_left
      · intro w' hw'
        try dsimp only at hw'
        skip
        go_simp
        try with_reducible rfl
      try simp only [Act.put, List.setIfInBounds_toArray, List.set_cons_zero, List.set_cons_succ]
      refine wpAnyH_take (i := 2) (v := ?_) (List.getElem?_toArray.trans rfl) (by kernel_rfl) (by kernel_rfl) (by kernel_rfl) (fun _ _ _ h => h) (Or.inl ⟨by rfl, ?_⟩) (by assumption) ?_
      rotate_left
      · intro w' hw'
        try dsimp only at hw'
        have hh1 := HC.out w' hw'
        go_simp
        try with_reducible rfl
      try simp only [Act.put, List.setIfInBounds_toArray, List.set_cons_zero, List.set_cons_succ]
      refine wpAnyH_ready (rs := [0]) (by kernel_rfl) (by simp) ?_
      refine AllReadyH.cons (List.getElem?_toArray.trans rfl) (fun K hK => ?_) AllReadyH.nil
      go_simp
      go_at_call 15
      refine (line_words w2.drew).mono ?_
      rintro e w3 ⟨A3, c3, rfl, ho3, hx3, _⟩
      have X3 : Ext w2 w3 := (Touch.drew (Touch.refl _ w2)).trans hx3
      obtain ⟨g3, rfl, hcw⟩ := own_text (k := 1) (x := ⟨#[109, 97, 107, 101]⟩) ho3 rfl
      have HCW := Lib.hid hcw
      have HX3 := Lib.hid X3
      clear hx3 ho3 hcw h0
      rw [show wordsL.length = 7 from rfl]
      refine hK.out _ _ X3 (fun hHeld => ?_)
      clear hK K
      try simp only [Act.put, List.setIfInBounds_toArray, List.set_cons_zero, List.set_cons_succ]
      refine wpAnyH_moreL (S' := fun w' => Ext w3 w') (fun w' h => X3.trans h) _ _ _ _ ?_
      clear hHeld X3
      have hHeld : Ext w3 w3 := Touch.refl _ _
      refine wpAnyH_take (i := 3) (v := ?_) (List.getElem?_toArray.trans rfl) (by kernel_rfl) (by kernel_rfl) (by kernel_rfl) (fun _ _ _ h => h) (Or.inl ⟨by rfl, ?_⟩) (by assumption) ?_
      rotate_left
      · intro w' hw'
        try dsimp only at hw'
        skip
        go_simp
        try with_reducible rfl
      try simp only [Act.put, List.setIfInBounds_toArray, List.set_cons_zero, List.set_cons_succ]
      refine wpAnyH_take (i := 4) (v := ?_) (List.getElem?_toArray.trans rfl) (by kernel_rfl) (by kernel_rfl) (by kernel_rfl) (fun _ _ _ h => h) (Or.inl ⟨by rfl, ?_⟩) (by assumption) ?_
      rotate_left
      · intro w' hw'
        try dsimp only at hw'
        have hh1 := HCW.out w' hw'
        go_simp
        try with_reducible rfl
      try simp only [Act.put, List.setIfInBounds_toArray, List.set_cons_zero, List.set_cons_succ]
      refine wpAnyH_ready (rs := [5]) (by kernel_rfl) (by simp) ?_
      refine AllReadyH.cons (List.getElem?_toArray.trans rfl) (fun K hK => ?_) AllReadyH.nil
      go_simp
      have X4 : Ext w3 (w3.alloc (.cells #[.string ⟨#[109, 97, 107, 101]⟩] 9)) := (Touch.refl _ w3).alloc _
      refine hK.out _ _ X4 (fun hHeld => ?_)
      clear hK K
      try simp only [Act.put, List.setIfInBounds_toArray, List.set_cons_zero, List.set_cons_succ]
      refine wpAnyH_take (i := 6) (v := ?_) (List.getElem?_toArray.trans rfl) (by kernel_rfl) (by kernel_rfl) (by kernel_rfl) (fun _ _ _ h => h) (Or.inl ⟨by rfl, ?_⟩) (by assumption) ?_
      rotate_left
      · intro w' hw'
        try dsimp only at hw'
        skip
        go_simp
        try with_reducible rfl
      try simp only [Act.put, List.setIfInBounds_toArray, List.set_cons_zero, List.set_cons_succ]
      refine wpAnyH_done (by kernel_rfl) ?_ _
      clear hHeld
      have HO4 := Lib.hid (show Owns (w3.alloc (.cells #[.string ⟨#[109, 97, 107, 101]⟩] 9)) 9 (.slice (some ⟨w3.heap.size, 0, none⟩) 1 1) [(⟨#[109, 97, 107, 101]⟩ : ByteArray)] from own_take_drop (heap_alloc_new _ _) rfl (by decide) (by decide) rfl rfl)
      have HX4 := Lib.hid (HX3.out.trans X4)
      have hg4 : w2.heap.size ≤ w3.heap.size := HX3.out.size
      clear X4
      generalize w3.alloc (.cells #[.string ⟨#[109, 97, 107, 101]⟩] 9) = w4 at HO4 HX4 ⊢
      generalize w3.heap.size = g4 at HO4 hg4 ⊢
      have h1 := (cell_of (HX4.out.blk HB2.out id) 1).trans (Call.get1 x)
      have he := HNE.out (by rw [HK.out]; decide)
      go_upto_region 7 with (
        at_builtin
        have t1 := HO4.out.ext ((Touch.refl _ w4).alloc (.cells #[.string x.name] 9))
        have t2 := reads_block (x := x.name) (b := w4.heap.size) (t := 9) (fr := (0, 0)) (heap_alloc_new w4 (.cells #[.string x.name] 9)) (w4.heap.size + 1) (by omega)
        refine wpList_append_own' (by rfl) (.tmp 20) (.tmp 23) 37 (by rfl) elemString Tryd.underlying37 (v := _) (l := [⟨#[109, 97, 107, 101]⟩]) (by rfl) t1 [x.name] (by rfl) 2 (by rfl) (by rfl) t2 (by simp) ?_
        clear t1 t2
        intro A5 c5 w5 hown5 hgrow5 hat5
        have HF5 := Lib.hid (show ∀ k, (Value.slice A5 2 c5).ownBlock = some k → w2.heap.size ≤ k from fun k hk => by
          rcases hat5 with h | h
          · rw [h] at hk; simp [Value.ownBlock] at hk; omega
          · rw [h] at hk; injection hk with hk; have := (HX4.out.alloc (.cells #[.string x.name] 9)).size; omega)
        have HO5 := Lib.hid hown5
        have HX5 := Lib.hid (show Ext w2 w5 from (HX4.out.alloc _).grown hgrow5 fun q hq => .inr (by simp [Value.ownBlock] at hq; omega))
        clear hown5 hgrow5 hat5)
      have h05 := HC.out w5 HX5.out
      have h25 := (cell_of (HX5.out.blk HB2.out id) 2).trans (Call.get2 x)
      have h35 := (cell_of (HX5.out.blk HB2.out id) 3).trans (Call.get3 x)
      clear h1 he
      go_wp2_with fail
      have hjl := join_len [⟨#[109, 97, 107, 101]⟩, x.name]
      rw [(jline_1 1 _ HK.out (.inl ⟨rfl, rfl⟩))] at hjl
      refine (join_names _ _ _ _ [⟨#[109, 97, 107, 101]⟩, x.name] HO5.out (by simp) (by rw [hjl]; exact (line_small HN.out))).mono ?_
      rintro e w6 ⟨rfl, hx6⟩
      have HX6 := Lib.hid (HX2.out.trans (HX5.out.trans hx6))
      have HJ := Lib.hid (jline_1 1 _ HK.out (.inl ⟨rfl, rfl⟩))
      clear hjl hx6
      go_wp2
      go_ret2
      unfold CTPost
      rw [HCT.out, ← HJ.out]
      exact ⟨rfl, HX6.out⟩
    · skip
      clear hkd
      have h0 := (cell_of hb2 0).trans (Call.get0 x)
      rw [hk] at h0
      have HC := Lib.hid (show ∀ w', Ext w2 w' → w'.cell? ⟨b, 0, none⟩ = some (.int .i64 2) from fun w' hx => by rw [← hk]; exact (cell_of (hx.blk hb2 id) 0).trans (Call.get0 x))
      have HB2 := Lib.hid hb2
      have HK := Lib.hid hk
      clear hb2 hk
      go_wp2_with fail
      refine wp_region_held_drew (S := fun w' => Ext w2 w') (by kernel_rfl) (Touch.drew (Touch.refl _ w2)) (fun hHeld => ?_)
      refine wpAnyH_take (i := 1) (v := ?_) (List.getElem?_toArray.trans rfl) (by kernel_rfl) (by kernel_rfl) (by kernel_rfl) (fun _ _ _ h => h) (Or.inl ⟨by rfl, ?_⟩) (by assumption) ?_
      rotate_left
      · intro w' hw'
        try dsimp only at hw'
        skip
        go_simp
        try with_reducible rfl
      try simp only [Act.put, List.setIfInBounds_toArray, List.set_cons_zero, List.set_cons_succ]
      refine wpAnyH_take (i := 2) (v := ?_) (List.getElem?_toArray.trans rfl) (by kernel_rfl) (by kernel_rfl) (by kernel_rfl) (fun _ _ _ h => h) (Or.inl ⟨by rfl, ?_⟩) (by assumption) ?_
      rotate_left
      · intro w' hw'
        try dsimp only at hw'
        have hh1 := HC.out w' hw'
        go_simp
        try with_reducible rfl
      try simp only [Act.put, List.setIfInBounds_toArray, List.set_cons_zero, List.set_cons_succ]
      refine wpAnyH_ready (rs := [0]) (by kernel_rfl) (by simp) ?_
      refine AllReadyH.cons (List.getElem?_toArray.trans rfl) (fun K hK => ?_) AllReadyH.nil
      go_simp
      go_at_call 15
      refine (line_words w2.drew).mono ?_
      rintro e w3 ⟨A3, c3, rfl, ho3, hx3, _⟩
      have X3 : Ext w2 w3 := (Touch.drew (Touch.refl _ w2)).trans hx3
      obtain ⟨g3, rfl, hcw⟩ := own_text (k := 2) (x := ⟨#[114, 101, 109, 111, 118, 101]⟩) ho3 rfl
      have HCW := Lib.hid hcw
      have HX3 := Lib.hid X3
      clear hx3 ho3 hcw h0
      rw [show wordsL.length = 7 from rfl]
      refine hK.out _ _ X3 (fun hHeld => ?_)
      clear hK K
      try simp only [Act.put, List.setIfInBounds_toArray, List.set_cons_zero, List.set_cons_succ]
      refine wpAnyH_moreL (S' := fun w' => Ext w3 w') (fun w' h => X3.trans h) _ _ _ _ ?_
      clear hHeld X3
      have hHeld : Ext w3 w3 := Touch.refl _ _
      refine wpAnyH_take (i := 3) (v := ?_) (List.getElem?_toArray.trans rfl) (by kernel_rfl) (by kernel_rfl) (by kernel_rfl) (fun _ _ _ h => h) (Or.inl ⟨by rfl, ?_⟩) (by assumption) ?_
      rotate_left
      · intro w' hw'
        try dsimp only at hw'
        skip
        go_simp
        try with_reducible rfl
      try simp only [Act.put, List.setIfInBounds_toArray, List.set_cons_zero, List.set_cons_succ]
      refine wpAnyH_take (i := 4) (v := ?_) (List.getElem?_toArray.trans rfl) (by kernel_rfl) (by kernel_rfl) (by kernel_rfl) (fun _ _ _ h => h) (Or.inl ⟨by rfl, ?_⟩) (by assumption) ?_
      rotate_left
      · intro w' hw'
        try dsimp only at hw'
        have hh1 := HCW.out w' hw'
        go_simp
        try with_reducible rfl
      try simp only [Act.put, List.setIfInBounds_toArray, List.set_cons_zero, List.set_cons_succ]
      refine wpAnyH_ready (rs := [5]) (by kernel_rfl) (by simp) ?_
      refine AllReadyH.cons (List.getElem?_toArray.trans rfl) (fun K hK => ?_) AllReadyH.nil
      go_simp
      have X4 : Ext w3 (w3.alloc (.cells #[.string ⟨#[114, 101, 109, 111, 118, 101]⟩] 9)) := (Touch.refl _ w3).alloc _
      refine hK.out _ _ X4 (fun hHeld => ?_)
      clear hK K
      try simp only [Act.put, List.setIfInBounds_toArray, List.set_cons_zero, List.set_cons_succ]
      refine wpAnyH_take (i := 6) (v := ?_) (List.getElem?_toArray.trans rfl) (by kernel_rfl) (by kernel_rfl) (by kernel_rfl) (fun _ _ _ h => h) (Or.inl ⟨by rfl, ?_⟩) (by assumption) ?_
      rotate_left
      · intro w' hw'
        try dsimp only at hw'
        skip
        go_simp
        try with_reducible rfl
      try simp only [Act.put, List.setIfInBounds_toArray, List.set_cons_zero, List.set_cons_succ]
      refine wpAnyH_done (by kernel_rfl) ?_ _
      clear hHeld
      have HO4 := Lib.hid (show Owns (w3.alloc (.cells #[.string ⟨#[114, 101, 109, 111, 118, 101]⟩] 9)) 9 (.slice (some ⟨w3.heap.size, 0, none⟩) 1 1) [(⟨#[114, 101, 109, 111, 118, 101]⟩ : ByteArray)] from own_take_drop (heap_alloc_new _ _) rfl (by decide) (by decide) rfl rfl)
      have HX4 := Lib.hid (HX3.out.trans X4)
      have hg4 : w2.heap.size ≤ w3.heap.size := HX3.out.size
      clear X4
      generalize w3.alloc (.cells #[.string ⟨#[114, 101, 109, 111, 118, 101]⟩] 9) = w4 at HO4 HX4 ⊢
      generalize w3.heap.size = g4 at HO4 hg4 ⊢
      have h1 := (cell_of (HX4.out.blk HB2.out id) 1).trans (Call.get1 x)
      have he := HNE.out (by rw [HK.out]; decide)
      go_upto_region 7 with (
        at_builtin
        have t1 := HO4.out.ext ((Touch.refl _ w4).alloc (.cells #[.string x.name] 9))
        have t2 := reads_block (x := x.name) (b := w4.heap.size) (t := 9) (fr := (0, 0)) (heap_alloc_new w4 (.cells #[.string x.name] 9)) (w4.heap.size + 1) (by omega)
        refine wpList_append_own' (by rfl) (.tmp 20) (.tmp 23) 37 (by rfl) elemString Tryd.underlying37 (v := _) (l := [⟨#[114, 101, 109, 111, 118, 101]⟩]) (by rfl) t1 [x.name] (by rfl) 2 (by rfl) (by rfl) t2 (by simp) ?_
        clear t1 t2
        intro A5 c5 w5 hown5 hgrow5 hat5
        have HF5 := Lib.hid (show ∀ k, (Value.slice A5 2 c5).ownBlock = some k → w2.heap.size ≤ k from fun k hk => by
          rcases hat5 with h | h
          · rw [h] at hk; simp [Value.ownBlock] at hk; omega
          · rw [h] at hk; injection hk with hk; have := (HX4.out.alloc (.cells #[.string x.name] 9)).size; omega)
        have HO5 := Lib.hid hown5
        have HX5 := Lib.hid (show Ext w2 w5 from (HX4.out.alloc _).grown hgrow5 fun q hq => .inr (by simp [Value.ownBlock] at hq; omega))
        clear hown5 hgrow5 hat5)
      have h05 := HC.out w5 HX5.out
      have h25 := (cell_of (HX5.out.blk HB2.out id) 2).trans (Call.get2 x)
      have h35 := (cell_of (HX5.out.blk HB2.out id) 3).trans (Call.get3 x)
      clear h1 he
      go_wp2_with fail
      have hjl := join_len [⟨#[114, 101, 109, 111, 118, 101]⟩, x.name]
      rw [(jline_1 2 _ HK.out (.inr (.inl ⟨rfl, rfl⟩)))] at hjl
      refine (join_names _ _ _ _ [⟨#[114, 101, 109, 111, 118, 101]⟩, x.name] HO5.out (by simp) (by rw [hjl]; exact (line_small HN.out))).mono ?_
      rintro e w6 ⟨rfl, hx6⟩
      have HX6 := Lib.hid (HX2.out.trans (HX5.out.trans hx6))
      have HJ := Lib.hid (jline_1 2 _ HK.out (.inr (.inl ⟨rfl, rfl⟩)))
      clear hjl hx6
      go_wp2
      go_ret2
      unfold CTPost
      rw [HCT.out, ← HJ.out]
      exact ⟨rfl, HX6.out⟩
    · skip
      clear hkd
      have h0 := (cell_of hb2 0).trans (Call.get0 x)
      rw [hk] at h0
      have HC := Lib.hid (show ∀ w', Ext w2 w' → w'.cell? ⟨b, 0, none⟩ = some (.int .i64 3) from fun w' hx => by rw [← hk]; exact (cell_of (hx.blk hb2 id) 0).trans (Call.get0 x))
      have HB2 := Lib.hid hb2
      have HK := Lib.hid hk
      clear hb2 hk
      go_wp2_with fail
      refine wp_region_held_drew (S := fun w' => Ext w2 w') (by kernel_rfl) (Touch.drew (Touch.refl _ w2)) (fun hHeld => ?_)
      refine wpAnyH_take (i := 1) (v := ?_) (List.getElem?_toArray.trans rfl) (by kernel_rfl) (by kernel_rfl) (by kernel_rfl) (fun _ _ _ h => h) (Or.inl ⟨by rfl, ?_⟩) (by assumption) ?_
      rotate_left
      · intro w' hw'
        try dsimp only at hw'
        skip
        go_simp
        try with_reducible rfl
      try simp only [Act.put, List.setIfInBounds_toArray, List.set_cons_zero, List.set_cons_succ]
      refine wpAnyH_take (i := 2) (v := ?_) (List.getElem?_toArray.trans rfl) (by kernel_rfl) (by kernel_rfl) (by kernel_rfl) (fun _ _ _ h => h) (Or.inl ⟨by rfl, ?_⟩) (by assumption) ?_
      rotate_left
      · intro w' hw'
        try dsimp only at hw'
        have hh1 := HC.out w' hw'
        go_simp
        try with_reducible rfl
      try simp only [Act.put, List.setIfInBounds_toArray, List.set_cons_zero, List.set_cons_succ]
      refine wpAnyH_ready (rs := [0]) (by kernel_rfl) (by simp) ?_
      refine AllReadyH.cons (List.getElem?_toArray.trans rfl) (fun K hK => ?_) AllReadyH.nil
      go_simp
      go_at_call 15
      refine (line_words w2.drew).mono ?_
      rintro e w3 ⟨A3, c3, rfl, ho3, hx3, _⟩
      have X3 : Ext w2 w3 := (Touch.drew (Touch.refl _ w2)).trans hx3
      obtain ⟨g3, rfl, hcw⟩ := own_text (k := 3) (x := ⟨#[114, 101, 110, 97, 109, 101]⟩) ho3 rfl
      have HCW := Lib.hid hcw
      have HX3 := Lib.hid X3
      clear hx3 ho3 hcw h0
      rw [show wordsL.length = 7 from rfl]
      refine hK.out _ _ X3 (fun hHeld => ?_)
      clear hK K
      try simp only [Act.put, List.setIfInBounds_toArray, List.set_cons_zero, List.set_cons_succ]
      refine wpAnyH_moreL (S' := fun w' => Ext w3 w') (fun w' h => X3.trans h) _ _ _ _ ?_
      clear hHeld X3
      have hHeld : Ext w3 w3 := Touch.refl _ _
      refine wpAnyH_take (i := 3) (v := ?_) (List.getElem?_toArray.trans rfl) (by kernel_rfl) (by kernel_rfl) (by kernel_rfl) (fun _ _ _ h => h) (Or.inl ⟨by rfl, ?_⟩) (by assumption) ?_
      rotate_left
      · intro w' hw'
        try dsimp only at hw'
        skip
        go_simp
        try with_reducible rfl
      try simp only [Act.put, List.setIfInBounds_toArray, List.set_cons_zero, List.set_cons_succ]
      refine wpAnyH_take (i := 4) (v := ?_) (List.getElem?_toArray.trans rfl) (by kernel_rfl) (by kernel_rfl) (by kernel_rfl) (fun _ _ _ h => h) (Or.inl ⟨by rfl, ?_⟩) (by assumption) ?_
      rotate_left
      · intro w' hw'
        try dsimp only at hw'
        have hh1 := HCW.out w' hw'
        go_simp
        try with_reducible rfl
      try simp only [Act.put, List.setIfInBounds_toArray, List.set_cons_zero, List.set_cons_succ]
      refine wpAnyH_ready (rs := [5]) (by kernel_rfl) (by simp) ?_
      refine AllReadyH.cons (List.getElem?_toArray.trans rfl) (fun K hK => ?_) AllReadyH.nil
      go_simp
      have X4 : Ext w3 (w3.alloc (.cells #[.string ⟨#[114, 101, 110, 97, 109, 101]⟩] 9)) := (Touch.refl _ w3).alloc _
      refine hK.out _ _ X4 (fun hHeld => ?_)
      clear hK K
      try simp only [Act.put, List.setIfInBounds_toArray, List.set_cons_zero, List.set_cons_succ]
      refine wpAnyH_take (i := 6) (v := ?_) (List.getElem?_toArray.trans rfl) (by kernel_rfl) (by kernel_rfl) (by kernel_rfl) (fun _ _ _ h => h) (Or.inl ⟨by rfl, ?_⟩) (by assumption) ?_
      rotate_left
      · intro w' hw'
        try dsimp only at hw'
        skip
        go_simp
        try with_reducible rfl
      try simp only [Act.put, List.setIfInBounds_toArray, List.set_cons_zero, List.set_cons_succ]
      refine wpAnyH_done (by kernel_rfl) ?_ _
      clear hHeld
      have HO4 := Lib.hid (show Owns (w3.alloc (.cells #[.string ⟨#[114, 101, 110, 97, 109, 101]⟩] 9)) 9 (.slice (some ⟨w3.heap.size, 0, none⟩) 1 1) [(⟨#[114, 101, 110, 97, 109, 101]⟩ : ByteArray)] from own_take_drop (heap_alloc_new _ _) rfl (by decide) (by decide) rfl rfl)
      have HX4 := Lib.hid (HX3.out.trans X4)
      have hg4 : w2.heap.size ≤ w3.heap.size := HX3.out.size
      clear X4
      generalize w3.alloc (.cells #[.string ⟨#[114, 101, 110, 97, 109, 101]⟩] 9) = w4 at HO4 HX4 ⊢
      generalize w3.heap.size = g4 at HO4 hg4 ⊢
      have h1 := (cell_of (HX4.out.blk HB2.out id) 1).trans (Call.get1 x)
      have he := HNE.out (by rw [HK.out]; decide)
      go_upto_region 7 with (
        at_builtin
        have t1 := HO4.out.ext ((Touch.refl _ w4).alloc (.cells #[.string x.name] 9))
        have t2 := reads_block (x := x.name) (b := w4.heap.size) (t := 9) (fr := (0, 0)) (heap_alloc_new w4 (.cells #[.string x.name] 9)) (w4.heap.size + 1) (by omega)
        refine wpList_append_own' (by rfl) (.tmp 20) (.tmp 23) 37 (by rfl) elemString Tryd.underlying37 (v := _) (l := [⟨#[114, 101, 110, 97, 109, 101]⟩]) (by rfl) t1 [x.name] (by rfl) 2 (by rfl) (by rfl) t2 (by simp) ?_
        clear t1 t2
        intro A5 c5 w5 hown5 hgrow5 hat5
        have HF5 := Lib.hid (show ∀ k, (Value.slice A5 2 c5).ownBlock = some k → w2.heap.size ≤ k from fun k hk => by
          rcases hat5 with h | h
          · rw [h] at hk; simp [Value.ownBlock] at hk; omega
          · rw [h] at hk; injection hk with hk; have := (HX4.out.alloc (.cells #[.string x.name] 9)).size; omega)
        have HO5 := Lib.hid hown5
        have HX5 := Lib.hid (show Ext w2 w5 from (HX4.out.alloc _).grown hgrow5 fun q hq => .inr (by simp [Value.ownBlock] at hq; omega))
        clear hown5 hgrow5 hat5)
      have h05 := HC.out w5 HX5.out
      have h25 := (cell_of (HX5.out.blk HB2.out id) 2).trans (Call.get2 x)
      have h35 := (cell_of (HX5.out.blk HB2.out id) 3).trans (Call.get3 x)
      clear h1 he
      go_upto_region 12 with (
        at_builtin
        have t1 := HO5.out.ext ((Touch.refl _ w5).alloc (.cells #[.string x.to_] 9))
        have t2 := reads_block (x := x.to_) (b := w5.heap.size) (t := 9) (fr := (0, 0)) (heap_alloc_new w5 (.cells #[.string x.to_] 9)) (w5.heap.size + 1) (by omega)
        refine wpList_append_own' (by rfl) (.tmp 29) (.tmp 32) 37 (by rfl) elemString Tryd.underlying37 (v := _) (l := [⟨#[114, 101, 110, 97, 109, 101]⟩] ++ [x.name]) (by rfl) t1 [x.to_] (by rfl) 3 (by rfl) (by rfl) t2 (by simp) ?_
        clear t1 t2
        intro A7 c7 w7 hown7 hgrow7 hat7
        have HO7 := Lib.hid hown7
        have HX7 := Lib.hid (show Ext w2 w7 from (HX5.out.alloc _).grown hgrow7 fun q hq => .inr (HF5.out q hq))
        clear hown7 hgrow7 hat7)
      go_wp2_with fail
      have hjl := join_len [⟨#[114, 101, 110, 97, 109, 101]⟩, x.name, x.to_]
      rw [(jline_3 HK.out)] at hjl
      refine (join_names _ _ _ _ [⟨#[114, 101, 110, 97, 109, 101]⟩, x.name, x.to_] HO7.out (by simp) (by rw [hjl]; exact (line_small HN.out))).mono ?_
      rintro e w6 ⟨rfl, hx6⟩
      have HX6 := Lib.hid (HX2.out.trans (HX7.out.trans hx6))
      have HJ := Lib.hid (jline_3 HK.out)
      clear hjl hx6
      go_wp2
      go_ret2
      unfold CTPost
      rw [HCT.out, ← HJ.out]
      exact ⟨rfl, HX6.out⟩
    · skip
      clear hkd
      have h0 := (cell_of hb2 0).trans (Call.get0 x)
      rw [hk] at h0
      have HC := Lib.hid (show ∀ w', Ext w2 w' → w'.cell? ⟨b, 0, none⟩ = some (.int .i64 4) from fun w' hx => by rw [← hk]; exact (cell_of (hx.blk hb2 id) 0).trans (Call.get0 x))
      have HB2 := Lib.hid hb2
      have HK := Lib.hid hk
      clear hb2 hk
      go_wp2_with fail
      refine wp_region_held_drew (S := fun w' => Ext w2 w') (by kernel_rfl) (Touch.drew (Touch.refl _ w2)) (fun hHeld => ?_)
      refine wpAnyH_take (i := 1) (v := ?_) (List.getElem?_toArray.trans rfl) (by kernel_rfl) (by kernel_rfl) (by kernel_rfl) (fun _ _ _ h => h) (Or.inl ⟨by rfl, ?_⟩) (by assumption) ?_
      rotate_left
      · intro w' hw'
        try dsimp only at hw'
        skip
        go_simp
        try with_reducible rfl
      try simp only [Act.put, List.setIfInBounds_toArray, List.set_cons_zero, List.set_cons_succ]
      refine wpAnyH_take (i := 2) (v := ?_) (List.getElem?_toArray.trans rfl) (by kernel_rfl) (by kernel_rfl) (by kernel_rfl) (fun _ _ _ h => h) (Or.inl ⟨by rfl, ?_⟩) (by assumption) ?_
      rotate_left
      · intro w' hw'
        try dsimp only at hw'
        have hh1 := HC.out w' hw'
        go_simp
        try with_reducible rfl
      try simp only [Act.put, List.setIfInBounds_toArray, List.set_cons_zero, List.set_cons_succ]
      refine wpAnyH_ready (rs := [0]) (by kernel_rfl) (by simp) ?_
      refine AllReadyH.cons (List.getElem?_toArray.trans rfl) (fun K hK => ?_) AllReadyH.nil
      go_simp
      go_at_call 15
      refine (line_words w2.drew).mono ?_
      rintro e w3 ⟨A3, c3, rfl, ho3, hx3, _⟩
      have X3 : Ext w2 w3 := (Touch.drew (Touch.refl _ w2)).trans hx3
      obtain ⟨g3, rfl, hcw⟩ := own_text (k := 4) (x := ⟨#[97, 112, 112, 101, 110, 100]⟩) ho3 rfl
      have HCW := Lib.hid hcw
      have HX3 := Lib.hid X3
      clear hx3 ho3 hcw h0
      rw [show wordsL.length = 7 from rfl]
      refine hK.out _ _ X3 (fun hHeld => ?_)
      clear hK K
      try simp only [Act.put, List.setIfInBounds_toArray, List.set_cons_zero, List.set_cons_succ]
      refine wpAnyH_moreL (S' := fun w' => Ext w3 w') (fun w' h => X3.trans h) _ _ _ _ ?_
      clear hHeld X3
      have hHeld : Ext w3 w3 := Touch.refl _ _
      refine wpAnyH_take (i := 3) (v := ?_) (List.getElem?_toArray.trans rfl) (by kernel_rfl) (by kernel_rfl) (by kernel_rfl) (fun _ _ _ h => h) (Or.inl ⟨by rfl, ?_⟩) (by assumption) ?_
      rotate_left
      · intro w' hw'
        try dsimp only at hw'
        skip
        go_simp
        try with_reducible rfl
      try simp only [Act.put, List.setIfInBounds_toArray, List.set_cons_zero, List.set_cons_succ]
      refine wpAnyH_take (i := 4) (v := ?_) (List.getElem?_toArray.trans rfl) (by kernel_rfl) (by kernel_rfl) (by kernel_rfl) (fun _ _ _ h => h) (Or.inl ⟨by rfl, ?_⟩) (by assumption) ?_
      rotate_left
      · intro w' hw'
        try dsimp only at hw'
        have hh1 := HCW.out w' hw'
        go_simp
        try with_reducible rfl
      try simp only [Act.put, List.setIfInBounds_toArray, List.set_cons_zero, List.set_cons_succ]
      refine wpAnyH_ready (rs := [5]) (by kernel_rfl) (by simp) ?_
      refine AllReadyH.cons (List.getElem?_toArray.trans rfl) (fun K hK => ?_) AllReadyH.nil
      go_simp
      have X4 : Ext w3 (w3.alloc (.cells #[.string ⟨#[97, 112, 112, 101, 110, 100]⟩] 9)) := (Touch.refl _ w3).alloc _
      refine hK.out _ _ X4 (fun hHeld => ?_)
      clear hK K
      try simp only [Act.put, List.setIfInBounds_toArray, List.set_cons_zero, List.set_cons_succ]
      refine wpAnyH_take (i := 6) (v := ?_) (List.getElem?_toArray.trans rfl) (by kernel_rfl) (by kernel_rfl) (by kernel_rfl) (fun _ _ _ h => h) (Or.inl ⟨by rfl, ?_⟩) (by assumption) ?_
      rotate_left
      · intro w' hw'
        try dsimp only at hw'
        skip
        go_simp
        try with_reducible rfl
      try simp only [Act.put, List.setIfInBounds_toArray, List.set_cons_zero, List.set_cons_succ]
      refine wpAnyH_done (by kernel_rfl) ?_ _
      clear hHeld
      have HO4 := Lib.hid (show Owns (w3.alloc (.cells #[.string ⟨#[97, 112, 112, 101, 110, 100]⟩] 9)) 9 (.slice (some ⟨w3.heap.size, 0, none⟩) 1 1) [(⟨#[97, 112, 112, 101, 110, 100]⟩ : ByteArray)] from own_take_drop (heap_alloc_new _ _) rfl (by decide) (by decide) rfl rfl)
      have HX4 := Lib.hid (HX3.out.trans X4)
      have hg4 : w2.heap.size ≤ w3.heap.size := HX3.out.size
      clear X4
      generalize w3.alloc (.cells #[.string ⟨#[97, 112, 112, 101, 110, 100]⟩] 9) = w4 at HO4 HX4 ⊢
      generalize w3.heap.size = g4 at HO4 hg4 ⊢
      have h1 := (cell_of (HX4.out.blk HB2.out id) 1).trans (Call.get1 x)
      have he := HNE.out (by rw [HK.out]; decide)
      go_upto_region 7 with (
        at_builtin
        have t1 := HO4.out.ext ((Touch.refl _ w4).alloc (.cells #[.string x.name] 9))
        have t2 := reads_block (x := x.name) (b := w4.heap.size) (t := 9) (fr := (0, 0)) (heap_alloc_new w4 (.cells #[.string x.name] 9)) (w4.heap.size + 1) (by omega)
        refine wpList_append_own' (by rfl) (.tmp 20) (.tmp 23) 37 (by rfl) elemString Tryd.underlying37 (v := _) (l := [⟨#[97, 112, 112, 101, 110, 100]⟩]) (by rfl) t1 [x.name] (by rfl) 2 (by rfl) (by rfl) t2 (by simp) ?_
        clear t1 t2
        intro A5 c5 w5 hown5 hgrow5 hat5
        have HF5 := Lib.hid (show ∀ k, (Value.slice A5 2 c5).ownBlock = some k → w2.heap.size ≤ k from fun k hk => by
          rcases hat5 with h | h
          · rw [h] at hk; simp [Value.ownBlock] at hk; omega
          · rw [h] at hk; injection hk with hk; have := (HX4.out.alloc (.cells #[.string x.name] 9)).size; omega)
        have HO5 := Lib.hid hown5
        have HX5 := Lib.hid (show Ext w2 w5 from (HX4.out.alloc _).grown hgrow5 fun q hq => .inr (by simp [Value.ownBlock] at hq; omega))
        clear hown5 hgrow5 hat5)
      have h05 := HC.out w5 HX5.out
      have h25 := (cell_of (HX5.out.blk HB2.out id) 2).trans (Call.get2 x)
      have h35 := (cell_of (HX5.out.blk HB2.out id) 3).trans (Call.get3 x)
      clear h1 he
      go_upto_region 12 with (
        at_builtin
        have t1 := HO5.out.ext ((Touch.refl _ w5).alloc (.cells #[.string x.text] 9))
        have t2 := reads_block (x := x.text) (b := w5.heap.size) (t := 9) (fr := (0, 0)) (heap_alloc_new w5 (.cells #[.string x.text] 9)) (w5.heap.size + 1) (by omega)
        refine wpList_append_own' (by rfl) (.tmp 36) (.tmp 39) 37 (by rfl) elemString Tryd.underlying37 (v := _) (l := [⟨#[97, 112, 112, 101, 110, 100]⟩] ++ [x.name]) (by rfl) t1 [x.text] (by rfl) 3 (by rfl) (by rfl) t2 (by simp) ?_
        clear t1 t2
        intro A7 c7 w7 hown7 hgrow7 hat7
        have HO7 := Lib.hid hown7
        have HX7 := Lib.hid (show Ext w2 w7 from (HX5.out.alloc _).grown hgrow7 fun q hq => .inr (HF5.out q hq))
        clear hown7 hgrow7 hat7)
      go_wp2_with fail
      have hjl := join_len [⟨#[97, 112, 112, 101, 110, 100]⟩, x.name, x.text]
      rw [(jline_4 HK.out)] at hjl
      refine (join_names _ _ _ _ [⟨#[97, 112, 112, 101, 110, 100]⟩, x.name, x.text] HO7.out (by simp) (by rw [hjl]; exact (line_small HN.out))).mono ?_
      rintro e w6 ⟨rfl, hx6⟩
      have HX6 := Lib.hid (HX2.out.trans (HX7.out.trans hx6))
      have HJ := Lib.hid (jline_4 HK.out)
      clear hjl hx6
      go_wp2
      go_ret2
      unfold CTPost
      rw [HCT.out, ← HJ.out]
      exact ⟨rfl, HX6.out⟩
    · skip
      clear hkd
      have h0 := (cell_of hb2 0).trans (Call.get0 x)
      rw [hk] at h0
      have HC := Lib.hid (show ∀ w', Ext w2 w' → w'.cell? ⟨b, 0, none⟩ = some (.int .i64 5) from fun w' hx => by rw [← hk]; exact (cell_of (hx.blk hb2 id) 0).trans (Call.get0 x))
      have HB2 := Lib.hid hb2
      have HK := Lib.hid hk
      clear hb2 hk
      go_wp2_with fail
      refine wp_region_held_drew (S := fun w' => Ext w2 w') (by kernel_rfl) (Touch.drew (Touch.refl _ w2)) (fun hHeld => ?_)
      refine wpAnyH_take (i := 1) (v := ?_) (List.getElem?_toArray.trans rfl) (by kernel_rfl) (by kernel_rfl) (by kernel_rfl) (fun _ _ _ h => h) (Or.inl ⟨by rfl, ?_⟩) (by assumption) ?_
      rotate_left
      · intro w' hw'
        try dsimp only at hw'
        skip
        go_simp
        try with_reducible rfl
      try simp only [Act.put, List.setIfInBounds_toArray, List.set_cons_zero, List.set_cons_succ]
      refine wpAnyH_take (i := 2) (v := ?_) (List.getElem?_toArray.trans rfl) (by kernel_rfl) (by kernel_rfl) (by kernel_rfl) (fun _ _ _ h => h) (Or.inl ⟨by rfl, ?_⟩) (by assumption) ?_
      rotate_left
      · intro w' hw'
        try dsimp only at hw'
        have hh1 := HC.out w' hw'
        go_simp
        try with_reducible rfl
      try simp only [Act.put, List.setIfInBounds_toArray, List.set_cons_zero, List.set_cons_succ]
      refine wpAnyH_ready (rs := [0]) (by kernel_rfl) (by simp) ?_
      refine AllReadyH.cons (List.getElem?_toArray.trans rfl) (fun K hK => ?_) AllReadyH.nil
      go_simp
      go_at_call 15
      refine (line_words w2.drew).mono ?_
      rintro e w3 ⟨A3, c3, rfl, ho3, hx3, _⟩
      have X3 : Ext w2 w3 := (Touch.drew (Touch.refl _ w2)).trans hx3
      obtain ⟨g3, rfl, hcw⟩ := own_text (k := 5) (x := ⟨#[114, 101, 97, 100]⟩) ho3 rfl
      have HCW := Lib.hid hcw
      have HX3 := Lib.hid X3
      clear hx3 ho3 hcw h0
      rw [show wordsL.length = 7 from rfl]
      refine hK.out _ _ X3 (fun hHeld => ?_)
      clear hK K
      try simp only [Act.put, List.setIfInBounds_toArray, List.set_cons_zero, List.set_cons_succ]
      refine wpAnyH_moreL (S' := fun w' => Ext w3 w') (fun w' h => X3.trans h) _ _ _ _ ?_
      clear hHeld X3
      have hHeld : Ext w3 w3 := Touch.refl _ _
      refine wpAnyH_take (i := 3) (v := ?_) (List.getElem?_toArray.trans rfl) (by kernel_rfl) (by kernel_rfl) (by kernel_rfl) (fun _ _ _ h => h) (Or.inl ⟨by rfl, ?_⟩) (by assumption) ?_
      rotate_left
      · intro w' hw'
        try dsimp only at hw'
        skip
        go_simp
        try with_reducible rfl
      try simp only [Act.put, List.setIfInBounds_toArray, List.set_cons_zero, List.set_cons_succ]
      refine wpAnyH_take (i := 4) (v := ?_) (List.getElem?_toArray.trans rfl) (by kernel_rfl) (by kernel_rfl) (by kernel_rfl) (fun _ _ _ h => h) (Or.inl ⟨by rfl, ?_⟩) (by assumption) ?_
      rotate_left
      · intro w' hw'
        try dsimp only at hw'
        have hh1 := HCW.out w' hw'
        go_simp
        try with_reducible rfl
      try simp only [Act.put, List.setIfInBounds_toArray, List.set_cons_zero, List.set_cons_succ]
      refine wpAnyH_ready (rs := [5]) (by kernel_rfl) (by simp) ?_
      refine AllReadyH.cons (List.getElem?_toArray.trans rfl) (fun K hK => ?_) AllReadyH.nil
      go_simp
      have X4 : Ext w3 (w3.alloc (.cells #[.string ⟨#[114, 101, 97, 100]⟩] 9)) := (Touch.refl _ w3).alloc _
      refine hK.out _ _ X4 (fun hHeld => ?_)
      clear hK K
      try simp only [Act.put, List.setIfInBounds_toArray, List.set_cons_zero, List.set_cons_succ]
      refine wpAnyH_take (i := 6) (v := ?_) (List.getElem?_toArray.trans rfl) (by kernel_rfl) (by kernel_rfl) (by kernel_rfl) (fun _ _ _ h => h) (Or.inl ⟨by rfl, ?_⟩) (by assumption) ?_
      rotate_left
      · intro w' hw'
        try dsimp only at hw'
        skip
        go_simp
        try with_reducible rfl
      try simp only [Act.put, List.setIfInBounds_toArray, List.set_cons_zero, List.set_cons_succ]
      refine wpAnyH_done (by kernel_rfl) ?_ _
      clear hHeld
      have HO4 := Lib.hid (show Owns (w3.alloc (.cells #[.string ⟨#[114, 101, 97, 100]⟩] 9)) 9 (.slice (some ⟨w3.heap.size, 0, none⟩) 1 1) [(⟨#[114, 101, 97, 100]⟩ : ByteArray)] from own_take_drop (heap_alloc_new _ _) rfl (by decide) (by decide) rfl rfl)
      have HX4 := Lib.hid (HX3.out.trans X4)
      have hg4 : w2.heap.size ≤ w3.heap.size := HX3.out.size
      clear X4
      generalize w3.alloc (.cells #[.string ⟨#[114, 101, 97, 100]⟩] 9) = w4 at HO4 HX4 ⊢
      generalize w3.heap.size = g4 at HO4 hg4 ⊢
      have h1 := (cell_of (HX4.out.blk HB2.out id) 1).trans (Call.get1 x)
      have he := HNE.out (by rw [HK.out]; decide)
      go_upto_region 7 with (
        at_builtin
        have t1 := HO4.out.ext ((Touch.refl _ w4).alloc (.cells #[.string x.name] 9))
        have t2 := reads_block (x := x.name) (b := w4.heap.size) (t := 9) (fr := (0, 0)) (heap_alloc_new w4 (.cells #[.string x.name] 9)) (w4.heap.size + 1) (by omega)
        refine wpList_append_own' (by rfl) (.tmp 20) (.tmp 23) 37 (by rfl) elemString Tryd.underlying37 (v := _) (l := [⟨#[114, 101, 97, 100]⟩]) (by rfl) t1 [x.name] (by rfl) 2 (by rfl) (by rfl) t2 (by simp) ?_
        clear t1 t2
        intro A5 c5 w5 hown5 hgrow5 hat5
        have HF5 := Lib.hid (show ∀ k, (Value.slice A5 2 c5).ownBlock = some k → w2.heap.size ≤ k from fun k hk => by
          rcases hat5 with h | h
          · rw [h] at hk; simp [Value.ownBlock] at hk; omega
          · rw [h] at hk; injection hk with hk; have := (HX4.out.alloc (.cells #[.string x.name] 9)).size; omega)
        have HO5 := Lib.hid hown5
        have HX5 := Lib.hid (show Ext w2 w5 from (HX4.out.alloc _).grown hgrow5 fun q hq => .inr (by simp [Value.ownBlock] at hq; omega))
        clear hown5 hgrow5 hat5)
      have h05 := HC.out w5 HX5.out
      have h25 := (cell_of (HX5.out.blk HB2.out id) 2).trans (Call.get2 x)
      have h35 := (cell_of (HX5.out.blk HB2.out id) 3).trans (Call.get3 x)
      clear h1 he
      go_wp2_with fail
      have hjl := join_len [⟨#[114, 101, 97, 100]⟩, x.name]
      rw [(jline_1 5 _ HK.out (.inr (.inr ⟨rfl, rfl⟩)))] at hjl
      refine (join_names _ _ _ _ [⟨#[114, 101, 97, 100]⟩, x.name] HO5.out (by simp) (by rw [hjl]; exact (line_small HN.out))).mono ?_
      rintro e w6 ⟨rfl, hx6⟩
      have HX6 := Lib.hid (HX2.out.trans (HX5.out.trans hx6))
      have HJ := Lib.hid (jline_1 5 _ HK.out (.inr (.inr ⟨rfl, rfl⟩)))
      clear hjl hx6
      go_wp2
      go_ret2
      unfold CTPost
      rw [HCT.out, ← HJ.out]
      exact ⟨rfl, HX6.out⟩
    · skip
      clear hkd
      have he : x.name.toList.isEmpty = true := by rw [HF.out.1 hk, noText_toList]; rfl
      have h0 := (cell_of hb2 0).trans (Call.get0 x)
      rw [hk] at h0
      have HC := Lib.hid (show ∀ w', Ext w2 w' → w'.cell? ⟨b, 0, none⟩ = some (.int .i64 6) from fun w' hx => by rw [← hk]; exact (cell_of (hx.blk hb2 id) 0).trans (Call.get0 x))
      have HB2 := Lib.hid hb2
      have HK := Lib.hid hk
      clear hb2 hk
      go_wp2_with fail
      refine wp_region_held_drew (S := fun w' => Ext w2 w') (by kernel_rfl) (Touch.drew (Touch.refl _ w2)) (fun hHeld => ?_)
      refine wpAnyH_take (i := 1) (v := ?_) (List.getElem?_toArray.trans rfl) (by kernel_rfl) (by kernel_rfl) (by kernel_rfl) (fun _ _ _ h => h) (Or.inl ⟨by rfl, ?_⟩) (by assumption) ?_
      rotate_left
      · intro w' hw'
        try dsimp only at hw'
        skip
        go_simp
        try with_reducible rfl
      try simp only [Act.put, List.setIfInBounds_toArray, List.set_cons_zero, List.set_cons_succ]
      refine wpAnyH_take (i := 2) (v := ?_) (List.getElem?_toArray.trans rfl) (by kernel_rfl) (by kernel_rfl) (by kernel_rfl) (fun _ _ _ h => h) (Or.inl ⟨by rfl, ?_⟩) (by assumption) ?_
      rotate_left
      · intro w' hw'
        try dsimp only at hw'
        have hh1 := HC.out w' hw'
        go_simp
        try with_reducible rfl
      try simp only [Act.put, List.setIfInBounds_toArray, List.set_cons_zero, List.set_cons_succ]
      refine wpAnyH_ready (rs := [0]) (by kernel_rfl) (by simp) ?_
      refine AllReadyH.cons (List.getElem?_toArray.trans rfl) (fun K hK => ?_) AllReadyH.nil
      go_simp
      go_at_call 15
      refine (line_words w2.drew).mono ?_
      rintro e w3 ⟨A3, c3, rfl, ho3, hx3, _⟩
      have X3 : Ext w2 w3 := (Touch.drew (Touch.refl _ w2)).trans hx3
      obtain ⟨g3, rfl, hcw⟩ := own_text (k := 6) (x := ⟨#[108, 105, 115, 116]⟩) ho3 rfl
      have HCW := Lib.hid hcw
      have HX3 := Lib.hid X3
      clear hx3 ho3 hcw h0
      rw [show wordsL.length = 7 from rfl]
      refine hK.out _ _ X3 (fun hHeld => ?_)
      clear hK K
      try simp only [Act.put, List.setIfInBounds_toArray, List.set_cons_zero, List.set_cons_succ]
      refine wpAnyH_moreL (S' := fun w' => Ext w3 w') (fun w' h => X3.trans h) _ _ _ _ ?_
      clear hHeld X3
      have hHeld : Ext w3 w3 := Touch.refl _ _
      refine wpAnyH_take (i := 3) (v := ?_) (List.getElem?_toArray.trans rfl) (by kernel_rfl) (by kernel_rfl) (by kernel_rfl) (fun _ _ _ h => h) (Or.inl ⟨by rfl, ?_⟩) (by assumption) ?_
      rotate_left
      · intro w' hw'
        try dsimp only at hw'
        skip
        go_simp
        try with_reducible rfl
      try simp only [Act.put, List.setIfInBounds_toArray, List.set_cons_zero, List.set_cons_succ]
      refine wpAnyH_take (i := 4) (v := ?_) (List.getElem?_toArray.trans rfl) (by kernel_rfl) (by kernel_rfl) (by kernel_rfl) (fun _ _ _ h => h) (Or.inl ⟨by rfl, ?_⟩) (by assumption) ?_
      rotate_left
      · intro w' hw'
        try dsimp only at hw'
        have hh1 := HCW.out w' hw'
        go_simp
        try with_reducible rfl
      try simp only [Act.put, List.setIfInBounds_toArray, List.set_cons_zero, List.set_cons_succ]
      refine wpAnyH_ready (rs := [5]) (by kernel_rfl) (by simp) ?_
      refine AllReadyH.cons (List.getElem?_toArray.trans rfl) (fun K hK => ?_) AllReadyH.nil
      go_simp
      have X4 : Ext w3 (w3.alloc (.cells #[.string ⟨#[108, 105, 115, 116]⟩] 9)) := (Touch.refl _ w3).alloc _
      refine hK.out _ _ X4 (fun hHeld => ?_)
      clear hK K
      try simp only [Act.put, List.setIfInBounds_toArray, List.set_cons_zero, List.set_cons_succ]
      refine wpAnyH_take (i := 6) (v := ?_) (List.getElem?_toArray.trans rfl) (by kernel_rfl) (by kernel_rfl) (by kernel_rfl) (fun _ _ _ h => h) (Or.inl ⟨by rfl, ?_⟩) (by assumption) ?_
      rotate_left
      · intro w' hw'
        try dsimp only at hw'
        skip
        go_simp
        try with_reducible rfl
      try simp only [Act.put, List.setIfInBounds_toArray, List.set_cons_zero, List.set_cons_succ]
      refine wpAnyH_done (by kernel_rfl) ?_ _
      clear hHeld
      have HO4 := Lib.hid (show Owns (w3.alloc (.cells #[.string ⟨#[108, 105, 115, 116]⟩] 9)) 9 (.slice (some ⟨w3.heap.size, 0, none⟩) 1 1) [(⟨#[108, 105, 115, 116]⟩ : ByteArray)] from own_take_drop (heap_alloc_new _ _) rfl (by decide) (by decide) rfl rfl)
      have HX4 := Lib.hid (HX3.out.trans X4)
      have hg4 : w2.heap.size ≤ w3.heap.size := HX3.out.size
      clear X4
      generalize w3.alloc (.cells #[.string ⟨#[108, 105, 115, 116]⟩] 9) = w4 at HO4 HX4 ⊢
      generalize w3.heap.size = g4 at HO4 hg4 ⊢
      have h1 := (cell_of (HX4.out.blk HB2.out id) 1).trans (Call.get1 x)
      have h04 := HC.out w4 HX4.out
      go_upto_region 12 with fail
      go_wp2_with fail
      have hjl := join_len [⟨#[108, 105, 115, 116]⟩]
      rw [(show joinSp [⟨#[108, 105, 115, 116]⟩] = mkStr (callLine x) from line_6 HK.out)] at hjl
      refine (join_names _ _ _ _ [⟨#[108, 105, 115, 116]⟩] HO4.out (by simp) (by rw [hjl]; exact (line_small HN.out))).mono ?_
      rintro e w6 ⟨rfl, hx6⟩
      have HX6 := Lib.hid (HX2.out.trans (HX4.out.trans hx6))
      have HJ := Lib.hid (show joinSp [⟨#[108, 105, 115, 116]⟩] = mkStr (callLine x) from line_6 HK.out)
      clear hjl hx6
      go_wp2
      go_ret2
      unfold CTPost
      rw [HCT.out, ← HJ.out]
      exact ⟨rfl, HX6.out⟩
  · have HCT := Lib.hid (ct_code (x := x) (by rw [HN.out]; exact h0))
    have hk' : (n == 0) = false := by simp [h0]
    have hk2 : (n != 0) = true := by simp [h0]
    clear h0 hb2
    go_wp2
    go_ret2
    unfold CTPost
    rw [HCT.out, HN.out]
    exact ⟨rfl, HX2.out⟩
end Go.Proofs.YtalfbhhldfffkabDoor
