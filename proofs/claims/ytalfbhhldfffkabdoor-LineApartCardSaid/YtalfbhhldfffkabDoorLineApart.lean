/- LineApart: for every two answers and every call the law returns true and leaves its arguments as they were. No condition. -/
import Derived.Test.YtalfbhhldfffkabDoorLineBegun
namespace Go.Proofs.YtalfbhhldfffkabDoor
open Go.RowKit

theorem line_tiny {x : Call} (h : callCode x = 0) : (callLine x).length ≤ 30 := by
  have hform := callCode_form h
  have hn : x.name.toList.length ≤ 5 := by
    rw [size_toList]
    by_cases h6 : x.kind = 6
    · rw [hform.1 h6]; decide
    · exact okText_le' (callCode_name h h6)
  have ht : x.to_.toList.length ≤ 5 := by
    rw [size_toList]
    by_cases h3 : x.kind = 3
    · exact okText_le' (callCode_to h h3)
    · rw [hform.2.1 h3]; decide
  have hx : x.text.toList.length ≤ 8 := by
    rw [size_toList]
    by_cases h4 : x.kind = 4
    · exact okText_le' (callCode_text h h4)
    · rw [hform.2.2 h4]; decide
  have hw : (kindWord x.kind).length ≤ 6 := by
    unfold kindWord
    repeat' split
    all_goals decide
  unfold callLine
  rw [List.length_append, List.length_append]
  have h1 : (if x.kind = 6 then [] else 32 :: x.name.toList).length ≤ 6 := by split <;> simp <;> omega
  have h2 : (if x.kind = 3 then 32 :: x.to_.toList else if x.kind = 4 then 32 :: x.text.toList else []).length ≤ 9 := by
    split
    · simp; omega
    · split <;> simp <;> omega
  omega
theorem ct_text {x : Call} {n : Int} (h : callCode x = n) : (callText x).2 = n ∧ (n = 0 → (callText x).1 = mkStr (callLine x)) := by
  subst h
  by_cases h0 : callCode x = 0
  · rw [ct_zero h0]; exact ⟨h0.symm, fun _ => rfl⟩
  · rw [ct_code h0]; exact ⟨rfl, fun e => (h0 e).elim⟩
theorem line_byte {x : Call} (h : callCode x = 0) {k : Nat} (hk : k < (mkStr (callLine x)).size) : 32 ≤ (mkStr (callLine x))[k].toNat ∧ (mkStr (callLine x))[k].toNat ≤ 126 := by
  refine callLine_shown h _ ?_
  have := getElem_toList hk
  rw [mkStr_toList] at this
  exact List.mem_of_getElem? this
set_option maxHeartbeats 4000000 in
set_option maxRecDepth 100000 in
theorem lineApart (W : World) (a b : Answer) (c : Call) (hc : StrCall c) (hk : I64 a.code) (ht : a.text.size ≤ 140737488351232) (hkb : I64 b.code) (htb : b.text.size ≤ 140737488351232) (hL : Laid W) :
    Calls Tryd.prog 5 #[.agg a.cells, .agg b.cells, .agg c.cells] W fun e w' => e = .returned (.bool true) ∧ Ext W w' := by
  have HL := Lib.hid hL
  have HST := Lib.hid hc
  have HK := Lib.hid hk
  have HKb := Lib.hid hkb
  have hti : (a.text.size : Int) ≤ 140737488351232 := by omega
  have htbi : (b.text.size : Int) ≤ 140737488351232 := by omega
  have hx0 : Ext W (((W.alloc (.cells a.cells 25)).alloc (.cells b.cells 25)).alloc (.cells c.cells 23)) := (((Touch.refl _ W).alloc _).alloc _).alloc _
  have hb0 : (((W.alloc (.cells a.cells 25)).alloc (.cells b.cells 25)).alloc (.cells c.cells 23)).heap[W.heap.size]? = some (.cells a.cells 25 (0, 0)) := (heap_alloc_past _ _ _ (by simp; omega)).trans ((heap_alloc_past _ _ _ (by simp)).trans (heap_alloc_new _ _))
  have hb1 : (((W.alloc (.cells a.cells 25)).alloc (.cells b.cells 25)).alloc (.cells c.cells 23)).heap[W.heap.size + 1]? = some (.cells b.cells 25 (0, 0)) := by
    have := heap_alloc_new (W.alloc (.cells a.cells 25)) (.cells b.cells 25)
    rw [World.size_alloc] at this
    exact (heap_alloc_past _ _ _ (by simp)).trans this
  have hb2 : (((W.alloc (.cells a.cells 25)).alloc (.cells b.cells 25)).alloc (.cells c.cells 23)).heap[W.heap.size + 1 + 1]? = some (.cells c.cells 23 (0, 0)) := by
    have := heap_alloc_new ((W.alloc (.cells a.cells 25)).alloc (.cells b.cells 25)) (.cells c.cells 23)
    rwa [World.size_alloc, World.size_alloc] at this
  have HX0 := Lib.hid hx0
  clear hL hc hk hkb hx0
  go_enter Tryd.func5, Tryd.ntmps5
  go_wp2_with fail
  generalize ((W.alloc (.cells a.cells 25)).alloc (.cells b.cells 25)).alloc (.cells c.cells 23) = V at hb0 hb1 hb2 HX0 ⊢
  generalize hg2 : W.heap.size + 1 + 1 = b2 at hb2
  have hg2' : W.heap.size + 2 = b2 := hg2
  try rw [hg2']
  generalize W.heap.size + 1 = b1 at hb1 ⊢
  generalize W.heap.size = b0 at hb0 ⊢
  clear hg2 hg2'
  refine (line_begun V (HL.out.ext HX0.out)).mono ?_
  rintro e w1 ⟨rfl, hx1⟩
  have HX1 := Lib.hid (HX0.out.trans hx1)
  have HA1 := Lib.hid (hx1.blk hb0 id)
  have HB1 := Lib.hid (hx1.blk hb1 id)
  have HC1 := Lib.hid (hx1.blk hb2 id)
  have h10 := HC1.out
  clear hx1 hb0 hb1 hb2 HX0
  go_wp2_with fail
  cases hg : greatB c with
  | true =>
    have HG := Lib.hid hg
    clear hg
    refine (law_greatCall' w1 c true HG.out HST.out).mono ?_
    rintro e w2 ⟨rfl, hw2⟩
    have HX2 := Lib.hid (HX1.out.trans (show Ext w1 w2 by subst hw2; exact (Touch.refl _ w1).alloc _))
    clear hw2
    go_wp2
    go_ret
    exact ⟨rfl, HX2.out⟩
  | false =>
    have HG := Lib.hid hg
    clear hg
    refine (law_greatCall' w1 c false HG.out HST.out).mono ?_
    rintro e w2 ⟨rfl, hw2⟩
    have hx2 : Ext w1 w2 := by subst hw2; exact (Touch.refl _ w1).alloc _
    have HX2 := Lib.hid (HX1.out.trans hx2)
    have HC2 := Lib.hid (hx2.blk HC1.out id)
    have HA2 := Lib.hid (hx2.blk HA1.out id)
    have HB2 := Lib.hid (hx2.blk HB1.out id)
    have ha2 := (cell_of HA2.out 1).trans (Answer.get1 a)
    have hb2 := (cell_of HB2.out 1).trans (Answer.get1 b)
    clear hw2 hx2 h10 HA1 HB1 HC1 HX1 HG
    by_cases h3 : 300 < a.text.size + b.text.size
    · have h3' : (300 : Int) < (a.text.size : Int) + (b.text.size : Int) := by omega
      clear h3
      go_wp2
      go_ret
      exact ⟨rfl, HX2.out⟩
    have h3' : ¬ (300 : Int) < (a.text.size : Int) + (b.text.size : Int) := by omega
    have HTa := Lib.hid (show a.text.size ≤ 100000 by omega)
    have HTb := Lib.hid (show b.text.size ≤ 100000 by omega)
    have hc2 := HC2.out
    clear h3
    go_wp2_with fail
    refine (line_call w2 c HST.out).mono ?_
    unfold CTPost
    obtain ⟨n, hn⟩ : ∃ n, callCode c = n := ⟨_, rfl⟩
    have HCT := Lib.hid (ct_text hn)
    have HN := Lib.hid hn
    rw [HCT.out.1]
    rintro e w8 ⟨rfl, hx8⟩
    have HX8 := Lib.hid (HX2.out.trans hx8)
    have HA8 := Lib.hid (hx8.blk HA2.out id)
    have HB8 := Lib.hid (hx8.blk HB2.out id)
    clear hx8 HX2 HC2 HA2 HB2 hc2 ha2 hb2 hn
    by_cases h0 : n = 0
    · subst h0
      have hx := HCT.out.2 rfl
      rw [hx]
      have HY := Lib.hid (fun (k : Nat) (hk : k < (mkStr (callLine c)).size) => line_byte HN.out hk)
      have hxs : (mkStr (callLine c)).size ≤ 30 := by rw [mkStr_size]; exact line_tiny HN.out
      clear hx
      generalize mkStr (callLine c) = x at HY hxs ⊢
      go_wp2_with fail
      go_loop [9] (fun i => ∃ k : Nat, i = .int .i64 k ∧ k ≤ x.size) (fun i => x.size - (intOf i).toNat)
      case atStart => exact ⟨0, rfl, Nat.zero_le _⟩
      case round =>
        obtain ⟨k, rfl, hk⟩ := hrel
        by_cases hlt : k < x.size
        · have hy := HY.out k hlt
          have h1' : ¬ (x[k].toNat : Int) < 32 := by omega
          have h2' : ¬ (126 : Int) < (x[k].toNat : Int) := by omega
          clear hy
          go_wp2_with fail
          go_round
          case rel => exact ⟨k + 1, by go_num, by omega⟩
          case measure => simp [intOf]; omega
        · go_wp2_with fail
          have sa := fun t : Later w8 => t.ext.blk HA8.out id
          have sb := fun t : Later w8 => t.ext.blk HB8.out id
          by_cases hab : a = b
          · subst hab
            have hdd : decide (a = a) = true := by simp
            refine wp_region_later (by kernel_rfl) (by kernel_rfl) ?_
            repeat (go_big_quiet_step ((go_at_call 12; exact Calls.later (line_answer _ a HK.out HTa.out (HL.out.ext (HX8.out.trans (Later.ext _)))))))
            refine wpQuiet_nil ?_
            rintro _ ⟨t, rfl⟩
            clear sa sb
            go_wp2
            go_ret
            exact ⟨rfl, HX8.out.trans t.ext⟩
          · have hdd : decide (a = b) = false := by simp [hab]
            have hne : ((mkStr (ansLine a)).toList == (mkStr (ansLine b)).toList) = false := by
              rw [mkStr_toList, mkStr_toList, beq_eq_false_iff_ne]
              exact fun e => hab (ansLine_inj e)
            clear hab
            refine wp_region_later (by kernel_rfl) (by kernel_rfl) ?_
            repeat (go_big_quiet_step (first
              | (go_at_call_of 12 (Value.agg a.cells); exact Calls.later (line_answer _ a HK.out HTa.out (HL.out.ext (HX8.out.trans (Later.ext _)))))
              | (go_at_call_of 12 (Value.agg b.cells); exact Calls.later (line_answer _ b HKb.out HTb.out (HL.out.ext (HX8.out.trans (Later.ext _)))))))
            refine wpQuiet_nil ?_
            rintro _ ⟨t, rfl⟩
            clear sa sb
            go_wp2
            go_ret
            exact ⟨rfl, HX8.out.trans t.ext⟩
    · have hn' : (n == 0) = false := by simp [h0]
      clear h0
      go_wp2_with fail
      have sa := fun t : Later w8 => t.ext.blk HA8.out id
      have sb := fun t : Later w8 => t.ext.blk HB8.out id
      by_cases hab : a = b
      · subst hab
        have hdd : decide (a = a) = true := by simp
        refine wp_region_later (by kernel_rfl) (by kernel_rfl) ?_
        repeat (go_big_quiet_step ((go_at_call 12; exact Calls.later (line_answer _ a HK.out HTa.out (HL.out.ext (HX8.out.trans (Later.ext _)))))))
        refine wpQuiet_nil ?_
        rintro _ ⟨t, rfl⟩
        clear sa sb
        go_wp2
        go_ret
        exact ⟨rfl, HX8.out.trans t.ext⟩
      · have hdd : decide (a = b) = false := by simp [hab]
        have hne : ((mkStr (ansLine a)).toList == (mkStr (ansLine b)).toList) = false := by
          rw [mkStr_toList, mkStr_toList, beq_eq_false_iff_ne]
          exact fun e => hab (ansLine_inj e)
        clear hab
        refine wp_region_later (by kernel_rfl) (by kernel_rfl) ?_
        repeat (go_big_quiet_step (first
          | (go_at_call_of 12 (Value.agg a.cells); exact Calls.later (line_answer _ a HK.out HTa.out (HL.out.ext (HX8.out.trans (Later.ext _)))))
          | (go_at_call_of 12 (Value.agg b.cells); exact Calls.later (line_answer _ b HKb.out HTb.out (HL.out.ext (HX8.out.trans (Later.ext _)))))))
        refine wpQuiet_nil ?_
        rintro _ ⟨t, rfl⟩
        clear sa sb
        go_wp2
        go_ret
        exact ⟨rfl, HX8.out.trans t.ext⟩
end Go.Proofs.YtalfbhhldfffkabDoor
