/- FilesBack: the walk of the law. -/
import Derived.Test.YtalfbhhldfffkabFilesUse
namespace Go.Proofs.Ytalfbhhldfffkab
open Go.RowKit

@[go_sem ↓] theorem run_field_code (x : Answer) (w : World) : (Instr.field 28 (.agg x.cells) 0).run Try.prog w = .ok (.int .i64 x.code) w := by
  show (Instr.field 28 (.agg #[.int .i64 x.code, .string x.text]) 0).run Try.prog w = _
  simp [Instr.field, run_underlying Try.underlying28, asAgg, part, Try.isAgg3]

def FsRel (W : World) (g : Nat) (l : List Call) (i : Value) (wr : World) : Prop :=
  ∃ k : Nat, i = .int .i64 k ∧ k ≤ l.length ∧ Has (repNone.and (repHolds g 105 112)) W wr ((), fdos [] (l.take k))
/-- a call of files whose answer has the code k -/
theorem files_do_code {Y : Type} {S : Rep Y} {W w : World} {g : Nat} {y : Y} {l l' : List FileD} {x : Call} {a : Answer} (h : Has (S.and (repHolds g 105 112)) W w (y, l)) (hok : FOk l) (hst : StrCall x) (ha : (fdo l x).1 = a) (hl : (fdo l x).2 = l') :
    Calls Try.prog 14 #[.pointer (some ⟨g, 0, none⟩), .agg x.cells] w fun e w' => e = .returned (.agg a.cells) ∧ Has (S.and (repHolds g 105 112)) W w' (y, l') := by
  subst ha
  subst hl
  exact files_do_has h hok hst

theorem read_size {l : List FileD} (h : FOk l) (n : ByteArray) : (fdo l (readOf n)).1.text.size ≤ 16 := by
  have hw := fdo_way l (readOf n)
  generalize fdo l (readOf n) = r at hw
  rcases hw with ⟨k, hk, rfl⟩ | ⟨_, hk, rfl⟩ | ⟨h0, hk, hn, hlen, rfl⟩ | ⟨_, hk, i, x, hi, hx, e, rfl⟩ | ⟨h0, hk, i, x, hi, hx, e, hs, rfl⟩ | ⟨h0, hk, i, x, hi, hx, e, ht, rfl⟩ | ⟨h0, hk, i, x, hi, hx, e, rfl⟩
  · exact Nat.zero_le _
  · exact absurd (show (5 : Int) = 6 from hk) (by decide)
  · exact Nat.zero_le _
  · exact (h.each x (List.mem_of_getElem? hx)).2
  all_goals exact Nat.zero_le _


set_option maxHeartbeats 4000000 in
set_option maxRecDepth 100000 in
theorem filesBack (W : World) (A : Option Addr) (c : Nat) (l : List Call) (nm to_ tx : ByteArray) (hr : Reads W W.heap.size A l) (hs : ∀ x ∈ l, StrCall x) (hl : l.length ≤ 140737488351232)
    (h1 : nm.size ≤ 140737488351232) (h2 : to_.size ≤ 140737488351232) (h3 : tx.size ≤ 140737488351232) :
    Calls Try.prog 3 #[.slice A l.length c, .string nm, .string to_, .string tx] W fun e w' => e = .returned (.bool true) ∧ Ext W w' := by
  have HR := Lib.hid hr
  have HS := Lib.hid hs
  clear hr hs
  go_enter Try.func3, Try.ntmps3
  go_wp2_with fail
  refine (files_begun _).mono ?_
  rintro e w1 ⟨rfl, hx1⟩
  have H1 := Lib.hid ((Has.none W).step hx1)
  clear hx1
  go_wp2_with fail
  refine (law_greatCalls w1 A c l (HR.out.ext H1.out.ext) HS.out hl).mono ?_
  rintro e w2 ⟨b2, rfl, hb2, hx2⟩
  have H2 := Lib.hid (H1.out.step hx2)
  have HB2 := Lib.hid hb2
  clear hx2 hb2 H1
  have hs1 : (0 : Int) ≤ (nm.size : Int) + (to_.size : Int) := by omega
  have hs2 : (nm.size : Int) + (to_.size : Int) ≤ 281474976710656 := by omega
  have hs3 : (0 : Int) ≤ (nm.size : Int) + (to_.size : Int) + (tx.size : Int) := by omega
  have hs4 : (nm.size : Int) + (to_.size : Int) + (tx.size : Int) ≤ 422212465065984 := by omega
  cases b2 with
  | true =>
    go_wp2
    go_ret
    exact ⟨rfl, H2.out.ext⟩
  | false =>
    by_cases hbig : (300 : Int) < (nm.size : Int) + (to_.size : Int) + (tx.size : Int)
    · go_wp2
      go_ret
      exact ⟨by first | rfl | simp [hbig], H2.out.ext⟩
    · obtain ⟨hl150, hshort⟩ := HB2.out rfl
      clear hshort HB2
      go_wp2_with fail
      refine (files_new w2).mono ?_
      rintro e w4 ⟨rfl, rfl⟩
      have H4 := Lib.hid (files_begin H2.out)
      generalize hgg : w2.heap.size = g at H4 ⊢
      generalize w2.alloc (.cells #[.slice none 0 0] 105) = w4 at H4 ⊢
      clear hgg H2
      go_wp2_with fail
      go_loopw [10] (fun i wr => FsRel W g l i wr) (fun i _ => l.length - (intOf i).toNat)
      case atStart => exact ⟨0, rfl, Nat.zero_le _, H4.out⟩
      case round =>
        clear H4
        obtain ⟨k, rfl, hk, hz⟩ := hrel
        have HZ := Lib.hid hz
        clear hz
        by_cases hlt : k < l.length
        · obtain ⟨x, hx⟩ : ∃ x, l[k]? = some x := ⟨l[k], by simp [hlt]⟩
          obtain ⟨ad, rfl, hadb, hat⟩ := HR.out _ x hx
          have hLV : LV Try.prog 31 (ad.add (k * 4)) wr = .ok (.agg x.cells) wr := LV_Call ((hat.of_same (w' := wr) (by rw [show (ad.add (k * Lies.size Call)).block = ad.block by unfold Addr.add; split <;> rfl]; exact HZ.out.ext.block _ hadb id)))
          have HXK := Lib.hid hx
          clear hx hat
          go_wp2_with (go_at_call 14
                       refine (files_do_has HZ.out (fdos_ok FOk.nil _) (HS.out x (List.mem_of_getElem? HXK.out))).mono ?_
                       rintro e w5 ⟨rfl, hz5⟩
                       rw [← fdos_take HXK.out] at hz5
                       have HZ5 := Lib.hid hz5
                       clear hz5)
          go_roundw
          case rel => exact ⟨k + 1, by go_num, by omega, HZ5.out⟩
          case measure => simp [intOf]; omega
        · obtain rfl : k = l.length := by omega
          have HL := Lib.hid (show FOk (fdos [] (l.take l.length)) from fdos_ok FOk.nil _)
          generalize fdos [] (l.take l.length) = L at HZ HL
          have hL6 := HL.out.len
          have HC1 := Lib.hid (show StrCall (renameOf nm to_) from ⟨h1, h2, (by decide : noText.size ≤ 140737488351232)⟩)
          have HC2 := Lib.hid (show StrCall (renameOf to_ nm) from ⟨h2, h1, (by decide : noText.size ≤ 140737488351232)⟩)
          have HC3 := Lib.hid (show StrCall (makeOf nm) from ⟨h1, (by decide : noText.size ≤ 140737488351232), (by decide : noText.size ≤ 140737488351232)⟩)
          have HC4 := Lib.hid (show StrCall (removeOf nm) from ⟨h1, (by decide : noText.size ≤ 140737488351232), (by decide : noText.size ≤ 140737488351232)⟩)
          have HC5 := Lib.hid (show StrCall (readOf nm) from ⟨h1, (by decide : noText.size ≤ 140737488351232), (by decide : noText.size ≤ 140737488351232)⟩)
          have HC6 := Lib.hid (show StrCall (appendOf nm tx) from ⟨h1, (by decide : noText.size ≤ 140737488351232), h3⟩)
          go_wp2_with fail
          refine (law_all _ _ W wr g L HZ.out HL.out).mono ?_
          rintro e w5 ⟨A5, c5, rfl, hz5⟩
          have H5 := Lib.hid hz5.exch
          clear hz5 HZ
          generalize hn5 : 2 * L.length = n5 at *
          have HN5 := Lib.hid hn5
          clear hn5
          have hL5 : L.length ≤ 6 := HL.out.len
          by_cases hq1 : (fdo L (renameOf nm to_)).1.code = 0
          · obtain ⟨hb1, hb2⟩ := fdo_back HL.out hq1
            have hq1' : ((fdo L (renameOf nm to_)).1.code == 0) = true := by simp [hq1]
            have HLb := Lib.hid (fdo_ok HL.out (renameOf nm to_))
            go_wp2_with fail
            refine (files_do_code H5.out HL.out HC1.out rfl rfl).mono ?_
            rintro e wb1 ⟨rfl, hz1⟩
            have HB1 := Lib.hid hz1
            clear hz1
            generalize (fdo L (renameOf nm to_)).2 = Lb at *
            generalize (fdo L (renameOf nm to_)).1 = ab at *
            have hb1' : ((fdo Lb (renameOf to_ nm)).1.code != 0) = false := by simp [hb1]
            go_wp2_with fail
            refine (files_do_code HB1.out HLb.out HC2.out rfl hb2).mono ?_
            rintro e wb2 ⟨rfl, hz2⟩
            have HB2 := Lib.hid hz2
            clear hz2
            generalize (fdo Lb (renameOf to_ nm)).1 = ac at *
            by_cases hq2 : (fdo L (makeOf nm)).1.code = 0
            · obtain ⟨hm1, hm2⟩ := fdo_made HL.out hq2
              have hq2' : ((fdo L (makeOf nm)).1.code == 0) = true := by simp [hq2]
              have HLm := Lib.hid (fdo_ok HL.out (makeOf nm))
              go_wp2_with fail
              refine (files_do_code HB2.out HL.out HC3.out rfl rfl).mono ?_
              rintro e wm1 ⟨rfl, hz1⟩
              have HM1 := Lib.hid hz1
              clear hz1
              generalize (fdo L (makeOf nm)).2 = Lm at *
              generalize (fdo L (makeOf nm)).1 = am at *
              have hm1' : ((fdo Lm (removeOf nm)).1.code != 0) = false := by simp [hm1]
              go_wp2_with fail
              refine (files_do_code HM1.out HLm.out HC4.out rfl hm2).mono ?_
              rintro e wm2 ⟨rfl, hz2⟩
              have HM2 := Lib.hid hz2
              clear hz2
              generalize (fdo Lm (removeOf nm)).1 = an at *
              go_wp2_with fail
              refine (law_all _ _ W _ g L HM2.out HL.out).mono ?_
              rintro e ws1 ⟨As, cs, rfl, hs1⟩
              rw [HN5.out] at hs1 ⊢
              have HS1 := Lib.hid hs1
              clear hs1
              go_wp2_with fail
              refine (texts_yes2 _ _ _ _ _ _ _ _ _ HS1.out.left.left.right.owns.reads HS1.out.right.owns.reads HS1.out.left.left.right.owns.length_eq HS1.out.right.owns.length_eq (by have := HN5.out; omega)).mono ?_
              rintro e ws2 ⟨rfl, hs2⟩
              have HS2 := Lib.hid (HS1.out.left.step hs2)
              clear hs2
              obtain ⟨a1, ha1⟩ : ∃ a, (fdo L (readOf nm)).1 = a := ⟨_, rfl⟩
              go_wp2_with fail
              refine (files_do_code HS2.out HL.out HC5.out ha1 (fdo_same (.inr (show ¬ (1 ≤ (5 : Int) ∧ (5 : Int) ≤ 4) by decide)))).mono ?_
              rintro e wr1 ⟨rfl, hr1⟩
              have HR1 := Lib.hid (hr1.box a1.cells 28).exch
              generalize hbq : wr1.heap.size = q at HR1 ⊢
              clear hr1
              by_cases hq3 : (fdo L (appendOf nm tx)).1.code = 0
              · obtain ⟨hf1, hf2, hf3⟩ := fdo_behind HL.out hq3
                rw [ha1] at hf1 hf3
                have hsz : a1.text.size + tx.size ≤ 9223372036854775807 := by have h := read_size HL.out nm; rw [ha1] at h; omega
                have hsz' : ¬ 9223372036854775807 < a1.text.size + tx.size := by omega
                have hq3' : ((fdo L (appendOf nm tx)).1.code != 0) = false := by simp [hq3]
                go_wp2_with fail
                refine (files_do_code HR1.out HL.out HC6.out rfl rfl).mono ?_
                rintro e wr2 ⟨rfl, hr2⟩
                have HR2 := Lib.hid hr2
                clear hr2
                have HL2 := Lib.hid (fdo_ok HL.out (appendOf nm tx))
                generalize (fdo L (appendOf nm tx)).2 = L2 at *
                generalize (fdo L (appendOf nm tx)).1 = a2 at *
                go_wp2_with fail
                refine (files_do_code HR2.out HL2.out HC5.out rfl rfl).mono ?_
                rintro e wr3 ⟨rfl, hr3⟩
                generalize (fdo L2 (readOf nm)).1 = a3 at *
                have HEX := Lib.hid (hr3.ext.alloc (.cells a3.cells 28))
                have hbA := hr3.left.blk
                obtain ⟨hlA, hoA⟩ := Array.getElem?_eq_some_iff.1 hbA
                have hcA0 := cell_of hbA 0
                have hcA1 := cell_of hbA 1
                have hq1' : (a1.code == 0) = true := by simp [hf1]
                have hq2' : (a3.code == 0) = true := by simp [hf2]
                have htt : (a3.text.toList == (a1.text ++ tx).toList) = true := by simp [hf3]
                clear hr3 HR1 HR2 hf1 hf2 hf3
                go_wp2
                go_ret
                exact ⟨by first | rfl | simp, HEX.out⟩
              · have hq3' : ((fdo L (appendOf nm tx)).1.code != 0) = true := by simp [hq3]
                go_wp2_with fail
                refine (files_do_code HR1.out HL.out HC6.out rfl (fdo_same (.inl hq3))).mono ?_
                rintro e wr2 ⟨rfl, hr2⟩
                have HR2 := Lib.hid hr2
                clear hr2
                generalize (fdo L (appendOf nm tx)).1 = a2 at *
                go_wp2_with fail
                refine (law_all _ _ W _ g L HR2.out HL.out).mono ?_
                rintro e wr3 ⟨Ar, cr, rfl, hr3⟩
                rw [HN5.out] at hr3 ⊢
                have HR3 := Lib.hid hr3
                clear hr3
                go_wp2_with fail
                refine (texts_yes2 _ _ _ _ _ _ _ _ _ HR3.out.left.left.left.right.owns.reads HR3.out.right.owns.reads HR3.out.left.left.left.right.owns.length_eq HR3.out.right.owns.length_eq (by have := HN5.out; omega)).mono ?_
                rintro e wr4 ⟨rfl, hx4⟩
                have HX4 := Lib.hid (HR3.out.ext.trans hx4)
                clear hx4
                go_wp2
                go_ret
                exact ⟨by first | rfl | simp, HX4.out⟩
            · have hq2' : ((fdo L (makeOf nm)).1.code == 0) = false := by simp [hq2]
              go_wp2_with fail
              refine (files_do_code HB2.out HL.out HC3.out rfl (fdo_same (.inl hq2))).mono ?_
              rintro e wm1 ⟨rfl, hz1⟩
              have HM2 := Lib.hid hz1
              clear hz1
              generalize (fdo L (makeOf nm)).1 = am at *
              go_wp2_with fail
              refine (law_all _ _ W _ g L HM2.out HL.out).mono ?_
              rintro e ws1 ⟨As, cs, rfl, hs1⟩
              rw [HN5.out] at hs1 ⊢
              have HS1 := Lib.hid hs1
              clear hs1
              go_wp2_with fail
              refine (texts_yes2 _ _ _ _ _ _ _ _ _ HS1.out.left.left.right.owns.reads HS1.out.right.owns.reads HS1.out.left.left.right.owns.length_eq HS1.out.right.owns.length_eq (by have := HN5.out; omega)).mono ?_
              rintro e ws2 ⟨rfl, hs2⟩
              have HS2 := Lib.hid (HS1.out.left.step hs2)
              clear hs2
              obtain ⟨a1, ha1⟩ : ∃ a, (fdo L (readOf nm)).1 = a := ⟨_, rfl⟩
              go_wp2_with fail
              refine (files_do_code HS2.out HL.out HC5.out ha1 (fdo_same (.inr (show ¬ (1 ≤ (5 : Int) ∧ (5 : Int) ≤ 4) by decide)))).mono ?_
              rintro e wr1 ⟨rfl, hr1⟩
              have HR1 := Lib.hid (hr1.box a1.cells 28).exch
              generalize hbq : wr1.heap.size = q at HR1 ⊢
              clear hr1
              by_cases hq3 : (fdo L (appendOf nm tx)).1.code = 0
              · obtain ⟨hf1, hf2, hf3⟩ := fdo_behind HL.out hq3
                rw [ha1] at hf1 hf3
                have hsz : a1.text.size + tx.size ≤ 9223372036854775807 := by have h := read_size HL.out nm; rw [ha1] at h; omega
                have hsz' : ¬ 9223372036854775807 < a1.text.size + tx.size := by omega
                have hq3' : ((fdo L (appendOf nm tx)).1.code != 0) = false := by simp [hq3]
                go_wp2_with fail
                refine (files_do_code HR1.out HL.out HC6.out rfl rfl).mono ?_
                rintro e wr2 ⟨rfl, hr2⟩
                have HR2 := Lib.hid hr2
                clear hr2
                have HL2 := Lib.hid (fdo_ok HL.out (appendOf nm tx))
                generalize (fdo L (appendOf nm tx)).2 = L2 at *
                generalize (fdo L (appendOf nm tx)).1 = a2 at *
                go_wp2_with fail
                refine (files_do_code HR2.out HL2.out HC5.out rfl rfl).mono ?_
                rintro e wr3 ⟨rfl, hr3⟩
                generalize (fdo L2 (readOf nm)).1 = a3 at *
                have HEX := Lib.hid (hr3.ext.alloc (.cells a3.cells 28))
                have hbA := hr3.left.blk
                obtain ⟨hlA, hoA⟩ := Array.getElem?_eq_some_iff.1 hbA
                have hcA0 := cell_of hbA 0
                have hcA1 := cell_of hbA 1
                have hq1' : (a1.code == 0) = true := by simp [hf1]
                have hq2' : (a3.code == 0) = true := by simp [hf2]
                have htt : (a3.text.toList == (a1.text ++ tx).toList) = true := by simp [hf3]
                clear hr3 HR1 HR2 hf1 hf2 hf3
                go_wp2
                go_ret
                exact ⟨by first | rfl | simp, HEX.out⟩
              · have hq3' : ((fdo L (appendOf nm tx)).1.code != 0) = true := by simp [hq3]
                go_wp2_with fail
                refine (files_do_code HR1.out HL.out HC6.out rfl (fdo_same (.inl hq3))).mono ?_
                rintro e wr2 ⟨rfl, hr2⟩
                have HR2 := Lib.hid hr2
                clear hr2
                generalize (fdo L (appendOf nm tx)).1 = a2 at *
                go_wp2_with fail
                refine (law_all _ _ W _ g L HR2.out HL.out).mono ?_
                rintro e wr3 ⟨Ar, cr, rfl, hr3⟩
                rw [HN5.out] at hr3 ⊢
                have HR3 := Lib.hid hr3
                clear hr3
                go_wp2_with fail
                refine (texts_yes2 _ _ _ _ _ _ _ _ _ HR3.out.left.left.left.right.owns.reads HR3.out.right.owns.reads HR3.out.left.left.left.right.owns.length_eq HR3.out.right.owns.length_eq (by have := HN5.out; omega)).mono ?_
                rintro e wr4 ⟨rfl, hx4⟩
                have HX4 := Lib.hid (HR3.out.ext.trans hx4)
                clear hx4
                go_wp2
                go_ret
                exact ⟨by first | rfl | simp, HX4.out⟩
          · have hq1' : ((fdo L (renameOf nm to_)).1.code == 0) = false := by simp [hq1]
            go_wp2_with fail
            refine (files_do_code H5.out HL.out HC1.out rfl (fdo_same (.inl hq1))).mono ?_
            rintro e wb1 ⟨rfl, hz1⟩
            have HB2 := Lib.hid hz1
            clear hz1
            generalize (fdo L (renameOf nm to_)).1 = ab at *
            by_cases hq2 : (fdo L (makeOf nm)).1.code = 0
            · obtain ⟨hm1, hm2⟩ := fdo_made HL.out hq2
              have hq2' : ((fdo L (makeOf nm)).1.code == 0) = true := by simp [hq2]
              have HLm := Lib.hid (fdo_ok HL.out (makeOf nm))
              go_wp2_with fail
              refine (files_do_code HB2.out HL.out HC3.out rfl rfl).mono ?_
              rintro e wm1 ⟨rfl, hz1⟩
              have HM1 := Lib.hid hz1
              clear hz1
              generalize (fdo L (makeOf nm)).2 = Lm at *
              generalize (fdo L (makeOf nm)).1 = am at *
              have hm1' : ((fdo Lm (removeOf nm)).1.code != 0) = false := by simp [hm1]
              go_wp2_with fail
              refine (files_do_code HM1.out HLm.out HC4.out rfl hm2).mono ?_
              rintro e wm2 ⟨rfl, hz2⟩
              have HM2 := Lib.hid hz2
              clear hz2
              generalize (fdo Lm (removeOf nm)).1 = an at *
              go_wp2_with fail
              refine (law_all _ _ W _ g L HM2.out HL.out).mono ?_
              rintro e ws1 ⟨As, cs, rfl, hs1⟩
              rw [HN5.out] at hs1 ⊢
              have HS1 := Lib.hid hs1
              clear hs1
              go_wp2_with fail
              refine (texts_yes2 _ _ _ _ _ _ _ _ _ HS1.out.left.left.right.owns.reads HS1.out.right.owns.reads HS1.out.left.left.right.owns.length_eq HS1.out.right.owns.length_eq (by have := HN5.out; omega)).mono ?_
              rintro e ws2 ⟨rfl, hs2⟩
              have HS2 := Lib.hid (HS1.out.left.step hs2)
              clear hs2
              obtain ⟨a1, ha1⟩ : ∃ a, (fdo L (readOf nm)).1 = a := ⟨_, rfl⟩
              go_wp2_with fail
              refine (files_do_code HS2.out HL.out HC5.out ha1 (fdo_same (.inr (show ¬ (1 ≤ (5 : Int) ∧ (5 : Int) ≤ 4) by decide)))).mono ?_
              rintro e wr1 ⟨rfl, hr1⟩
              have HR1 := Lib.hid (hr1.box a1.cells 28).exch
              generalize hbq : wr1.heap.size = q at HR1 ⊢
              clear hr1
              by_cases hq3 : (fdo L (appendOf nm tx)).1.code = 0
              · obtain ⟨hf1, hf2, hf3⟩ := fdo_behind HL.out hq3
                rw [ha1] at hf1 hf3
                have hsz : a1.text.size + tx.size ≤ 9223372036854775807 := by have h := read_size HL.out nm; rw [ha1] at h; omega
                have hsz' : ¬ 9223372036854775807 < a1.text.size + tx.size := by omega
                have hq3' : ((fdo L (appendOf nm tx)).1.code != 0) = false := by simp [hq3]
                go_wp2_with fail
                refine (files_do_code HR1.out HL.out HC6.out rfl rfl).mono ?_
                rintro e wr2 ⟨rfl, hr2⟩
                have HR2 := Lib.hid hr2
                clear hr2
                have HL2 := Lib.hid (fdo_ok HL.out (appendOf nm tx))
                generalize (fdo L (appendOf nm tx)).2 = L2 at *
                generalize (fdo L (appendOf nm tx)).1 = a2 at *
                go_wp2_with fail
                refine (files_do_code HR2.out HL2.out HC5.out rfl rfl).mono ?_
                rintro e wr3 ⟨rfl, hr3⟩
                generalize (fdo L2 (readOf nm)).1 = a3 at *
                have HEX := Lib.hid (hr3.ext.alloc (.cells a3.cells 28))
                have hbA := hr3.left.blk
                obtain ⟨hlA, hoA⟩ := Array.getElem?_eq_some_iff.1 hbA
                have hcA0 := cell_of hbA 0
                have hcA1 := cell_of hbA 1
                have hq1' : (a1.code == 0) = true := by simp [hf1]
                have hq2' : (a3.code == 0) = true := by simp [hf2]
                have htt : (a3.text.toList == (a1.text ++ tx).toList) = true := by simp [hf3]
                clear hr3 HR1 HR2 hf1 hf2 hf3
                go_wp2
                go_ret
                exact ⟨by first | rfl | simp, HEX.out⟩
              · have hq3' : ((fdo L (appendOf nm tx)).1.code != 0) = true := by simp [hq3]
                go_wp2_with fail
                refine (files_do_code HR1.out HL.out HC6.out rfl (fdo_same (.inl hq3))).mono ?_
                rintro e wr2 ⟨rfl, hr2⟩
                have HR2 := Lib.hid hr2
                clear hr2
                generalize (fdo L (appendOf nm tx)).1 = a2 at *
                go_wp2_with fail
                refine (law_all _ _ W _ g L HR2.out HL.out).mono ?_
                rintro e wr3 ⟨Ar, cr, rfl, hr3⟩
                rw [HN5.out] at hr3 ⊢
                have HR3 := Lib.hid hr3
                clear hr3
                go_wp2_with fail
                refine (texts_yes2 _ _ _ _ _ _ _ _ _ HR3.out.left.left.left.right.owns.reads HR3.out.right.owns.reads HR3.out.left.left.left.right.owns.length_eq HR3.out.right.owns.length_eq (by have := HN5.out; omega)).mono ?_
                rintro e wr4 ⟨rfl, hx4⟩
                have HX4 := Lib.hid (HR3.out.ext.trans hx4)
                clear hx4
                go_wp2
                go_ret
                exact ⟨by first | rfl | simp, HX4.out⟩
            · have hq2' : ((fdo L (makeOf nm)).1.code == 0) = false := by simp [hq2]
              go_wp2_with fail
              refine (files_do_code HB2.out HL.out HC3.out rfl (fdo_same (.inl hq2))).mono ?_
              rintro e wm1 ⟨rfl, hz1⟩
              have HM2 := Lib.hid hz1
              clear hz1
              generalize (fdo L (makeOf nm)).1 = am at *
              go_wp2_with fail
              refine (law_all _ _ W _ g L HM2.out HL.out).mono ?_
              rintro e ws1 ⟨As, cs, rfl, hs1⟩
              rw [HN5.out] at hs1 ⊢
              have HS1 := Lib.hid hs1
              clear hs1
              go_wp2_with fail
              refine (texts_yes2 _ _ _ _ _ _ _ _ _ HS1.out.left.left.right.owns.reads HS1.out.right.owns.reads HS1.out.left.left.right.owns.length_eq HS1.out.right.owns.length_eq (by have := HN5.out; omega)).mono ?_
              rintro e ws2 ⟨rfl, hs2⟩
              have HS2 := Lib.hid (HS1.out.left.step hs2)
              clear hs2
              obtain ⟨a1, ha1⟩ : ∃ a, (fdo L (readOf nm)).1 = a := ⟨_, rfl⟩
              go_wp2_with fail
              refine (files_do_code HS2.out HL.out HC5.out ha1 (fdo_same (.inr (show ¬ (1 ≤ (5 : Int) ∧ (5 : Int) ≤ 4) by decide)))).mono ?_
              rintro e wr1 ⟨rfl, hr1⟩
              have HR1 := Lib.hid (hr1.box a1.cells 28).exch
              generalize hbq : wr1.heap.size = q at HR1 ⊢
              clear hr1
              by_cases hq3 : (fdo L (appendOf nm tx)).1.code = 0
              · obtain ⟨hf1, hf2, hf3⟩ := fdo_behind HL.out hq3
                rw [ha1] at hf1 hf3
                have hsz : a1.text.size + tx.size ≤ 9223372036854775807 := by have h := read_size HL.out nm; rw [ha1] at h; omega
                have hsz' : ¬ 9223372036854775807 < a1.text.size + tx.size := by omega
                have hq3' : ((fdo L (appendOf nm tx)).1.code != 0) = false := by simp [hq3]
                go_wp2_with fail
                refine (files_do_code HR1.out HL.out HC6.out rfl rfl).mono ?_
                rintro e wr2 ⟨rfl, hr2⟩
                have HR2 := Lib.hid hr2
                clear hr2
                have HL2 := Lib.hid (fdo_ok HL.out (appendOf nm tx))
                generalize (fdo L (appendOf nm tx)).2 = L2 at *
                generalize (fdo L (appendOf nm tx)).1 = a2 at *
                go_wp2_with fail
                refine (files_do_code HR2.out HL2.out HC5.out rfl rfl).mono ?_
                rintro e wr3 ⟨rfl, hr3⟩
                generalize (fdo L2 (readOf nm)).1 = a3 at *
                have HEX := Lib.hid (hr3.ext.alloc (.cells a3.cells 28))
                have hbA := hr3.left.blk
                obtain ⟨hlA, hoA⟩ := Array.getElem?_eq_some_iff.1 hbA
                have hcA0 := cell_of hbA 0
                have hcA1 := cell_of hbA 1
                have hq1' : (a1.code == 0) = true := by simp [hf1]
                have hq2' : (a3.code == 0) = true := by simp [hf2]
                have htt : (a3.text.toList == (a1.text ++ tx).toList) = true := by simp [hf3]
                clear hr3 HR1 HR2 hf1 hf2 hf3
                go_wp2
                go_ret
                exact ⟨by first | rfl | simp, HEX.out⟩
              · have hq3' : ((fdo L (appendOf nm tx)).1.code != 0) = true := by simp [hq3]
                go_wp2_with fail
                refine (files_do_code HR1.out HL.out HC6.out rfl (fdo_same (.inl hq3))).mono ?_
                rintro e wr2 ⟨rfl, hr2⟩
                have HR2 := Lib.hid hr2
                clear hr2
                generalize (fdo L (appendOf nm tx)).1 = a2 at *
                go_wp2_with fail
                refine (law_all _ _ W _ g L HR2.out HL.out).mono ?_
                rintro e wr3 ⟨Ar, cr, rfl, hr3⟩
                rw [HN5.out] at hr3 ⊢
                have HR3 := Lib.hid hr3
                clear hr3
                go_wp2_with fail
                refine (texts_yes2 _ _ _ _ _ _ _ _ _ HR3.out.left.left.left.right.owns.reads HR3.out.right.owns.reads HR3.out.left.left.left.right.owns.length_eq HR3.out.right.owns.length_eq (by have := HN5.out; omega)).mono ?_
                rintro e wr4 ⟨rfl, hx4⟩
                have HX4 := Lib.hid (HR3.out.ext.trans hx4)
                clear hx4
                go_wp2
                go_ret
                exact ⟨by first | rfl | simp, HX4.out⟩
end Go.Proofs.Ytalfbhhldfffkab
