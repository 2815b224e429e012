/- FilesOrder: the walk of the law. -/
import Derived.Test.YtalfbhhldfffkabFilesBack
import Derived.Test.YtalfbhhldfffkabDrawerC3
namespace Go.Proofs.Ytalfbhhldfffkab
open Go.RowKit

def listOf : Call := ⟨6, noText, noText, noText⟩
theorem callCode_list : callCode listOf = 0 := by decide +kernel
theorem fdo_listOf (l : List FileD) : fdo l listOf = (⟨0, joinSp (l.map (·.name))⟩, l) := fdo_list callCode_list rfl
/-- names rise -/
theorem names_rise {l : List FileD} (h : Sorted l) {k : Nat} {a b : ByteArray} (ha : (l.map (·.name))[k]? = some a) (hb : (l.map (·.name))[k + 1]? = some b) : bless a b = true := by
  rw [List.getElem?_map] at ha hb
  obtain ⟨f, hf, rfl⟩ := Option.map_eq_some_iff.1 ha
  obtain ⟨f', hf', rfl⟩ := Option.map_eq_some_iff.1 hb
  obtain ⟨h1, e1⟩ := List.getElem?_eq_some_iff.1 hf
  obtain ⟨h2, e2⟩ := List.getElem?_eq_some_iff.1 hf'
  have := List.pairwise_iff_getElem.1 h k (k + 1) h1 h2 (by omega)
  rw [e1, e2] at this
  exact this
theorem files_do_to {Y : Type} {S : Rep Y} {W w : World} {g : Nat} {y : Y} {l l' : List FileD} {x : Call} {a : Answer} (h : Has (S.and (repHolds g 105 112)) W w (y, l)) (hok : FOk l) (hst : StrCall x) (hf : fdo l x = (a, l')) :
    Calls Try.prog 14 #[.pointer (some ⟨g, 0, none⟩), .agg x.cells] w fun e w' => e = .returned (.agg a.cells) ∧ Has (S.and (repHolds g 105 112)) W w' (y, l') :=
  files_do_code h hok hst (by rw [hf]) (by rw [hf])
def OrdRel (W : World) (g : Nat) (L : List FileD) (v : Value) (N : List ByteArray) (s i : Value) (wr : World) : Prop :=
  ∃ k : Nat, i = .int .i64 k ∧ k ≤ N.length ∧ s = .string (joinSp (N.take k)) ∧ Has ((repNone.and (repOwn 9)).and (repHolds g 105 112)) W wr (((), (v, N)), L)

set_option maxHeartbeats 4000000 in
set_option maxRecDepth 100000 in
theorem filesOrder (W : World) (A : Option Addr) (c : Nat) (l : List Call) (hr : Reads W W.heap.size A l) (hs : ∀ x ∈ l, StrCall x) (hl : l.length ≤ 140737488351232) :
    Calls Try.prog 4 #[.slice A l.length c] W fun e w' => e = .returned (.bool true) ∧ Ext W w' := by
  have HR := Lib.hid hr
  have HS := Lib.hid hs
  clear hr hs
  go_enter Try.func4, Try.ntmps4
  go_wp2_with fail
  refine (files_begun _).mono ?_
  rintro e w1 ⟨rfl, hx1⟩
  have H1 := Lib.hid ((Has.none W).step hx1)
  clear hx1
  go_wp2_with fail
  refine (law_greatCalls w1 A c l (HR.out.ext H1.out.ext) HS.out hl).mono ?_
  rintro e w2 ⟨b2, rfl, hb2, hx2⟩
  have H2 := Lib.hid (H1.out.step hx2)
  clear hx2 H1
  cases b2 with
  | true =>
    go_wp2
    go_ret
    exact ⟨rfl, H2.out.ext⟩
  | false =>
    obtain ⟨hl150, hshort⟩ := hb2 rfl
    clear hshort
    go_wp2_with fail
    refine (files_new w2).mono ?_
    rintro e w4 ⟨rfl, rfl⟩
    have H4 := Lib.hid (files_begin H2.out)
    generalize hgg : w2.heap.size = g at H4 ⊢
    generalize w2.alloc (.cells #[.slice none 0 0] 105) = w4 at H4 ⊢
    clear hgg H2
    go_wp2_with fail
    go_loopw [4] (fun i wr => FsRel W g l i wr) (fun i _ => l.length - (intOf i).toNat)
    case atStart => exact ⟨0, rfl, Nat.zero_le _, H4.out⟩
    case round =>
      clear H4
      obtain ⟨k, rfl, hk, hz⟩ := hrel
      have HZ := Lib.hid hz
      clear hz
      by_cases hlt : k < l.length
      · obtain ⟨x, hx⟩ : ∃ x, l[k]? = some x := ⟨l[k], by simp [hlt]⟩
        obtain ⟨ad, rfl, hadb, hat⟩ := HR.out _ x hx
        have hLV : LV Try.prog 31 (ad.add (k * 4)) wr = .ok (.agg x.cells) wr := LV_Call ((hat.of_same (w' := wr) (by rw [show (ad.add (k * Lies.size Call)).block = ad.block by unfold Addr.add; split <;> rfl]; exact HZ.out.ext.block _ hadb id)))
        have HXK := Lib.hid hx
        clear hx hat
        go_wp2_with fail
        refine (files_do_has HZ.out (fdos_ok FOk.nil _) (HS.out x (List.mem_of_getElem? HXK.out))).mono ?_
        rintro e w5 ⟨rfl, hz5⟩
        rw [← fdos_take HXK.out] at hz5
        have HL := Lib.hid (show FOk (fdos [] (l.take (k + 1))) from fdos_ok FOk.nil _)
        obtain ⟨L, hL⟩ : ∃ L, fdos [] (l.take (k + 1)) = L := ⟨_, rfl⟩
        rw [hL] at hz5 HL
        have HLE := Lib.hid hL
        have HZ5 := Lib.hid hz5
        have hL6 := HL.out.len
        clear hz5 hL
        go_wp2_with fail
        obtain ⟨F6, ⟨v6, hF6, hh6⟩, _⟩ := HZ5.out.snd
        refine (files_names _ g v6 L hh6 (by omega)).mono ?_
        rintro e w6 ⟨A6, c6, he6, ho6, hx6, hf6⟩
        subst he6
        have H6 := Lib.hid (HZ5.out.newList hx6 ho6 hf6).exch
        obtain ⟨N, hN⟩ : ∃ N, L.map (·.name) = N := ⟨_, rfl⟩
        have HN := Lib.hid hN
        have hN6 : N.length ≤ 6 := by rw [← hN, List.length_map]; exact hL6
        rw [hN] at H6 ⊢
        have HSZ := Lib.hid (show ∀ s ∈ N, okText 97 122 5 s = true ∧ s.size ≤ 5 from fun s hs => by
          rw [← hN] at hs
          obtain ⟨f, hf, rfl⟩ := List.mem_map.1 hs
          exact ⟨(HL.out.each f hf).1, okText_le (HL.out.each f hf).1⟩)
        have HRS := Lib.hid (show ∀ (j : Nat) a b, N[j]? = some a → N[j + 1]? = some b → bless a b = true from fun j a b ha hb => by rw [← hN] at ha hb; exact names_rise HL.out.srt ha hb)
        clear hF6 hh6 ho6 hx6 hf6 HZ5 hN
        go_wp2_with fail
        go_loopw [6, 7] (fun s i wr => OrdRel W g L (.slice A6 N.length c6) N s i wr) (fun _ i _ => N.length - (intOf i).toNat)
        case atStart => exact ⟨0, rfl, Nat.zero_le _, rfl, H6.out⟩
        case round =>
          clear H6
          obtain ⟨j, rfl, hj, rfl, hzj⟩ := hrel
          have HZJ := Lib.hid hzj
          clear hzj
          by_cases hlt2 : j < N.length
          · obtain ⟨s, hs⟩ : ∃ s, N[j]? = some s := ⟨N[j], by simp [hlt2]⟩
            obtain ⟨ad1, rfl, hadb1, hat1⟩ := HZJ.out.left.right.owns.reads j s hs
            have hcs : wr.cell? (ad1.add j) = some (.string s) := by have := hat1 0 (.string s) rfl; rwa [addr_add_add, show j * Lies.size ByteArray + 0 = j from Nat.mul_one j] at this
            obtain ⟨hok1, hss⟩ := HSZ.out s (List.mem_of_getElem? hs)
            have hjs : (joinSp (N.take j)).size ≤ 36 := by
              have h1 := size_joinSp (l := N.take j) (m := 5) (fun s hs => (HSZ.out s (List.mem_of_mem_take hs)).2)
              rw [List.length_take] at h1
              have h2 : min j N.length * (5 + 1) ≤ 6 * 6 := Nat.mul_le_mul (by omega) (Nat.le_refl _)
              omega
            have HS1 := Lib.hid hs
            have HOK1 := Lib.hid hok1
            have HST := Lib.hid (show StrCall (readOf s) from ⟨by show s.size ≤ _; omega, (by decide : noText.size ≤ 140737488351232), (by decide : noText.size ≤ 140737488351232)⟩)
            obtain ⟨f, hf, hfs⟩ : ∃ f, L[j]? = some f ∧ f.name = s := by
              have h := HS1.out
              rw [← HN.out, List.getElem?_map] at h
              exact Option.map_eq_some_iff.1 h
            have hft := (HL.out.each f (List.mem_of_getElem? hf)).2
            have HFD := Lib.hid (show fdo L (readOf s) = (⟨0, f.text⟩, L) by rw [← hfs]; exact fdo_read HL.out hf)
            clear hs hat1 hok1 hf hfs
            obtain ⟨J, hJ⟩ : ∃ J, joinSp (N.take j) = J := ⟨_, rfl⟩
            have HJ0 := Lib.hid hJ
            rw [hJ] at hjs ⊢
            by_cases hj0 : j = 0
            · have HJ := Lib.hid (show J ++ s = joinSp (N.take (j + 1)) by
                subst hj0
                rw [← HJ0.out, joinSp_take_zero HS1.out]
                exact noText_append s)
              have hk1 : decide ((0 : Int) < (j : Int)) = false := by simp [hj0]
              have hk1n : ¬ (0 < j) := by omega
              have hk1d : decide (0 < j) = false := by simp [hj0]
              clear hj0 hJ
              go_wp2_with (first
                |
                  (go_at_call 18; refine (files_name' _ s true HOK1.out (by omega)).mono ?_; rintro e w7 ⟨rfl, rfl⟩)
                  | (go_at_call 14
                     refine (files_do_to HZJ.out HL.out HST.out HFD.out).mono ?_
                     rintro e w7 ⟨rfl, hd1⟩
                     have HD1 := Lib.hid hd1
                     clear hd1)
                )
              go_roundw
              case rel => exact ⟨j + 1, by go_num, by omega, by rw [← HJ.out], HD1.out⟩
              case measure => simp [intOf]; omega
            · obtain ⟨m, hm⟩ : ∃ m, j = m + 1 := ⟨j - 1, by omega⟩
              have hk1 : (0 : Int) < (j : Int) := by omega
              have hs1 : (J ++ (⟨#[32]⟩ : ByteArray)).size ≤ 37 := by rw [ByteArray.size_append]; show _ + 1 ≤ 37; omega
              have HJ := Lib.hid (joinSp_take_succ HS1.out (by omega))
              have hml : m < N.length := by omega
              obtain ⟨s0, hs0⟩ : ∃ s0, N[m]? = some s0 := ⟨N[m]'(by omega), by simp [show m < N.length by omega]⟩
              obtain ⟨ad2, had2, _, hat2⟩ := HZJ.out.left.right.owns.reads m s0 hs0
              cases had2
              have hcs0 : wr.cell? (ad1.add m) = some (.string s0) := by have := hat2 0 (.string s0) rfl; rwa [addr_add_add, show m * Lies.size ByteArray + 0 = m from Nat.mul_one m] at this
              have hbl : Op.bytesLess s0.toList s.toList = true := HRS.out m s0 s hs0 (by rw [← hm]; exact HS1.out)
              have hmm : (j : Int) - 1 = (m : Int) := by omega
              clear hJ hj0 hat2 hs0 hm
              go_wp2_with fail
              go_region
              go_wp2_with (first
                |
                  (go_at_call 18; refine (files_name' _ s true HOK1.out (by omega)).mono ?_; rintro e w7 ⟨rfl, rfl⟩)
                  | (go_at_call 14
                     refine (files_do_to (HZJ.out.step (Touch.refl _ wr).drew) HL.out HST.out HFD.out).mono ?_
                     rintro e w7 ⟨rfl, hd1⟩
                     have HD1 := Lib.hid hd1
                     clear hd1)
                )
              go_roundw
              case rel => exact ⟨j + 1, by go_num, by omega, by rw [HJ.out, HJ0.out], HD1.out⟩
              case measure => simp [intOf]; omega
          · obtain rfl : j = N.length := by omega
            have HFL := Lib.hid (show fdo L listOf = (⟨0, joinSp (N.take N.length)⟩, L) by rw [List.take_length, fdo_listOf, HN.out])
            generalize joinSp (N.take N.length) = J at *
            go_wp2_with (go_at_call 14
                         refine (files_do_to HZJ.out HL.out (show StrCall listOf from ⟨(by decide : noText.size ≤ 140737488351232), (by decide : noText.size ≤ 140737488351232), (by decide : noText.size ≤ 140737488351232)⟩) HFL.out).mono ?_
                         rintro e w8 ⟨rfl, hd8⟩
                         have HD8 := Lib.hid hd8
                         clear hd8)
            go_roundw
            case rel => exact ⟨k + 1, by go_num, by omega, by rw [HLE.out]; exact HD8.out.drop⟩
            case measure => simp [intOf]; omega
      · go_wp2
        go_ret
        exact ⟨by first | rfl | simp, HZ.out.ext⟩
end Go.Proofs.Ytalfbhhldfffkab
