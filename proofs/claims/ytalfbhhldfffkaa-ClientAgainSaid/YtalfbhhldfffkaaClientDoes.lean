/- ClientDoes: for every number and every list of steps the law returns true and leaves its arguments as they were. No condition. -/
import Derived.Test.YtalfbhhldfffkaaClientBegun
import Derived.Test.YtalfbhhldfffkaaClientStep
import Derived.Test.YtalfbhhldfffkaaSame
import Derived.Test.YtalfbhhldfffkaaRead
namespace Go.Proofs.Ytalfbhhldfffkaa
open Go.RowKit

theorem short_step {x : ClientStep} (h : x.great = false) : ShortStep x := by
  unfold ClientStep.great at h
  rw [Bool.or_eq_false_iff, Bool.or_eq_false_iff] at h
  exact ⟨(greatB_short h.1.1).str, (greatB_short h.1.2).str⟩
theorem new_two (W w : World) (me : Int) (g : Nat) (h : Has (repGuest g 102 63) W w (gNew me)) :
    Has (repTwo g w.heap.size) W (w.alloc (.cells ((gNew me).cells (.slice none 0 0)) 53)) (gNew me, gNew me) :=
  h.beside (G := fun k => k = w.heap.size) ((Touch.refl _ w).alloc _) ⟨.slice none 0 0, fun k => ⟨fun h => .inl h, fun h => by rcases h with h | h; exact h; simp [Value.ownBlock] at h⟩, ⟨heap_alloc_new _ _, Owns.nil _ _⟩⟩ (fun k hk => by rw [hk]; exact Nat.le_refl _)
theorem second_at {W w : World} {gc gg : Nat} {x y : Guest} (h : Has (repTwo gc gg) W w (x, y)) : ∃ v, GuestAt w gg 53 63 v y := by
  obtain ⟨F, hF, _⟩ := h.snd
  obtain ⟨v, _, hv⟩ := hF
  exact ⟨v, hv⟩

theorem str_call {c : Call} (h : Call.Ok c) : StrCall c := ⟨h.2.1, h.2.2.1, h.2.2.2⟩
theorem str_cstep {x : ClientStep} (h : ClientStep.Ok x) : StrCStep x := ⟨str_call h.2.1, str_call h.2.2.1.2.2.2.1, h.2.2.2.2, h.2.2.1.2.2.2.2.2⟩
set_option maxHeartbeats 8000000 in
set_option maxRecDepth 100000 in
theorem clientDoes (W : World) (me : Int) (A : Option Addr) (c : Nat) (l : List ClientStep) (hr : Reads W W.heap.size A l) (hs : ∀ x ∈ l, StrCStep x) (hl : l.length ≤ 140737488351232) :
    Calls Try.prog 6 #[.int .i64 me, .slice A l.length c] W fun e w' => e = .returned (.bool true) ∧ Ext W w' := by
  have HR := Lib.hid hr
  have HS := Lib.hid hs
  clear hr hs
  go_enter Try.func6, Try.ntmps6
  go_wp2_with fail
  refine (client_begun _).mono ?_
  rintro e w1 ⟨rfl, he1⟩
  have E1 := Lib.hid he1
  clear he1
  go_wp2_with fail
  refine (law_greatClient w1 A c l (HR.out.ext E1.out) HS.out hl).mono ?_
  rintro e w2 ⟨b, rfl, hb, he2⟩
  have E2 := Lib.hid (E1.out.then he2 fun _ h => h.elim)
  have HB := Lib.hid hb
  clear E1 he2 hb
  cases b with
  | true =>
    go_wp2_with fail
    go_ret
    exact ⟨rfl, E2.out⟩
  | false =>
    obtain ⟨hl4, hgr⟩ := HB.out rfl
    have HGR := Lib.hid hgr
    clear HB hgr
    by_cases hme : me < 0 ∨ 3 ≤ me
    · go_wp2_with fail
      refine (client_new_no _ me hme).mono ?_
      rintro e w3 ⟨rfl, rfl⟩
      rcases hme with h | h
      · go_wp2
        go_ret
        exact ⟨rfl, E2.out⟩
      · have h' : ¬ me < 0 := by omega
        go_wp2
        go_ret
        exact ⟨rfl, E2.out⟩
    · have hm1 : ¬ me < 0 := by omega
      have hm2 : ¬ 3 ≤ me := by omega
      clear hme
      go_wp2_with fail
      refine (client_new_yes _ me ⟨by omega, by omega⟩).mono ?_
      rintro e w3 ⟨rfl, rfl⟩
      go_wp2_with fail
      have h0 := new_two W _ me _ (new_guest W w2 102 63 me E2.out)
      rw [World.size_alloc] at h0
      have H0 := Lib.hid h0
      clear h0
      change Code.wp Try.prog _ _ _ (World.alloc (World.alloc w2 (.cells ((gNew me).cells (.slice none 0 0)) 102)) (.cells ((gNew me).cells (.slice none 0 0)) 53))
      generalize World.alloc (World.alloc w2 (.cells ((gNew me).cells (.slice none 0 0)) 102)) (.cells ((gNew me).cells (.slice none 0 0)) 53) = w3 at H0 ⊢
      generalize w2.heap.size + 1 = gg at H0 ⊢
      generalize w2.heap.size = gc at H0 ⊢
      go_loopw [7] (fun i wr => ∃ k : Nat, i = .int .i64 k ∧ k ≤ l.length ∧ Has (repTwo gc gg) W wr (gSteps (gNew me) (l.take k), gSteps (gNew me) (l.take k))) (fun i _ => l.length - (intOf i).toNat)
      case atStart => exact ⟨0, rfl, Nat.zero_le _, H0.out⟩
      case round =>
        obtain ⟨k, rfl, hk, hh⟩ := hrel
        have H := Lib.hid hh
        clear hh H0
        by_cases hlt : k < l.length
        · obtain ⟨x, hx⟩ : ∃ x, l[k]? = some x := ⟨l[k], by simp [hlt]⟩
          obtain ⟨ad, rfl, had, hat⟩ := HR.out k x hx
          have hadk : (ad.add (k * 16)).block = ad.block := by unfold Addr.add; split <;> rfl
          have hE := H.out.ext
          have hLV : ∀ w', Ext W w' → LV Try.prog 56 (ad.add (k * 16)) w' = .ok (.agg x.cells) w' := fun w' hw' => LV_ClientStep (hat.of_same (hw'.block _ (by show (ad.add (k * 16)).block < _; rw [hadk]; exact had) id))
          have HLV := Lib.hid hLV
          have HX := Lib.hid (gSteps_take (g := gNew me) hx)
          have hok := gSteps_ok (gNew_ok me) (l.take k)
          have hok' := gSteps_ok (gNew_ok me) (l.take (k + 1))
          generalize hG' : gSteps (gNew me) (l.take (k + 1)) = G' at HX hok' ⊢
          have HG' := Lib.hid hG'
          clear hG'
          generalize gSteps (gNew me) (l.take k) = G at H HX hok ⊢
          have HO := Lib.hid hok
          have HO' := Lib.hid hok'
          have HS1 := Lib.hid (short_step (HGR.out x (List.mem_of_getElem? hx)))
          clear hx hat had hadk hE hLV hok hok'
          go_wp2_with fail
          have hlv := HLV.out _ (H.out.step (Touch.drew (Touch.refl _ wr))).ext
          go_region_with
            (first
              | (go_at_call 28
                 refine (client_step W _ gc gg G x me HO.out HS1.out (H.out.step ((Touch.refl _ _).drew))).mono ?_
                 rintro e w4 ⟨rfl, h4⟩
                 have H4 := Lib.hid h4
                 rw [← HX.out] at h4
                 have H4' := Lib.hid h4
                 obtain ⟨v4, hv4⟩ := second_at h4
                 have hc6 : w4.cell? ⟨gg, 6, none⟩ = some (.bool G'.isOpen) := by rw [cell_of hv4.cell 6, Guest.get6]
                 clear h4 hv4)
              | (go_at_call 29
                 obtain ⟨F4, hF4, _⟩ := H4'.out.fst
                 refine (client_open' _ F4 gc _ hF4).mono ?_
                 rintro e w5 ⟨rfl, rfl⟩
                 clear hF4))
          all_goals
            clear hc6
            go_wp2_with fail
            obtain ⟨F5, hF5, _⟩ := H4'.out.fst
            refine (client_send' _ F5 gc G' hF5).mono ?_
            rintro e w6 ⟨rfl, he6⟩
            have H6 := Lib.hid ((H4'.out.step he6).box (gSend G').1.cells 33)
            clear hF5 he6
            go_wp2_with fail
            generalize w6.alloc (.cells (gSend G').1.cells 33) = w7 at H6 ⊢
            generalize w6.heap.size = bp at H6 ⊢
            obtain ⟨F7, hF7, _⟩ := H6.out.left.snd
            refine (guest_send' _ F7 gg G' hF7).mono ?_
            rintro e w8 ⟨rfl, he8⟩
            have H8 := Lib.hid ((H6.out.step he8).left.step ((Touch.refl _ w8).alloc (.cells (gSend G').1.cells 33)))
            have hp6 := (H6.out.step he8).blk
            obtain ⟨hlp, hp6'⟩ := Array.getElem?_eq_some_iff.1 hp6
            have hgb : (bp = w8.heap.size) = False := by simp; omega
            clear hF7 he8 H6
            go_wp2
            go_roundw
            case rel => exact ⟨k + 1, by go_num, by omega, by rw [HG'.out]; exact H8.out⟩
            case measure => simp [intOf]; omega
        · have hok := gSteps_ok (gNew_ok me) (l.take k)
          generalize gSteps (gNew me) (l.take k) = G at H hok ⊢
          have hd := gOk_done hok
          obtain ⟨vg, hvg⟩ := second_at H.out
          obtain ⟨A', c', rfl, _, _, _⟩ := hvg.own.form
          have hc7 : wr.cell? ⟨gg, 7, none⟩ = some (.slice A' G.done.length c') := by rw [cell_of hvg.cell 7, Guest.get7]
          have HV := Lib.hid hvg
          have HD := Lib.hid hd
          clear hvg hok hd
          go_wp2_with fail
          go_region_held3 (fun w' => w'.cell? ⟨gg, 7, none⟩ = some (.slice A' G.done.length c')) (first | exact hc75 | exact hc7)
            (first
              | (go_at_call 33
                 obtain ⟨F5, hF5, _⟩ := (H.out.step ((Touch.refl _ _).drew)).fst
                 refine (client_done' _ F5 gc G hF5 (by have := HD.out; omega)).mono ?_
                 rintro e w5 ⟨A5, c5, rfl, ho5, he5, _⟩
                 have hv5 := HV.out.ext ((((Touch.refl _ _).drew)).trans he5)
                 have HV5 := Lib.hid hv5
                 have hc75 : w5.cell? ⟨gg, 7, none⟩ = some (.slice A' G.done.length c') := by rw [cell_of hv5.cell 7, Guest.get7]
                 have HO5 := Lib.hid ho5
                 have H5 := Lib.hid ((H.out.step ((Touch.refl _ _).drew)).step he5)
                 clear hv5 ho5 he5 hF5)
              | (go_at_call 32
                 refine (sameRecords w5 w5.heap.size _ _ G.done G.done _ _ (Owns.reads HO5.out) (Owns.reads HV5.out.own) (by have := HD.out; omega) (by have := HD.out; omega)).mono ?_
                 rintro e w6 ⟨rfl, n6, rfl⟩))
          go_wp2
          go_ret
          exact ⟨by simp, (H5.out.step ((Touch.refl _ _).drewN _)).ext⟩
end Go.Proofs.Ytalfbhhldfffkaa
