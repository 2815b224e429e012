/- ClientAgain: for every number, list of steps and two calls the law returns true and leaves its arguments as they were. No condition. -/
import Derived.Test.YtalfbhhldfffkaaClientOne
namespace Go.Proofs.Ytalfbhhldfffkaa
open Go.RowKit

/-- a block that was there, in a later world -/
theorem Has.old {X : Type} {R : Rep X} {W w : World} {x : X} (h : Has R W w x) {b : Nat} {o : Obj} (hb : W.heap[b]? = some o) : w.heap[b]? = some o := by
  rw [h.ext.block b (Array.getElem?_eq_some_iff.1 hb).1 id]; exact hb

theorem part_all (x : Packet) {w : World} {b : Nat} {T : TypeId} {fr : Nat × Nat} (h : w.heap[b]? = some (.cells x.cells T fr)) : objPart 0 9 (w.heap[b]?) = some x.cells := by
  rw [h]; exact objPart_ok _ _ _ _ _ _ (by simp) (by cases x; rfl)
set_option maxHeartbeats 16000000 in
set_option maxRecDepth 100000 in
theorem clientAgain (W : World) (me : Int) (A : Option Addr) (c : Nat) (l : List ClientStep) (x y : Call) (hr : Reads W W.heap.size A l) (hs : ∀ x ∈ l, StrCStep x) (hl : l.length ≤ 140737488351232) (hsx : StrCall x) (hsy : StrCall y) :
    Calls Try.prog 8 #[.int .i64 me, .slice A l.length c, .agg x.cells, .agg y.cells] W fun e w' => e = .returned (.bool true) ∧ Ext W w' := by
  have HR := Lib.hid hr
  have HS := Lib.hid hs
  have HSX := Lib.hid hsx
  have HSY := Lib.hid hsy
  clear hr hs hsx hsy
  have ew : Ext W ((W.alloc (.cells x.cells 29)).alloc (.cells y.cells 29)) := ((Touch.refl _ W).alloc _).alloc _
  have EW := Lib.hid ew
  clear ew
  have hbx : ((W.alloc (.cells x.cells 29)).alloc (.cells y.cells 29)).heap[W.heap.size]? = some (.cells x.cells 29) := by
    rw [heap_alloc_past _ _ _ (by simp), heap_alloc_new]
  have hby : ((W.alloc (.cells x.cells 29)).alloc (.cells y.cells 29)).heap[W.heap.size + 1]? = some (.cells y.cells 29) := by
    rw [heap_alloc_at _ _ _ (by simp)]
  have HBX := Lib.hid hbx
  have HBY := Lib.hid hby
  clear hbx hby
  go_enter Try.func8, Try.ntmps8
  go_wp2_with fail
  have HR1 := Lib.hid (HR.out.ext EW.out)
  generalize (W.alloc (.cells x.cells 29)).alloc (.cells y.cells 29) = V at HBX HBY EW HR1 ⊢
  generalize W.heap.size + 1 = bY at HBY ⊢
  generalize W.heap.size = bX at HBX ⊢
  refine (client_begun V).mono ?_
  rintro e w1 ⟨rfl, he1⟩
  have E1 := Lib.hid he1
  clear he1 HR
  go_wp2_with fail
  refine (law_greatClient w1 A c l (HR1.out.ext E1.out) HS.out hl).mono ?_
  rintro e w2 ⟨b, rfl, hb, he2⟩
  have E2 := Lib.hid (E1.out.then he2 fun _ h => h.elim)
  have HB := Lib.hid hb
  have hx2 := E2.out.blk HBX.out id
  have hy2 := E2.out.blk HBY.out id
  clear E1 he2 hb
  cases b with
  | true =>
    go_wp2_with fail
    go_ret
    exact ⟨rfl, EW.out.then E2.out fun _ h => h.elim⟩
  | false =>
    obtain ⟨hl4, hgr⟩ := HB.out rfl
    have HGR := Lib.hid hgr
    clear HB hgr
    go_wp2_with fail
    cases hgx : greatB x with
    | true =>
      refine (law_greatCall' w2 x true hgx HSX.out).mono ?_
      rintro e w3 ⟨rfl, rfl⟩
      go_wp2
      go_ret
      exact ⟨rfl, EW.out.then (E2.out.alloc _) fun _ h => h.elim⟩
    | false =>
    refine (law_greatCall' w2 x false hgx HSX.out).mono ?_
    rintro e w3 ⟨rfl, rfl⟩
    have E3 := Lib.hid (E2.out.alloc (.cells x.cells 29))
    generalize w2.alloc (.cells x.cells 29) = w3 at E3 ⊢
    clear hx2 hy2 E2 hgx
    have hy3 := E3.out.blk HBY.out id
    go_wp2_with fail
    cases hgy : greatB y with
    | true =>
      refine (law_greatCall' w3 y true hgy HSY.out).mono ?_
      rintro e w4 ⟨rfl, rfl⟩
      go_wp2
      go_ret
      exact ⟨rfl, EW.out.then (E3.out.alloc _) fun _ h => h.elim⟩
    | false =>
    refine (law_greatCall' w3 y false hgy HSY.out).mono ?_
    rintro e w4 ⟨rfl, rfl⟩
    have E2 := Lib.hid (E3.out.alloc (.cells y.cells 29))
    generalize w3.alloc (.cells y.cells 29) = w2 at E2 ⊢
    clear hy3 E3 hgy
    by_cases hme : me < 0 ∨ 3 ≤ me
    · go_wp2_with fail
      refine (client_new_no _ me hme).mono ?_
      rintro e w3 ⟨rfl, rfl⟩
      rcases hme with h | h
      · go_wp2
        go_ret
        exact ⟨rfl, EW.out.then E2.out fun _ h => h.elim⟩
      · have h' : ¬ me < 0 := by omega
        go_wp2
        go_ret
        exact ⟨rfl, EW.out.then E2.out fun _ h => h.elim⟩
    · have hm1 : ¬ me < 0 := by omega
      have hm2 : ¬ 3 ≤ me := by omega
      clear hme
      go_wp2_with fail
      refine (client_new_yes _ me ⟨by omega, by omega⟩).mono ?_
      rintro e w3 ⟨rfl, rfl⟩
      go_wp2_with fail
      have h0 := new_two V _ me _ (new_guest V w2 102 63 me E2.out)
      rw [World.size_alloc] at h0
      have H0 := Lib.hid h0
      clear h0
      change Code.wp Try.prog _ _ _ (World.alloc (World.alloc w2 (.cells ((gNew me).cells (.slice none 0 0)) 102)) (.cells ((gNew me).cells (.slice none 0 0)) 53))
      generalize World.alloc (World.alloc w2 (.cells ((gNew me).cells (.slice none 0 0)) 102)) (.cells ((gNew me).cells (.slice none 0 0)) 53) = w3 at H0 ⊢
      generalize w2.heap.size + 1 = gg at H0 ⊢
      generalize w2.heap.size = gc at H0 ⊢
      go_loopw [11] (fun i wr => ∃ k : Nat, i = .int .i64 k ∧ k ≤ l.length ∧ Has (repTwo gc gg) V wr (gSteps (gNew me) (l.take k), gSteps (gNew me) (l.take k))) (fun i _ => l.length - (intOf i).toNat)
      case atStart => exact ⟨0, rfl, Nat.zero_le _, H0.out⟩
      case round =>
        obtain ⟨k, rfl, hk, hh⟩ := hrel
        have H := Lib.hid hh
        clear hh H0
        by_cases hlt : k < l.length
        · obtain ⟨z, hx⟩ : ∃ z, l[k]? = some z := ⟨l[k], by simp [hlt]⟩
          obtain ⟨ad, rfl, had, hat⟩ := HR1.out k z hx
          have hadk : (ad.add (k * 16)).block = ad.block := by unfold Addr.add; split <;> rfl
          have hLV : LV Try.prog 56 (ad.add (k * 16)) wr = .ok (.agg z.cells) wr := LV_ClientStep (hat.of_same (H.out.ext.block _ (by show (ad.add (k * 16)).block < _; rw [hadk]; exact had) id))
          have HX := Lib.hid (gSteps_take (g := gNew me) hx)
          have hok := gSteps_ok (gNew_ok me) (l.take k)
          generalize hG' : gSteps (gNew me) (l.take (k + 1)) = G' at HX ⊢
          have HG' := Lib.hid hG'
          clear hG'
          generalize gSteps (gNew me) (l.take k) = G at H HX hok ⊢
          have HO := Lib.hid hok
          have HS1 := Lib.hid (short_step (HGR.out z (List.mem_of_getElem? hx)))
          clear hx hat had hadk hok
          go_wp2_with fail
          refine (client_step V _ gc gg G z me HO.out HS1.out H.out).mono ?_
          rintro e w4 ⟨rfl, h4⟩
          rw [← HX.out] at h4
          have H4 := Lib.hid h4
          clear h4
          go_wp2
          go_roundw
          case rel => exact ⟨k + 1, by go_num, by omega, by rw [HG'.out]; exact H4.out⟩
          case measure => simp [intOf]; omega
        · have hok := gSteps_ok (gNew_ok me) (l.take k)
          have HH := Lib.hid H.out.left
          generalize gSteps (gNew me) (l.take k) = G at HH hok
          have HO := Lib.hid hok
          have hno : 0 ≤ G.no ∧ G.no ≤ 200 := ⟨by have := hok.no; split at this <;> omega, hok.le⟩
          have HNO := Lib.hid hno
          have HD := Lib.hid (gOk_done hok)
          clear H hok hno
          go_wp2_with fail
          obtain ⟨F4, hF4, _⟩ := HH.out.one
          refine (client_send' wr F4 gc G hF4).mono ?_
          rintro e w4 ⟨rfl, he4⟩
          have H4 := Lib.hid ((HH.out.step he4).box (gSend G).1.cells 33)
          have hx4 := (HH.out.step he4).old HBX.out
          obtain ⟨hlx, hx4'⟩ := Array.getElem?_eq_some_iff.1 hx4
          clear hF4 he4 HH
          go_wp2_with fail
          generalize w4.alloc (.cells (gSend G).1.cells 33) = w5 at H4 ⊢
          generalize w4.heap.size = bw at H4 ⊢
          clear hx4 hlx hx4'
          obtain ⟨F5, hF5, hm5⟩ := H4.out.fst
          have hcall := client_ask' w5 F5 gc G x hF5 HNO.out HSX.out.h1 HSX.out.h2 HSX.out.h3
          by_cases hcode : (gAsk G x).1 = 0
          · have hz := gAsk_zero hcode
            rw [hcode] at hcall
            refine hcall.mono ?_
            rintro e w6 ⟨rfl, hv6⟩
            have H6 := hm5 _ _ hv6
            have hok' := gAsk_ok HO.out x
            rw [hz.2] at H6 hok'
            have hsh : (gSend G).2 = false := by unfold gSend; rw [if_neg (by rw [hz.1]; exact Bool.false_ne_true)]
            rw [hsh]
            generalize hG' : ({ G with no := G.no + 1, call := x, isOpen := true } : Guest) = G' at H6 hok'
            have hop : G'.isOpen = true := by rw [← hG']
            have hcx : G'.call = x := by rw [← hG']
            have H := Lib.hid H6.left
            have HO' := Lib.hid hok'
            have HOP := Lib.hid hop
            have HCX := Lib.hid hcx
            clear hF5 hm5 hcall hv6 H4 hz hcode hsh H6 hok' hop hcx hG'
            go_wp2_with fail
            obtain ⟨F6, hF6, _⟩ := H.out.one
            refine (client_send_open w6 F6 gc G' hF6 HOP.out).mono ?_
            rintro e w7 ⟨rfl, he7⟩
            rw [HCX.out]
            have H7 := Lib.hid ((H.out.step he7).box (⟨false, G'.me, G'.no, x, Answer.zero⟩ : Packet).cells 33)
            have hx7 := (H.out.step he7).old HBX.out
            obtain ⟨hlx, hx7'⟩ := Array.getElem?_eq_some_iff.1 hx7
            clear hF6 he7 H
            have hxx : decide (x = x) = true := by simp
            have hy7 := (Has.old (b := bY) H7.out HBY.out)
            obtain ⟨hly, hy7'⟩ := Array.getElem?_eq_some_iff.1 hy7
            go_wp2_with fail
            generalize w7.alloc (.cells (⟨false, G'.me, G'.no, x, Answer.zero⟩ : Packet).cells 33) = w8 at H7 ⊢
            generalize w7.heap.size = bp at H7 ⊢
            clear hx7 hlx hx7' hy7 hly hy7'
            obtain ⟨F8, hF8, hm8⟩ := H7.out.fst
            have hcall := client_ask' w8 F8 gc G' y hF8 ⟨by have := HO'.out.no; split at this <;> omega, HO'.out.le⟩ HSY.out.h1 HSY.out.h2 HSY.out.h3
            have hbz := gAsk_busy (c := y) HOP.out
            rw [hbz.2] at hcall
            have hcb : ((gAsk G' y).1 == 0) = false := beq_eq_false_iff_ne.2 hbz.1
            generalize (gAsk G' y).1 = code at hcall hcb
            refine hcall.mono ?_
            rintro e w9 ⟨rfl, hv9⟩
            have H9 := Lib.hid (hm8 _ _ hv9)
            clear hF8 hm8 hcall hv9 H7 hbz
            go_wp2_with fail
            obtain ⟨F9, hF9, _⟩ := H9.out.fst
            refine (client_send_open w9 F9 gc G' hF9 HOP.out).mono ?_
            rintro e w10 ⟨rfl, he10⟩
            rw [HCX.out]
            have H10 := Lib.hid ((H9.out.step he10).box (⟨false, G'.me, G'.no, x, Answer.zero⟩ : Packet).cells 33)
            clear hF9 he10 H9
            go_wp2_with fail
            generalize w10.alloc (.cells (⟨false, G'.me, G'.no, x, Answer.zero⟩ : Packet).cells 33) = w11 at H10 ⊢
            generalize w10.heap.size = bq at H10 ⊢
            have hp11 := H10.out.left.blk
            have hq11 := H10.out.blk
            have hnn : (G'.done.length : Int) = G'.no - 1 := by have := HO'.out.no; rw [HOP.out] at this; simp at this; omega
            have hnb : ((G'.done.length : Int) == G'.no - 1) = true := beq_iff_eq.2 hnn
            have hb1 : 1 ≤ G'.no := by omega
            have hb2 : G'.no ≤ 200 := HO'.out.le
            have hxx : decide ((⟨false, G'.me, G'.no, x, Answer.zero⟩ : Packet) = ⟨false, G'.me, G'.no, x, Answer.zero⟩) = true := by simp
            clear hnn
            have hwr : ((G'.done.length : Int) == IntKind.i64.wrap (G'.no - 1)) = true := by rw [IntWalk.i64_in _ (by omega)]; exact hnb
            have HWR := Lib.hid hwr
            clear hwr
            go_region_held3 (fun w' => objPart 0 9 (w'.heap[bq]?) = some (⟨false, G'.me, G'.no, x, Answer.zero⟩ : Packet).cells ∧ objPart 0 9 (w'.heap[bp]?) = some (⟨false, G'.me, G'.no, x, Answer.zero⟩ : Packet).cells ∧ w'.cell? ⟨bp, 2, none⟩ = some (.int .i64 G'.no))
              (first | exact ⟨part_all _ hq12, part_all _ hp12, cell_of hp12 2⟩ | exact ⟨part_all _ hq11, part_all _ hp11, cell_of hp11 2⟩)
              (first
                | (go_at_call 29
                   obtain ⟨F12, hF12, _⟩ := (H10.out.step (Touch.drew (Touch.refl _ w11))).left.fst
                   refine (client_open_b _ F12 gc G' true hF12 HOP.out).mono ?_
                   rintro e w12 ⟨rfl, rfl⟩
                   clear hF12)
                | (go_at_call 33
                   obtain ⟨F12, hF12, _⟩ := (H10.out.step (Touch.drew (Touch.refl _ w11))).left.fst
                   refine (client_done' _ F12 gc G' hF12 (by have := HO'.out.le; have := gOk_done HO'.out; omega)).mono ?_
                   rintro e w12 ⟨A12, c12, rfl, ho12, he12, _⟩
                   have H12 := Lib.hid ((H10.out.step (Touch.drew (Touch.refl _ w11))).step he12)
                   have hp12 := H12.out.left.blk
                   have hq12 := H12.out.blk
                   clear hF12 ho12 he12))
            go_wp2
            go_ret
            refine ⟨?_, EW.out.then H12.out.ext fun _ h => h.elim⟩
            show Ending.returned (.bool ((G'.done.length : Int) == IntKind.i64.wrap (G'.no - 1))) = _
            rw [HWR.out]
          · have hno := gAsk_code hcode
            rw [hno] at hcall
            have hcb : ((gAsk G x).1 != 0) = true := bne_iff_ne.2 hcode
            generalize (gAsk G x).1 = code at hcall hcb
            refine hcall.mono ?_
            rintro e w6 ⟨rfl, hv6⟩
            have H6 := Lib.hid (hm5 _ _ hv6)
            clear hF5 hm5 hcall hv6 H4 hno hcode
            go_wp2_with fail
            obtain ⟨F6, hF6, _⟩ := H6.out.fst
            refine (client_send' w6 F6 gc G hF6).mono ?_
            rintro e w7 ⟨rfl, he7⟩
            have hw7 := (H6.out.step he7).blk
            obtain ⟨hlw, hw7'⟩ := Array.getElem?_eq_some_iff.1 hw7
            have E7 := Lib.hid ((H6.out.step he7).step ((Touch.refl _ w7).alloc (.cells (gSend G).1.cells 33))).ext
            have hdd : decide ((gSend G).1 = (gSend G).1) = true := by simp
            clear hF6 he7 H6
            go_wp2
            go_ret
            exact ⟨rfl, EW.out.then E7.out fun _ h => h.elim⟩
end Go.Proofs.Ytalfbhhldfffkaa
