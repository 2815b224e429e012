/- WorldCalm: the walk of the law. -/
import Derived.Test.YtalfbhhldfffkacGWorldLaw
namespace Go.Proofs.Ytalfbhhldfffkac
open Go.RowKit

set_option maxHeartbeats 4000000 in
set_option maxRecDepth 100000 in
theorem worldCalm (W : World) (A : Option Addr) (c : Nat) (l : List Step) (hr : Reads W W.heap.size A l) (hs : ∀ x ∈ l, StrWStep x) (hl : l.length ≤ 140737488351232) :
    Calls Try.prog 6 #[.slice A l.length c] W fun e w' => e = .returned (.bool true) ∧ Ext W w' := by
  have HR := Lib.hid hr
  have HS := Lib.hid hs
  clear hr hs
  go_enter Try.func6, Try.ntmps6
  go_wp2_with fail
  refine (world_begun W).mono ?_
  rintro e w1 ⟨rfl, hx1⟩
  have X1 := Lib.hid hx1
  clear hx1
  go_wp2_with fail
  refine (law_greatSteps w1 w1.heap.size A c l (HR.out.ext X1.out) (Nat.le_refl _) HS.out hl).mono ?_
  rintro e w2 ⟨b2, rfl, hx2⟩
  have X2 := Lib.hid (X1.out.trans hx2)
  clear hx2
  cases b2
  rotate_left
  · go_wp2
    go_ret
    exact ⟨rfl, X2.out⟩
  go_wp2_with fail
  refine (world_new w2).mono ?_
  rintro e w3 ⟨gw, rfl, hn3⟩
  have H0 := Lib.hid (hn3.since X2.out)
  clear hn3
  go_wp2_with fail
  go_loopw [4] (fun i wr => ∃ k : Nat, i = .int .i64 k ∧ k ≤ l.length ∧ Has (repWorld gw) W wr (hAt l k)) (fun i _ => l.length - (intOf i).toNat)
  case atStart => exact ⟨0, rfl, Nat.zero_le _, H0.out⟩
  case round =>
    clear H0
    obtain ⟨k, rfl, hk, hz⟩ := hrel
    have HZ := Lib.hid hz
    clear hz
    by_cases hlt : k < l.length
    · skip
      obtain ⟨x, hx⟩ : ∃ x, l[k]? = some x := ⟨l[k], by simp [hlt]⟩
      obtain ⟨ad, rfl, hadb, hat⟩ := HR.out _ x hx
      have hLV : LV Try.prog 32 (ad.add (k * 7)) wr = .ok (.agg x.cells) wr := LV_Step ((hat.of_same (w' := wr) (by rw [show (ad.add (k * Lies.size Step)).block = ad.block by unfold Addr.add; split <;> rfl]; exact HZ.out.ext.block _ hadb id)))
      have HXX := Lib.hid hx
      have HOK := Lib.hid (hAt_ok l k)
      have HFI := Lib.hid (hAt_fits l k)
      have HST := Lib.hid (HS.out x (List.mem_of_getElem? hx))
      clear hx hat
      go_wp2_with fail
      obtain ⟨F5, hF5, hm5⟩ := HZ.out.one
      refine (world_step wr gw F5 _ x hF5 HFI.out HST.out).mono ?_
      rintro e w5 ⟨rfl, hq5⟩
      have h5 := hm5 _ _ hq5
      rw [← hAt_next HXX.out] at h5
      have H5 := Lib.hid h5
      clear hF5 hm5 hq5 h5
      go_wp2
      go_roundw
      case rel => exact ⟨k + 1, by go_num, by omega, H5.out⟩
      case measure => simp [intOf]; omega
    · obtain rfl : k = l.length := by omega
      obtain ⟨fr, hok⟩ := hAt_ok l l.length
      have HOK := Lib.hid hok
      generalize hAt l l.length = H at *
      clear hok hlt hk
      obtain ⟨F5, hF5, _⟩ := HZ.out.one
      obtain ⟨gs, Fs, hcs, hFs⟩ := world_store hF5
      have HFS := Lib.hid hFs
      clear hF5 hFs
      go_wp2_with fail
      refine (store_logs wr gs Fs _ HFS.out HOK.out.log).mono ?_
      rintro e w6 ⟨A6, c6, rfl, ho6, hx6, _⟩
      have H6 := Lib.hid (HZ.out.step hx6)
      have hlen := HOK.out.log.len
      clear ho6 hx6 hcs HFS HZ
      obtain ⟨F7, hF7, hm7⟩ := H6.out.one
      have HF7 := Lib.hid hF7
      have HM7 := Lib.hid hm7
      clear hF7 hm7
      by_cases hroom : (logBytes H.S).length + 84 ≤ 2000
      · have hroom' : ((logBytes H.S).length : Int) + 84 ≤ 2000 := by omega
        obtain ⟨n1, n2, n3, n4⟩ := calm_all (h := H) (fr := fr) ⟨HOK.out, room_of hroom⟩
        have HOK7 := Lib.hid (hCalm_ok HOK.out)
        have HOPEN := Lib.hid n3
        have HCALM := Lib.hid n4
        have HBAG := Lib.hid n2
        have HC := Lib.hid (world_calm w6 gw F7 H fr HF7.out HOK.out)
        generalize hcc : hCalm H = r at *
        obtain ⟨n, H'⟩ := r
        dsimp only at *
        have hn1 : (n : Int) ≤ 1 := by omega
        clear n1 n2 n3 n4 hroom hcc
        go_wp2_with fail
        refine HC.out.mono ?_
        rintro e w8 ⟨rfl, hq8⟩
        have H8 := Lib.hid (HM7.out _ _ hq8)
        clear hq8
        go_wp2_with fail
        go_loopw [7] (fun i wr => ∃ q : Nat, i = .int .i64 q ∧ q ≤ 3 ∧ Has (repWorld gw) W wr H') (fun i _ => 3 - (intOf i).toNat)
        case atStart => exact ⟨0, rfl, by omega, H8.out⟩
        case round =>
          clear H8
          obtain ⟨q, rfl, hq, hz⟩ := hrel
          have HZ := Lib.hid hz
          clear hz
          by_cases hq3 : q < 3
          · have hq3' : (q : Int) < 3 := by omega
            obtain ⟨Fa, hFa, _⟩ := HZ.out.one
            obtain ⟨ga, Fca, hca, hga⟩ := world_cl hFa q hq3
            have HGA := Lib.hid hga
            have HCA := Lib.hid hca
            have HOP := Lib.hid (HOPEN.out q hq3)
            clear hFa hca hga
            go_wp2_with fail
            refine HGA.out.mono ?_
            rintro e w' ⟨rfl, rfl⟩
            go_wp2_with fail
            refine (client_open' wr Fca ga _ HCA.out).mono ?_
            rw [HOP.out]
            rintro e w' ⟨rfl, rfl⟩
            go_wp2
            go_roundw
            case rel => exact ⟨q + 1, by go_num, by omega, HZ.out⟩
            case measure => simp [intOf]; omega
          · obtain rfl : q = 3 := by omega
            obtain ⟨Fa, hFa, _⟩ := HZ.out.one
            have HFA := Lib.hid hFa
            clear hFa
            go_wp2_with fail
            refine (world_packets wr gw Fa H' HFA.out (by rw [HBAG.out]; decide)).mono ?_
            rw [HBAG.out]
            rintro e w9 ⟨A9, c9, rfl, ho9, hx9, _⟩
            have H9 := Lib.hid (HZ.out.step hx9)
            clear ho9 hx9
            obtain ⟨Fb, hFb, hmb⟩ := H9.out.one
            have HFB := Lib.hid hFb
            have HMB := Lib.hid hmb
            clear hFb hmb
            go_wp2_with fail
            refine (world_calm w9 gw Fb H' fr HFB.out HOK7.out).mono ?_
            rw [HCALM.out]
            rintro e w10 ⟨rfl, hq10⟩
            have H10 := Lib.hid (HMB.out _ _ hq10)
            clear hq10
            go_wp2
            go_ret
            exact ⟨rfl, H10.out.ext⟩
      · have hroom' : ¬ ((logBytes H.S).length : Int) + 84 ≤ 2000 := by omega
        have hn3 := hCalmF_le 3 0 H
        have HC := Lib.hid (world_calm w6 gw F7 H fr HF7.out HOK.out)
        have hn3' : ((hCalm H).1 : Int) ≤ 3 := by unfold hCalm; omega
        generalize hCalm H = r at *
        obtain ⟨n, H'⟩ := r
        dsimp only at *
        have hn0 : (0 : Int) ≤ n := by omega
        clear hroom hn3
        go_wp2_with fail
        refine HC.out.mono ?_
        rintro e w8 ⟨rfl, hq8⟩
        have H8 := Lib.hid (HM7.out _ _ hq8)
        clear hq8
        go_wp2
        go_ret
        exact ⟨by first | (simp; done) | (simp; omega), H8.out.ext⟩
end Go.Proofs.Ytalfbhhldfffkac
