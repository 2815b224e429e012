/- WorldStays: the walk of the law. -/
import Derived.Test.YtalfbhhldfffkacGWorldLaw
namespace Go.Proofs.Ytalfbhhldfffkac
open Go.RowKit

def StaysRel (W : World) (gw : Nat) (l : List Step) (was i : Value) (wr : World) : Prop :=
  ∃ k : Nat, i = .int .i64 k ∧ k ≤ l.length ∧ was = .string (mkStr (logBytes (hAt l k).S)) ∧ Has (repWorld gw) W wr (hAt l k)
set_option maxHeartbeats 4000000 in
set_option maxRecDepth 100000 in
theorem worldStays (W : World) (A : Option Addr) (c : Nat) (l : List Step) (hr : Reads W W.heap.size A l) (hs : ∀ x ∈ l, StrWStep x) (hl : l.length ≤ 140737488351232) :
    Calls Try.prog 5 #[.slice A l.length c] W fun e w' => e = .returned (.bool true) ∧ Ext W w' := by
  have HR := Lib.hid hr
  have HS := Lib.hid hs
  clear hr hs
  go_enter Try.func5, Try.ntmps5
  go_wp2_with fail
  refine (world_begun W).mono ?_
  rintro e w1 ⟨rfl, hx1⟩
  have X1 := Lib.hid hx1
  clear hx1
  go_wp2_with fail
  refine (law_greatSteps w1 w1.heap.size A c l (HR.out.ext X1.out) (Nat.le_refl _) HS.out hl).mono ?_
  rintro e w2 ⟨b2, rfl, hx2⟩
  have X2 := Lib.hid (X1.out.trans hx2)
  clear hx2
  cases b2
  rotate_left
  · go_wp2
    go_ret
    exact ⟨rfl, X2.out⟩
  go_wp2_with fail
  refine (world_new w2).mono ?_
  rintro e w3 ⟨gw, rfl, hn3⟩
  have H0 := Lib.hid (hn3.since X2.out)
  clear hn3
  go_wp2_with fail
  go_loopw [4, 5] (fun was i wr => StaysRel W gw l was i wr) (fun _ i _ => l.length - (intOf i).toNat)
  case atStart => exact ⟨0, rfl, Nat.zero_le _, rfl, H0.out⟩
  case round =>
    clear H0
    obtain ⟨k, rfl, hk, rfl, hz⟩ := hrel
    have HZ := Lib.hid hz
    clear hz
    by_cases hlt : k < l.length
    · skip
      obtain ⟨x, hx⟩ : ∃ x, l[k]? = some x := ⟨l[k], by simp [hlt]⟩
      obtain ⟨ad, rfl, hadb, hat⟩ := HR.out _ x hx
      have hLV : LV Try.prog 32 (ad.add (k * 7)) wr = .ok (.agg x.cells) wr := LV_Step ((hat.of_same (w' := wr) (by rw [show (ad.add (k * Lies.size Step)).block = ad.block by unfold Addr.add; split <;> rfl]; exact HZ.out.ext.block _ hadb id)))
      have HXX := Lib.hid hx
      have HOK := Lib.hid (hAt_ok l k)
      have HFI := Lib.hid (hAt_fits l k)
      have HST := Lib.hid (HS.out x (List.mem_of_getElem? hx))
      clear hx hat
      go_wp2_with fail
      obtain ⟨F5, hF5, hm5⟩ := HZ.out.one
      refine (world_step wr gw F5 _ x hF5 HFI.out HST.out).mono ?_
      rintro e w5 ⟨rfl, hq5⟩
      have h5 := hm5 _ _ hq5
      rw [← hAt_next HXX.out] at h5
      have H5 := Lib.hid h5
      obtain ⟨F6, hF6, _⟩ := h5.one
      obtain ⟨gs, Fs, hcs, hFs⟩ := world_store hF6
      have HFS := Lib.hid hFs
      have HFI5 := Lib.hid (hAt_fits l (k + 1))
      clear hF5 hm5 hq5 h5 hF6 hFs
      go_wp2_with fail
      refine (store_logs w5 gs Fs _ HFS.out HFI5.out.log).mono ?_
      rintro e w6 ⟨A6, c6, rfl, ho6, hx6, _⟩
      have H6 := Lib.hid (H5.out.step hx6)
      have hcv := conv_log ho6
      obtain ⟨T, hT⟩ := hStep_more (hAt l k) x
      rw [← hAt_next HXX.out] at hT
      have hcut := mkStr_cut (logBytes (hAt l k).S) (logBytes T)
      rw [← logBytes_append, ← hT] at hcut
      have hle : (mkStr (logBytes (hAt l k).S)).size ≤ (mkStr (logBytes (hAt l (k + 1)).S)).size := by
        rw [mkStr_size, mkStr_size, hT, logBytes_append, List.length_append]; omega
      obtain ⟨NW, hNW⟩ : ∃ NW, mkStr (logBytes (hAt l (k + 1)).S) = NW := ⟨_, rfl⟩
      have HNW := Lib.hid hNW
      rw [hNW] at hcut hle hcv
      generalize mkStr (logBytes (hAt l k).S) = WS at *
      have hself : (WS.toList == WS.toList) = true := by simp
      clear hT hNW ho6 hx6 hcs H5 HFS
      go_wp2
      go_roundw
      case rel => exact ⟨k + 1, by go_num, by omega, by rw [HNW.out], H6.out⟩
      case measure => simp [intOf]; omega
    · obtain rfl : k = l.length := by omega
      go_wp2
      go_ret
      exact ⟨rfl, HZ.out.ext⟩
end Go.Proofs.Ytalfbhhldfffkac
