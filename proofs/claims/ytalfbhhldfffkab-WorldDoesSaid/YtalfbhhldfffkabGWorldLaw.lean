/- WorldStep: the walk of greatSteps; scripts of a world.
   WorldBegun: the walk of worldBegun.
   WorldUse: what the laws of a world share. No program is walked here.
   Same: the walks of the reference's SameRecords. -/
import Derived.Test.YtalfbhhldfffkabGWorld
import Derived.Test.YtalfbhhldfffkabGFiles
import Derived.Test.YtalfbhhldfffkabGPlain
import Derived.Test.YtalfbhhldfffkabGStore
import Derived.Test.YtalfbhhldfffkabTypes
namespace Go.Proofs.Ytalfbhhldfffkab
open Go.RowKit

theorem hSteps_ok {h : House} {fr : Nat → Nat} (hh : HouseOk h fr) (l : List Step) : ∃ fr', HouseOk (hSteps h l) fr' := by
  unfold hSteps
  induction l generalizing h fr with
  | nil => exact ⟨fr, hh⟩
  | cons x l ih => exact ih (hStep_ok hh x)
theorem stepsOk (l : List Step) : ∃ fr, HouseOk (hSteps hNew l) fr := hSteps_ok hNew_ok l
structure WStrs (l : List Step) : Prop where
  each : ∀ x ∈ l, StrWStep x
def GreatSteps (W : World) (e : Ending) (w' : World) : Prop := ∃ b : Bool, e = .returned (.bool b) ∧ Ext W w'
set_option maxHeartbeats 1000000 in
set_option maxRecDepth 100000 in
theorem law_greatSteps (W : World) (B : Nat) (A : Option Addr) (c : Nat) (l : List Step) (hr : Reads W B A l) (hB : B ≤ W.heap.size) (hs : ∀ x ∈ l, StrWStep x) (hl : l.length ≤ 140737488351232) :
    Calls Try.prog 37 #[.slice A l.length c] W (GreatSteps W) := by
  have HR := Lib.hid hr
  have HB := Lib.hid hB
  have HS := Lib.hid hs
  clear hr hs hB
  go_enter Try.func37, Try.ntmps37
  go_wp2_with fail
  go_loopw [3] (fun i wr => ∃ k : Nat, i = .int .i64 k ∧ k ≤ l.length ∧ Ext W wr) (fun i _ => l.length - (intOf i).toNat)
  case atStart => exact ⟨0, rfl, Nat.zero_le _, Touch.refl _ W⟩
  case round =>
    obtain ⟨k, rfl, hk, hx⟩ := hrel
    have HX := Lib.hid hx
    clear hx
    by_cases hlt : k < l.length
    · by_cases h200 : k < 300
      · have h200' : (k : Int) < 300 := by omega
        obtain ⟨x, hx⟩ : ∃ x, l[k]? = some x := ⟨l[k], by simp [hlt]⟩
        obtain ⟨ad, rfl, hadb, hat⟩ := HR.out _ x hx
        have hadk : (ad.add (k * 7)).block = ad.block := by unfold Addr.add; split <;> rfl
        replace hat : At W (ad.add (k * 7)) x := hat
        have h1 : At wr (ad.add (k * 7)) x := hat.of_same (HX.out.block _ (by rw [hadk]; exact Nat.lt_of_lt_of_le hadb HB.out) id)
        have h2 := objPart_at h1 x.call 3 x.part_call
        replace h2 : objPart ((ad.add (k * 7)).off + 3) 4 (wr.heap[(ad.add (k * 7)).block]?) = some x.call.cells := h2
        have HST := Lib.hid (HS.out x (List.mem_of_getElem? hx)).call
        clear hx hat h1 hadk
        cases hg : greatB x.call with
        | true =>
          have HG := Lib.hid hg
          clear hg
          go_wp2_with (go_at_call 31; refine (law_greatCall' _ x.call true HG.out HST.out).mono ?_; rintro e w' ⟨rfl, rfl⟩)
          go_ret
          exact ⟨true, rfl, HX.out.alloc _⟩
        | false =>
          have HG := Lib.hid hg
          clear hg
          go_wp2_with (go_at_call 31; refine (law_greatCall' _ x.call false HG.out HST.out).mono ?_; rintro e w' ⟨rfl, rfl⟩)
          go_roundw
          case rel => exact ⟨k + 1, by go_num, by omega, HX.out.alloc _⟩
          case measure => simp [intOf]; omega
      · have h200' : ¬ (k : Int) < 300 := by omega
        have hbig : (250 : Int) < l.length := by omega
        go_wp2
        go_ret
        exact ⟨true, rfl, HX.out⟩
    · obtain rfl : k = l.length := by omega
      by_cases h150 : (250 : Int) < l.length
      · go_wp2
        go_ret
        exact ⟨true, rfl, HX.out⟩
      · go_wp2
        go_ret
        exact ⟨false, by simp, HX.out⟩
end Go.Proofs.Ytalfbhhldfffkab
namespace Go.Proofs.Ytalfbhhldfffkab
open Go.RowKit

theorem wbs1 : hStep hNew ⟨1, 1, 0, wbX⟩ = (0, wb1) := Prod.ext wbc1 rfl
theorem wbs2 : hStep wb1 ⟨2, 1, 0, Call.zero⟩ = (0, wb2) := Prod.ext wbc2 rfl
theorem wbs3 : hStep wb2 ⟨5, 0, 0, Call.zero⟩ = (0, wb3) := Prod.ext wbc3 rfl
theorem wbs4 : hStep wb3 ⟨7, 0, 3, Call.zero⟩ = (0, wb4) := Prod.ext wbc4 rfl
theorem wbs5 : hStep wb4 ⟨3, 0, 0, Call.zero⟩ = (0, wb5) := Prod.ext wbc5 rfl
theorem wbStrX : StrCall wbX := ⟨by decide, by decide, by decide⟩
theorem wbStrZ : StrCall Call.zero := ⟨by decide, by decide, by decide⟩
theorem wbSt1 : StrWStep ⟨1, 1, 0, wbX⟩ := ⟨wbStrX, ⟨by decide, by decide⟩⟩
theorem wbSt2 : StrWStep ⟨2, 1, 0, Call.zero⟩ := ⟨wbStrZ, ⟨by decide, by decide⟩⟩
theorem wbSt3 : StrWStep ⟨5, 0, 0, Call.zero⟩ := ⟨wbStrZ, ⟨by decide, by decide⟩⟩
theorem wbSt4 : StrWStep ⟨7, 0, 3, Call.zero⟩ := ⟨wbStrZ, ⟨by decide, by decide⟩⟩
theorem wbSt5 : StrWStep ⟨3, 0, 0, Call.zero⟩ := ⟨wbStrZ, ⟨by decide, by decide⟩⟩
theorem world_step' (w : World) (gw : Nat) (F : Nat → Prop) (h : House) (x : Step) (n : Int) (h' : House) (hh : (repWorld gw).on w F h) (hf : Fits h) (hx : StrWStep x) (he : hStep h x = (n, h')) :
    Calls Try.prog 47 #[.pointer (some ⟨gw, 0, none⟩), .agg x.cells] w (Moves (repWorld gw) w F h' (.int .i64 n)) := by
  have := world_step w gw F h x hh hf hx
  rwa [he] at this
theorem world_calm' (w : World) (gw : Nat) (F : Nat → Prop) (h : House) (n : Nat) (h' : House) (hh : (repWorld gw).on w F h) (hok : ∃ fr, HouseOk h fr) (he : hCalm h = (n, h')) :
    Calls Try.prog 49 #[.pointer (some ⟨gw, 0, none⟩)] w (Moves (repWorld gw) w F h' (.int .i64 n)) := by
  obtain ⟨fr, hok⟩ := hok
  have := world_calm w gw F h fr hh hok
  rwa [he] at this
theorem wbs6 : hCalm wb5 = (0, wb6) := Prod.ext wbc6 rfl
theorem wbFit1 : Fits wb1 := by obtain ⟨fr, h⟩ := wbOk1; exact h.fits
theorem wbFit2 : Fits wb2 := by obtain ⟨fr, h⟩ := wbOk2; exact h.fits
theorem wbFit3 : Fits wb3 := by obtain ⟨fr, h⟩ := wbOk3; exact h.fits
theorem wbFit4 : Fits wb4 := by obtain ⟨fr, h⟩ := wbOk4; exact h.fits
theorem wbOk6 : ∃ fr, HouseOk wb6 fr := by obtain ⟨fr, h⟩ := wbOk5; exact ⟨fr, hCalm_ok h⟩
set_option maxHeartbeats 4000000 in
set_option maxRecDepth 100000 in
theorem world_begun (W : World) : Calls Try.prog 36 #[] W fun e w' => e = .returned (.bool true) ∧ Ext W w' := by
  go_enter Try.func36, Try.ntmps36
  go_wp2_with fail
  refine (world_new W).mono ?_
  rintro e w1 ⟨gw, rfl, hn1⟩
  have K0 := Lib.hid (hn1.box wbX.cells 31)
  have hb0 := K0.out.blk
  clear hn1
  go_wp2_with fail
  have K1 := Lib.hid K0.out.left
  clear K0 hb0
  obtain ⟨F2, hF2, hm2⟩ := K1.out.one
  refine (world_step' _ gw F2 hNew ⟨1, 1, 0, wbX⟩ 0 wb1 hF2 hNew_ok.fits wbSt1 wbs1).mono ?_
  rintro e w2 ⟨rfl, hq2⟩
  have K2 := Lib.hid (hm2 _ _ hq2)
  clear hF2 hm2 hq2 K1
  go_wp2_with fail
  obtain ⟨F3, hF3, hm3⟩ := K2.out.one
  refine (world_step' _ gw F3 wb1 ⟨2, 1, 0, Call.zero⟩ 0 wb2 hF3 wbFit1 wbSt2 wbs2).mono ?_
  rintro e w3 ⟨rfl, hq3⟩
  have K3 := Lib.hid (hm3 _ _ hq3)
  clear hF3 hm3 hq3 K2
  go_wp2_with fail
  obtain ⟨F4, hF4, hm4⟩ := K3.out.one
  refine (world_step' _ gw F4 wb2 ⟨5, 0, 0, Call.zero⟩ 0 wb3 hF4 wbFit2 wbSt3 wbs3).mono ?_
  rintro e w4 ⟨rfl, hq4⟩
  have K4 := Lib.hid (hm4 _ _ hq4)
  clear hF4 hm4 hq4 K3
  go_wp2_with fail
  obtain ⟨F5, hF5, hm5⟩ := K4.out.one
  refine (world_step' _ gw F5 wb3 ⟨7, 0, 3, Call.zero⟩ 0 wb4 hF5 wbFit3 wbSt4 wbs4).mono ?_
  rintro e w5 ⟨rfl, hq5⟩
  have K5 := Lib.hid (hm5 _ _ hq5)
  clear hF5 hm5 hq5 K4
  go_wp2_with fail
  obtain ⟨F6, hF6, hm6⟩ := K5.out.one
  refine (world_step' _ gw F6 wb4 ⟨3, 0, 0, Call.zero⟩ 0 wb5 hF6 wbFit4 wbSt5 wbs5).mono ?_
  rintro e w6 ⟨rfl, hq6⟩
  have K6 := Lib.hid (hm6 _ _ hq6)
  clear hF6 hm6 hq6 K5
  go_wp2_with fail
  obtain ⟨F7, hF7, hm7⟩ := K6.out.one
  refine (world_calm' _ gw F7 wb5 0 wb6 hF7 wbOk5 wbs6).mono ?_
  rintro e w7 ⟨rfl, hq7⟩
  have K7 := Lib.hid (hm7 _ _ hq7)
  clear hF7 hm7 hq7 K6
  obtain ⟨F8, hF8, _⟩ := K7.out.one
  obtain ⟨gs, c0, c1, c2, gp, hA⟩ := world_open hF8
  obtain ⟨Fc, hFc, _⟩ := hA.cl1
  have HA := Lib.hid hA
  have HFC := Lib.hid hFc
  clear hF8 hA hFc
  go_wp2_with fail
  refine (world_client1 w7 gw gs c0 c1 c2 gp HA.out.cell).mono ?_
  rintro e w' ⟨rfl, rfl⟩
  go_wp2_with fail
  refine (client_done' w7 Fc c1 _ HFC.out (by rw [wb6_done]; decide)).mono ?_
  rw [wb6_done]
  rintro e w9 ⟨A9, c9, rfl, ho9, hx9, hf9⟩
  have K9 := Lib.hid (K7.out.step hx9)
  have HO9 := Lib.hid ho9
  obtain ⟨ad, rfl, hadb, hat⟩ := ho9.reads 0 (⟨1, 1, wbX, ⟨0, ⟨#[]⟩⟩⟩ : Record) rfl
  obtain ⟨F10, hF10, _⟩ := K9.out.one
  obtain ⟨gs', d0, d1, d2, gp', hA'⟩ := world_open hF10
  obtain ⟨Fs, hFs, _⟩ := hA'.store
  have HFS := Lib.hid hFs
  have HF10 := Lib.hid hF10
  have hcs := (cell_of hA'.cell 0).trans (show (worldCells gs' d0 d1 d2 gp')[0]? = some (.pointer (some ⟨gs', 0, none⟩)) from rfl)
  have ead : ad.add (0 * Lies.size Record) = ad := by rw [Nat.zero_mul]; unfold Addr.add; split <;> first | rfl | (rename_i h; exact absurd rfl h) | simp
  rw [ead] at hat
  have hpa : objPart (ad.off + 6) 2 (w9.heap[ad.block]?) = some (Answer.cells ⟨0, ⟨#[]⟩⟩) := objPart_at hat (⟨0, ⟨#[]⟩⟩ : Answer) 6 (Record.part_answer ⟨1, 1, wbX, ⟨0, ⟨#[]⟩⟩⟩)
  have hde : decide ((⟨0, ⟨#[]⟩⟩ : Answer) = ⟨0, ⟨#[]⟩⟩) = true := by decide +kernel
  have HL6 := Lib.hid (show LogOk wb6.S by obtain ⟨fr, h⟩ := wbOk6; exact h.log)
  clear ho9 hx9 hf9 hF10 hA' hFs K7 HA HFC hat hadb ead
  go_wp2_with fail
  refine (store_last_of w9 gs' Fs wb6.S HFS.out HL6.out 1).mono ?_
  rw [wb6_last]
  rintro e w' ⟨rfl, rfl⟩
  go_wp2_with fail
  refine (world_client_no w9 gw 3 (by decide)).mono ?_
  rintro e w' ⟨rfl, rfl⟩
  go_wp2_with fail
  refine (world_packets w9 gw F10 wb6 HF10.out (by rw [wb6_bag]; decide)).mono ?_
  rw [wb6_bag]
  rintro e w11 ⟨A11, c11, rfl, ho11, hx11, _⟩
  have K11 := Lib.hid (K9.out.step hx11)
  clear ho11 hx11
  go_wp2
  go_ret
  exact ⟨rfl, K11.out.ext⟩
end Go.Proofs.Ytalfbhhldfffkab
namespace Go.Proofs.Ytalfbhhldfffkab
open Go.RowKit

theorem Has.since {X : Type} {R : Rep X} {W w1 w : World} {x : X} (h : Has R w1 w x) (hx : Ext W w1) : Has R W w x := by
  obtain ⟨F, hF, hf⟩ := h.ex
  exact ⟨⟨F, hF, fun k hk => Nat.le_trans hx.size (hf k hk)⟩, hx.trans h.ext⟩
theorem toList_app' (a b : ByteArray) : (a ++ b).toList = a.toList ++ b.toList := by rw [ByteArray.toList_eq, ByteArray.toList_eq, ByteArray.toList_eq]; simp [ByteArray.data_append]
theorem mkStr_cut (a b : List UInt8) : (mkStr (a ++ b)).extract 0 (mkStr a).size = mkStr a := by
  show (ByteArray.mk (a ++ b).toArray).extract 0 _ = _
  rw [ByteArray.extract_mk, mkStr_size]
  simp [mkStr]
theorem hSteps_zero (h : House) : hSteps h [] = h := rfl
abbrev hAt (l : List Step) (k : Nat) : House := hSteps hNew (l.take k)
theorem hAt_next {l : List Step} {k : Nat} {x : Step} (hx : l[k]? = some x) : hAt l (k + 1) = (hStep (hAt l k) x).2 := hSteps_take hx
theorem hAt_ok (l : List Step) (k : Nat) : ∃ fr, HouseOk (hAt l k) fr := stepsOk (l.take k)
theorem hAt_fits (l : List Step) (k : Nat) : Fits (hAt l k) := by obtain ⟨fr, h⟩ := hAt_ok l k; exact h.fits
theorem world_store {w : World} {gw : Nat} {F : Nat → Prop} {h : House} (hh : (repWorld gw).on w F h) : ∃ gs Fs, w.cell? ⟨gw, 0, none⟩ = some (.pointer (some ⟨gs, 0, none⟩)) ∧ (repStore gs).on w Fs h.S := by
  obtain ⟨gs, c0, c1, c2, gp, A⟩ := world_open hh
  obtain ⟨Fs, hFs, _⟩ := A.store
  exact ⟨gs, Fs, (cell_of A.cell 0).trans rfl, hFs⟩
theorem world_store2 {w : World} {gw : Nat} {F : Nat → Prop} {h : House} (hh : (repWorld gw).on w F h) : ∃ gs Fs, ∀ w', Ext w w' → w'.cell? ⟨gw, 0, none⟩ = some (.pointer (some ⟨gs, 0, none⟩)) ∧ (repStore gs).on w' Fs h.S := by
  obtain ⟨gs, c0, c1, c2, gp, A⟩ := world_open hh
  obtain ⟨Fs, hFs, _⟩ := A.store
  exact ⟨gs, Fs, fun w' hx => ⟨(cell_of (hx.blk A.cell id) 0).trans rfl, Rep.ext hFs hx⟩⟩
theorem world_cl {w : World} {gw : Nat} {F : Nat → Prop} {h : House} (hh : (repWorld gw).on w F h) (n : Nat) (hn : n < 3) :
    ∃ gc Fc, (repCl gc).on w Fc (h.G n) ∧ Calls Try.prog 41 #[.pointer (some ⟨gw, 0, none⟩), .int .i64 n] w (fun e w' => e = .returned (.pointer (some ⟨gc, 0, none⟩)) ∧ w = w') := by
  obtain ⟨gs, c0, c1, c2, gp, A⟩ := world_open hh
  obtain ⟨_, Fc, hFc, _⟩ := A.client hn
  exact ⟨pick3 c0 c1 c2 n, Fc, hFc, world_client w gw gs c0 c1 c2 gp A.cell n (by omega)⟩
theorem str_wstep {x : Step} (h : Step.Ok x) : StrWStep x := ⟨⟨h.2.2.2.2.1, h.2.2.2.2.2.1, h.2.2.2.2.2.2⟩, h.2.2.1⟩
end Go.Proofs.Ytalfbhhldfffkab
namespace Go.Proofs.Ytalfbhhldfffkab
open Go.RowKit

set_option maxHeartbeats 400000 in
set_option maxRecDepth 100000 in
theorem sameRecords (w : World) (B : Nat) (A A' : Option Addr) (l r : List Record) (c c' : Nat) (hl : Reads w B A l) (hr : Reads w B A' r) (hm : l.length < 1000000) (hm' : r.length < 10000000) :
    Calls Try.prog 43 #[.slice A l.length c, .slice A' r.length c'] w (SamePost w l r) := by
  have H := Lib.hid hl
  have H' := Lib.hid hr
  clear hl hr
  by_cases hlen : l.length = r.length
  · have HL := Lib.hid hlen
    have e1 : ((l.length : Int) != (r.length : Int)) = false := by simp [hlen]
    clear hlen
    go_enter Try.func43, Try.ntmps43
    go_wp2
    go_loopw [5] (fun i wr => ∃ k n : Nat, wr = w.drewN n ∧ i = .int .i64 k ∧ k ≤ l.length ∧ l.take k = r.take k) (fun i _ => l.length - (intOf i).toNat)
    case atStart => exact ⟨0, 0, rfl, rfl, Nat.zero_le _, by simp⟩
    case round =>
      obtain ⟨k, n, rfl, rfl, hk, ht⟩ := hrel
      have HT := Lib.hid ht
      clear ht
      by_cases hlt : k < l.length
      · obtain ⟨p, hp⟩ : ∃ p, l[k]? = some p := ⟨l[k], by simp⟩
        have hlt' : k < r.length := by have := HL.out; omega
        obtain ⟨q, hq⟩ : ∃ q, r[k]? = some q := ⟨r[k], by simp⟩
        obtain ⟨ad, rfl, had, hrow⟩ := H.out k p hp
        obtain ⟨ad', rfl, had', hrow'⟩ := H'.out k q hq
        have h1 : ∀ n, LV Try.prog 49 (ad.add (k * 8)) (w.drewN n) = .ok (.agg p.cells) (w.drewN n) := fun n => LV_Record (w := w.drewN n) hrow
        have h2 : ∀ n, LV Try.prog 49 (ad'.add (k * 8)) (w.drewN n) = .ok (.agg q.cells) (w.drewN n) := fun n => LV_Record (w := w.drewN n) hrow'
        have HP := Lib.hid hp
        have HQ := Lib.hid hq
        clear hp hq hrow hrow'
        by_cases hpq : p = q
        · subst hpq
          go_wp2
          go_quiet (fail)
          go_wp2
          go_roundw
          case rel => exact ⟨k + 1, _, rfl, by go_num, by omega, take_succ_eq HP.out HQ.out HT.out⟩
          case measure => simp [intOf]; omega
        · have hd : decide (p = q) = false := by simp [hpq]
          have HPQ := Lib.hid hpq
          clear hpq
          go_wp2
          go_quiet (fail)
          go_wp2
          go_ret
          exact ⟨by rw [decide_eq_false (by rintro rfl; have h1 := HP.out; rw [HQ.out] at h1; exact HPQ.out (Option.some.inj h1).symm)]; rfl, n + nq, by first | rfl | rw [World.drewN_drewN]⟩
      · go_wp2
        go_ret
        exact ⟨by rw [decide_eq_true (eq_of_take HL.out k (by omega) HT.out)]; rfl, n, rfl⟩
  · have e1 : ((l.length : Int) != (r.length : Int)) = true := by rw [bne_iff_ne]; omega
    have HL := Lib.hid hlen
    clear hlen
    go_enter Try.func43, Try.ntmps43
    go_wp2
    go_ret
    exact ⟨by rw [decide_eq_false (by rintro rfl; exact HL.out rfl)]; rfl, 0, rfl⟩
end Go.Proofs.Ytalfbhhldfffkab
